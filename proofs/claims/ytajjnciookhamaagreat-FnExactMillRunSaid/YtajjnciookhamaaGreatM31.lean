/-
  Parts of the proof, of 1 texts: what DoI0 show. Conditions: each theorem states its own.
-/
import Derived.Test.YtajjnciookhamaaGreatM30
import Derived.Test.YtajjnciookhamaaGreatM27
namespace Go.Proofs.YtajjnciookhamaaGreat
open Go.RowKit
set_option linter.unusedSimpArgs false in
set_option maxRecDepth 10000 in
set_option maxHeartbeats 3200000 in
theorem do_i0 (s p l h : Value) (m : Mi) (a b : Int) (w : World) (H : MillIn 0 w.heap.size w s p l h m) (ha : a ≤ 9223372036854775807) (hb : b ≤ 9223372036854775807) :
    Calls Tryz.prog 9 #[millV s p l h m, .agg #[.int .i64 0, .int .i64 a, .int .i64 b]] w (DoGot w.heap.size (doR m ⟨0, a, b⟩) w) := by
  obtain ⟨ao1, cap1, rfl, -, -, -, -⟩ := id H.store
  obtain ⟨ao2, cap2, rfl, -, -, -, -⟩ := id H.pieces
  obtain ⟨ao3, cap3, rfl, -, -, -, -⟩ := id H.low
  obtain ⟨ao4, cap4, rfl, -, -, -, -⟩ := id H.high
  have HM := hide H
  have HA := hide (And.intro ha hb)
  clear H ha hb
  unfold millV
  go_enter Tryz.func9, Tryz.ntmps9
  go_wp2_with fail
  refine calls_at fun wx hwx => ?_
  have A_0 : RowL wx (w.heap.size) 39 [.slice ao1 m.store.length cap1, .int .i64 m.rule.lc, .int .i64 m.rule.hc, .int .i64 m.rule.lm, .int .i64 m.rule.hm, .int .i64 m.rule.ls, .int .i64 m.rule.hs, .int .i64 m.strand, .slice ao2 m.pieces.length cap2, .slice ao3 m.low.length cap3, .slice ao4 m.high.length cap4, .int .i64 m.scrap] := by rw [hwx]; exact (((RowL.new _ 39 [.slice ao1 m.store.length cap1, .int .i64 m.rule.lc, .int .i64 m.rule.hc, .int .i64 m.rule.lm, .int .i64 m.rule.hm, .int .i64 m.rule.ls, .int .i64 m.rule.hs, .int .i64 m.strand, .slice ao2 m.pieces.length cap2, .slice ao3 m.low.length cap3, .slice ao4 m.high.length cap4, .int .i64 m.scrap]).alloc _).alloc _)
  have D_0 : RowL wx (w.heap.size + 1) 43 [.int .i64 0, .int .i64 a, .int .i64 b] := by rw [hwx]; simpa using ((RowL.new (World.alloc _ _) 43 [.int .i64 0, .int .i64 a, .int .i64 b]).alloc _)
  have R_0 : RowL wx (w.heap.size + 1 + 1) 39 [.slice none 0 0, .int .i64 0, .int .i64 0, .int .i64 0, .int .i64 0, .int .i64 0, .int .i64 0, .int .i64 0, .slice none 0 0, .slice none 0 0, .slice none 0 0, .int .i64 0] := by rw [hwx]; simpa using (RowL.new (World.alloc (World.alloc _ _) _) 39 [.slice none 0 0, .int .i64 0, .int .i64 0, .int .i64 0, .int .i64 0, .int .i64 0, .int .i64 0, .int .i64 0, .slice none 0 0, .slice none 0 0, .slice none 0 0, .int .i64 0])
  have B_0 : Below w.heap.size w wx := by rw [hwx]; go_grown
  clear hwx
  have hL0 := R_0.lt
  have V_0 := hide (HM.out.below B_0)
  have k1 := mill_impl _ _ _ _ m wx V_0.out.all
  unfold millV at k1
  cases hv : millB m with
  | false =>
    rw [hv] at k1
    have HZ := hide (do_bad hv ⟨0, a, b⟩)
    clear hv
    refine k1.mono ?_
    rintro e w1 ⟨rfl, hb⟩
    have R_1 := R_0.below hb R_0.lt
    have B_1 := hide (Below.step B_0 hb (Nat.le_refl _))
    clear hb k1
    have cR0 := R_1.c 0 rfl
    have cR1 := R_1.c 1 rfl
    have cR2 := R_1.c 2 rfl
    have cR3 := R_1.c 3 rfl
    have cR4 := R_1.c 4 rfl
    have cR5 := R_1.c 5 rfl
    have cR6 := R_1.c 6 rfl
    have cR7 := R_1.c 7 rfl
    have cR8 := R_1.c 8 rfl
    have cR9 := R_1.c 9 rfl
    have cR10 := R_1.c 10 rfl
    have cR11 := R_1.c 11 rfl
    have fR0 := R_1.frozen 0
    have fR1 := R_1.frozen 1
    have fR2 := R_1.frozen 2
    have fR3 := R_1.frozen 3
    have fR4 := R_1.frozen 4
    have fR5 := R_1.frozen 5
    have fR6 := R_1.frozen 6
    have fR7 := R_1.frozen 7
    have fR8 := R_1.frozen 8
    have fR9 := R_1.frozen 9
    have fR10 := R_1.frozen 10
    have fR11 := R_1.frozen 11
    go_wp2_with fail
    refine bodyPost_ret (by simp [results, Tryz.results9, go_sem, cR0, cR1, cR2, cR3, cR4, cR5, cR6, cR7, cR8, cR9, cR10, cR11]; try rfl) rfl ?_
    rw [HZ.out]
    exact ⟨_, _, _, _, rfl, zero_got B_1.out (Nat.le_refl _) (by omega) _ _ _ _ _ _ _ _ _ _ _ _⟩
  | true =>
    rw [hv] at k1
    obtain ⟨n1, n2, n3, n4⟩ := few_of hv
    have HV := hide hv
    have hD := do_good hv 0 a b
    rw [step_0] at hD
    clear hv
    refine k1.mono ?_
    rintro e w1 ⟨rfl, hb⟩
    have A_1 := A_0.below hb A_0.lt
    have D_1 := D_0.below hb D_0.lt
    have R_1 := R_0.below hb R_0.lt
    have V_1 := hide (V_0.out.below hb)
    have B_1 := hide (Below.step B_0 hb (Nat.le_refl _))
    have hz1 := hb.size
    clear hb k1
    have cA0 := A_1.c 0 rfl
    have cA1 := A_1.c 1 rfl
    have cA2 := A_1.c 2 rfl
    have cA3 := A_1.c 3 rfl
    have cA4 := A_1.c 4 rfl
    have cA5 := A_1.c 5 rfl
    have cA6 := A_1.c 6 rfl
    have cA7 := A_1.c 7 rfl
    have cA8 := A_1.c 8 rfl
    have cA9 := A_1.c 9 rfl
    have cA10 := A_1.c 10 rfl
    have cA11 := A_1.c 11 rfl
    go_wp2_with fail
    clear cA0 cA1 cA2 cA3 cA4 cA5 cA6 cA7 cA8 cA9 cA10 cA11
    have k2 := copyMill_any _ _ _ _ m w1 V_1.out.all n1 n2 n3 n4
    unfold millV at k2
    refine k2.mono ?_
    clear k2
    rintro e w2 ⟨s2, p2, l2, h2, rfl, G, hb⟩
    have A_2 := A_1.below hb A_1.lt
    have D_2 := D_1.below hb D_1.lt
    have R_2 := R_1.below hb R_1.lt
    have V_2 := hide (V_1.out.below hb)
    have B_2 := hide (Below.step B_1.out hb (Nat.le_refl _))
    have hz2 := hb.size
    have hL2 := R_2.lt
    have hLD := D_2.lt
    have hLA := A_2.lt
    clear hb
    have G_2 := hide G
    obtain ⟨aS, cs, rfl, -, -⟩ := G.so.form
    obtain ⟨ap, cp, rfl, -, -⟩ := G.po.form
    obtain ⟨al, cl, rfl, -, -⟩ := G.lo.form
    obtain ⟨ah, ch, rfl, -, -⟩ := G.ho.form
    clear G
    unfold millV
    have cD0 := D_2.c 0 rfl
    have cD1 := D_2.c 1 rfl
    have cD2 := D_2.c 2 rfl
    go_wp2_with fail
    refine calls_at fun wy hwy => ?_
    have C_y : RowL wy w2.heap.size 39 (millC (.slice aS m.store.length cs) (.slice ap m.pieces.length cp) (.slice al m.low.length cl) (.slice ah m.high.length ch) m) := by
      rw [hwy]
      first
        | exact (RowL.new w2 39 (millC (.slice aS m.store.length cs) (.slice ap m.pieces.length cp) (.slice al m.low.length cl) (.slice ah m.high.length ch) m))
        | exact (row12 (RowL.new w2 39 [.slice none 0 0, .int .i64 0, .int .i64 0, .int .i64 0, .int .i64 0, .int .i64 0, .int .i64 0, .int .i64 0, .slice none 0 0, .slice none 0 0, .slice none 0 0, .int .i64 0]) rfl _ _ _ _ _ _ _ _ _ _ _ _)
    have hby : Below w2.heap.size w2 wy := by
      rw [hwy]
      first
        | exact ((Below.refl _ _).alloc (Nat.le_refl _) _)
        | exact (((Below.refl _ _).alloc (Nat.le_refl _) _).trans ((other12 w2.heap.size _ _ _ _ _ _ _ _ _ _ _ _ _).below (Nat.le_refl _) (by simp)))
    have A_y := A_2.below hby A_2.lt
    have R_y := R_2.below hby R_2.lt
    have V_y := hide (V_2.out.below hby)
    have B_y := hide (Below.step B_2.out hby (Nat.le_refl _))
    have G_y := hide (G_2.out.below hby)
    have hzy := hby.size
    clear hwy hby
    have MB : MillBox w1.heap.size w2.heap.size wy _ _ _ _ m := ⟨C_y, G_y.out, ⟨fun e => Nat.lt_irrefl _ (G_2.out.so.lt _ e).2, fun e => Nat.lt_irrefl _ (G_2.out.po.lt _ e).2, fun e => Nat.lt_irrefl _ (G_2.out.lo.lt _ e).2, fun e => Nat.lt_irrefl _ (G_2.out.ho.lt _ e).2⟩, hz2⟩
    have k3 := melt_impl a MB
    obtain ⟨o, ho⟩ : ∃ o, meltD m a = o := ⟨_, rfl⟩
    rw [ho] at k3 hD
    have HD := hide hD
    clear hD ho MB cD0 cD1 cD2
    refine k3.mono ?_
    clear k3
    rintro e w4 ⟨rfl, hb, hx⟩
    have A_4 := A_y.below hb (by omega)
    have R_4 := R_y.below hb (by omega)
    have V_4 := hide (V_y.out.low_keep hb (by omega))
    have B_4 := hide (B_y.out.trans (hb.mono (by omega)))
    have hz4 := hb.size
    clear hb
    rcases o with _ | x
    rotate_left
    · obtain ⟨s4, p4, l4, h4, C_4, G⟩ := hx x rfl
      have HZ := hide (show doR m ⟨0, a, b⟩ = (x, true) from HD.out)
      have G_4 := hide G
      obtain ⟨aS4, cs4, rfl, -, -⟩ := G.so.form
      obtain ⟨ap4, cp4, rfl, -, -⟩ := G.po.form
      obtain ⟨al4, cl4, rfl, -, -⟩ := G.lo.form
      obtain ⟨ah4, ch4, rfl, -, -⟩ := G.ho.form
      clear G hx
      unfold millC at C_4
      have cC0 : w4.cell? ⟨w2.heap.size, 0, none⟩ = some (.slice aS4 x.store.length cs4) := C_4.cell 0 (by simp)
      have cC1 : w4.cell? ⟨w2.heap.size, 1, none⟩ = some (.int .i64 x.rule.lc) := C_4.cell 1 (by simp)
      have cC2 : w4.cell? ⟨w2.heap.size, 2, none⟩ = some (.int .i64 x.rule.hc) := C_4.cell 2 (by simp)
      have cC3 : w4.cell? ⟨w2.heap.size, 3, none⟩ = some (.int .i64 x.rule.lm) := C_4.cell 3 (by simp)
      have cC4 : w4.cell? ⟨w2.heap.size, 4, none⟩ = some (.int .i64 x.rule.hm) := C_4.cell 4 (by simp)
      have cC5 : w4.cell? ⟨w2.heap.size, 5, none⟩ = some (.int .i64 x.rule.ls) := C_4.cell 5 (by simp)
      have cC6 : w4.cell? ⟨w2.heap.size, 6, none⟩ = some (.int .i64 x.rule.hs) := C_4.cell 6 (by simp)
      have cC7 : w4.cell? ⟨w2.heap.size, 7, none⟩ = some (.int .i64 x.strand) := C_4.cell 7 (by simp)
      have cC8 : w4.cell? ⟨w2.heap.size, 8, none⟩ = some (.slice ap4 x.pieces.length cp4) := C_4.cell 8 (by simp)
      have cC9 : w4.cell? ⟨w2.heap.size, 9, none⟩ = some (.slice al4 x.low.length cl4) := C_4.cell 9 (by simp)
      have cC10 : w4.cell? ⟨w2.heap.size, 10, none⟩ = some (.slice ah4 x.high.length ch4) := C_4.cell 10 (by simp)
      have cC11 : w4.cell? ⟨w2.heap.size, 11, none⟩ = some (.int .i64 x.scrap) := C_4.cell 11 (by simp)
      have cR0 := R_4.c 0 rfl
      have cR1 := R_4.c 1 rfl
      have cR2 := R_4.c 2 rfl
      have cR3 := R_4.c 3 rfl
      have cR4 := R_4.c 4 rfl
      have cR5 := R_4.c 5 rfl
      have cR6 := R_4.c 6 rfl
      have cR7 := R_4.c 7 rfl
      have cR8 := R_4.c 8 rfl
      have cR9 := R_4.c 9 rfl
      have cR10 := R_4.c 10 rfl
      have cR11 := R_4.c 11 rfl
      have fR0 := R_4.frozen 0
      have fR1 := R_4.frozen 1
      have fR2 := R_4.frozen 2
      have fR3 := R_4.frozen 3
      have fR4 := R_4.frozen 4
      have fR5 := R_4.frozen 5
      have fR6 := R_4.frozen 6
      have fR7 := R_4.frozen 7
      have fR8 := R_4.frozen 8
      have fR9 := R_4.frozen 9
      have fR10 := R_4.frozen 10
      have fR11 := R_4.frozen 11
      go_wp2_with fail
      refine bodyPost_ret (by simp [results, Tryz.results9, go_sem, cR0, cR1, cR2, cR3, cR4, cR5, cR6, cR7, cR8, cR9, cR10, cR11]; try rfl) rfl ?_
      rw [HZ.out]
      exact ⟨_, _, _, _, rfl, put_got G_4.out B_4.out (by omega) (by omega) (Nat.le_refl _) _ _ _ _ _ _ _ _ _ _ _ _⟩
    · clear hx
      have HZ := hide (show doR m ⟨0, a, b⟩ = (m, false) from HD.out)
      have cA0 := A_4.c 0 rfl
      have cA1 := A_4.c 1 rfl
      have cA2 := A_4.c 2 rfl
      have cA3 := A_4.c 3 rfl
      have cA4 := A_4.c 4 rfl
      have cA5 := A_4.c 5 rfl
      have cA6 := A_4.c 6 rfl
      have cA7 := A_4.c 7 rfl
      have cA8 := A_4.c 8 rfl
      have cA9 := A_4.c 9 rfl
      have cA10 := A_4.c 10 rfl
      have cA11 := A_4.c 11 rfl
      go_wp2_with fail
      clear cA0 cA1 cA2 cA3 cA4 cA5 cA6 cA7 cA8 cA9 cA10 cA11
      have k5 := copyMill_any _ _ _ _ m w4 V_4.out.all n1 n2 n3 n4
      unfold millV at k5
      refine k5.mono ?_
      clear k5
      rintro e w5 ⟨s5, p5, l5, h5, rfl, G, hb⟩
      have R_5 := R_4.below hb R_4.lt
      have B_5 := hide (Below.step B_4.out hb (Nat.le_refl _))
      clear hb
      have G_5 := hide G
      obtain ⟨aS5, cs5, rfl, -, -⟩ := G.so.form
      obtain ⟨ap5, cp5, rfl, -, -⟩ := G.po.form
      obtain ⟨al5, cl5, rfl, -, -⟩ := G.lo.form
      obtain ⟨ah5, ch5, rfl, -, -⟩ := G.ho.form
      clear G
      unfold millV
      have cR0 := R_5.c 0 rfl
      have cR1 := R_5.c 1 rfl
      have cR2 := R_5.c 2 rfl
      have cR3 := R_5.c 3 rfl
      have cR4 := R_5.c 4 rfl
      have cR5 := R_5.c 5 rfl
      have cR6 := R_5.c 6 rfl
      have cR7 := R_5.c 7 rfl
      have cR8 := R_5.c 8 rfl
      have cR9 := R_5.c 9 rfl
      have cR10 := R_5.c 10 rfl
      have cR11 := R_5.c 11 rfl
      have fR0 := R_5.frozen 0
      have fR1 := R_5.frozen 1
      have fR2 := R_5.frozen 2
      have fR3 := R_5.frozen 3
      have fR4 := R_5.frozen 4
      have fR5 := R_5.frozen 5
      have fR6 := R_5.frozen 6
      have fR7 := R_5.frozen 7
      have fR8 := R_5.frozen 8
      have fR9 := R_5.frozen 9
      have fR10 := R_5.frozen 10
      have fR11 := R_5.frozen 11
      go_wp2_with fail
      refine bodyPost_ret (by simp [results, Tryz.results9, go_sem, cR0, cR1, cR2, cR3, cR4, cR5, cR6, cR7, cR8, cR9, cR10, cR11]; try rfl) rfl ?_
      rw [HZ.out]
      exact ⟨_, _, _, _, rfl, put_got G_5.out B_5.out (by omega) (by omega) (Nat.le_refl _) _ _ _ _ _ _ _ _ _ _ _ _⟩
set_option linter.unusedSimpArgs false in
set_option maxRecDepth 10000 in
set_option maxHeartbeats 3200000 in
theorem do_ix (s p l h : Value) (m : Mi) (k a b : Int) (w : World) (H : MillIn 0 w.heap.size w s p l h m) (ha : a ≤ 9223372036854775807) (hb : b ≤ 9223372036854775807) (e0 : (k == 0) = false) (e1 : (k == 1) = false) (e2 : (k == 2) = false) (e3 : (k == 3) = false) (e4 : (k == 4) = false) :
    Calls Tryz.prog 9 #[millV s p l h m, .agg #[.int .i64 k, .int .i64 a, .int .i64 b]] w (DoGot w.heap.size (doR m ⟨k, a, b⟩) w) := by
  obtain ⟨ao1, cap1, rfl, -, -, -, -⟩ := id H.store
  obtain ⟨ao2, cap2, rfl, -, -, -, -⟩ := id H.pieces
  obtain ⟨ao3, cap3, rfl, -, -, -, -⟩ := id H.low
  obtain ⟨ao4, cap4, rfl, -, -, -, -⟩ := id H.high
  have HM := hide H
  have HA := hide (And.intro ha hb)
  clear H ha hb
  unfold millV
  go_enter Tryz.func9, Tryz.ntmps9
  go_wp2_with fail
  refine calls_at fun wx hwx => ?_
  have A_0 : RowL wx (w.heap.size) 39 [.slice ao1 m.store.length cap1, .int .i64 m.rule.lc, .int .i64 m.rule.hc, .int .i64 m.rule.lm, .int .i64 m.rule.hm, .int .i64 m.rule.ls, .int .i64 m.rule.hs, .int .i64 m.strand, .slice ao2 m.pieces.length cap2, .slice ao3 m.low.length cap3, .slice ao4 m.high.length cap4, .int .i64 m.scrap] := by rw [hwx]; exact (((RowL.new _ 39 [.slice ao1 m.store.length cap1, .int .i64 m.rule.lc, .int .i64 m.rule.hc, .int .i64 m.rule.lm, .int .i64 m.rule.hm, .int .i64 m.rule.ls, .int .i64 m.rule.hs, .int .i64 m.strand, .slice ao2 m.pieces.length cap2, .slice ao3 m.low.length cap3, .slice ao4 m.high.length cap4, .int .i64 m.scrap]).alloc _).alloc _)
  have D_0 : RowL wx (w.heap.size + 1) 43 [.int .i64 k, .int .i64 a, .int .i64 b] := by rw [hwx]; simpa using ((RowL.new (World.alloc _ _) 43 [.int .i64 k, .int .i64 a, .int .i64 b]).alloc _)
  have R_0 : RowL wx (w.heap.size + 1 + 1) 39 [.slice none 0 0, .int .i64 0, .int .i64 0, .int .i64 0, .int .i64 0, .int .i64 0, .int .i64 0, .int .i64 0, .slice none 0 0, .slice none 0 0, .slice none 0 0, .int .i64 0] := by rw [hwx]; simpa using (RowL.new (World.alloc (World.alloc _ _) _) 39 [.slice none 0 0, .int .i64 0, .int .i64 0, .int .i64 0, .int .i64 0, .int .i64 0, .int .i64 0, .int .i64 0, .slice none 0 0, .slice none 0 0, .slice none 0 0, .int .i64 0])
  have B_0 : Below w.heap.size w wx := by rw [hwx]; go_grown
  clear hwx
  have hL0 := R_0.lt
  have V_0 := hide (HM.out.below B_0)
  have k1 := mill_impl _ _ _ _ m wx V_0.out.all
  unfold millV at k1
  cases hv : millB m with
  | false =>
    rw [hv] at k1
    have HZ := hide (do_bad hv ⟨k, a, b⟩)
    clear hv
    refine k1.mono ?_
    rintro e w1 ⟨rfl, hb⟩
    have R_1 := R_0.below hb R_0.lt
    have B_1 := hide (Below.step B_0 hb (Nat.le_refl _))
    clear hb k1
    have cR0 := R_1.c 0 rfl
    have cR1 := R_1.c 1 rfl
    have cR2 := R_1.c 2 rfl
    have cR3 := R_1.c 3 rfl
    have cR4 := R_1.c 4 rfl
    have cR5 := R_1.c 5 rfl
    have cR6 := R_1.c 6 rfl
    have cR7 := R_1.c 7 rfl
    have cR8 := R_1.c 8 rfl
    have cR9 := R_1.c 9 rfl
    have cR10 := R_1.c 10 rfl
    have cR11 := R_1.c 11 rfl
    have fR0 := R_1.frozen 0
    have fR1 := R_1.frozen 1
    have fR2 := R_1.frozen 2
    have fR3 := R_1.frozen 3
    have fR4 := R_1.frozen 4
    have fR5 := R_1.frozen 5
    have fR6 := R_1.frozen 6
    have fR7 := R_1.frozen 7
    have fR8 := R_1.frozen 8
    have fR9 := R_1.frozen 9
    have fR10 := R_1.frozen 10
    have fR11 := R_1.frozen 11
    go_wp2_with fail
    refine bodyPost_ret (by simp [results, Tryz.results9, go_sem, cR0, cR1, cR2, cR3, cR4, cR5, cR6, cR7, cR8, cR9, cR10, cR11]; try rfl) rfl ?_
    rw [HZ.out]
    exact ⟨_, _, _, _, rfl, zero_got B_1.out (Nat.le_refl _) (by omega) _ _ _ _ _ _ _ _ _ _ _ _⟩
  | true =>
    rw [hv] at k1
    obtain ⟨n1, n2, n3, n4⟩ := few_of hv
    have HV := hide hv
    have hD := do_good hv k a b
    rw [step_x e0 e1 e2 e3 e4] at hD
    have HZ := hide (show doR m ⟨k, a, b⟩ = (m, false) from hD)
    clear hD
    clear hv
    refine k1.mono ?_
    rintro e w1 ⟨rfl, hb⟩
    have A_1 := A_0.below hb A_0.lt
    have D_1 := D_0.below hb D_0.lt
    have R_1 := R_0.below hb R_0.lt
    have V_1 := hide (V_0.out.below hb)
    have B_1 := hide (Below.step B_0 hb (Nat.le_refl _))
    have hz1 := hb.size
    clear hb k1
    have cA0 := A_1.c 0 rfl
    have cA1 := A_1.c 1 rfl
    have cA2 := A_1.c 2 rfl
    have cA3 := A_1.c 3 rfl
    have cA4 := A_1.c 4 rfl
    have cA5 := A_1.c 5 rfl
    have cA6 := A_1.c 6 rfl
    have cA7 := A_1.c 7 rfl
    have cA8 := A_1.c 8 rfl
    have cA9 := A_1.c 9 rfl
    have cA10 := A_1.c 10 rfl
    have cA11 := A_1.c 11 rfl
    go_wp2_with fail
    clear cA0 cA1 cA2 cA3 cA4 cA5 cA6 cA7 cA8 cA9 cA10 cA11
    have k2 := copyMill_any _ _ _ _ m w1 V_1.out.all n1 n2 n3 n4
    unfold millV at k2
    refine k2.mono ?_
    clear k2
    rintro e w2 ⟨s2, p2, l2, h2, rfl, G, hb⟩
    have A_2 := A_1.below hb A_1.lt
    have D_2 := D_1.below hb D_1.lt
    have R_2 := R_1.below hb R_1.lt
    have V_2 := hide (V_1.out.below hb)
    have B_2 := hide (Below.step B_1.out hb (Nat.le_refl _))
    have hz2 := hb.size
    have hL2 := R_2.lt
    have hLD := D_2.lt
    have hLA := A_2.lt
    clear hb
    have G_2 := hide G
    obtain ⟨aS, cs, rfl, -, -⟩ := G.so.form
    obtain ⟨ap, cp, rfl, -, -⟩ := G.po.form
    obtain ⟨al, cl, rfl, -, -⟩ := G.lo.form
    obtain ⟨ah, ch, rfl, -, -⟩ := G.ho.form
    clear G
    unfold millV
    have cD0 := D_2.c 0 rfl
    have cD1 := D_2.c 1 rfl
    have cD2 := D_2.c 2 rfl
    have cA0 := A_2.c 0 rfl
    have cA1 := A_2.c 1 rfl
    have cA2 := A_2.c 2 rfl
    have cA3 := A_2.c 3 rfl
    have cA4 := A_2.c 4 rfl
    have cA5 := A_2.c 5 rfl
    have cA6 := A_2.c 6 rfl
    have cA7 := A_2.c 7 rfl
    have cA8 := A_2.c 8 rfl
    have cA9 := A_2.c 9 rfl
    have cA10 := A_2.c 10 rfl
    have cA11 := A_2.c 11 rfl
    go_wp2_with fail
    refine calls_at fun wy hwy => ?_
    have hby : Below w2.heap.size w2 wy := by
      rw [hwy]
      first
        | exact (Below.refl _ _).alloc (Nat.le_refl _) _
        | exact ((Below.refl _ _).alloc (Nat.le_refl _) _).trans ((other12 w2.heap.size _ _ _ _ _ _ _ _ _ _ _ _ _).below (Nat.le_refl _) (by simp))
    have A_4 := A_2.below hby A_2.lt
    have R_4 := R_2.below hby R_2.lt
    have V_4 := hide (V_2.out.below hby)
    have B_4 := hide (Below.step B_2.out hby (Nat.le_refl _))
    have hz4 := hby.size
    clear hwy hby cD0 cD1 cD2 cA0 cA1 cA2 cA3 cA4 cA5 cA6 cA7 cA8 cA9 cA10 cA11
    have k5 := copyMill_any _ _ _ _ m wy V_4.out.all n1 n2 n3 n4
    unfold millV at k5
    refine k5.mono ?_
    clear k5
    rintro e w5 ⟨s5, p5, l5, h5, rfl, G, hb⟩
    have R_5 := R_4.below hb R_4.lt
    have B_5 := hide (Below.step B_4.out hb (Nat.le_refl _))
    clear hb
    have G_5 := hide G
    obtain ⟨aS5, cs5, rfl, -, -⟩ := G.so.form
    obtain ⟨ap5, cp5, rfl, -, -⟩ := G.po.form
    obtain ⟨al5, cl5, rfl, -, -⟩ := G.lo.form
    obtain ⟨ah5, ch5, rfl, -, -⟩ := G.ho.form
    clear G
    unfold millV
    have cR0 := R_5.c 0 rfl
    have cR1 := R_5.c 1 rfl
    have cR2 := R_5.c 2 rfl
    have cR3 := R_5.c 3 rfl
    have cR4 := R_5.c 4 rfl
    have cR5 := R_5.c 5 rfl
    have cR6 := R_5.c 6 rfl
    have cR7 := R_5.c 7 rfl
    have cR8 := R_5.c 8 rfl
    have cR9 := R_5.c 9 rfl
    have cR10 := R_5.c 10 rfl
    have cR11 := R_5.c 11 rfl
    have fR0 := R_5.frozen 0
    have fR1 := R_5.frozen 1
    have fR2 := R_5.frozen 2
    have fR3 := R_5.frozen 3
    have fR4 := R_5.frozen 4
    have fR5 := R_5.frozen 5
    have fR6 := R_5.frozen 6
    have fR7 := R_5.frozen 7
    have fR8 := R_5.frozen 8
    have fR9 := R_5.frozen 9
    have fR10 := R_5.frozen 10
    have fR11 := R_5.frozen 11
    go_wp2_with fail
    refine bodyPost_ret (by simp [results, Tryz.results9, go_sem, cR0, cR1, cR2, cR3, cR4, cR5, cR6, cR7, cR8, cR9, cR10, cR11]; try rfl) rfl ?_
    rw [HZ.out]
    exact ⟨_, _, _, _, rfl, put_got G_5.out B_5.out (by omega) (by omega) (Nat.le_refl _) _ _ _ _ _ _ _ _ _ _ _ _⟩
end Go.Proofs.YtajjnciookhamaaGreat
