/-
  Parts of the proofs over mills, of: DoI1, DoI4. Conditions: each theorem states its own.
-/
import Derived.Test.YtmemgbklgcjobaaGreatDoorX30
import Derived.Test.YtmemgbklgcjobaaGreatDoorX39
set_option linter.unusedSimpArgs false
set_option linter.unusedVariables false
set_option maxRecDepth 10000
namespace Go.Proofs.YtmemgbklgcjobaaGreatDoor
open Go.RowKit
set_option maxHeartbeats 3200000 in
theorem do_i1 (s p l h : Value) (m : Mi) (a b : Int) (w : World) (H : MillIn 0 w.heap.size w s p l h m) (ha : a ≤ 9223372036854775807) (hb : b ≤ 9223372036854775807) :
    Calls Tryz.prog 44 #[millV s p l h m, .agg #[.int .i64 1, .int .i64 a, .int .i64 b]] w (DoGot w.heap.size (doR m ⟨1, a, b⟩) w) := by
  obtain ⟨ao1, cap1, rfl, -, -, -, -⟩ := id H.store
  obtain ⟨ao2, cap2, rfl, -, -, -, -⟩ := id H.pieces
  obtain ⟨ao3, cap3, rfl, -, -, -, -⟩ := id H.low
  obtain ⟨ao4, cap4, rfl, -, -, -, -⟩ := id H.high
  have HM := hide H
  have HA := hide (And.intro ha hb)
  clear H ha hb
  unfold millV
  go_enter Tryz.func44, Tryz.ntmps44
  go_wp2_with fail
  refine calls_at fun wx hwx => ?_
  have A_0 : RowL wx (w.heap.size) 31 [.slice ao1 m.store.length cap1, .int .i64 m.rule.lc, .int .i64 m.rule.hc, .int .i64 m.rule.lm, .int .i64 m.rule.hm, .int .i64 m.rule.ls, .int .i64 m.rule.hs, .int .i64 m.strand, .slice ao2 m.pieces.length cap2, .slice ao3 m.low.length cap3, .slice ao4 m.high.length cap4, .int .i64 m.scrap] := by rw [hwx]; exact (((RowL.new _ 31 [.slice ao1 m.store.length cap1, .int .i64 m.rule.lc, .int .i64 m.rule.hc, .int .i64 m.rule.lm, .int .i64 m.rule.hm, .int .i64 m.rule.ls, .int .i64 m.rule.hs, .int .i64 m.strand, .slice ao2 m.pieces.length cap2, .slice ao3 m.low.length cap3, .slice ao4 m.high.length cap4, .int .i64 m.scrap]).alloc _).alloc _)
  have D_0 : RowL wx (w.heap.size + 1) 48 [.int .i64 1, .int .i64 a, .int .i64 b] := by rw [hwx]; simpa using ((RowL.new (World.alloc _ _) 48 [.int .i64 1, .int .i64 a, .int .i64 b]).alloc _)
  have R_0 : RowL wx (w.heap.size + 1 + 1) 31 [.slice none 0 0, .int .i64 0, .int .i64 0, .int .i64 0, .int .i64 0, .int .i64 0, .int .i64 0, .int .i64 0, .slice none 0 0, .slice none 0 0, .slice none 0 0, .int .i64 0] := by rw [hwx]; simpa using (RowL.new (World.alloc (World.alloc _ _) _) 31 [.slice none 0 0, .int .i64 0, .int .i64 0, .int .i64 0, .int .i64 0, .int .i64 0, .int .i64 0, .int .i64 0, .slice none 0 0, .slice none 0 0, .slice none 0 0, .int .i64 0])
  have B_0 : Below w.heap.size w wx := by rw [hwx]; go_grown
  clear hwx
  have hL0 := R_0.lt
  have V_0 := hide (HM.out.below B_0)
  have k1 := mill_impl _ _ _ _ m wx V_0.out.all
  unfold millV at k1
  cases hv : millB m with
  | false =>
    rw [hv] at k1
    have HZ := hide (do_bad hv ⟨1, a, b⟩)
    clear hv
    refine k1.mono ?_
    rintro e w1 ⟨rfl, hb⟩
    have R_1 := R_0.below hb R_0.lt
    have B_1 := hide (Below.step B_0 hb (Nat.le_refl _))
    clear hb k1
    obtain ⟨cR0, cR1, cR2, cR3, cR4, cR5, cR6, cR7, cR8, cR9, cR10, cR11⟩ := row12_c R_1
    obtain ⟨fR0, fR1, fR2, fR3, fR4, fR5, fR6, fR7, fR8, fR9, fR10, fR11⟩ := row12_f R_1
    go_wp2_with fail
    refine bodyPost_ret (by simp [results, Tryz.results44, go_sem, cR0, cR1, cR2, cR3, cR4, cR5, cR6, cR7, cR8, cR9, cR10, cR11]; try rfl) rfl ?_
    rw [HZ.out]
    exact ⟨_, _, _, _, rfl, zero_got B_1.out (Nat.le_refl _) (by omega) _ _ _ _ _ _ _ _ _ _ _ _⟩
  | true =>
    rw [hv] at k1
    obtain ⟨n1, n2, n3, n4⟩ := few_of hv
    have HV := hide hv
    have hD := do_good hv 1 a b
    rw [step_1] at hD
    clear hv
    refine k1.mono ?_
    rintro e w1 ⟨rfl, hb⟩
    have A_1 := A_0.below hb A_0.lt
    have D_1 := D_0.below hb D_0.lt
    have R_1 := R_0.below hb R_0.lt
    have V_1 := hide (V_0.out.below hb)
    have B_1 := hide (Below.step B_0 hb (Nat.le_refl _))
    have hz1 := hb.size
    clear hb k1
    obtain ⟨cA0, cA1, cA2, cA3, cA4, cA5, cA6, cA7, cA8, cA9, cA10, cA11⟩ := row12_c A_1
    go_wp2_with fail
    clear cA0 cA1 cA2 cA3 cA4 cA5 cA6 cA7 cA8 cA9 cA10 cA11
    have k2 := copyMill_any _ _ _ _ m w1 V_1.out.all n1 n2 n3 n4
    unfold millV at k2
    refine k2.mono ?_
    clear k2
    rintro e w2 ⟨s2, p2, l2, h2, rfl, G, hb⟩
    have A_2 := A_1.below hb A_1.lt
    have D_2 := D_1.below hb D_1.lt
    have R_2 := R_1.below hb R_1.lt
    have V_2 := hide (V_1.out.below hb)
    have B_2 := hide (Below.step B_1.out hb (Nat.le_refl _))
    have hz2 := hb.size
    have hL2 := R_2.lt
    have hLD := D_2.lt
    have hLA := A_2.lt
    clear hb
    have G_2 := hide G
    obtain ⟨aS, cs, rfl, -, -⟩ := G.so.form
    obtain ⟨ap, cp, rfl, -, -⟩ := G.po.form
    obtain ⟨al, cl, rfl, -, -⟩ := G.lo.form
    obtain ⟨ah, ch, rfl, -, -⟩ := G.ho.form
    clear G
    unfold millV
    have cD0 := D_2.c 0 rfl
    have cD1 := D_2.c 1 rfl
    have cD2 := D_2.c 2 rfl
    go_wp2_with fail
    refine calls_at fun wy hwy => ?_
    have C_y : RowL wy w2.heap.size 31 (millC (.slice aS m.store.length cs) (.slice ap m.pieces.length cp) (.slice al m.low.length cl) (.slice ah m.high.length ch) m) := by
      rw [hwy]
      first
        | exact RowL.alloc (RowL.new w2 31 (millC (.slice aS m.store.length cs) (.slice ap m.pieces.length cp) (.slice al m.low.length cl) (.slice ah m.high.length ch) m)) _
        | exact RowL.alloc (row12 (RowL.new w2 31 [.slice none 0 0, .int .i64 0, .int .i64 0, .int .i64 0, .int .i64 0, .int .i64 0, .int .i64 0, .int .i64 0, .slice none 0 0, .slice none 0 0, .slice none 0 0, .int .i64 0]) rfl _ _ _ _ _ _ _ _ _ _ _ _) _
    have hby : Below w2.heap.size w2 wy := by
      rw [hwy]
      first
        | exact Below.alloc ((Below.refl _ _).alloc (Nat.le_refl _) _) (by simp) _
        | exact Below.alloc (((Below.refl _ _).alloc (Nat.le_refl _) _).trans ((other12 w2.heap.size _ _ _ _ _ _ _ _ _ _ _ _ _).below (Nat.le_refl _) (by simp))) (by simp) _
    have HV2 := hide (show IntsAt (w2.heap.size + 1) wy.heap.size wy (.slice (some ⟨w2.heap.size + 1, 0, none⟩) 2 2) [a, b] by
      rw [hwy]
      exact two_lit _ a b _ (by simp))
    have A_y := A_2.below hby A_2.lt
    have R_y := R_2.below hby R_2.lt
    have V_y := hide (V_2.out.below hby)
    have B_y := hide (Below.step B_2.out hby (Nat.le_refl _))
    have G_y := hide (G_2.out.below hby)
    have hzy := hby.size
    clear hwy hby
    have MB : MillBox w1.heap.size w2.heap.size wy _ _ _ _ m := ⟨C_y, G_y.out, ⟨fun e => Nat.lt_irrefl _ (G_2.out.so.lt _ e).2, fun e => Nat.lt_irrefl _ (G_2.out.po.lt _ e).2, fun e => Nat.lt_irrefl _ (G_2.out.lo.lt _ e).2, fun e => Nat.lt_irrefl _ (G_2.out.ho.lt _ e).2⟩, hz2⟩
    have k3 := cut_meth _ a b MB (millB_iff.1 HV.out) HV2.out (Nat.lt_succ_self _) (fun g e => Nat.lt_succ_of_lt (G_2.out.po.lt g e).2)
    obtain ⟨o, ho⟩ : ∃ o, cutD m a b = o := ⟨_, rfl⟩
    rw [ho] at k3 hD
    have HD := hide hD
    clear hD ho MB cD0 cD1 cD2
    refine k3.mono ?_
    clear k3
    rintro e w4 ⟨rfl, hb, hx⟩
    have A_4 := A_y.below hb (by omega)
    have R_4 := R_y.below hb (by omega)
    have V_4 := hide (V_y.out.low_keep hb (by omega))
    have B_4 := hide (B_y.out.trans (hb.mono (by omega)))
    have hz4 := hb.size
    clear hb
    rcases o with _ | x
    rotate_left
    · obtain ⟨s4, p4, l4, h4, C_4, G⟩ := hx x rfl
      have HZ := hide (show doR m ⟨1, a, b⟩ = (x, true) from HD.out)
      have G_4 := hide G
      obtain ⟨aS4, cs4, rfl, -, -⟩ := G.so.form
      obtain ⟨ap4, cp4, rfl, -, -⟩ := G.po.form
      obtain ⟨al4, cl4, rfl, -, -⟩ := G.lo.form
      obtain ⟨ah4, ch4, rfl, -, -⟩ := G.ho.form
      clear G hx
      unfold millC at C_4
      obtain ⟨cC0, cC1, cC2, cC3, cC4, cC5, cC6, cC7, cC8, cC9, cC10, cC11⟩ := row12_c C_4
      obtain ⟨cR0, cR1, cR2, cR3, cR4, cR5, cR6, cR7, cR8, cR9, cR10, cR11⟩ := row12_c R_4
      obtain ⟨fR0, fR1, fR2, fR3, fR4, fR5, fR6, fR7, fR8, fR9, fR10, fR11⟩ := row12_f R_4
      go_wp2_with fail
      refine bodyPost_ret (by simp [results, Tryz.results44, go_sem, cR0, cR1, cR2, cR3, cR4, cR5, cR6, cR7, cR8, cR9, cR10, cR11]; try rfl) rfl ?_
      rw [HZ.out]
      exact ⟨_, _, _, _, rfl, put_got G_4.out B_4.out (by omega) (by omega) (Nat.le_refl _) _ _ _ _ _ _ _ _ _ _ _ _⟩
    · clear hx
      have HZ := hide (show doR m ⟨1, a, b⟩ = (m, false) from HD.out)
      obtain ⟨cA0, cA1, cA2, cA3, cA4, cA5, cA6, cA7, cA8, cA9, cA10, cA11⟩ := row12_c A_4
      go_wp2_with fail
      clear cA0 cA1 cA2 cA3 cA4 cA5 cA6 cA7 cA8 cA9 cA10 cA11
      have k5 := copyMill_any _ _ _ _ m w4 V_4.out.all n1 n2 n3 n4
      unfold millV at k5
      refine k5.mono ?_
      clear k5
      rintro e w5 ⟨s5, p5, l5, h5, rfl, G, hb⟩
      have R_5 := R_4.below hb R_4.lt
      have B_5 := hide (Below.step B_4.out hb (Nat.le_refl _))
      clear hb
      have G_5 := hide G
      obtain ⟨aS5, cs5, rfl, -, -⟩ := G.so.form
      obtain ⟨ap5, cp5, rfl, -, -⟩ := G.po.form
      obtain ⟨al5, cl5, rfl, -, -⟩ := G.lo.form
      obtain ⟨ah5, ch5, rfl, -, -⟩ := G.ho.form
      clear G
      unfold millV
      obtain ⟨cR0, cR1, cR2, cR3, cR4, cR5, cR6, cR7, cR8, cR9, cR10, cR11⟩ := row12_c R_5
      obtain ⟨fR0, fR1, fR2, fR3, fR4, fR5, fR6, fR7, fR8, fR9, fR10, fR11⟩ := row12_f R_5
      go_wp2_with fail
      refine bodyPost_ret (by simp [results, Tryz.results44, go_sem, cR0, cR1, cR2, cR3, cR4, cR5, cR6, cR7, cR8, cR9, cR10, cR11]; try rfl) rfl ?_
      rw [HZ.out]
      exact ⟨_, _, _, _, rfl, put_got G_5.out B_5.out (by omega) (by omega) (Nat.le_refl _) _ _ _ _ _ _ _ _ _ _ _ _⟩
set_option maxHeartbeats 3200000 in
theorem do_i4 (s p l h : Value) (m : Mi) (a b : Int) (w : World) (H : MillIn 0 w.heap.size w s p l h m) (ha : a ≤ 9223372036854775807) (hb : b ≤ 9223372036854775807) :
    Calls Tryz.prog 44 #[millV s p l h m, .agg #[.int .i64 4, .int .i64 a, .int .i64 b]] w (DoGot w.heap.size (doR m ⟨4, a, b⟩) w) := by
  obtain ⟨ao1, cap1, rfl, -, -, -, -⟩ := id H.store
  obtain ⟨ao2, cap2, rfl, -, -, -, -⟩ := id H.pieces
  obtain ⟨ao3, cap3, rfl, -, -, -, -⟩ := id H.low
  obtain ⟨ao4, cap4, rfl, -, -, -, -⟩ := id H.high
  have HM := hide H
  have HA := hide (And.intro ha hb)
  clear H ha hb
  unfold millV
  go_enter Tryz.func44, Tryz.ntmps44
  go_wp2_with fail
  refine calls_at fun wx hwx => ?_
  have A_0 : RowL wx (w.heap.size) 31 [.slice ao1 m.store.length cap1, .int .i64 m.rule.lc, .int .i64 m.rule.hc, .int .i64 m.rule.lm, .int .i64 m.rule.hm, .int .i64 m.rule.ls, .int .i64 m.rule.hs, .int .i64 m.strand, .slice ao2 m.pieces.length cap2, .slice ao3 m.low.length cap3, .slice ao4 m.high.length cap4, .int .i64 m.scrap] := by rw [hwx]; exact (((RowL.new _ 31 [.slice ao1 m.store.length cap1, .int .i64 m.rule.lc, .int .i64 m.rule.hc, .int .i64 m.rule.lm, .int .i64 m.rule.hm, .int .i64 m.rule.ls, .int .i64 m.rule.hs, .int .i64 m.strand, .slice ao2 m.pieces.length cap2, .slice ao3 m.low.length cap3, .slice ao4 m.high.length cap4, .int .i64 m.scrap]).alloc _).alloc _)
  have D_0 : RowL wx (w.heap.size + 1) 48 [.int .i64 4, .int .i64 a, .int .i64 b] := by rw [hwx]; simpa using ((RowL.new (World.alloc _ _) 48 [.int .i64 4, .int .i64 a, .int .i64 b]).alloc _)
  have R_0 : RowL wx (w.heap.size + 1 + 1) 31 [.slice none 0 0, .int .i64 0, .int .i64 0, .int .i64 0, .int .i64 0, .int .i64 0, .int .i64 0, .int .i64 0, .slice none 0 0, .slice none 0 0, .slice none 0 0, .int .i64 0] := by rw [hwx]; simpa using (RowL.new (World.alloc (World.alloc _ _) _) 31 [.slice none 0 0, .int .i64 0, .int .i64 0, .int .i64 0, .int .i64 0, .int .i64 0, .int .i64 0, .int .i64 0, .slice none 0 0, .slice none 0 0, .slice none 0 0, .int .i64 0])
  have B_0 : Below w.heap.size w wx := by rw [hwx]; go_grown
  clear hwx
  have hL0 := R_0.lt
  have V_0 := hide (HM.out.below B_0)
  have k1 := mill_impl _ _ _ _ m wx V_0.out.all
  unfold millV at k1
  cases hv : millB m with
  | false =>
    rw [hv] at k1
    have HZ := hide (do_bad hv ⟨4, a, b⟩)
    clear hv
    refine k1.mono ?_
    rintro e w1 ⟨rfl, hb⟩
    have R_1 := R_0.below hb R_0.lt
    have B_1 := hide (Below.step B_0 hb (Nat.le_refl _))
    clear hb k1
    obtain ⟨cR0, cR1, cR2, cR3, cR4, cR5, cR6, cR7, cR8, cR9, cR10, cR11⟩ := row12_c R_1
    obtain ⟨fR0, fR1, fR2, fR3, fR4, fR5, fR6, fR7, fR8, fR9, fR10, fR11⟩ := row12_f R_1
    go_wp2_with fail
    refine bodyPost_ret (by simp [results, Tryz.results44, go_sem, cR0, cR1, cR2, cR3, cR4, cR5, cR6, cR7, cR8, cR9, cR10, cR11]; try rfl) rfl ?_
    rw [HZ.out]
    exact ⟨_, _, _, _, rfl, zero_got B_1.out (Nat.le_refl _) (by omega) _ _ _ _ _ _ _ _ _ _ _ _⟩
  | true =>
    rw [hv] at k1
    obtain ⟨n1, n2, n3, n4⟩ := few_of hv
    have HV := hide hv
    have hD := do_good hv 4 a b
    rw [step_4] at hD
    clear hv
    refine k1.mono ?_
    rintro e w1 ⟨rfl, hb⟩
    have A_1 := A_0.below hb A_0.lt
    have D_1 := D_0.below hb D_0.lt
    have R_1 := R_0.below hb R_0.lt
    have V_1 := hide (V_0.out.below hb)
    have B_1 := hide (Below.step B_0 hb (Nat.le_refl _))
    have hz1 := hb.size
    clear hb k1
    obtain ⟨cA0, cA1, cA2, cA3, cA4, cA5, cA6, cA7, cA8, cA9, cA10, cA11⟩ := row12_c A_1
    go_wp2_with fail
    clear cA0 cA1 cA2 cA3 cA4 cA5 cA6 cA7 cA8 cA9 cA10 cA11
    have k2 := copyMill_any _ _ _ _ m w1 V_1.out.all n1 n2 n3 n4
    unfold millV at k2
    refine k2.mono ?_
    clear k2
    rintro e w2 ⟨s2, p2, l2, h2, rfl, G, hb⟩
    have A_2 := A_1.below hb A_1.lt
    have D_2 := D_1.below hb D_1.lt
    have R_2 := R_1.below hb R_1.lt
    have V_2 := hide (V_1.out.below hb)
    have B_2 := hide (Below.step B_1.out hb (Nat.le_refl _))
    have hz2 := hb.size
    have hL2 := R_2.lt
    have hLD := D_2.lt
    have hLA := A_2.lt
    clear hb
    have G_2 := hide G
    obtain ⟨aS, cs, rfl, -, -⟩ := G.so.form
    obtain ⟨ap, cp, rfl, -, -⟩ := G.po.form
    obtain ⟨al, cl, rfl, -, -⟩ := G.lo.form
    obtain ⟨ah, ch, rfl, -, -⟩ := G.ho.form
    clear G
    unfold millV
    have cD0 := D_2.c 0 rfl
    have cD1 := D_2.c 1 rfl
    have cD2 := D_2.c 2 rfl
    go_wp2_with fail
    refine calls_at fun wy hwy => ?_
    have C_y : RowL wy w2.heap.size 31 (millC (.slice aS m.store.length cs) (.slice ap m.pieces.length cp) (.slice al m.low.length cl) (.slice ah m.high.length ch) m) := by
      rw [hwy]
      first
        | exact (RowL.new w2 31 (millC (.slice aS m.store.length cs) (.slice ap m.pieces.length cp) (.slice al m.low.length cl) (.slice ah m.high.length ch) m))
        | exact (row12 (RowL.new w2 31 [.slice none 0 0, .int .i64 0, .int .i64 0, .int .i64 0, .int .i64 0, .int .i64 0, .int .i64 0, .int .i64 0, .slice none 0 0, .slice none 0 0, .slice none 0 0, .int .i64 0]) rfl _ _ _ _ _ _ _ _ _ _ _ _)
    have hby : Below w2.heap.size w2 wy := by
      rw [hwy]
      first
        | exact ((Below.refl _ _).alloc (Nat.le_refl _) _)
        | exact (((Below.refl _ _).alloc (Nat.le_refl _) _).trans ((other12 w2.heap.size _ _ _ _ _ _ _ _ _ _ _ _ _).below (Nat.le_refl _) (by simp)))
    have A_y := A_2.below hby A_2.lt
    have R_y := R_2.below hby R_2.lt
    have V_y := hide (V_2.out.below hby)
    have B_y := hide (Below.step B_2.out hby (Nat.le_refl _))
    have G_y := hide (G_2.out.below hby)
    have hzy := hby.size
    clear hwy hby
    have MB : MillBox w1.heap.size w2.heap.size wy _ _ _ _ m := ⟨C_y, G_y.out, ⟨fun e => Nat.lt_irrefl _ (G_2.out.so.lt _ e).2, fun e => Nat.lt_irrefl _ (G_2.out.po.lt _ e).2, fun e => Nat.lt_irrefl _ (G_2.out.lo.lt _ e).2, fun e => Nat.lt_irrefl _ (G_2.out.ho.lt _ e).2⟩, hz2⟩
    have k3 := ship_meth a MB (millB_iff.1 HV.out)
    obtain ⟨o, ho⟩ : ∃ o, shipD m a = o := ⟨_, rfl⟩
    rw [ho] at k3 hD
    have HD := hide hD
    clear hD ho MB cD0 cD1 cD2
    refine k3.mono ?_
    clear k3
    rintro e w4 ⟨rfl, hb, hx⟩
    have A_4 := A_y.below hb (by omega)
    have R_4 := R_y.below hb (by omega)
    have V_4 := hide (V_y.out.low_keep hb (by omega))
    have B_4 := hide (B_y.out.trans (hb.mono (by omega)))
    have hz4 := hb.size
    clear hb
    rcases o with _ | x
    rotate_left
    · obtain ⟨s4, p4, l4, h4, C_4, G⟩ := hx x rfl
      have HZ := hide (show doR m ⟨4, a, b⟩ = (x, true) from HD.out)
      have G_4 := hide G
      obtain ⟨aS4, cs4, rfl, -, -⟩ := G.so.form
      obtain ⟨ap4, cp4, rfl, -, -⟩ := G.po.form
      obtain ⟨al4, cl4, rfl, -, -⟩ := G.lo.form
      obtain ⟨ah4, ch4, rfl, -, -⟩ := G.ho.form
      clear G hx
      unfold millC at C_4
      obtain ⟨cC0, cC1, cC2, cC3, cC4, cC5, cC6, cC7, cC8, cC9, cC10, cC11⟩ := row12_c C_4
      obtain ⟨cR0, cR1, cR2, cR3, cR4, cR5, cR6, cR7, cR8, cR9, cR10, cR11⟩ := row12_c R_4
      obtain ⟨fR0, fR1, fR2, fR3, fR4, fR5, fR6, fR7, fR8, fR9, fR10, fR11⟩ := row12_f R_4
      go_wp2_with fail
      refine bodyPost_ret (by simp [results, Tryz.results44, go_sem, cR0, cR1, cR2, cR3, cR4, cR5, cR6, cR7, cR8, cR9, cR10, cR11]; try rfl) rfl ?_
      rw [HZ.out]
      exact ⟨_, _, _, _, rfl, put_got G_4.out B_4.out (by omega) (by omega) (Nat.le_refl _) _ _ _ _ _ _ _ _ _ _ _ _⟩
    · clear hx
      have HZ := hide (show doR m ⟨4, a, b⟩ = (m, false) from HD.out)
      obtain ⟨cA0, cA1, cA2, cA3, cA4, cA5, cA6, cA7, cA8, cA9, cA10, cA11⟩ := row12_c A_4
      go_wp2_with fail
      clear cA0 cA1 cA2 cA3 cA4 cA5 cA6 cA7 cA8 cA9 cA10 cA11
      have k5 := copyMill_any _ _ _ _ m w4 V_4.out.all n1 n2 n3 n4
      unfold millV at k5
      refine k5.mono ?_
      clear k5
      rintro e w5 ⟨s5, p5, l5, h5, rfl, G, hb⟩
      have R_5 := R_4.below hb R_4.lt
      have B_5 := hide (Below.step B_4.out hb (Nat.le_refl _))
      clear hb
      have G_5 := hide G
      obtain ⟨aS5, cs5, rfl, -, -⟩ := G.so.form
      obtain ⟨ap5, cp5, rfl, -, -⟩ := G.po.form
      obtain ⟨al5, cl5, rfl, -, -⟩ := G.lo.form
      obtain ⟨ah5, ch5, rfl, -, -⟩ := G.ho.form
      clear G
      unfold millV
      obtain ⟨cR0, cR1, cR2, cR3, cR4, cR5, cR6, cR7, cR8, cR9, cR10, cR11⟩ := row12_c R_5
      obtain ⟨fR0, fR1, fR2, fR3, fR4, fR5, fR6, fR7, fR8, fR9, fR10, fR11⟩ := row12_f R_5
      go_wp2_with fail
      refine bodyPost_ret (by simp [results, Tryz.results44, go_sem, cR0, cR1, cR2, cR3, cR4, cR5, cR6, cR7, cR8, cR9, cR10, cR11]; try rfl) rfl ?_
      rw [HZ.out]
      exact ⟨_, _, _, _, rfl, put_got G_5.out B_5.out (by omega) (by omega) (Nat.le_refl _) _ _ _ _ _ _ _ _ _ _ _ _⟩
end Go.Proofs.YtmemgbklgcjobaaGreatDoor
