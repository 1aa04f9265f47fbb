/-
  Parts of the proof, of 4 texts: what DoI4, DoAI, HelpQ, RunP show. Conditions: each theorem states its own.
-/
import Derived.Test.YtajjnciookhamaaGreatM30
import Derived.Test.YtajjnciookhamaaGreatM31
import Derived.Test.YtajjnciookhamaaGreatM33
import Derived.Test.YtajjnciookhamaaGreatM35
import Derived.Test.YtajjnciookhamaaGreatM34
import Derived.Test.YtajjnciookhamaaGreatM08
namespace Go.Proofs.YtajjnciookhamaaGreat
open Go.RowKit
set_option linter.unusedSimpArgs false in
set_option maxRecDepth 10000 in
set_option maxHeartbeats 3200000 in
theorem do_i4 (s p l h : Value) (m : Mi) (a b : Int) (w : World) (H : MillIn 0 w.heap.size w s p l h m) (ha : a ≤ 9223372036854775807) (hb : b ≤ 9223372036854775807) :
    Calls Tryz.prog 9 #[millV s p l h m, .agg #[.int .i64 4, .int .i64 a, .int .i64 b]] w (DoGot w.heap.size (doR m ⟨4, a, b⟩) w) := by
  obtain ⟨ao1, cap1, rfl, -, -, -, -⟩ := id H.store
  obtain ⟨ao2, cap2, rfl, -, -, -, -⟩ := id H.pieces
  obtain ⟨ao3, cap3, rfl, -, -, -, -⟩ := id H.low
  obtain ⟨ao4, cap4, rfl, -, -, -, -⟩ := id H.high
  have HM := hide H
  have HA := hide (And.intro ha hb)
  clear H ha hb
  unfold millV
  go_enter Tryz.func9, Tryz.ntmps9
  go_wp2_with fail
  refine calls_at fun wx hwx => ?_
  have A_0 : RowL wx (w.heap.size) 39 [.slice ao1 m.store.length cap1, .int .i64 m.rule.lc, .int .i64 m.rule.hc, .int .i64 m.rule.lm, .int .i64 m.rule.hm, .int .i64 m.rule.ls, .int .i64 m.rule.hs, .int .i64 m.strand, .slice ao2 m.pieces.length cap2, .slice ao3 m.low.length cap3, .slice ao4 m.high.length cap4, .int .i64 m.scrap] := by rw [hwx]; exact (((RowL.new _ 39 [.slice ao1 m.store.length cap1, .int .i64 m.rule.lc, .int .i64 m.rule.hc, .int .i64 m.rule.lm, .int .i64 m.rule.hm, .int .i64 m.rule.ls, .int .i64 m.rule.hs, .int .i64 m.strand, .slice ao2 m.pieces.length cap2, .slice ao3 m.low.length cap3, .slice ao4 m.high.length cap4, .int .i64 m.scrap]).alloc _).alloc _)
  have D_0 : RowL wx (w.heap.size + 1) 43 [.int .i64 4, .int .i64 a, .int .i64 b] := by rw [hwx]; simpa using ((RowL.new (World.alloc _ _) 43 [.int .i64 4, .int .i64 a, .int .i64 b]).alloc _)
  have R_0 : RowL wx (w.heap.size + 1 + 1) 39 [.slice none 0 0, .int .i64 0, .int .i64 0, .int .i64 0, .int .i64 0, .int .i64 0, .int .i64 0, .int .i64 0, .slice none 0 0, .slice none 0 0, .slice none 0 0, .int .i64 0] := by rw [hwx]; simpa using (RowL.new (World.alloc (World.alloc _ _) _) 39 [.slice none 0 0, .int .i64 0, .int .i64 0, .int .i64 0, .int .i64 0, .int .i64 0, .int .i64 0, .int .i64 0, .slice none 0 0, .slice none 0 0, .slice none 0 0, .int .i64 0])
  have B_0 : Below w.heap.size w wx := by rw [hwx]; go_grown
  clear hwx
  have hL0 := R_0.lt
  have V_0 := hide (HM.out.below B_0)
  have k1 := mill_impl _ _ _ _ m wx V_0.out.all
  unfold millV at k1
  cases hv : millB m with
  | false =>
    rw [hv] at k1
    have HZ := hide (do_bad hv ⟨4, a, b⟩)
    clear hv
    refine k1.mono ?_
    rintro e w1 ⟨rfl, hb⟩
    have R_1 := R_0.below hb R_0.lt
    have B_1 := hide (Below.step B_0 hb (Nat.le_refl _))
    clear hb k1
    have cR0 := R_1.c 0 rfl
    have cR1 := R_1.c 1 rfl
    have cR2 := R_1.c 2 rfl
    have cR3 := R_1.c 3 rfl
    have cR4 := R_1.c 4 rfl
    have cR5 := R_1.c 5 rfl
    have cR6 := R_1.c 6 rfl
    have cR7 := R_1.c 7 rfl
    have cR8 := R_1.c 8 rfl
    have cR9 := R_1.c 9 rfl
    have cR10 := R_1.c 10 rfl
    have cR11 := R_1.c 11 rfl
    have fR0 := R_1.frozen 0
    have fR1 := R_1.frozen 1
    have fR2 := R_1.frozen 2
    have fR3 := R_1.frozen 3
    have fR4 := R_1.frozen 4
    have fR5 := R_1.frozen 5
    have fR6 := R_1.frozen 6
    have fR7 := R_1.frozen 7
    have fR8 := R_1.frozen 8
    have fR9 := R_1.frozen 9
    have fR10 := R_1.frozen 10
    have fR11 := R_1.frozen 11
    go_wp2_with fail
    refine bodyPost_ret (by simp [results, Tryz.results9, go_sem, cR0, cR1, cR2, cR3, cR4, cR5, cR6, cR7, cR8, cR9, cR10, cR11]; try rfl) rfl ?_
    rw [HZ.out]
    exact ⟨_, _, _, _, rfl, zero_got B_1.out (Nat.le_refl _) (by omega) _ _ _ _ _ _ _ _ _ _ _ _⟩
  | true =>
    rw [hv] at k1
    obtain ⟨n1, n2, n3, n4⟩ := few_of hv
    have HV := hide hv
    have hD := do_good hv 4 a b
    rw [step_4] at hD
    clear hv
    refine k1.mono ?_
    rintro e w1 ⟨rfl, hb⟩
    have A_1 := A_0.below hb A_0.lt
    have D_1 := D_0.below hb D_0.lt
    have R_1 := R_0.below hb R_0.lt
    have V_1 := hide (V_0.out.below hb)
    have B_1 := hide (Below.step B_0 hb (Nat.le_refl _))
    have hz1 := hb.size
    clear hb k1
    have cA0 := A_1.c 0 rfl
    have cA1 := A_1.c 1 rfl
    have cA2 := A_1.c 2 rfl
    have cA3 := A_1.c 3 rfl
    have cA4 := A_1.c 4 rfl
    have cA5 := A_1.c 5 rfl
    have cA6 := A_1.c 6 rfl
    have cA7 := A_1.c 7 rfl
    have cA8 := A_1.c 8 rfl
    have cA9 := A_1.c 9 rfl
    have cA10 := A_1.c 10 rfl
    have cA11 := A_1.c 11 rfl
    go_wp2_with fail
    clear cA0 cA1 cA2 cA3 cA4 cA5 cA6 cA7 cA8 cA9 cA10 cA11
    have k2 := copyMill_any _ _ _ _ m w1 V_1.out.all n1 n2 n3 n4
    unfold millV at k2
    refine k2.mono ?_
    clear k2
    rintro e w2 ⟨s2, p2, l2, h2, rfl, G, hb⟩
    have A_2 := A_1.below hb A_1.lt
    have D_2 := D_1.below hb D_1.lt
    have R_2 := R_1.below hb R_1.lt
    have V_2 := hide (V_1.out.below hb)
    have B_2 := hide (Below.step B_1.out hb (Nat.le_refl _))
    have hz2 := hb.size
    have hL2 := R_2.lt
    have hLD := D_2.lt
    have hLA := A_2.lt
    clear hb
    have G_2 := hide G
    obtain ⟨aS, cs, rfl, -, -⟩ := G.so.form
    obtain ⟨ap, cp, rfl, -, -⟩ := G.po.form
    obtain ⟨al, cl, rfl, -, -⟩ := G.lo.form
    obtain ⟨ah, ch, rfl, -, -⟩ := G.ho.form
    clear G
    unfold millV
    have cD0 := D_2.c 0 rfl
    have cD1 := D_2.c 1 rfl
    have cD2 := D_2.c 2 rfl
    go_wp2_with fail
    refine calls_at fun wy hwy => ?_
    have C_y : RowL wy w2.heap.size 39 (millC (.slice aS m.store.length cs) (.slice ap m.pieces.length cp) (.slice al m.low.length cl) (.slice ah m.high.length ch) m) := by
      rw [hwy]
      first
        | exact (RowL.new w2 39 (millC (.slice aS m.store.length cs) (.slice ap m.pieces.length cp) (.slice al m.low.length cl) (.slice ah m.high.length ch) m))
        | exact (row12 (RowL.new w2 39 [.slice none 0 0, .int .i64 0, .int .i64 0, .int .i64 0, .int .i64 0, .int .i64 0, .int .i64 0, .int .i64 0, .slice none 0 0, .slice none 0 0, .slice none 0 0, .int .i64 0]) rfl _ _ _ _ _ _ _ _ _ _ _ _)
    have hby : Below w2.heap.size w2 wy := by
      rw [hwy]
      first
        | exact ((Below.refl _ _).alloc (Nat.le_refl _) _)
        | exact (((Below.refl _ _).alloc (Nat.le_refl _) _).trans ((other12 w2.heap.size _ _ _ _ _ _ _ _ _ _ _ _ _).below (Nat.le_refl _) (by simp)))
    have A_y := A_2.below hby A_2.lt
    have R_y := R_2.below hby R_2.lt
    have V_y := hide (V_2.out.below hby)
    have B_y := hide (Below.step B_2.out hby (Nat.le_refl _))
    have G_y := hide (G_2.out.below hby)
    have hzy := hby.size
    clear hwy hby
    have MB : MillBox w1.heap.size w2.heap.size wy _ _ _ _ m := ⟨C_y, G_y.out, ⟨fun e => Nat.lt_irrefl _ (G_2.out.so.lt _ e).2, fun e => Nat.lt_irrefl _ (G_2.out.po.lt _ e).2, fun e => Nat.lt_irrefl _ (G_2.out.lo.lt _ e).2, fun e => Nat.lt_irrefl _ (G_2.out.ho.lt _ e).2⟩, hz2⟩
    have k3 := ship_meth a MB (millB_iff.1 HV.out)
    obtain ⟨o, ho⟩ : ∃ o, shipD m a = o := ⟨_, rfl⟩
    rw [ho] at k3 hD
    have HD := hide hD
    clear hD ho MB cD0 cD1 cD2
    refine k3.mono ?_
    clear k3
    rintro e w4 ⟨rfl, hb, hx⟩
    have A_4 := A_y.below hb (by omega)
    have R_4 := R_y.below hb (by omega)
    have V_4 := hide (V_y.out.low_keep hb (by omega))
    have B_4 := hide (B_y.out.trans (hb.mono (by omega)))
    have hz4 := hb.size
    clear hb
    rcases o with _ | x
    rotate_left
    · obtain ⟨s4, p4, l4, h4, C_4, G⟩ := hx x rfl
      have HZ := hide (show doR m ⟨4, a, b⟩ = (x, true) from HD.out)
      have G_4 := hide G
      obtain ⟨aS4, cs4, rfl, -, -⟩ := G.so.form
      obtain ⟨ap4, cp4, rfl, -, -⟩ := G.po.form
      obtain ⟨al4, cl4, rfl, -, -⟩ := G.lo.form
      obtain ⟨ah4, ch4, rfl, -, -⟩ := G.ho.form
      clear G hx
      unfold millC at C_4
      have cC0 : w4.cell? ⟨w2.heap.size, 0, none⟩ = some (.slice aS4 x.store.length cs4) := C_4.cell 0 (by simp)
      have cC1 : w4.cell? ⟨w2.heap.size, 1, none⟩ = some (.int .i64 x.rule.lc) := C_4.cell 1 (by simp)
      have cC2 : w4.cell? ⟨w2.heap.size, 2, none⟩ = some (.int .i64 x.rule.hc) := C_4.cell 2 (by simp)
      have cC3 : w4.cell? ⟨w2.heap.size, 3, none⟩ = some (.int .i64 x.rule.lm) := C_4.cell 3 (by simp)
      have cC4 : w4.cell? ⟨w2.heap.size, 4, none⟩ = some (.int .i64 x.rule.hm) := C_4.cell 4 (by simp)
      have cC5 : w4.cell? ⟨w2.heap.size, 5, none⟩ = some (.int .i64 x.rule.ls) := C_4.cell 5 (by simp)
      have cC6 : w4.cell? ⟨w2.heap.size, 6, none⟩ = some (.int .i64 x.rule.hs) := C_4.cell 6 (by simp)
      have cC7 : w4.cell? ⟨w2.heap.size, 7, none⟩ = some (.int .i64 x.strand) := C_4.cell 7 (by simp)
      have cC8 : w4.cell? ⟨w2.heap.size, 8, none⟩ = some (.slice ap4 x.pieces.length cp4) := C_4.cell 8 (by simp)
      have cC9 : w4.cell? ⟨w2.heap.size, 9, none⟩ = some (.slice al4 x.low.length cl4) := C_4.cell 9 (by simp)
      have cC10 : w4.cell? ⟨w2.heap.size, 10, none⟩ = some (.slice ah4 x.high.length ch4) := C_4.cell 10 (by simp)
      have cC11 : w4.cell? ⟨w2.heap.size, 11, none⟩ = some (.int .i64 x.scrap) := C_4.cell 11 (by simp)
      have cR0 := R_4.c 0 rfl
      have cR1 := R_4.c 1 rfl
      have cR2 := R_4.c 2 rfl
      have cR3 := R_4.c 3 rfl
      have cR4 := R_4.c 4 rfl
      have cR5 := R_4.c 5 rfl
      have cR6 := R_4.c 6 rfl
      have cR7 := R_4.c 7 rfl
      have cR8 := R_4.c 8 rfl
      have cR9 := R_4.c 9 rfl
      have cR10 := R_4.c 10 rfl
      have cR11 := R_4.c 11 rfl
      have fR0 := R_4.frozen 0
      have fR1 := R_4.frozen 1
      have fR2 := R_4.frozen 2
      have fR3 := R_4.frozen 3
      have fR4 := R_4.frozen 4
      have fR5 := R_4.frozen 5
      have fR6 := R_4.frozen 6
      have fR7 := R_4.frozen 7
      have fR8 := R_4.frozen 8
      have fR9 := R_4.frozen 9
      have fR10 := R_4.frozen 10
      have fR11 := R_4.frozen 11
      go_wp2_with fail
      refine bodyPost_ret (by simp [results, Tryz.results9, go_sem, cR0, cR1, cR2, cR3, cR4, cR5, cR6, cR7, cR8, cR9, cR10, cR11]; try rfl) rfl ?_
      rw [HZ.out]
      exact ⟨_, _, _, _, rfl, put_got G_4.out B_4.out (by omega) (by omega) (Nat.le_refl _) _ _ _ _ _ _ _ _ _ _ _ _⟩
    · clear hx
      have HZ := hide (show doR m ⟨4, a, b⟩ = (m, false) from HD.out)
      have cA0 := A_4.c 0 rfl
      have cA1 := A_4.c 1 rfl
      have cA2 := A_4.c 2 rfl
      have cA3 := A_4.c 3 rfl
      have cA4 := A_4.c 4 rfl
      have cA5 := A_4.c 5 rfl
      have cA6 := A_4.c 6 rfl
      have cA7 := A_4.c 7 rfl
      have cA8 := A_4.c 8 rfl
      have cA9 := A_4.c 9 rfl
      have cA10 := A_4.c 10 rfl
      have cA11 := A_4.c 11 rfl
      go_wp2_with fail
      clear cA0 cA1 cA2 cA3 cA4 cA5 cA6 cA7 cA8 cA9 cA10 cA11
      have k5 := copyMill_any _ _ _ _ m w4 V_4.out.all n1 n2 n3 n4
      unfold millV at k5
      refine k5.mono ?_
      clear k5
      rintro e w5 ⟨s5, p5, l5, h5, rfl, G, hb⟩
      have R_5 := R_4.below hb R_4.lt
      have B_5 := hide (Below.step B_4.out hb (Nat.le_refl _))
      clear hb
      have G_5 := hide G
      obtain ⟨aS5, cs5, rfl, -, -⟩ := G.so.form
      obtain ⟨ap5, cp5, rfl, -, -⟩ := G.po.form
      obtain ⟨al5, cl5, rfl, -, -⟩ := G.lo.form
      obtain ⟨ah5, ch5, rfl, -, -⟩ := G.ho.form
      clear G
      unfold millV
      have cR0 := R_5.c 0 rfl
      have cR1 := R_5.c 1 rfl
      have cR2 := R_5.c 2 rfl
      have cR3 := R_5.c 3 rfl
      have cR4 := R_5.c 4 rfl
      have cR5 := R_5.c 5 rfl
      have cR6 := R_5.c 6 rfl
      have cR7 := R_5.c 7 rfl
      have cR8 := R_5.c 8 rfl
      have cR9 := R_5.c 9 rfl
      have cR10 := R_5.c 10 rfl
      have cR11 := R_5.c 11 rfl
      have fR0 := R_5.frozen 0
      have fR1 := R_5.frozen 1
      have fR2 := R_5.frozen 2
      have fR3 := R_5.frozen 3
      have fR4 := R_5.frozen 4
      have fR5 := R_5.frozen 5
      have fR6 := R_5.frozen 6
      have fR7 := R_5.frozen 7
      have fR8 := R_5.frozen 8
      have fR9 := R_5.frozen 9
      have fR10 := R_5.frozen 10
      have fR11 := R_5.frozen 11
      go_wp2_with fail
      refine bodyPost_ret (by simp [results, Tryz.results9, go_sem, cR0, cR1, cR2, cR3, cR4, cR5, cR6, cR7, cR8, cR9, cR10, cR11]; try rfl) rfl ?_
      rw [HZ.out]
      exact ⟨_, _, _, _, rfl, put_got G_5.out B_5.out (by omega) (by omega) (Nat.le_refl _) _ _ _ _ _ _ _ _ _ _ _ _⟩
end Go.Proofs.YtajjnciookhamaaGreat
namespace Go.Proofs.YtajjnciookhamaaGreat
open Go.RowKit
theorem do_impl (s p l h : Value) (m : Mi) (d : J) (w : World) (H : MillIn 0 w.heap.size w s p l h m) (ha : d.d ≤ 9223372036854775807) (hb : d.g ≤ 9223372036854775807) :
    Calls Tryz.prog 9 #[millV s p l h m, .agg #[.int .i64 d.s, .int .i64 d.d, .int .i64 d.g]] w (DoGot w.heap.size (doR m d) w) := by
  obtain ⟨k, a, b⟩ := d
  by_cases e0 : k = 0
  · subst e0; exact do_i0 s p l h m a b w H ha hb
  by_cases e1 : k = 1
  · subst e1; exact do_i1 s p l h m a b w H ha hb
  by_cases e2 : k = 2
  · subst e2; exact do_i2 s p l h m a b w H ha hb
  by_cases e3 : k = 3
  · subst e3; exact do_i3 s p l h m a b w H ha hb
  by_cases e4 : k = 4
  · subst e4; exact do_i4 s p l h m a b w H ha hb
  exact do_ix s p l h m k a b w H ha hb (by simpa using e0) (by simpa using e1) (by simpa using e2) (by simpa using e3) (by simpa using e4)
end Go.Proofs.YtajjnciookhamaaGreat
namespace Go.Proofs.YtajjnciookhamaaGreat
open Go.RowKit
theorem markI_len (k : Int) (n : Nat) : (markI k n).length = n := by simp [markI]
theorem markSt_len (k : Int) (n : Nat) : (markSt k n).length = n := by simp [markSt]
theorem markPc_len (k : Int) (n : Nat) : (markPc k n).length = n := by simp [markPc]
theorem heldI_any (v : Value) (n lo hi : Nat) (k0 : Int) (w : World) (h : IntsAt lo hi w v (markI k0 n)) (hlen : n ≤ 2097152) (hk0 : 0 ≤ k0) (hk1 : k0 ≤ 16777216) :
    Calls Tryz.prog 96 #[v, .int .i64 k0] w fun e w' => e = .returned (.int .i64 (k0 + n)) ∧ w = w' :=
  (heldIntS_any v _ lo hi k0 w h (by rw [markI_len]; exact hlen) hk0 hk1 (markI_at k0 n)).mono fun e w' ⟨h1, h2⟩ => ⟨by rw [h1, markI_len], h2⟩
theorem heldS_any (v : Value) (n lo hi : Nat) (k0 : Int) (w : World) (h : StAt lo hi w v (markSt k0 n)) (hlen : n ≤ 2097152) (hk0 : 0 ≤ k0) (hk1 : k0 ≤ 16777216) :
    Calls Tryz.prog 50 #[v, .int .i64 k0] w fun e w' => e = .returned (.int .i64 (k0 + 5 * n)) ∧ w = w' :=
  (heldStuffS_any v _ lo hi k0 w h (by rw [markSt_len]; exact hlen) hk0 hk1 (markSt_at k0 n)).mono fun e w' ⟨h1, h2⟩ => ⟨by rw [h1, markSt_len], h2⟩
theorem heldP_any (v : Value) (n lo hi : Nat) (k0 : Int) (w : World) (h : PcAt lo hi w v (markPc k0 n)) (hlen : n ≤ 2097152) (hk0 : 0 ≤ k0) (hk1 : k0 ≤ 16777216) :
    Calls Tryz.prog 51 #[v, .int .i64 k0] w fun e w' => e = .returned (.int .i64 (k0 + 2 * n)) ∧ w = w' :=
  (heldPieceS_any v _ lo hi k0 w h (by rw [markPc_len]; exact hlen) hk0 hk1 (markPc_at k0 n)).mono fun e w' ⟨h1, h2⟩ => ⟨by rw [h1, markPc_len], h2⟩
set_option maxRecDepth 10000 in
set_option maxHeartbeats 800000 in
theorem heldPile_any (l h : Value) (n1 n2 a1 z1 a2 z2 : Nat) (k0 : Int) (w : World) (Hl : IntsAt a1 z1 w l (markI k0 n1)) (Hh : IntsAt a2 z2 w h (markI (k0 + n1) n2)) (h1 : n1 ≤ 1048576) (h2 : n2 ≤ 1048576) (hk0 : 0 ≤ k0) (hk1 : k0 ≤ 8388608) :
    Calls Tryz.prog 52 #[pileV l h, .int .i64 k0] w fun e w' => e = .returned (.int .i64 (k0 + n1 + n2)) ∧ Below w.heap.size w w' := by
  have HL := hide Hl
  have HH := hide Hh
  clear Hl Hh
  unfold pileV
  go_enter Tryz.func52, Tryz.ntmps52
  go_wp2_with fail
  refine calls_at fun wx hwx => ?_
  have R1 : RowL wx w.heap.size 37 [l, h] := by rw [hwx]; exact RowL.new _ _ _
  have hb0 : Below w.heap.size w wx := by rw [hwx]; go_grown
  clear hwx
  refine (heldI_any l n1 _ _ k0 wx (HL.out.below hb0) (by omega) hk0 (by omega)).mono ?_
  rintro e w1 ⟨rfl, rfl⟩
  have c1 : wx.cell? ⟨w.heap.size, 1, none⟩ = some h := R1.cell 1 (by simp)
  have HB := hide hb0
  have hneg : ¬ k0 + (n1 : Int) < 0 := by omega
  have HQ := hide (HH.out.below hb0)
  clear hb0
  go_wp2_with fail
  refine (heldI_any h n2 _ _ (k0 + n1) wx HQ.out (by omega) (by omega) (by omega)).mono ?_
  rintro e w2 ⟨rfl, rfl⟩
  have hneg2 : ¬ k0 + (n1 : Int) + (n2 : Int) < 0 := by omega
  go_wp2_with fail
  go_ret
  exact ⟨rfl, HB.out⟩
set_option maxRecDepth 10000 in
set_option maxHeartbeats 1600000 in
theorem heldMill_any (s p l h : Value) (m : Mi) (w : World) (H : MillIn 0 w.heap.size w s p l h (markedM 1 m)) (hs : sizeM m ≤ 1048576) :
    Calls Tryz.prog 12 #[millV s p l h m, .int .i64 1] w fun e w' => e = .returned (.int .i64 (1 + marksM m)) ∧ Below w.heap.size w w' := by
  obtain ⟨h1, h2, h3, h4⟩ := H
  have VS := hide h1
  have VP := hide h2
  have VL := hide h3
  have VH := hide h4
  unfold sizeM at hs
  clear h1 h2 h3 h4
  unfold millV
  go_enter Tryz.func12, Tryz.ntmps12
  go_wp2_with fail
  refine calls_at fun wx hwx => ?_
  have R0 : RowL wx w.heap.size 39 [s, .int .i64 m.rule.lc, .int .i64 m.rule.hc, .int .i64 m.rule.lm, .int .i64 m.rule.hm, .int .i64 m.rule.ls, .int .i64 m.rule.hs, .int .i64 m.strand, p, l, h, .int .i64 m.scrap] := by rw [hwx]; exact RowL.new _ _ _
  have hb0 : Below w.heap.size w wx := by rw [hwx]; go_grown
  have HB := hide hb0
  have WS := hide (VS.out.below hb0)
  have WP := hide (VP.out.below hb0)
  have WL := hide (VL.out.below hb0)
  have WH := hide (VH.out.below hb0)
  have hz0 := R0.lt
  clear hwx hb0
  refine (heldS_any s m.store.length _ _ 1 wx WS.out (by omega) (by omega) (by omega)).mono ?_
  rintro e w1 ⟨rfl, rfl⟩
  have c8 : wx.cell? ⟨w.heap.size, 8, none⟩ = some p := R0.cell 8 (by simp)
  have c9 : wx.cell? ⟨w.heap.size, 9, none⟩ = some l := R0.cell 9 (by simp)
  have c10 : wx.cell? ⟨w.heap.size, 10, none⟩ = some h := R0.cell 10 (by simp)
  have hn1 : ¬ (1 + 5 * (m.store.length : Int)) < 0 := by omega
  go_wp2_with fail
  refine (heldP_any p m.pieces.length _ _ (1 + 5 * m.store.length) wx WP.out (by omega) (by omega) (by omega)).mono ?_
  rintro e w1 ⟨rfl, rfl⟩
  have hn2 : ¬ (1 + 5 * (m.store.length : Int) + 2 * (m.pieces.length : Int)) < 0 := by omega
  go_wp2_with fail
  have hpl := heldPile_any l h m.low.length m.high.length _ _ _ _ (1 + 5 * m.store.length + 2 * m.pieces.length) wx WL.out WH.out (by omega) (by omega) (by omega) (by omega)
  unfold pileV at hpl
  refine hpl.mono ?_
  rintro e w3 ⟨rfl, hb3⟩
  have HB3 := hide (Below.step HB.out hb3 (Nat.le_refl _))
  have hn3 : ¬ (1 + 5 * (m.store.length : Int) + 2 * (m.pieces.length : Int) + (m.low.length : Int) + (m.high.length : Int)) < 0 := by omega
  clear hpl hb3
  go_wp2_with fail
  go_ret
  refine ⟨?_, HB3.out⟩
  exact ret_i64 (by unfold marksM; omega)
end Go.Proofs.YtajjnciookhamaaGreat
namespace Go.Proofs.YtajjnciookhamaaGreat
open Go.RowKit
def jz : J := ⟨0, 0, 0⟩
theorem jb_at {lo hi : Nat} {w : World} {v : Value} {xs : List J} (h : JobsAt lo hi w v xs) {k : Nat} (hk : k < xs.length) :
    ∃ b o cap, v = .slice (some ⟨b, o, none⟩) xs.length cap ∧ lo ≤ b ∧ b < hi ∧
      (w.cell? ⟨b, o + k * 3, none⟩ = some (.int .i64 (xs.getD k jz).s) ∧ w.cell? ⟨b, o + k * 3 + 1, none⟩ = some (.int .i64 (xs.getD k jz).d) ∧ w.cell? ⟨b, o + k * 3 + 2, none⟩ = some (.int .i64 (xs.getD k jz).g)) := by
  obtain ⟨ao, cap, rfl, h1, h2, h3, h4⟩ := h
  obtain ⟨b, o, rfl, b1, b2, hc⟩ := h4 (by omega)
  have hg : xs.getD k jz = xs[k] := by simp [hk]
  rw [hg]
  exact ⟨b, o, cap, rfl, b1, b2, (hc k hk).1⟩
theorem run_take (m : Mi) {js : List J} {k : Nat} (h : k < js.length) : runTo m (js.take (k + 1)) = runS (runTo m (js.take k)) (js.getD k jz) := by
  unfold runTo
  rw [List.take_succ_eq_append_getElem h, List.foldl_append]
  simp [h]
theorem runS_no {x : Mi} {n : Int} {d : J} {y : Mi} (h : doR x d = (y, false)) : runS (x, n) d = (x, n) := by unfold runS; simp [h]
theorem runS_yes {x : Mi} {n : Int} {d : J} {y : Mi} (h : doR x d = (y, true)) : runS (x, n) d = (y, n + 1) := by unfold runS; simp [h]
/-- A box that holds a mill of the call's own. -/
def BoxM (base : Nat) (w : World) (y : Mi) (bx : Value) : Prop := ∃ G s p l h, bx = .pointer (some ⟨G, 0, none⟩) ∧ base ≤ G ∧ RowL w G 39 (millC s p l h y) ∧ MillGot base w s p l h y
theorem boxM_new {base b : Nat} {w : World} {s p l h : Value} {y : Mi} (G : MillGot b w s p l h y) (hb : base ≤ b) (hz : base ≤ w.heap.size) :
    BoxM base (w.alloc (.cells (millC s p l h y).toArray 39)) y (.pointer (some ⟨w.heap.size, 0, none⟩)) :=
  ⟨_, s, p, l, h, rfl, hz, RowL.new _ _ _, (G.below ((Below.refl _ _).alloc (Nat.le_refl _) _)).mono hb⟩
theorem boxM_old {base b C : Nat} {w : World} {s p l h : Value} {y : Mi} {us : List Value} (r : RowL w C 39 us) (hl : us.length = 12) (G : MillGot b w s p l h y) (hC : base ≤ C) (hb : base ≤ b) :
    BoxM base (((((((((((((w).setCell ⟨C, 0, none⟩ s).setCell ⟨C, 1, none⟩ (.int .i64 y.rule.lc)).setCell ⟨C, 2, none⟩ (.int .i64 y.rule.hc)).setCell ⟨C, 3, none⟩ (.int .i64 y.rule.lm)).setCell ⟨C, 4, none⟩ (.int .i64 y.rule.hm)).setCell ⟨C, 5, none⟩ (.int .i64 y.rule.ls)).setCell ⟨C, 6, none⟩ (.int .i64 y.rule.hs)).setCell ⟨C, 7, none⟩ (.int .i64 y.strand)).setCell ⟨C, 8, none⟩ p).setCell ⟨C, 9, none⟩ l).setCell ⟨C, 10, none⟩ h).setCell ⟨C, 11, none⟩ (.int .i64 y.scrap)) y (.pointer (some ⟨C, 0, none⟩)) :=
  ⟨_, s, p, l, h, rfl, hC, row12 r hl _ _ _ _ _ _ _ _ _ _ _ _, (G.past r (other12 _ _ _ _ _ _ _ _ _ _ _ _ _ _)).mono hb⟩
end Go.Proofs.YtajjnciookhamaaGreat
