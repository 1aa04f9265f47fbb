/-
  Parts of the proofs over mills, of: DoS0, DoS1. Conditions: each theorem states its own.
-/
import Derived.Test.YtmemgbklgcjobaaGreatDoorX32
import Derived.Test.YtmemgbklgcjobaaGreatDoorX34
set_option linter.unusedSimpArgs false
set_option linter.unusedVariables false
set_option maxRecDepth 10000
namespace Go.Proofs.YtmemgbklgcjobaaGreatDoor
open Go.RowKit
set_option maxHeartbeats 16000000 in
theorem do_s0 (s p l h : Value) (m : Mi) (a b : Int) (w : World) (H : MillIn 0 w.heap.size w s p l h m) (ha : a ≤ 9223372036854775807) (hb : b ≤ 9223372036854775807) :
    Calls Tryz.prog 45 #[millV s p l h m, .agg #[.int .i64 0, .int .i64 a, .int .i64 b]] w (DoGot w.heap.size (doR m ⟨0, a, b⟩) w) := by
  obtain ⟨ao1, cap1, rfl, -, -, -, -⟩ := id H.store
  obtain ⟨ao2, cap2, rfl, -, -, -, -⟩ := id H.pieces
  obtain ⟨ao3, cap3, rfl, -, -, -, -⟩ := id H.low
  obtain ⟨ao4, cap4, rfl, -, -, -, -⟩ := id H.high
  have HM := hide H
  have HA := hide (And.intro ha hb)
  clear H ha hb
  unfold millV
  go_enter Tryz.func45, Tryz.ntmps45
  go_wp2_with fail
  refine calls_at fun wx hwx => ?_
  have A_0 : RowL wx (w.heap.size) 31 [.slice ao1 m.store.length cap1, .int .i64 m.rule.lc, .int .i64 m.rule.hc, .int .i64 m.rule.lm, .int .i64 m.rule.hm, .int .i64 m.rule.ls, .int .i64 m.rule.hs, .int .i64 m.strand, .slice ao2 m.pieces.length cap2, .slice ao3 m.low.length cap3, .slice ao4 m.high.length cap4, .int .i64 m.scrap] := by rw [hwx]; exact (((RowL.new _ 31 [.slice ao1 m.store.length cap1, .int .i64 m.rule.lc, .int .i64 m.rule.hc, .int .i64 m.rule.lm, .int .i64 m.rule.hm, .int .i64 m.rule.ls, .int .i64 m.rule.hs, .int .i64 m.strand, .slice ao2 m.pieces.length cap2, .slice ao3 m.low.length cap3, .slice ao4 m.high.length cap4, .int .i64 m.scrap]).alloc _).alloc _)
  have D_0 : RowL wx (w.heap.size + 1) 48 [.int .i64 0, .int .i64 a, .int .i64 b] := by rw [hwx]; simpa using ((RowL.new (World.alloc _ _) 48 [.int .i64 0, .int .i64 a, .int .i64 b]).alloc _)
  have R_0 : RowL wx (w.heap.size + 1 + 1) 31 [.slice none 0 0, .int .i64 0, .int .i64 0, .int .i64 0, .int .i64 0, .int .i64 0, .int .i64 0, .int .i64 0, .slice none 0 0, .slice none 0 0, .slice none 0 0, .int .i64 0] := by rw [hwx]; simpa using (RowL.new (World.alloc (World.alloc _ _) _) 31 [.slice none 0 0, .int .i64 0, .int .i64 0, .int .i64 0, .int .i64 0, .int .i64 0, .int .i64 0, .int .i64 0, .slice none 0 0, .slice none 0 0, .slice none 0 0, .int .i64 0])
  have B_0 : Below w.heap.size w wx := by rw [hwx]; go_grown
  clear hwx
  have hL0 := R_0.lt
  have V_0 := hide (HM.out.below B_0)
  have k1 := mill_spec _ _ _ _ m wx V_0.out.all
  unfold millV at k1
  cases hv : millB m with
  | false =>
    rw [hv] at k1
    have HZ := hide (do_bad hv ⟨0, a, b⟩)
    clear hv
    refine k1.mono ?_
    rintro e w1 ⟨rfl, hb⟩
    have R_1 := R_0.below hb R_0.lt
    have B_1 := hide (Below.step B_0 hb (Nat.le_refl _))
    clear hb k1
    obtain ⟨cR0, cR1, cR2, cR3, cR4, cR5, cR6, cR7, cR8, cR9, cR10, cR11⟩ := row12_c R_1
    obtain ⟨fR0, fR1, fR2, fR3, fR4, fR5, fR6, fR7, fR8, fR9, fR10, fR11⟩ := row12_f R_1
    go_wp2_with fail
    refine bodyPost_ret (by simp [results, Tryz.results45, go_sem, cR0, cR1, cR2, cR3, cR4, cR5, cR6, cR7, cR8, cR9, cR10, cR11]; try rfl) rfl ?_
    rw [HZ.out]
    exact ⟨_, _, _, _, rfl, zero_got B_1.out (Nat.le_refl _) (by omega) _ _ _ _ _ _ _ _ _ _ _ _⟩
  | true =>
    rw [hv] at k1
    obtain ⟨n1, n2, n3, n4⟩ := few_of hv
    have HV := hide hv
    have hD := do_good hv 0 a b
    rw [step_0] at hD
    clear hv
    refine k1.mono ?_
    rintro e w1 ⟨rfl, hb⟩
    have A_1 := A_0.below hb A_0.lt
    have D_1 := D_0.below hb D_0.lt
    have R_1 := R_0.below hb R_0.lt
    have V_1 := hide (V_0.out.below hb)
    have B_1 := hide (Below.step B_0 hb (Nat.le_refl _))
    have hz1 := hb.size
    clear hb k1
    obtain ⟨cA0, cA1, cA2, cA3, cA4, cA5, cA6, cA7, cA8, cA9, cA10, cA11⟩ := row12_c A_1
    go_wp2_with fail
    clear cA0 cA1 cA2 cA3 cA4 cA5 cA6 cA7 cA8 cA9 cA10 cA11
    have k2 := l8Copy_any _ _ _ _ m w1 V_1.out.all n1 n2 n3 n4
    unfold millV at k2
    refine k2.mono ?_
    clear k2
    rintro e w2 ⟨s2, p2, l2, h2, rfl, G, hb⟩
    have A_2 := A_1.below hb A_1.lt
    have D_2 := D_1.below hb D_1.lt
    have R_2 := R_1.below hb R_1.lt
    have V_2 := hide (V_1.out.below hb)
    have B_2 := hide (Below.step B_1.out hb (Nat.le_refl _))
    have hz2 := hb.size
    have hL2 := R_2.lt
    have hLD := D_2.lt
    have hLA := A_2.lt
    clear hb
    have G_2 := hide G
    obtain ⟨aS, cs, rfl, -, -⟩ := G.so.form
    obtain ⟨ap, cp, rfl, -, -⟩ := G.po.form
    obtain ⟨al, cl, rfl, -, -⟩ := G.lo.form
    obtain ⟨ah, ch, rfl, -, -⟩ := G.ho.form
    clear G
    unfold millV
    have cD0 := D_2.c 0 rfl
    have cD1 := D_2.c 1 rfl
    have cD2 := D_2.c 2 rfl
    go_wp2_with fail
    refine calls_at fun wy hwy => ?_
    have C_y : RowL wy w2.heap.size 31 (millC (.slice aS m.store.length cs) (.slice ap m.pieces.length cp) (.slice al m.low.length cl) (.slice ah m.high.length ch) m) := by
      rw [hwy]
      first
        | exact RowL.new w2 31 (millC (.slice aS m.store.length cs) (.slice ap m.pieces.length cp) (.slice al m.low.length cl) (.slice ah m.high.length ch) m)
        | exact row12 (RowL.new w2 31 [.slice none 0 0, .int .i64 0, .int .i64 0, .int .i64 0, .int .i64 0, .int .i64 0, .int .i64 0, .int .i64 0, .slice none 0 0, .slice none 0 0, .slice none 0 0, .int .i64 0]) rfl _ _ _ _ _ _ _ _ _ _ _ _
    have hby : Below w2.heap.size w2 wy := by
      rw [hwy]
      first
        | exact (Below.refl _ _).alloc (Nat.le_refl _) _
        | exact ((Below.refl _ _).alloc (Nat.le_refl _) _).trans ((other12 w2.heap.size _ _ _ _ _ _ _ _ _ _ _ _ _).below (Nat.le_refl _) (by simp))
    have A_y := A_2.below hby A_2.lt
    have D_y := D_2.below hby D_2.lt
    have R_y := R_2.below hby R_2.lt
    have V_y := hide (V_2.out.below hby)
    have B_y := hide (Below.step B_2.out hby (Nat.le_refl _))
    have G_y := hide (G_2.out.below hby)
    have hzy := hby.size
    have hLy := C_y.lt
    have MB := hide (show MillBox w1.heap.size w2.heap.size wy (.slice aS m.store.length cs) (.slice ap m.pieces.length cp) (.slice al m.low.length cl) (.slice ah m.high.length ch) m from ⟨C_y, G_y.out, ⟨fun e => Nat.lt_irrefl _ (G_2.out.so.lt _ e).2, fun e => Nat.lt_irrefl _ (G_2.out.po.lt _ e).2, fun e => Nat.lt_irrefl _ (G_2.out.lo.lt _ e).2, fun e => Nat.lt_irrefl _ (G_2.out.ho.lt _ e).2⟩, hz2⟩)
    clear hwy hby
    have hpC : Value.ownBlock (.slice ap m.pieces.length cp) ≠ some w2.heap.size := MB.out.off.2.1
    have k3 := melt_spec a G_y.out (millB_iff.1 HV.out)
    unfold millV at k3
    obtain ⟨o, ho⟩ : ∃ o, meltD m a = o := ⟨_, rfl⟩
    rw [ho] at k3 hD
    clear ho
    rcases o with _ | x
    · have HZ := hide (show doR m ⟨0, a, b⟩ = (m, false) from hD)
      clear hD cD0 cD1 cD2
      refine k3.mono ?_
      clear k3
      rintro e w4 ⟨⟨s4, p4, l4, h4, he, G, hb⟩, hrow⟩
      have he : e = .returned (.tuple #[millV s4 p4 l4 h4 m, .bool false]) := he
      have G : MillGot w1.heap.size w4 s4 p4 l4 h4 m := G
      subst he
      have C_4 := hrow _ _ _ C_y hpC
      have A_4 := A_y.below hb (by omega)
      have R_4 := R_y.below hb (by omega)
      have V_4 := hide (V_y.out.low_keep hb (by omega))
      have B_4 := hide (B_y.out.trans (hb.mono (by omega)))
      have hz4 := hb.size
      have hL4 := C_4.lt
      clear hb hrow
      have G_4 := hide G
      obtain ⟨aS4, cs4, rfl, -, -⟩ := G.so.form
      obtain ⟨ap4, cp4, rfl, -, -⟩ := G.po.form
      obtain ⟨al4, cl4, rfl, -, -⟩ := G.lo.form
      obtain ⟨ah4, ch4, rfl, -, -⟩ := G.ho.form
      clear G
      unfold millV
      obtain ⟨cC0, cC1, cC2, cC3, cC4, cC5, cC6, cC7, cC8, cC9, cC10, cC11⟩ := row12_c C_4
      obtain ⟨fC0, fC1, fC2, fC3, fC4, fC5, fC6, fC7, fC8, fC9, fC10, fC11⟩ := row12_f C_4
      obtain ⟨cA0, cA1, cA2, cA3, cA4, cA5, cA6, cA7, cA8, cA9, cA10, cA11⟩ := row12_c A_4
      go_wp2_with fail
      refine calls_at fun wz hwz => ?_
      have TZ : Other w2.heap.size (w2.heap.size + 1) w4 wz := by rw [hwz]; exact other12 _ _ _ _ _ _ _ _ _ _ _ _ _ _
      have R_z := R_4.other TZ (by omega)
      have V_z := hide (V_4.out.other TZ (by omega))
      have B_z := hide (B_4.out.trans (TZ.below (B := w.heap.size) (by omega) B_4.out.size))
      have hzz := TZ.size
      clear hwz TZ cA0 cA1 cA2 cA3 cA4 cA5 cA6 cA7 cA8 cA9 cA10 cA11 cC0 cC1 cC2 cC3 cC4 cC5 cC6 cC7 cC8 cC9 cC10 cC11 fC0 fC1 fC2 fC3 fC4 fC5 fC6 fC7 fC8 fC9 fC10 fC11
      have k5 := l8Copy_any _ _ _ _ m wz V_z.out.all n1 n2 n3 n4
      unfold millV at k5
      refine k5.mono ?_
      clear k5
      rintro e w5 ⟨s5, p5, l5, h5, rfl, G, hb⟩
      have R_5 := R_z.below hb R_z.lt
      have B_5 := hide (Below.step B_z.out hb (Nat.le_refl _))
      clear hb
      have G_5 := hide G
      obtain ⟨aS5, cs5, rfl, -, -⟩ := G.so.form
      obtain ⟨ap5, cp5, rfl, -, -⟩ := G.po.form
      obtain ⟨al5, cl5, rfl, -, -⟩ := G.lo.form
      obtain ⟨ah5, ch5, rfl, -, -⟩ := G.ho.form
      clear G
      unfold millV
      obtain ⟨cR0, cR1, cR2, cR3, cR4, cR5, cR6, cR7, cR8, cR9, cR10, cR11⟩ := row12_c R_5
      obtain ⟨fR0, fR1, fR2, fR3, fR4, fR5, fR6, fR7, fR8, fR9, fR10, fR11⟩ := row12_f R_5
      go_wp2_with fail
      refine bodyPost_ret (by simp [results, Tryz.results45, go_sem, cR0, cR1, cR2, cR3, cR4, cR5, cR6, cR7, cR8, cR9, cR10, cR11]; try rfl) rfl ?_
      rw [HZ.out]
      exact ⟨_, _, _, _, rfl, put_got G_5.out B_5.out (by omega) (by omega) (Nat.le_refl _) _ _ _ _ _ _ _ _ _ _ _ _⟩
    · have HZ := hide (show doR m ⟨0, a, b⟩ = (x, true) from hD)
      clear hD cD0 cD1 cD2
      refine k3.mono ?_
      clear k3
      rintro e w4 ⟨⟨s4, p4, l4, h4, he, G, hb⟩, hrow⟩
      have he : e = .returned (.tuple #[millV s4 p4 l4 h4 x, .bool true]) := he
      have G : MillGot w1.heap.size w4 s4 p4 l4 h4 x := G
      subst he
      have C_4 := hrow _ _ _ C_y hpC
      have A_4 := A_y.below hb (by omega)
      have R_4 := R_y.below hb (by omega)
      have V_4 := hide (V_y.out.low_keep hb (by omega))
      have B_4 := hide (B_y.out.trans (hb.mono (by omega)))
      have hz4 := hb.size
      have hL4 := C_4.lt
      clear hb hrow
      have G_4 := hide G
      obtain ⟨aS4, cs4, rfl, -, -⟩ := G.so.form
      obtain ⟨ap4, cp4, rfl, -, -⟩ := G.po.form
      obtain ⟨al4, cl4, rfl, -, -⟩ := G.lo.form
      obtain ⟨ah4, ch4, rfl, -, -⟩ := G.ho.form
      clear G
      unfold millV
      obtain ⟨cC0, cC1, cC2, cC3, cC4, cC5, cC6, cC7, cC8, cC9, cC10, cC11⟩ := row12_c C_4
      obtain ⟨fC0, fC1, fC2, fC3, fC4, fC5, fC6, fC7, fC8, fC9, fC10, fC11⟩ := row12_f C_4
      go_upto_region 28 with fail
      obtain ⟨wz, hwz⟩ : ∃ wz : World, wz = ((((((((((((w4).setCell ⟨w2.heap.size, 0, none⟩ (.slice aS4 x.store.length cs4)).setCell ⟨w2.heap.size, 1, none⟩ (.int .i64 x.rule.lc)).setCell ⟨w2.heap.size, 2, none⟩ (.int .i64 x.rule.hc)).setCell ⟨w2.heap.size, 3, none⟩ (.int .i64 x.rule.lm)).setCell ⟨w2.heap.size, 4, none⟩ (.int .i64 x.rule.hm)).setCell ⟨w2.heap.size, 5, none⟩ (.int .i64 x.rule.ls)).setCell ⟨w2.heap.size, 6, none⟩ (.int .i64 x.rule.hs)).setCell ⟨w2.heap.size, 7, none⟩ (.int .i64 x.strand)).setCell ⟨w2.heap.size, 8, none⟩ (.slice ap4 x.pieces.length cp4)).setCell ⟨w2.heap.size, 9, none⟩ (.slice al4 x.low.length cl4)).setCell ⟨w2.heap.size, 10, none⟩ (.slice ah4 x.high.length ch4)).setCell ⟨w2.heap.size, 11, none⟩ (.int .i64 x.scrap) := ⟨_, rfl⟩
      rw [← hwz]
      have TZ : Other w2.heap.size (w2.heap.size + 1) w4 wz := by rw [hwz]; exact other12 _ _ _ _ _ _ _ _ _ _ _ _ _ _
      have C_z : RowL wz w2.heap.size 31 (millC (.slice aS4 x.store.length cs4) (.slice ap4 x.pieces.length cp4) (.slice al4 x.low.length cl4) (.slice ah4 x.high.length ch4) x) := by rw [hwz]; exact row12 C_4 rfl _ _ _ _ _ _ _ _ _ _ _ _
      have R_z := R_4.other TZ (by omega)
      have B_z := hide (B_4.out.trans (TZ.below (B := w.heap.size) (by omega) B_4.out.size))
      have G_z := hide (G_4.out.past C_4 TZ)
      clear hwz TZ cC0 cC1 cC2 cC3 cC4 cC5 cC6 cC7 cC8 cC9 cC10 cC11 fC0 fC1 fC2 fC3 fC4 fC5 fC6 fC7 fC8 fC9 fC10 fC11
      obtain ⟨cC0, cC1, cC2, cC3, cC4, cC5, cC6, cC7, cC8, cC9, cC10, cC11⟩ := row12_c C_z
      obtain ⟨cR0, cR1, cR2, cR3, cR4, cR5, cR6, cR7, cR8, cR9, cR10, cR11⟩ := row12_c R_z
      obtain ⟨fR0, fR1, fR2, fR3, fR4, fR5, fR6, fR7, fR8, fR9, fR10, fR11⟩ := row12_f R_z
      go_wp2_with fail
      refine bodyPost_ret (by simp [results, Tryz.results45, go_sem, cR0, cR1, cR2, cR3, cR4, cR5, cR6, cR7, cR8, cR9, cR10, cR11]; try rfl) rfl ?_
      rw [HZ.out]
      exact ⟨_, _, _, _, rfl, put_got G_z.out B_z.out (by omega) (by omega) (Nat.le_refl _) _ _ _ _ _ _ _ _ _ _ _ _⟩
set_option maxHeartbeats 16000000 in
theorem do_s1 (s p l h : Value) (m : Mi) (a b : Int) (w : World) (H : MillIn 0 w.heap.size w s p l h m) (ha : a ≤ 9223372036854775807) (hb : b ≤ 9223372036854775807) :
    Calls Tryz.prog 45 #[millV s p l h m, .agg #[.int .i64 1, .int .i64 a, .int .i64 b]] w (DoGot w.heap.size (doR m ⟨1, a, b⟩) w) := by
  obtain ⟨ao1, cap1, rfl, -, -, -, -⟩ := id H.store
  obtain ⟨ao2, cap2, rfl, -, -, -, -⟩ := id H.pieces
  obtain ⟨ao3, cap3, rfl, -, -, -, -⟩ := id H.low
  obtain ⟨ao4, cap4, rfl, -, -, -, -⟩ := id H.high
  have HM := hide H
  have HA := hide (And.intro ha hb)
  clear H ha hb
  unfold millV
  go_enter Tryz.func45, Tryz.ntmps45
  go_wp2_with fail
  refine calls_at fun wx hwx => ?_
  have A_0 : RowL wx (w.heap.size) 31 [.slice ao1 m.store.length cap1, .int .i64 m.rule.lc, .int .i64 m.rule.hc, .int .i64 m.rule.lm, .int .i64 m.rule.hm, .int .i64 m.rule.ls, .int .i64 m.rule.hs, .int .i64 m.strand, .slice ao2 m.pieces.length cap2, .slice ao3 m.low.length cap3, .slice ao4 m.high.length cap4, .int .i64 m.scrap] := by rw [hwx]; exact (((RowL.new _ 31 [.slice ao1 m.store.length cap1, .int .i64 m.rule.lc, .int .i64 m.rule.hc, .int .i64 m.rule.lm, .int .i64 m.rule.hm, .int .i64 m.rule.ls, .int .i64 m.rule.hs, .int .i64 m.strand, .slice ao2 m.pieces.length cap2, .slice ao3 m.low.length cap3, .slice ao4 m.high.length cap4, .int .i64 m.scrap]).alloc _).alloc _)
  have D_0 : RowL wx (w.heap.size + 1) 48 [.int .i64 1, .int .i64 a, .int .i64 b] := by rw [hwx]; simpa using ((RowL.new (World.alloc _ _) 48 [.int .i64 1, .int .i64 a, .int .i64 b]).alloc _)
  have R_0 : RowL wx (w.heap.size + 1 + 1) 31 [.slice none 0 0, .int .i64 0, .int .i64 0, .int .i64 0, .int .i64 0, .int .i64 0, .int .i64 0, .int .i64 0, .slice none 0 0, .slice none 0 0, .slice none 0 0, .int .i64 0] := by rw [hwx]; simpa using (RowL.new (World.alloc (World.alloc _ _) _) 31 [.slice none 0 0, .int .i64 0, .int .i64 0, .int .i64 0, .int .i64 0, .int .i64 0, .int .i64 0, .int .i64 0, .slice none 0 0, .slice none 0 0, .slice none 0 0, .int .i64 0])
  have B_0 : Below w.heap.size w wx := by rw [hwx]; go_grown
  clear hwx
  have hL0 := R_0.lt
  have V_0 := hide (HM.out.below B_0)
  have k1 := mill_spec _ _ _ _ m wx V_0.out.all
  unfold millV at k1
  cases hv : millB m with
  | false =>
    rw [hv] at k1
    have HZ := hide (do_bad hv ⟨1, a, b⟩)
    clear hv
    refine k1.mono ?_
    rintro e w1 ⟨rfl, hb⟩
    have R_1 := R_0.below hb R_0.lt
    have B_1 := hide (Below.step B_0 hb (Nat.le_refl _))
    clear hb k1
    obtain ⟨cR0, cR1, cR2, cR3, cR4, cR5, cR6, cR7, cR8, cR9, cR10, cR11⟩ := row12_c R_1
    obtain ⟨fR0, fR1, fR2, fR3, fR4, fR5, fR6, fR7, fR8, fR9, fR10, fR11⟩ := row12_f R_1
    go_wp2_with fail
    refine bodyPost_ret (by simp [results, Tryz.results45, go_sem, cR0, cR1, cR2, cR3, cR4, cR5, cR6, cR7, cR8, cR9, cR10, cR11]; try rfl) rfl ?_
    rw [HZ.out]
    exact ⟨_, _, _, _, rfl, zero_got B_1.out (Nat.le_refl _) (by omega) _ _ _ _ _ _ _ _ _ _ _ _⟩
  | true =>
    rw [hv] at k1
    obtain ⟨n1, n2, n3, n4⟩ := few_of hv
    have HV := hide hv
    have hD := do_good hv 1 a b
    rw [step_1] at hD
    clear hv
    refine k1.mono ?_
    rintro e w1 ⟨rfl, hb⟩
    have A_1 := A_0.below hb A_0.lt
    have D_1 := D_0.below hb D_0.lt
    have R_1 := R_0.below hb R_0.lt
    have V_1 := hide (V_0.out.below hb)
    have B_1 := hide (Below.step B_0 hb (Nat.le_refl _))
    have hz1 := hb.size
    clear hb k1
    obtain ⟨cA0, cA1, cA2, cA3, cA4, cA5, cA6, cA7, cA8, cA9, cA10, cA11⟩ := row12_c A_1
    go_wp2_with fail
    clear cA0 cA1 cA2 cA3 cA4 cA5 cA6 cA7 cA8 cA9 cA10 cA11
    have k2 := l8Copy_any _ _ _ _ m w1 V_1.out.all n1 n2 n3 n4
    unfold millV at k2
    refine k2.mono ?_
    clear k2
    rintro e w2 ⟨s2, p2, l2, h2, rfl, G, hb⟩
    have A_2 := A_1.below hb A_1.lt
    have D_2 := D_1.below hb D_1.lt
    have R_2 := R_1.below hb R_1.lt
    have V_2 := hide (V_1.out.below hb)
    have B_2 := hide (Below.step B_1.out hb (Nat.le_refl _))
    have hz2 := hb.size
    have hL2 := R_2.lt
    have hLD := D_2.lt
    have hLA := A_2.lt
    clear hb
    have G_2 := hide G
    obtain ⟨aS, cs, rfl, -, -⟩ := G.so.form
    obtain ⟨ap, cp, rfl, -, -⟩ := G.po.form
    obtain ⟨al, cl, rfl, -, -⟩ := G.lo.form
    obtain ⟨ah, ch, rfl, -, -⟩ := G.ho.form
    clear G
    unfold millV
    have cD0 := D_2.c 0 rfl
    have cD1 := D_2.c 1 rfl
    have cD2 := D_2.c 2 rfl
    go_wp2_with fail
    refine calls_at fun wy hwy => ?_
    have C_y : RowL wy w2.heap.size 31 (millC (.slice aS m.store.length cs) (.slice ap m.pieces.length cp) (.slice al m.low.length cl) (.slice ah m.high.length ch) m) := by
      rw [hwy]
      first
        | exact RowL.new w2 31 (millC (.slice aS m.store.length cs) (.slice ap m.pieces.length cp) (.slice al m.low.length cl) (.slice ah m.high.length ch) m)
        | exact row12 (RowL.new w2 31 [.slice none 0 0, .int .i64 0, .int .i64 0, .int .i64 0, .int .i64 0, .int .i64 0, .int .i64 0, .int .i64 0, .slice none 0 0, .slice none 0 0, .slice none 0 0, .int .i64 0]) rfl _ _ _ _ _ _ _ _ _ _ _ _
    have hby : Below w2.heap.size w2 wy := by
      rw [hwy]
      first
        | exact (Below.refl _ _).alloc (Nat.le_refl _) _
        | exact ((Below.refl _ _).alloc (Nat.le_refl _) _).trans ((other12 w2.heap.size _ _ _ _ _ _ _ _ _ _ _ _ _).below (Nat.le_refl _) (by simp))
    have A_y := A_2.below hby A_2.lt
    have D_y := D_2.below hby D_2.lt
    have R_y := R_2.below hby R_2.lt
    have V_y := hide (V_2.out.below hby)
    have B_y := hide (Below.step B_2.out hby (Nat.le_refl _))
    have G_y := hide (G_2.out.below hby)
    have hzy := hby.size
    have hLy := C_y.lt
    have MB := hide (show MillBox w1.heap.size w2.heap.size wy (.slice aS m.store.length cs) (.slice ap m.pieces.length cp) (.slice al m.low.length cl) (.slice ah m.high.length ch) m from ⟨C_y, G_y.out, ⟨fun e => Nat.lt_irrefl _ (G_2.out.so.lt _ e).2, fun e => Nat.lt_irrefl _ (G_2.out.po.lt _ e).2, fun e => Nat.lt_irrefl _ (G_2.out.lo.lt _ e).2, fun e => Nat.lt_irrefl _ (G_2.out.ho.lt _ e).2⟩, hz2⟩)
    clear hwy hby
    have hpC : Value.ownBlock (.slice ap m.pieces.length cp) ≠ some w2.heap.size := MB.out.off.2.1
    have k3 := cut_spec a b G_y.out (millB_iff.1 HV.out)
    unfold millV at k3
    obtain ⟨o, ho⟩ : ∃ o, cutD m a b = o := ⟨_, rfl⟩
    rw [ho] at k3 hD
    clear ho
    rcases o with _ | x
    · have HZ := hide (show doR m ⟨1, a, b⟩ = (m, false) from hD)
      clear hD cD0 cD1 cD2
      refine k3.mono ?_
      clear k3
      rintro e w4 ⟨⟨s4, p4, l4, h4, he, G, hb⟩, hrow⟩
      have he : e = .returned (.tuple #[millV s4 p4 l4 h4 m, .bool false]) := he
      have G : MillGot w1.heap.size w4 s4 p4 l4 h4 m := G
      subst he
      have C_4 := hrow _ _ _ C_y hpC
      have A_4 := A_y.below hb (by omega)
      have R_4 := R_y.below hb (by omega)
      have V_4 := hide (V_y.out.low_keep hb (by omega))
      have B_4 := hide (B_y.out.trans (hb.mono (by omega)))
      have hz4 := hb.size
      have hL4 := C_4.lt
      clear hb hrow
      have G_4 := hide G
      obtain ⟨aS4, cs4, rfl, -, -⟩ := G.so.form
      obtain ⟨ap4, cp4, rfl, -, -⟩ := G.po.form
      obtain ⟨al4, cl4, rfl, -, -⟩ := G.lo.form
      obtain ⟨ah4, ch4, rfl, -, -⟩ := G.ho.form
      clear G
      unfold millV
      obtain ⟨cC0, cC1, cC2, cC3, cC4, cC5, cC6, cC7, cC8, cC9, cC10, cC11⟩ := row12_c C_4
      obtain ⟨fC0, fC1, fC2, fC3, fC4, fC5, fC6, fC7, fC8, fC9, fC10, fC11⟩ := row12_f C_4
      obtain ⟨cA0, cA1, cA2, cA3, cA4, cA5, cA6, cA7, cA8, cA9, cA10, cA11⟩ := row12_c A_4
      go_wp2_with fail
      refine calls_at fun wz hwz => ?_
      have TZ : Other w2.heap.size (w2.heap.size + 1) w4 wz := by rw [hwz]; exact other12 _ _ _ _ _ _ _ _ _ _ _ _ _ _
      have R_z := R_4.other TZ (by omega)
      have V_z := hide (V_4.out.other TZ (by omega))
      have B_z := hide (B_4.out.trans (TZ.below (B := w.heap.size) (by omega) B_4.out.size))
      have hzz := TZ.size
      clear hwz TZ cA0 cA1 cA2 cA3 cA4 cA5 cA6 cA7 cA8 cA9 cA10 cA11 cC0 cC1 cC2 cC3 cC4 cC5 cC6 cC7 cC8 cC9 cC10 cC11 fC0 fC1 fC2 fC3 fC4 fC5 fC6 fC7 fC8 fC9 fC10 fC11
      have k5 := l8Copy_any _ _ _ _ m wz V_z.out.all n1 n2 n3 n4
      unfold millV at k5
      refine k5.mono ?_
      clear k5
      rintro e w5 ⟨s5, p5, l5, h5, rfl, G, hb⟩
      have R_5 := R_z.below hb R_z.lt
      have B_5 := hide (Below.step B_z.out hb (Nat.le_refl _))
      clear hb
      have G_5 := hide G
      obtain ⟨aS5, cs5, rfl, -, -⟩ := G.so.form
      obtain ⟨ap5, cp5, rfl, -, -⟩ := G.po.form
      obtain ⟨al5, cl5, rfl, -, -⟩ := G.lo.form
      obtain ⟨ah5, ch5, rfl, -, -⟩ := G.ho.form
      clear G
      unfold millV
      obtain ⟨cR0, cR1, cR2, cR3, cR4, cR5, cR6, cR7, cR8, cR9, cR10, cR11⟩ := row12_c R_5
      obtain ⟨fR0, fR1, fR2, fR3, fR4, fR5, fR6, fR7, fR8, fR9, fR10, fR11⟩ := row12_f R_5
      go_wp2_with fail
      refine bodyPost_ret (by simp [results, Tryz.results45, go_sem, cR0, cR1, cR2, cR3, cR4, cR5, cR6, cR7, cR8, cR9, cR10, cR11]; try rfl) rfl ?_
      rw [HZ.out]
      exact ⟨_, _, _, _, rfl, put_got G_5.out B_5.out (by omega) (by omega) (Nat.le_refl _) _ _ _ _ _ _ _ _ _ _ _ _⟩
    · have HZ := hide (show doR m ⟨1, a, b⟩ = (x, true) from hD)
      clear hD cD0 cD1 cD2
      refine k3.mono ?_
      clear k3
      rintro e w4 ⟨⟨s4, p4, l4, h4, he, G, hb⟩, hrow⟩
      have he : e = .returned (.tuple #[millV s4 p4 l4 h4 x, .bool true]) := he
      have G : MillGot w1.heap.size w4 s4 p4 l4 h4 x := G
      subst he
      have C_4 := hrow _ _ _ C_y hpC
      have A_4 := A_y.below hb (by omega)
      have R_4 := R_y.below hb (by omega)
      have V_4 := hide (V_y.out.low_keep hb (by omega))
      have B_4 := hide (B_y.out.trans (hb.mono (by omega)))
      have hz4 := hb.size
      have hL4 := C_4.lt
      clear hb hrow
      have G_4 := hide G
      obtain ⟨aS4, cs4, rfl, -, -⟩ := G.so.form
      obtain ⟨ap4, cp4, rfl, -, -⟩ := G.po.form
      obtain ⟨al4, cl4, rfl, -, -⟩ := G.lo.form
      obtain ⟨ah4, ch4, rfl, -, -⟩ := G.ho.form
      clear G
      unfold millV
      obtain ⟨cC0, cC1, cC2, cC3, cC4, cC5, cC6, cC7, cC8, cC9, cC10, cC11⟩ := row12_c C_4
      obtain ⟨fC0, fC1, fC2, fC3, fC4, fC5, fC6, fC7, fC8, fC9, fC10, fC11⟩ := row12_f C_4
      go_upto_region 28 with fail
      obtain ⟨wz, hwz⟩ : ∃ wz : World, wz = ((((((((((((w4).setCell ⟨w2.heap.size, 0, none⟩ (.slice aS4 x.store.length cs4)).setCell ⟨w2.heap.size, 1, none⟩ (.int .i64 x.rule.lc)).setCell ⟨w2.heap.size, 2, none⟩ (.int .i64 x.rule.hc)).setCell ⟨w2.heap.size, 3, none⟩ (.int .i64 x.rule.lm)).setCell ⟨w2.heap.size, 4, none⟩ (.int .i64 x.rule.hm)).setCell ⟨w2.heap.size, 5, none⟩ (.int .i64 x.rule.ls)).setCell ⟨w2.heap.size, 6, none⟩ (.int .i64 x.rule.hs)).setCell ⟨w2.heap.size, 7, none⟩ (.int .i64 x.strand)).setCell ⟨w2.heap.size, 8, none⟩ (.slice ap4 x.pieces.length cp4)).setCell ⟨w2.heap.size, 9, none⟩ (.slice al4 x.low.length cl4)).setCell ⟨w2.heap.size, 10, none⟩ (.slice ah4 x.high.length ch4)).setCell ⟨w2.heap.size, 11, none⟩ (.int .i64 x.scrap) := ⟨_, rfl⟩
      rw [← hwz]
      have TZ : Other w2.heap.size (w2.heap.size + 1) w4 wz := by rw [hwz]; exact other12 _ _ _ _ _ _ _ _ _ _ _ _ _ _
      have C_z : RowL wz w2.heap.size 31 (millC (.slice aS4 x.store.length cs4) (.slice ap4 x.pieces.length cp4) (.slice al4 x.low.length cl4) (.slice ah4 x.high.length ch4) x) := by rw [hwz]; exact row12 C_4 rfl _ _ _ _ _ _ _ _ _ _ _ _
      have R_z := R_4.other TZ (by omega)
      have B_z := hide (B_4.out.trans (TZ.below (B := w.heap.size) (by omega) B_4.out.size))
      have G_z := hide (G_4.out.past C_4 TZ)
      clear hwz TZ cC0 cC1 cC2 cC3 cC4 cC5 cC6 cC7 cC8 cC9 cC10 cC11 fC0 fC1 fC2 fC3 fC4 fC5 fC6 fC7 fC8 fC9 fC10 fC11
      obtain ⟨cC0, cC1, cC2, cC3, cC4, cC5, cC6, cC7, cC8, cC9, cC10, cC11⟩ := row12_c C_z
      obtain ⟨cR0, cR1, cR2, cR3, cR4, cR5, cR6, cR7, cR8, cR9, cR10, cR11⟩ := row12_c R_z
      obtain ⟨fR0, fR1, fR2, fR3, fR4, fR5, fR6, fR7, fR8, fR9, fR10, fR11⟩ := row12_f R_z
      go_wp2_with fail
      refine bodyPost_ret (by simp [results, Tryz.results45, go_sem, cR0, cR1, cR2, cR3, cR4, cR5, cR6, cR7, cR8, cR9, cR10, cR11]; try rfl) rfl ?_
      rw [HZ.out]
      exact ⟨_, _, _, _, rfl, put_got G_z.out B_z.out (by omega) (by omega) (Nat.le_refl _) _ _ _ _ _ _ _ _ _ _ _ _⟩
end Go.Proofs.YtmemgbklgcjobaaGreatDoor
