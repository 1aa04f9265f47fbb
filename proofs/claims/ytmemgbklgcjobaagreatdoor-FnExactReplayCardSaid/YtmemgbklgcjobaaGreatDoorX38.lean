/-
  Parts of the proofs over mills, of: DoS4. Conditions: each theorem states its own.
-/
import Derived.Test.YtmemgbklgcjobaaGreatDoorX30
import Derived.Test.YtmemgbklgcjobaaGreatDoorX32
set_option linter.unusedSimpArgs false
set_option linter.unusedVariables false
set_option maxRecDepth 10000
namespace Go.Proofs.YtmemgbklgcjobaaGreatDoor
open Go.RowKit
set_option maxHeartbeats 16000000 in
theorem do_s4 (s p l h : Value) (m : Mi) (a b : Int) (w : World) (H : MillIn 0 w.heap.size w s p l h m) (ha : a ≤ 9223372036854775807) (hb : b ≤ 9223372036854775807) :
    Calls Tryz.prog 45 #[millV s p l h m, .agg #[.int .i64 4, .int .i64 a, .int .i64 b]] w (DoGot w.heap.size (doR m ⟨4, a, b⟩) w) := by
  obtain ⟨ao1, cap1, rfl, -, -, -, -⟩ := id H.store
  obtain ⟨ao2, cap2, rfl, -, -, -, -⟩ := id H.pieces
  obtain ⟨ao3, cap3, rfl, -, -, -, -⟩ := id H.low
  obtain ⟨ao4, cap4, rfl, -, -, -, -⟩ := id H.high
  have HM := hide H
  have HA := hide (And.intro ha hb)
  clear H ha hb
  unfold millV
  go_enter Tryz.func45, Tryz.ntmps45
  go_wp2_with fail
  refine calls_at fun wx hwx => ?_
  have A_0 : RowL wx (w.heap.size) 31 [.slice ao1 m.store.length cap1, .int .i64 m.rule.lc, .int .i64 m.rule.hc, .int .i64 m.rule.lm, .int .i64 m.rule.hm, .int .i64 m.rule.ls, .int .i64 m.rule.hs, .int .i64 m.strand, .slice ao2 m.pieces.length cap2, .slice ao3 m.low.length cap3, .slice ao4 m.high.length cap4, .int .i64 m.scrap] := by rw [hwx]; exact (((RowL.new _ 31 [.slice ao1 m.store.length cap1, .int .i64 m.rule.lc, .int .i64 m.rule.hc, .int .i64 m.rule.lm, .int .i64 m.rule.hm, .int .i64 m.rule.ls, .int .i64 m.rule.hs, .int .i64 m.strand, .slice ao2 m.pieces.length cap2, .slice ao3 m.low.length cap3, .slice ao4 m.high.length cap4, .int .i64 m.scrap]).alloc _).alloc _)
  have D_0 : RowL wx (w.heap.size + 1) 48 [.int .i64 4, .int .i64 a, .int .i64 b] := by rw [hwx]; simpa using ((RowL.new (World.alloc _ _) 48 [.int .i64 4, .int .i64 a, .int .i64 b]).alloc _)
  have R_0 : RowL wx (w.heap.size + 1 + 1) 31 [.slice none 0 0, .int .i64 0, .int .i64 0, .int .i64 0, .int .i64 0, .int .i64 0, .int .i64 0, .int .i64 0, .slice none 0 0, .slice none 0 0, .slice none 0 0, .int .i64 0] := by rw [hwx]; simpa using (RowL.new (World.alloc (World.alloc _ _) _) 31 [.slice none 0 0, .int .i64 0, .int .i64 0, .int .i64 0, .int .i64 0, .int .i64 0, .int .i64 0, .int .i64 0, .slice none 0 0, .slice none 0 0, .slice none 0 0, .int .i64 0])
  have B_0 : Below w.heap.size w wx := by rw [hwx]; go_grown
  clear hwx
  have hL0 := R_0.lt
  have V_0 := hide (HM.out.below B_0)
  have k1 := mill_spec _ _ _ _ m wx V_0.out.all
  unfold millV at k1
  cases hv : millB m with
  | false =>
    rw [hv] at k1
    have HZ := hide (do_bad hv ⟨4, a, b⟩)
    clear hv
    refine k1.mono ?_
    rintro e w1 ⟨rfl, hb⟩
    have R_1 := R_0.below hb R_0.lt
    have B_1 := hide (Below.step B_0 hb (Nat.le_refl _))
    clear hb k1
    obtain ⟨cR0, cR1, cR2, cR3, cR4, cR5, cR6, cR7, cR8, cR9, cR10, cR11⟩ := row12_c R_1
    obtain ⟨fR0, fR1, fR2, fR3, fR4, fR5, fR6, fR7, fR8, fR9, fR10, fR11⟩ := row12_f R_1
    go_wp2_with fail
    refine bodyPost_ret (by simp [results, Tryz.results45, go_sem, cR0, cR1, cR2, cR3, cR4, cR5, cR6, cR7, cR8, cR9, cR10, cR11]; try rfl) rfl ?_
    rw [HZ.out]
    exact ⟨_, _, _, _, rfl, zero_got B_1.out (Nat.le_refl _) (by omega) _ _ _ _ _ _ _ _ _ _ _ _⟩
  | true =>
    rw [hv] at k1
    obtain ⟨n1, n2, n3, n4⟩ := few_of hv
    have HV := hide hv
    have hD := do_good hv 4 a b
    rw [step_4] at hD
    clear hv
    refine k1.mono ?_
    rintro e w1 ⟨rfl, hb⟩
    have A_1 := A_0.below hb A_0.lt
    have D_1 := D_0.below hb D_0.lt
    have R_1 := R_0.below hb R_0.lt
    have V_1 := hide (V_0.out.below hb)
    have B_1 := hide (Below.step B_0 hb (Nat.le_refl _))
    have hz1 := hb.size
    clear hb k1
    obtain ⟨cA0, cA1, cA2, cA3, cA4, cA5, cA6, cA7, cA8, cA9, cA10, cA11⟩ := row12_c A_1
    go_wp2_with fail
    clear cA0 cA1 cA2 cA3 cA4 cA5 cA6 cA7 cA8 cA9 cA10 cA11
    have k2 := l8Copy_any _ _ _ _ m w1 V_1.out.all n1 n2 n3 n4
    unfold millV at k2
    refine k2.mono ?_
    clear k2
    rintro e w2 ⟨s2, p2, l2, h2, rfl, G, hb⟩
    have A_2 := A_1.below hb A_1.lt
    have D_2 := D_1.below hb D_1.lt
    have R_2 := R_1.below hb R_1.lt
    have V_2 := hide (V_1.out.below hb)
    have B_2 := hide (Below.step B_1.out hb (Nat.le_refl _))
    have hz2 := hb.size
    have hL2 := R_2.lt
    have hLD := D_2.lt
    have hLA := A_2.lt
    clear hb
    have G_2 := hide G
    obtain ⟨aS, cs, rfl, -, -⟩ := G.so.form
    obtain ⟨ap, cp, rfl, -, -⟩ := G.po.form
    obtain ⟨al, cl, rfl, -, -⟩ := G.lo.form
    obtain ⟨ah, ch, rfl, -, -⟩ := G.ho.form
    clear G
    unfold millV
    have cD0 := D_2.c 0 rfl
    have cD1 := D_2.c 1 rfl
    have cD2 := D_2.c 2 rfl
    obtain ⟨cA0, cA1, cA2, cA3, cA4, cA5, cA6, cA7, cA8, cA9, cA10, cA11⟩ := row12_c A_2
    go_wp2_with fail
    refine calls_at fun wy hwy => ?_
    have C_y : RowL wy w2.heap.size 31 (millC (.slice aS m.store.length cs) (.slice ap m.pieces.length cp) (.slice al m.low.length cl) (.slice ah m.high.length ch) m) := by
      rw [hwy]
      first
        | exact RowL.new w2 31 (millC (.slice aS m.store.length cs) (.slice ap m.pieces.length cp) (.slice al m.low.length cl) (.slice ah m.high.length ch) m)
        | exact row12 (RowL.new w2 31 [.slice none 0 0, .int .i64 0, .int .i64 0, .int .i64 0, .int .i64 0, .int .i64 0, .int .i64 0, .int .i64 0, .slice none 0 0, .slice none 0 0, .slice none 0 0, .int .i64 0]) rfl _ _ _ _ _ _ _ _ _ _ _ _
    have hby : Below w2.heap.size w2 wy := by
      rw [hwy]
      first
        | exact (Below.refl _ _).alloc (Nat.le_refl _) _
        | exact ((Below.refl _ _).alloc (Nat.le_refl _) _).trans ((other12 w2.heap.size _ _ _ _ _ _ _ _ _ _ _ _ _).below (Nat.le_refl _) (by simp))
    have A_y := A_2.below hby A_2.lt
    have D_y := D_2.below hby D_2.lt
    have R_y := R_2.below hby R_2.lt
    have V_y := hide (V_2.out.below hby)
    have B_y := hide (Below.step B_2.out hby (Nat.le_refl _))
    have G_y := hide (G_2.out.below hby)
    have hzy := hby.size
    have hLy := C_y.lt
    have MB := hide (show MillBox w1.heap.size w2.heap.size wy (.slice aS m.store.length cs) (.slice ap m.pieces.length cp) (.slice al m.low.length cl) (.slice ah m.high.length ch) m from ⟨C_y, G_y.out, ⟨fun e => Nat.lt_irrefl _ (G_2.out.so.lt _ e).2, fun e => Nat.lt_irrefl _ (G_2.out.po.lt _ e).2, fun e => Nat.lt_irrefl _ (G_2.out.lo.lt _ e).2, fun e => Nat.lt_irrefl _ (G_2.out.ho.lt _ e).2⟩, hz2⟩)
    clear hwy hby
    have M_y := hide MB.out
    clear cA0 cA1 cA2 cA3 cA4 cA5 cA6 cA7 cA8 cA9 cA10 cA11 cD0 cD1 cD2
    have k3 := find_spec (.slice ao3 m.low.length cap3) (.slice ao4 m.high.length cap4) m.low m.high a wy (V_y.out.all.low) (V_y.out.all.high)
    unfold pileV at k3
    cases hf : findR m.low m.high a with
    | none =>
      rw [hf] at k3
      unfold findV at k3
      rw [shipD_no1 hf] at hD
      have HZ := hide (show doR m ⟨4, a, b⟩ = (m, false) from hD)
      clear hf hD
      refine k3.mono ?_
      clear k3
      rintro e w4 ⟨rfl, hb⟩
      have A_4 := A_y.below hb A_y.lt
      have D_4 := D_y.below hb D_y.lt
      have R_4 := R_y.below hb R_y.lt
      have V_4 := hide (V_y.out.below hb)
      have B_4 := hide (Below.step B_y.out hb (Nat.le_refl _))
      have M_4 := hide (M_y.out.below hb)
      have hz4 := hb.size
      clear hb
      obtain ⟨cA0, cA1, cA2, cA3, cA4, cA5, cA6, cA7, cA8, cA9, cA10, cA11⟩ := row12_c A_4
      have cD0 := D_4.c 0 rfl
      have cD1 := D_4.c 1 rfl
      have cD2 := D_4.c 2 rfl
      have hLA4 := A_4.lt
      have hLD4 := D_4.lt
      go_wp2_with fail
      refine calls_at fun wz hwz => ?_
      have hb : Below w4.heap.size w4 wz := by
        rw [hwz]
        first
          | exact (Below.refl _ _).alloc (Nat.le_refl _) _
          | exact (((Below.refl _ _).alloc (Nat.le_refl _) _).setCell (by simp) _).setCell (by simp) _
      have A_z := A_4.below hb A_4.lt
      have D_z := D_4.below hb D_4.lt
      have R_z := R_4.below hb R_4.lt
      have V_z := hide (V_4.out.below hb)
      have B_z := hide (Below.step B_4.out hb (Nat.le_refl _))
      have M_z := hide (M_4.out.below hb)
      have hzz := hb.size
      clear hb hwz cA0 cA1 cA2 cA3 cA4 cA5 cA6 cA7 cA8 cA9 cA10 cA11 cD0 cD1 cD2
      obtain ⟨⟨q, x⟩, hQ⟩ : ∃ Q, takeR m.low m.high false 0 = Q := ⟨_, rfl⟩
      have hlt2 := takeP_spec (.slice ao3 m.low.length cap3) (.slice ao4 m.high.length cap4) m.low m.high false 0 wz (V_z.out.all.low) (V_z.out.all.high)
      rw [hQ] at hlt2
      unfold pileV at hlt2
      refine hlt2.mono ?_
      clear hlt2
      rintro e w6 ⟨lx, hx, rfl, own, hb⟩
      have A_6 := A_z.below hb A_z.lt
      have D_6 := D_z.below hb D_z.lt
      have R_6 := R_z.below hb R_z.lt
      have V_6 := hide (V_z.out.below hb)
      have B_6 := hide (Below.step B_z.out hb (Nat.le_refl _))
      have M_6 := hide (M_z.out.below hb)
      have hz6 := hb.size
      have hLA6 := A_6.lt
      have hLD6 := D_6.lt
      have hLR6 := R_6.lt
      have hLM6 := M_6.out.row.lt
      have G_6 := hide (M_z.out.got.yard hb (Nat.le_refl _) own)
      have O_6 := hide (notIn_new M_z.out.off (show w2.heap.size < wz.heap.size from M_z.out.row.lt) own)
      obtain ⟨alx, clx, rfl, -, -⟩ := own.lo.form
      obtain ⟨ahx, chx, rfl, -, -⟩ := own.ho.form
      clear hb
      simp only [pileV]
      obtain ⟨cA0, cA1, cA2, cA3, cA4, cA5, cA6, cA7, cA8, cA9, cA10, cA11⟩ := row12_c A_6
      have cD0 := D_6.c 0 rfl
      have cD1 := D_6.c 1 rfl
      have cD2 := D_6.c 2 rfl
      clear own
      go_wp2_with fail
      refine calls_at fun wf hwf => ?_
      have hb : Below w6.heap.size w6 wf := by
        rw [hwf]
        first
          | exact (Below.refl _ _).alloc (Nat.le_refl _) _
          | exact (((Below.refl _ _).alloc (Nat.le_refl _) _).setCell (by simp) _).setCell (by simp) _
      have A_f := A_6.below hb A_6.lt
      have D_f := D_6.below hb D_6.lt
      have R_f := R_6.below hb R_6.lt
      have V_f := hide (V_6.out.below hb)
      have B_f := hide (Below.step B_6.out hb (Nat.le_refl _))
      have M_f := hide (M_6.out.below hb)
      have hzf := hb.size
      clear hb hwf cA0 cA1 cA2 cA3 cA4 cA5 cA6 cA7 cA8 cA9 cA10 cA11 cD0 cD1 cD2
      have k5 := l8Copy_any _ _ _ _ m wf V_f.out.all n1 n2 n3 n4
      unfold millV at k5
      refine k5.mono ?_
      clear k5
      rintro e w5 ⟨s5, p5, l5, h5, rfl, G, hb⟩
      have R_5 := R_f.below hb R_f.lt
      have B_5 := hide (Below.step B_f.out hb (Nat.le_refl _))
      clear hb
      have G_5 := hide G
      obtain ⟨aS5, cs5, rfl, -, -⟩ := G.so.form
      obtain ⟨ap5, cp5, rfl, -, -⟩ := G.po.form
      obtain ⟨al5, cl5, rfl, -, -⟩ := G.lo.form
      obtain ⟨ah5, ch5, rfl, -, -⟩ := G.ho.form
      clear G
      unfold millV
      obtain ⟨cR0, cR1, cR2, cR3, cR4, cR5, cR6, cR7, cR8, cR9, cR10, cR11⟩ := row12_c R_5
      obtain ⟨fR0, fR1, fR2, fR3, fR4, fR5, fR6, fR7, fR8, fR9, fR10, fR11⟩ := row12_f R_5
      go_wp2_with fail
      refine bodyPost_ret (by simp [results, Tryz.results45, go_sem, cR0, cR1, cR2, cR3, cR4, cR5, cR6, cR7, cR8, cR9, cR10, cR11]; try rfl) rfl ?_
      rw [HZ.out]
      exact ⟨_, _, _, _, rfl, put_got G_5.out B_5.out (by omega) (by omega) (Nat.le_refl _) _ _ _ _ _ _ _ _ _ _ _ _⟩
    | some tp =>
      obtain ⟨t, pl⟩ := tp
      rw [hf] at k3
      unfold findV at k3
      have HF := hide hf
      clear hf
      refine k3.mono ?_
      clear k3
      rintro e w4 ⟨rfl, hb⟩
      have A_4 := A_y.below hb A_y.lt
      have D_4 := D_y.below hb D_y.lt
      have R_4 := R_y.below hb R_y.lt
      have V_4 := hide (V_y.out.below hb)
      have B_4 := hide (Below.step B_y.out hb (Nat.le_refl _))
      have M_4 := hide (M_y.out.below hb)
      have hz4 := hb.size
      clear hb
      obtain ⟨cA0, cA1, cA2, cA3, cA4, cA5, cA6, cA7, cA8, cA9, cA10, cA11⟩ := row12_c A_4
      have cD0 := D_4.c 0 rfl
      have cD1 := D_4.c 1 rfl
      have cD2 := D_4.c 2 rfl
      have hLA4 := A_4.lt
      have hLD4 := D_4.lt
      go_wp2_with fail
      refine calls_at fun wz hwz => ?_
      have hb : Below w4.heap.size w4 wz := by
        rw [hwz]
        first
          | exact (Below.refl _ _).alloc (Nat.le_refl _) _
          | exact (((Below.refl _ _).alloc (Nat.le_refl _) _).setCell (by simp) _).setCell (by simp) _
      have A_z := A_4.below hb A_4.lt
      have D_z := D_4.below hb D_4.lt
      have R_z := R_4.below hb R_4.lt
      have V_z := hide (V_4.out.below hb)
      have B_z := hide (Below.step B_4.out hb (Nat.le_refl _))
      have M_z := hide (M_4.out.below hb)
      have hzz := hb.size
      clear hb hwz cA0 cA1 cA2 cA3 cA4 cA5 cA6 cA7 cA8 cA9 cA10 cA11 cD0 cD1 cD2
      obtain ⟨⟨q, x⟩, hQ⟩ : ∃ Q, takeR m.low m.high t pl = Q := ⟨_, rfl⟩
      have hlt2 := takeP_spec (.slice ao3 m.low.length cap3) (.slice ao4 m.high.length cap4) m.low m.high t pl wz (V_z.out.all.low) (V_z.out.all.high)
      rw [hQ] at hlt2
      unfold pileV at hlt2
      refine hlt2.mono ?_
      clear hlt2
      rintro e w6 ⟨lx, hx, rfl, own, hb⟩
      have A_6 := A_z.below hb A_z.lt
      have D_6 := D_z.below hb D_z.lt
      have R_6 := R_z.below hb R_z.lt
      have V_6 := hide (V_z.out.below hb)
      have B_6 := hide (Below.step B_z.out hb (Nat.le_refl _))
      have M_6 := hide (M_z.out.below hb)
      have hz6 := hb.size
      have hLA6 := A_6.lt
      have hLD6 := D_6.lt
      have hLR6 := R_6.lt
      have hLM6 := M_6.out.row.lt
      have G_6 := hide (M_z.out.got.yard hb (Nat.le_refl _) own)
      have O_6 := hide (notIn_new M_z.out.off (show w2.heap.size < wz.heap.size from M_z.out.row.lt) own)
      obtain ⟨alx, clx, rfl, -, -⟩ := own.lo.form
      obtain ⟨ahx, chx, rfl, -, -⟩ := own.ho.form
      clear hb
      simp only [pileV]
      have HQ := hide hQ
      obtain ⟨hid1, hxx⟩ := found_take HF.out hQ
      clear hQ
      by_cases hx0 : x = a
      rotate_left
      · have hxa : (x == a) = false := by simpa using hx0
        rw [shipD_no2 (m := m) (id := a) HF.out (by rw [HQ.out]; have : x = 0 := by omega
                                                    rw [this])] at hD
        have HZ := hide (show doR m ⟨4, a, b⟩ = (m, false) from hD)
        clear hD hx0 hxx
        obtain ⟨cA0, cA1, cA2, cA3, cA4, cA5, cA6, cA7, cA8, cA9, cA10, cA11⟩ := row12_c A_6
        have cD0 := D_6.c 0 rfl
        have cD1 := D_6.c 1 rfl
        have cD2 := D_6.c 2 rfl
        clear own
        go_wp2_with fail
        refine calls_at fun wf hwf => ?_
        have hb : Below w6.heap.size w6 wf := by
          rw [hwf]
          first
            | exact (Below.refl _ _).alloc (Nat.le_refl _) _
            | exact (((Below.refl _ _).alloc (Nat.le_refl _) _).setCell (by simp) _).setCell (by simp) _
        have A_f := A_6.below hb A_6.lt
        have D_f := D_6.below hb D_6.lt
        have R_f := R_6.below hb R_6.lt
        have V_f := hide (V_6.out.below hb)
        have B_f := hide (Below.step B_6.out hb (Nat.le_refl _))
        have M_f := hide (M_6.out.below hb)
        have hzf := hb.size
        clear hb hwf cA0 cA1 cA2 cA3 cA4 cA5 cA6 cA7 cA8 cA9 cA10 cA11 cD0 cD1 cD2
        have k5 := l8Copy_any _ _ _ _ m wf V_f.out.all n1 n2 n3 n4
        unfold millV at k5
        refine k5.mono ?_
        clear k5
        rintro e w5 ⟨s5, p5, l5, h5, rfl, G, hb⟩
        have R_5 := R_f.below hb R_f.lt
        have B_5 := hide (Below.step B_f.out hb (Nat.le_refl _))
        clear hb
        have G_5 := hide G
        obtain ⟨aS5, cs5, rfl, -, -⟩ := G.so.form
        obtain ⟨ap5, cp5, rfl, -, -⟩ := G.po.form
        obtain ⟨al5, cl5, rfl, -, -⟩ := G.lo.form
        obtain ⟨ah5, ch5, rfl, -, -⟩ := G.ho.form
        clear G
        unfold millV
        obtain ⟨cR0, cR1, cR2, cR3, cR4, cR5, cR6, cR7, cR8, cR9, cR10, cR11⟩ := row12_c R_5
        obtain ⟨fR0, fR1, fR2, fR3, fR4, fR5, fR6, fR7, fR8, fR9, fR10, fR11⟩ := row12_f R_5
        go_wp2_with fail
        refine bodyPost_ret (by simp [results, Tryz.results45, go_sem, cR0, cR1, cR2, cR3, cR4, cR5, cR6, cR7, cR8, cR9, cR10, cR11]; try rfl) rfl ?_
        rw [HZ.out]
        exact ⟨_, _, _, _, rfl, put_got G_5.out B_5.out (by omega) (by omega) (Nat.le_refl _) _ _ _ _ _ _ _ _ _ _ _ _⟩
      · subst hx0
        rw [shipD_yes (m := m) HF.out HQ.out (by omega)] at hD
        have hs4 : shipD m x = some { m with low := q.1, high := q.2, pieces := setS m.pieces x 2 } := shipD_yes (m := m) HF.out HQ.out (by omega)
        obtain ⟨-, kk, rfl, hk, -⟩ := ship_ok (millB_iff.1 HV.out) hs4
        have HZ := hide (show doR m ⟨4, (kk : Int) + 1, b⟩ = ({ m with low := q.1, high := q.2, pieces := setS m.pieces ((kk : Int) + 1) 2 }, true) from hD)
        clear hD hs4 hxx
        have cD0 := D_6.c 0 rfl
        have cD1 := D_6.c 1 rfl
        have cD2 := D_6.c 2 rfl
        clear own
        go_upto_region 24 with fail
        obtain ⟨wv, hwv⟩ : ∃ wv : World, wv = w6.alloc (.cells #[.slice alx q.1.length clx, .slice ahx q.2.length chx] 29) := ⟨_, rfl⟩
        rw [← hwv]
        have hb : Below w6.heap.size w6 wv := by rw [hwv]; exact (Below.refl _ _).alloc (Nat.le_refl _) _
        have P_v : RowL wv w6.heap.size 29 [.slice alx q.1.length clx, .slice ahx q.2.length chx] := by rw [hwv]; exact RowL.new _ _ _
        have A_v := A_6.below hb A_6.lt
        have D_v := D_6.below hb D_6.lt
        have R_v := R_6.below hb R_6.lt
        have V_v := hide (V_6.out.below hb)
        have B_v := hide (Below.step B_6.out hb (Nat.le_refl _))
        have M_v := hide (M_6.out.below hb)
        have hzv := hb.size
        have G_v := hide (G_6.out.below hb)
        clear hb hwv cD0 cD1 cD2
        have hLP := P_v.lt
        have cP0 := P_v.c 0 rfl
        have cP1 := P_v.c 1 rfl
        have cC8 : wv.cell? ⟨w2.heap.size, 8, none⟩ = some (.slice ap m.pieces.length cp) := M_v.out.row.cell 8 (by simp [millC])
        have cC9 : wv.cell? ⟨w2.heap.size, 9, none⟩ = some (.slice al m.low.length cl) := M_v.out.row.cell 9 (by simp [millC])
        have cC10 : wv.cell? ⟨w2.heap.size, 10, none⟩ = some (.slice ah m.high.length ch) := M_v.out.row.cell 10 (by simp [millC])
        have fC9 := M_v.out.row.frozen 9
        have fC10 := M_v.out.row.frozen 10
        obtain ⟨g, cpx, hpf, hgb, hgz, hgc⟩ := got_block M_v.out.got (by omega)
        have hgB : g ≠ w2.heap.size := fun e => M_v.out.off.2.1 (by rw [hpf, e]; rfl)
        have hBg : w2.heap.size ≠ g := fun e => hgB e.symm
        have hgD : g ≠ w.heap.size + 1 := by omega
        have hDg : w.heap.size + 1 ≠ g := by omega
        have hRg : w.heap.size + 1 + 1 ≠ g := by omega
        have hgR : g ≠ w.heap.size + 1 + 1 := by omega
        have hDC : w.heap.size + 1 ≠ w2.heap.size := by omega
        have hCD : w2.heap.size ≠ w.heap.size + 1 := by omega
        cases hpf
        obtain ⟨hgc1, hgf1⟩ := hgc kk hk
        have hkI : (kk : Int) < (m.pieces.length : Int) := by omega
        have hk0 : (0 : Int) ≤ (kk : Int) := by omega
        have hsub : IntKind.i64.wrap ((kk : Int) + 1 - 1) = (kk : Int) := by rw [show (kk : Int) + 1 - 1 = (kk : Int) by omega]; exact IntWalk.i64_in _ (by omega)
        have cD0 := D_v.c 0 rfl
        have cD1 := D_v.c 1 rfl
        have cD2 := D_v.c 2 rfl
        go_upto_region 28 with fail
        obtain ⟨wz, hwz⟩ : ∃ wz : World, wz = ((wv.setCell ⟨w2.heap.size, 9, none⟩ (.slice alx q.1.length clx)).setCell ⟨w2.heap.size, 10, none⟩ (.slice ahx q.2.length chx)).setCell ⟨g, kk * 2 + 1, none⟩ (.int .i64 2) := ⟨_, rfl⟩
        rw [← hwz]
        obtain ⟨r1, k1, b1⟩ := box_set M_v.out.row G_v.out O_6.out M_v.out.hB (j := 9) (by simp [millC]) (.slice alx q.1.length clx)
        obtain ⟨r2, k2, b2⟩ := box_set r1 k1 O_6.out M_v.out.hB (j := 10) (by simp [millC]) (.slice ahx q.2.length chx)
        obtain ⟨k3, b3⟩ := got_state k2 (k := kk) hk (g := g) rfl 2
        have r3 := r2.other (lo := g) (hi := g + 1) ((Other.refl _ _ _).setCell (p := ⟨g, kk * 2 + 1, none⟩) (Nat.le_refl _) (Nat.lt_succ_self _) (.int .i64 2)) (by omega)
        have bb := (b1.trans b2).trans b3
        rw [← hwz] at r3 k3 bb
        have G_z := hide k3
        have B_z := hide (B_v.out.trans (bb.mono (by omega)))
        have R_z := R_v.below bb (by omega)
        have hzz := bb.size
        clear r1 k1 b1 r2 k2 b2 k3 b3 bb hwz cD0 cD1 cD2 cC8 cC9 cC10 fC9 fC10 cP0 cP1 hgc1 hgf1
        obtain ⟨cC0, cC1, cC2, cC3, cC4, cC5, cC6, cC7, cC8, cC9, cC10, cC11⟩ := row12_c r3
        obtain ⟨cR0, cR1, cR2, cR3, cR4, cR5, cR6, cR7, cR8, cR9, cR10, cR11⟩ := row12_c R_z
        obtain ⟨fR0, fR1, fR2, fR3, fR4, fR5, fR6, fR7, fR8, fR9, fR10, fR11⟩ := row12_f R_z
        go_wp2_with fail
        refine bodyPost_ret (by simp [results, Tryz.results45, go_sem, cR0, cR1, cR2, cR3, cR4, cR5, cR6, cR7, cR8, cR9, cR10, cR11]; try rfl) rfl ?_
        rw [HZ.out]
        exact ⟨_, _, _, _, rfl, put_got G_z.out B_z.out (by omega) (by omega) (Nat.le_refl _) _ _ _ _ _ _ _ _ _ _ _ _⟩
end Go.Proofs.YtmemgbklgcjobaaGreatDoor
