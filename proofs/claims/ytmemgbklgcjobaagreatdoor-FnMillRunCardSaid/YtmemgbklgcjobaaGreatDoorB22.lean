/-
  Parts of the proofs over mills, of: CoilL. Conditions: each theorem states its own.
-/
import Derived.Test.YtmemgbklgcjobaaGreatDoorB20
import Derived.Test.YtmemgbklgcjobaaGreatDoorB21
set_option linter.unusedSimpArgs false
set_option linter.unusedVariables false
set_option maxRecDepth 10000
namespace Go.Proofs.YtmemgbklgcjobaaGreatDoor
open Go.RowKit
theorem lift_bad {lo hi : List Int} {t t' : Bool} {p p' : Int} (h : pileB lo hi = false) : liftR lo hi t p t' p' = (([], []), false) := by simp [liftR, h]
theorem lift_same {lo hi : List Int} {t t' : Bool} {p p' : Int} (h : pileB lo hi = true) (h2 : (t == t' && p == p') = true) : liftR lo hi t p t' p' = ((lo, hi), false) := by unfold liftR; rw [if_pos h, if_pos h2]
theorem lift_none {lo hi lo2 hi2 : List Int} {t t' : Bool} {p p' c : Int} (h : pileB lo hi = true) (h2 : takeR lo hi t p = ((lo2, hi2), c)) (h3 : c = 0) : liftR lo hi t p t' p' = ((lo, hi), false) := by
  subst h3
  unfold liftR
  rw [if_pos h, h2]
  split <;> rfl
theorem lift_not {lo hi lo2 hi2 lo3 hi3 : List Int} {t t' : Bool} {p p' c : Int} (h : pileB lo hi = true) (h2 : takeR lo hi t p = ((lo2, hi2), c)) (h4 : putR lo2 hi2 t' p' c = ((lo3, hi3), false)) : liftR lo hi t p t' p' = ((lo, hi), false) := by
  unfold liftR
  rw [if_pos h, h2]
  simp only [h4]
  simp
theorem lift_yes {lo hi lo2 hi2 lo3 hi3 : List Int} {t t' : Bool} {p p' c : Int} (h : pileB lo hi = true) (h1 : ¬ (t == t' && p == p') = true) (h2 : takeR lo hi t p = ((lo2, hi2), c)) (h3 : ¬ c = 0) (h4 : putR lo2 hi2 t' p' c = ((lo3, hi3), true)) : liftR lo hi t p t' p' = ((lo3, hi3), true) := by
  unfold liftR
  rw [if_pos h, if_neg h1, h2]
  simp only [h4]
  simp [h3]
set_option maxHeartbeats 3200000 in
theorem lift_spec (l h : Value) (lo hi : List Int) (t : Bool) (p : Int) (t' : Bool) (p' : Int) (w : World) (Hl : IntsAt 0 w.heap.size w l lo) (Hh : IntsAt 0 w.heap.size w h hi) :
    Calls Tryz.prog 117 #[pileV l h, .agg #[.bool t, .int .i64 p, .bool t', .int .i64 p']] w (PileGot2 w.heap.size (liftR lo hi t p t' p').1 (.bool (liftR lo hi t p t' p').2) w) := by
  have HL := hide Hl
  have HH := hide Hh
  clear Hl Hh
  have hp := fun W => pile_spec l h lo hi W
  have hc := fun W H1 H2 n1 n2 => l6Copy_any l h lo hi W H1 H2 n1 n2
  have ht := fun W => takeP_spec l h lo hi t p W
  obtain ⟨⟨⟨lo2, hi2⟩, c⟩, hQ⟩ : ∃ Q, takeR lo hi t p = Q := ⟨_, rfl⟩
  rw [hQ] at ht
  have HQ := hide hQ
  clear hQ
  unfold pileV at hp hc ht ⊢
  have HP := hide hp
  have HC := hide hc
  have HT := hide ht
  clear hp hc ht
  go_enter Tryz.func117, Tryz.ntmps117
  go_wp2_with fail
  refine calls_at fun wx hwx => ?_
  have A_0 : RowL wx (w.heap.size) 29 [l, h] := by rw [hwx]; exact (((RowL.new _ 29 [l, h]).alloc _).alloc _)
  have S_0 : RowL wx (w.heap.size + 1) 132 [.bool t, .int .i64 p, .bool t', .int .i64 p'] := by rw [hwx]; simpa using ((RowL.new (World.alloc _ _) 132 [.bool t, .int .i64 p, .bool t', .int .i64 p']).alloc _)
  have R_0 : RowL wx (w.heap.size + 1 + 1) 29 [.slice none 0 0, .slice none 0 0] := by rw [hwx]; simpa using (RowL.new (World.alloc (World.alloc _ _) _) 29 [.slice none 0 0, .slice none 0 0])
  have B_0 : Below w.heap.size w wx := by rw [hwx]; go_grown
  clear hwx
  have hL0 := R_0.lt
  have VL_0 := hide (HL.out.below B_0)
  have VH_0 := hide (HH.out.below B_0)
  have k1 := HP.out wx ((VL_0.out).mono (Nat.le_refl _) (VL_0.out).lt (Nat.le_refl _)) ((VH_0.out).mono (Nat.le_refl _) (VH_0.out).lt (Nat.le_refl _))
  cases c1 : pileB lo hi with
  | false =>
    rw [c1] at k1
    have HZ := hide (lift_bad (t := t) (t' := t') (p := p) (p' := p') c1)
    clear c1
    refine (k1).mono ?_
    rintro e w1 ⟨rfl, hb⟩
    have A_1 := A_0.below hb A_0.lt
    have S_1 := S_0.below hb S_0.lt
    have R_1 := R_0.below hb R_0.lt
    have VL_1 := hide (VL_0.out.below hb)
    have VH_1 := hide (VH_0.out.below hb)
    have B_1 := hide (Below.step B_0 hb (Nat.le_refl _))
    have hz1 := hb.size
    clear hb
    have cR0 := R_1.c 0 rfl
    have cR1 := R_1.c 1 rfl
    have fR0 := R_1.frozen 0
    have fR1 := R_1.frozen 1
    clear k1
    go_wp2_with fail
    refine bodyPost_ret (by simp [results, Tryz.results117, go_sem, cR0, cR1]; try rfl) rfl ?_
    rw [HZ.out]
    exact ⟨_, _, rfl, pileOwn_nil (by have := (B_1.out).size; simpa [World.setCell] using this), ((B_1.out).setCell (by simp; omega) _).setCell (by simp; omega) _⟩
  | true =>
    rw [c1] at k1
    obtain ⟨n1, n2⟩ := pile_lens c1
    have C1 := hide c1
    clear c1
    refine (k1).mono ?_
    rintro e w1 ⟨rfl, hb⟩
    have A_1 := A_0.below hb A_0.lt
    have S_1 := S_0.below hb S_0.lt
    have R_1 := R_0.below hb R_0.lt
    have VL_1 := hide (VL_0.out.below hb)
    have VH_1 := hide (VH_0.out.below hb)
    have B_1 := hide (Below.step B_0 hb (Nat.le_refl _))
    have hz1 := hb.size
    clear hb
    have cA0 := A_1.c 0 rfl
    have cA1 := A_1.c 1 rfl
    have cS0 := S_1.c 0 rfl
    have cS1 := S_1.c 1 rfl
    have cS2 := S_1.c 2 rfl
    have cS3 := S_1.c 3 rfl
    clear k1
    go_wp2_with fail
    refine (HT.out w1 ((VL_1.out).mono (Nat.le_refl _) (VL_1.out).lt (Nat.le_refl _)) ((VH_1.out).mono (Nat.le_refl _) (VH_1.out).lt (Nat.le_refl _))).mono ?_
    rintro e w2 ⟨l2, h2, rfl, own, hb⟩
    have A_2 := A_1.below hb A_1.lt
    have S_2 := S_1.below hb S_1.lt
    have R_2 := R_1.below hb R_1.lt
    have VL_2 := hide (VL_1.out.below hb)
    have VH_2 := hide (VH_1.out.below hb)
    have B_2 := hide (Below.step B_1.out hb (Nat.le_refl _))
    have hz2 := hb.size
    clear hb
    have cA0 := A_2.c 0 rfl
    have cA1 := A_2.c 1 rfl
    have cS0 := S_2.c 0 rfl
    have cS1 := S_2.c 1 rfl
    have cS2 := S_2.c 2 rfl
    have cS3 := S_2.c 3 rfl
    have cR0 := R_2.c 0 rfl
    have cR1 := R_2.c 1 rfl
    have fR0 := R_2.frozen 0
    have fR1 := R_2.frozen 1
    simp only [pileV]
    have O_rT := hide own
    obtain ⟨alT, clT, rfl, -, -⟩ := own.lo.form
    obtain ⟨ahT, chT, rfl, -, -⟩ := own.ho.form
    clear own
    simp only []
    have hzT0 : w.heap.size + 1 + 1 + 1 ≤ w1.heap.size := R_1.lt
    have hzR2 := R_2.lt
    have hzA2 := A_2.lt
    have hzS2 := S_2.lt
    by_cases hc0 : c = 0
    · have HZ := hide (lift_none (t' := t') (p' := p') C1.out HQ.out hc0)
      subst hc0
      go_wp2_with fail
      refine calls_at fun wT hw4 => ?_
      have T_T : RowL wT w2.heap.size 29 [.slice alT lo2.length clT, .slice ahT hi2.length chT] := by rw [hw4]; exact RowL.new _ _ _
      have hb4 : Below w2.heap.size w2 wT := by rw [hw4]; exact (Below.refl _ _).alloc (Nat.le_refl _) _
      have A_T := A_2.below hb4 A_2.lt
      have S_T := S_2.below hb4 S_2.lt
      have R_T := R_2.below hb4 R_2.lt
      have VL_T := hide (VL_2.out.below hb4)
      have VH_T := hide (VH_2.out.below hb4)
      have B_T := hide (Below.step B_2.out hb4 (Nat.le_refl _))
      have O_T := hide (O_rT.out.below hb4 (Nat.le_refl _))
      clear hw4 hb4
      have hTT := T_T.lt
      have hzR := R_T.lt
      refine (HC.out wT ((VL_T.out).mono (Nat.le_refl _) (VL_T.out).lt (Nat.le_refl _)) ((VH_T.out).mono (Nat.le_refl _) (VH_T.out).lt (Nat.le_refl _)) n1 n2).mono ?_
      rintro e w3 ⟨lb, hb, rfl, own, hb⟩
      have A_3 := A_T.below hb A_T.lt
      have S_3 := S_T.below hb S_T.lt
      have R_3 := R_T.below hb R_T.lt
      have T_3 := T_T.below hb T_T.lt
      have VL_3 := hide (VL_T.out.below hb)
      have VH_3 := hide (VH_T.out.below hb)
      have B_3 := hide (Below.step B_T.out hb (Nat.le_refl _))
      have hz3 := hb.size
      clear hb
      have cA0 := A_3.c 0 rfl
      have cA1 := A_3.c 1 rfl
      have cR0 := R_3.c 0 rfl
      have cR1 := R_3.c 1 rfl
      have fR0 := R_3.frozen 0
      have fR1 := R_3.frozen 1
      simp only [pileV]
      have O_b := hide own
      obtain ⟨alb, clb, rfl, -, -⟩ := own.lo.form
      obtain ⟨ahb, chb, rfl, -, -⟩ := own.ho.form
      clear own
      have hzcb : w.heap.size + 1 + 1 + 1 ≤ wT.heap.size := hzR
      go_wp2_with fail
      refine bodyPost_ret (by simp [results, Tryz.results117, go_sem, cR0, cR1]; try rfl) rfl ?_
      rw [HZ.out]
      exact ⟨_, _, rfl, (O_b.out.other (((Other.refl (w.heap.size + 1 + 1) (w.heap.size + 1 + 1 + 1) w3).setCell (p := ⟨w.heap.size + 1 + 1, 0, none⟩) (Nat.le_refl _) (Nat.lt_succ_self _) _).setCell (p := ⟨w.heap.size + 1 + 1, 1, none⟩) (Nat.le_refl _) (Nat.lt_succ_self _) _) (by omega)).mono (by omega), ((B_3.out).setCell (by simp; omega) _).setCell (by simp; omega) _⟩
    have HC0 := hide hc0
    have hcB : (c == 0) = false := by simpa using hc0
    clear hc0
    by_cases hsm : (t == t' && p == p') = true
    · have HZ := hide (lift_same C1.out hsm)
      obtain ⟨e1, e2⟩ : t = t' ∧ p = p' := by simpa using hsm
      subst e1 e2
      clear hsm
      go_wp2_with fail
      refine calls_at fun wT hw4 => ?_
      have T_T : RowL wT w2.heap.size 29 [.slice alT lo2.length clT, .slice ahT hi2.length chT] := by rw [hw4]; exact RowL.new _ _ _
      have hb4 : Below w2.heap.size w2 wT := by rw [hw4]; exact (Below.refl _ _).alloc (Nat.le_refl _) _
      have A_T := A_2.below hb4 A_2.lt
      have S_T := S_2.below hb4 S_2.lt
      have R_T := R_2.below hb4 R_2.lt
      have VL_T := hide (VL_2.out.below hb4)
      have VH_T := hide (VH_2.out.below hb4)
      have B_T := hide (Below.step B_2.out hb4 (Nat.le_refl _))
      have O_T := hide (O_rT.out.below hb4 (Nat.le_refl _))
      clear hw4 hb4
      have hTT := T_T.lt
      have hzR := R_T.lt
      refine (HC.out wT ((VL_T.out).mono (Nat.le_refl _) (VL_T.out).lt (Nat.le_refl _)) ((VH_T.out).mono (Nat.le_refl _) (VH_T.out).lt (Nat.le_refl _)) n1 n2).mono ?_
      rintro e w3 ⟨la, ha, rfl, own, hb⟩
      have A_3 := A_T.below hb A_T.lt
      have S_3 := S_T.below hb S_T.lt
      have R_3 := R_T.below hb R_T.lt
      have T_3 := T_T.below hb T_T.lt
      have VL_3 := hide (VL_T.out.below hb)
      have VH_3 := hide (VH_T.out.below hb)
      have B_3 := hide (Below.step B_T.out hb (Nat.le_refl _))
      have hz3 := hb.size
      clear hb
      have cA0 := A_3.c 0 rfl
      have cA1 := A_3.c 1 rfl
      have cR0 := R_3.c 0 rfl
      have cR1 := R_3.c 1 rfl
      have fR0 := R_3.frozen 0
      have fR1 := R_3.frozen 1
      simp only [pileV]
      have O_a := hide own
      obtain ⟨ala, cla, rfl, -, -⟩ := own.lo.form
      obtain ⟨aha, cha, rfl, -, -⟩ := own.ho.form
      clear own
      have hzca : w.heap.size + 1 + 1 + 1 ≤ wT.heap.size := hzR
      go_wp2_with fail
      refine bodyPost_ret (by simp [results, Tryz.results117, go_sem, cR0, cR1]; try rfl) rfl ?_
      rw [HZ.out]
      exact ⟨_, _, rfl, (O_a.out.other (((Other.refl (w.heap.size + 1 + 1) (w.heap.size + 1 + 1 + 1) w3).setCell (p := ⟨w.heap.size + 1 + 1, 0, none⟩) (Nat.le_refl _) (Nat.lt_succ_self _) _).setCell (p := ⟨w.heap.size + 1 + 1, 1, none⟩) (Nat.le_refl _) (Nat.lt_succ_self _) _) (by omega)).mono (by omega), ((B_3.out).setCell (by simp; omega) _).setCell (by simp; omega) _⟩
    have HSM := hide hsm
    have hne : t = t' → ¬ p = p' := fun e1 e2 => hsm (by simp [e1, e2])
    clear hsm
    rcases Decidable.em (t = t') with htt | htt
    · have hpp := hne htt
      subst htt
      clear hne
      go_wp2_with fail
      refine calls_at fun wT hw4 => ?_
      have T_T : RowL wT w2.heap.size 29 [.slice alT lo2.length clT, .slice ahT hi2.length chT] := by rw [hw4]; exact RowL.new _ _ _
      have hb4 : Below w2.heap.size w2 wT := by rw [hw4]; exact (Below.refl _ _).alloc (Nat.le_refl _) _
      have A_T := A_2.below hb4 A_2.lt
      have S_T := S_2.below hb4 S_2.lt
      have R_T := R_2.below hb4 R_2.lt
      have VL_T := hide (VL_2.out.below hb4)
      have VH_T := hide (VH_2.out.below hb4)
      have B_T := hide (Below.step B_2.out hb4 (Nat.le_refl _))
      have O_T := hide (O_rT.out.below hb4 (Nat.le_refl _))
      clear hw4 hb4
      have hTT := T_T.lt
      clear hcB
      have hpt := put_spec (.slice alT lo2.length clT) (.slice ahT hi2.length chT) lo2 hi2 t p' c wT O_T.out.low0 O_T.out.high0
      unfold pileV at hpt
      obtain ⟨⟨⟨lo3, hi3⟩, ok⟩, hQ2⟩ : ∃ Q, putR lo2 hi2 t p' c = Q := ⟨_, rfl⟩
      rw [hQ2] at hpt
      have HQ2 := hide hQ2
      clear hQ2
      refine (hpt).mono ?_
      rintro e w3 ⟨l3, h3, rfl, own, hb⟩
      have A_3 := A_T.below hb A_T.lt
      have S_3 := S_T.below hb S_T.lt
      have R_3 := R_T.below hb R_T.lt
      have T_3 := T_T.below hb T_T.lt
      have VL_3 := hide (VL_T.out.below hb)
      have VH_3 := hide (VH_T.out.below hb)
      have B_3 := hide (Below.step B_T.out hb (Nat.le_refl _))
      have hz3 := hb.size
      clear hb
      have cA0 := A_3.c 0 rfl
      have cA1 := A_3.c 1 rfl
      have cR0 := R_3.c 0 rfl
      have cR1 := R_3.c 1 rfl
      have fR0 := R_3.frozen 0
      have fR1 := R_3.frozen 1
      clear hpt
      simp only [pileV]
      have O_rU := hide own
      obtain ⟨alU, clU, rfl, -, -⟩ := own.lo.form
      obtain ⟨ahU, chU, rfl, -, -⟩ := own.ho.form
      clear own
      simp only []
      have hzR3 := R_3.lt
      have hzA3 := A_3.lt
      cases ok with
      | false =>
        have HZ := hide (lift_not (t := t) (p := p) C1.out HQ.out HQ2.out)
        go_wp2_with fail
        refine calls_at fun wU hw4 => ?_
        have U_U : RowL wU w3.heap.size 29 [.slice alU lo3.length clU, .slice ahU hi3.length chU] := by rw [hw4]; exact RowL.new _ _ _
        have hb4 : Below w3.heap.size w3 wU := by rw [hw4]; exact (Below.refl _ _).alloc (Nat.le_refl _) _
        have A_U := A_3.below hb4 A_3.lt
        have S_U := S_3.below hb4 S_3.lt
        have R_U := R_3.below hb4 R_3.lt
        have T_U := T_3.below hb4 T_3.lt
        have VL_U := hide (VL_3.out.below hb4)
        have VH_U := hide (VH_3.out.below hb4)
        have B_U := hide (Below.step B_3.out hb4 (Nat.le_refl _))
        have O_U := hide (O_rU.out.below hb4 (Nat.le_refl _))
        clear hw4 hb4
        have hTU := U_U.lt
        have hzR := R_U.lt
        refine (HC.out wU ((VL_U.out).mono (Nat.le_refl _) (VL_U.out).lt (Nat.le_refl _)) ((VH_U.out).mono (Nat.le_refl _) (VH_U.out).lt (Nat.le_refl _)) n1 n2).mono ?_
        rintro e w4 ⟨ld, hd, rfl, own, hb⟩
        have A_4 := A_U.below hb A_U.lt
        have S_4 := S_U.below hb S_U.lt
        have R_4 := R_U.below hb R_U.lt
        have T_4 := T_U.below hb T_U.lt
        have U_4 := U_U.below hb U_U.lt
        have VL_4 := hide (VL_U.out.below hb)
        have VH_4 := hide (VH_U.out.below hb)
        have B_4 := hide (Below.step B_U.out hb (Nat.le_refl _))
        have hz4 := hb.size
        clear hb
        have cA0 := A_4.c 0 rfl
        have cA1 := A_4.c 1 rfl
        have cR0 := R_4.c 0 rfl
        have cR1 := R_4.c 1 rfl
        have fR0 := R_4.frozen 0
        have fR1 := R_4.frozen 1
        simp only [pileV]
        have O_d := hide own
        obtain ⟨ald, cld, rfl, -, -⟩ := own.lo.form
        obtain ⟨ahd, chd, rfl, -, -⟩ := own.ho.form
        clear own
        have hzcd : w.heap.size + 1 + 1 + 1 ≤ wU.heap.size := hzR
        go_wp2_with fail
        refine bodyPost_ret (by simp [results, Tryz.results117, go_sem, cR0, cR1]; try rfl) rfl ?_
        rw [HZ.out]
        exact ⟨_, _, rfl, (O_d.out.other (((Other.refl (w.heap.size + 1 + 1) (w.heap.size + 1 + 1 + 1) w4).setCell (p := ⟨w.heap.size + 1 + 1, 0, none⟩) (Nat.le_refl _) (Nat.lt_succ_self _) _).setCell (p := ⟨w.heap.size + 1 + 1, 1, none⟩) (Nat.le_refl _) (Nat.lt_succ_self _) _) (by omega)).mono (by omega), ((B_4.out).setCell (by simp; omega) _).setCell (by simp; omega) _⟩
      | true =>
        have HZ := hide (lift_yes C1.out HSM.out HQ.out HC0.out HQ2.out)
        go_wp2_with fail
        have hzU := R_3.lt
        refine bodyPost_ret (by simp [results, Tryz.results117, go_sem, cR0, cR1, hzU, World.cell?_alloc_lt]; try rfl) rfl ?_
        rw [HZ.out]
        exact ⟨_, _, rfl, ((O_rU.out.other (((Other.refl (w.heap.size + 1 + 1) (w.heap.size + 1 + 1 + 1) w3).setCell (p := ⟨w.heap.size + 1 + 1, 0, none⟩) (Nat.le_refl _) (Nat.lt_succ_self _) _).setCell (p := ⟨w.heap.size + 1 + 1, 1, none⟩) (Nat.le_refl _) (Nat.lt_succ_self _) _) (by omega)).below (B := w3.heap.size) (Below.alloc (Below.refl _ _) (by simp [World.setCell]) _) (by simp [World.setCell])).mono (by omega), (((B_3.out).setCell (by simp; omega) _).setCell (by simp; omega) _).alloc (by have := (B_3.out).size; simpa [World.setCell] using this) _⟩
    · clear hne
      go_wp2_with fail
      refine calls_at fun wT hw4 => ?_
      have T_T : RowL wT w2.heap.size 29 [.slice alT lo2.length clT, .slice ahT hi2.length chT] := by rw [hw4]; exact RowL.new _ _ _
      have hb4 : Below w2.heap.size w2 wT := by rw [hw4]; exact (Below.refl _ _).alloc (Nat.le_refl _) _
      have A_T := A_2.below hb4 A_2.lt
      have S_T := S_2.below hb4 S_2.lt
      have R_T := R_2.below hb4 R_2.lt
      have VL_T := hide (VL_2.out.below hb4)
      have VH_T := hide (VH_2.out.below hb4)
      have B_T := hide (Below.step B_2.out hb4 (Nat.le_refl _))
      have O_T := hide (O_rT.out.below hb4 (Nat.le_refl _))
      clear hw4 hb4
      have hTT := T_T.lt
      clear hcB
      have hpt := put_spec (.slice alT lo2.length clT) (.slice ahT hi2.length chT) lo2 hi2 t' p' c wT O_T.out.low0 O_T.out.high0
      unfold pileV at hpt
      obtain ⟨⟨⟨lo3, hi3⟩, ok⟩, hQ2⟩ : ∃ Q, putR lo2 hi2 t' p' c = Q := ⟨_, rfl⟩
      rw [hQ2] at hpt
      have HQ2 := hide hQ2
      clear hQ2
      refine (hpt).mono ?_
      rintro e w3 ⟨l3, h3, rfl, own, hb⟩
      have A_3 := A_T.below hb A_T.lt
      have S_3 := S_T.below hb S_T.lt
      have R_3 := R_T.below hb R_T.lt
      have T_3 := T_T.below hb T_T.lt
      have VL_3 := hide (VL_T.out.below hb)
      have VH_3 := hide (VH_T.out.below hb)
      have B_3 := hide (Below.step B_T.out hb (Nat.le_refl _))
      have hz3 := hb.size
      clear hb
      have cA0 := A_3.c 0 rfl
      have cA1 := A_3.c 1 rfl
      have cR0 := R_3.c 0 rfl
      have cR1 := R_3.c 1 rfl
      have fR0 := R_3.frozen 0
      have fR1 := R_3.frozen 1
      clear hpt
      simp only [pileV]
      have O_rU := hide own
      obtain ⟨alU, clU, rfl, -, -⟩ := own.lo.form
      obtain ⟨ahU, chU, rfl, -, -⟩ := own.ho.form
      clear own
      simp only []
      have hzR3 := R_3.lt
      have hzA3 := A_3.lt
      cases ok with
      | false =>
        have HZ := hide (lift_not (t := t) (p := p) C1.out HQ.out HQ2.out)
        go_wp2_with fail
        refine calls_at fun wU hw4 => ?_
        have U_U : RowL wU w3.heap.size 29 [.slice alU lo3.length clU, .slice ahU hi3.length chU] := by rw [hw4]; exact RowL.new _ _ _
        have hb4 : Below w3.heap.size w3 wU := by rw [hw4]; exact (Below.refl _ _).alloc (Nat.le_refl _) _
        have A_U := A_3.below hb4 A_3.lt
        have S_U := S_3.below hb4 S_3.lt
        have R_U := R_3.below hb4 R_3.lt
        have T_U := T_3.below hb4 T_3.lt
        have VL_U := hide (VL_3.out.below hb4)
        have VH_U := hide (VH_3.out.below hb4)
        have B_U := hide (Below.step B_3.out hb4 (Nat.le_refl _))
        have O_U := hide (O_rU.out.below hb4 (Nat.le_refl _))
        clear hw4 hb4
        have hTU := U_U.lt
        have hzR := R_U.lt
        refine (HC.out wU ((VL_U.out).mono (Nat.le_refl _) (VL_U.out).lt (Nat.le_refl _)) ((VH_U.out).mono (Nat.le_refl _) (VH_U.out).lt (Nat.le_refl _)) n1 n2).mono ?_
        rintro e w4 ⟨ld, hd, rfl, own, hb⟩
        have A_4 := A_U.below hb A_U.lt
        have S_4 := S_U.below hb S_U.lt
        have R_4 := R_U.below hb R_U.lt
        have T_4 := T_U.below hb T_U.lt
        have U_4 := U_U.below hb U_U.lt
        have VL_4 := hide (VL_U.out.below hb)
        have VH_4 := hide (VH_U.out.below hb)
        have B_4 := hide (Below.step B_U.out hb (Nat.le_refl _))
        have hz4 := hb.size
        clear hb
        have cA0 := A_4.c 0 rfl
        have cA1 := A_4.c 1 rfl
        have cR0 := R_4.c 0 rfl
        have cR1 := R_4.c 1 rfl
        have fR0 := R_4.frozen 0
        have fR1 := R_4.frozen 1
        simp only [pileV]
        have O_d := hide own
        obtain ⟨ald, cld, rfl, -, -⟩ := own.lo.form
        obtain ⟨ahd, chd, rfl, -, -⟩ := own.ho.form
        clear own
        have hzcd : w.heap.size + 1 + 1 + 1 ≤ wU.heap.size := hzR
        go_wp2_with fail
        refine bodyPost_ret (by simp [results, Tryz.results117, go_sem, cR0, cR1]; try rfl) rfl ?_
        rw [HZ.out]
        exact ⟨_, _, rfl, (O_d.out.other (((Other.refl (w.heap.size + 1 + 1) (w.heap.size + 1 + 1 + 1) w4).setCell (p := ⟨w.heap.size + 1 + 1, 0, none⟩) (Nat.le_refl _) (Nat.lt_succ_self _) _).setCell (p := ⟨w.heap.size + 1 + 1, 1, none⟩) (Nat.le_refl _) (Nat.lt_succ_self _) _) (by omega)).mono (by omega), ((B_4.out).setCell (by simp; omega) _).setCell (by simp; omega) _⟩
      | true =>
        have HZ := hide (lift_yes C1.out HSM.out HQ.out HC0.out HQ2.out)
        go_wp2_with fail
        have hzU := R_3.lt
        refine bodyPost_ret (by simp [results, Tryz.results117, go_sem, cR0, cR1, hzU, World.cell?_alloc_lt]; try rfl) rfl ?_
        rw [HZ.out]
        exact ⟨_, _, rfl, ((O_rU.out.other (((Other.refl (w.heap.size + 1 + 1) (w.heap.size + 1 + 1 + 1) w3).setCell (p := ⟨w.heap.size + 1 + 1, 0, none⟩) (Nat.le_refl _) (Nat.lt_succ_self _) _).setCell (p := ⟨w.heap.size + 1 + 1, 1, none⟩) (Nat.le_refl _) (Nat.lt_succ_self _) _) (by omega)).below (B := w3.heap.size) (Below.alloc (Below.refl _ _) (by simp [World.setCell]) _) (by simp [World.setCell])).mono (by omega), (((B_3.out).setCell (by simp; omega) _).setCell (by simp; omega) _).alloc (by have := (B_3.out).size; simpa [World.setCell] using this) _⟩
end Go.Proofs.YtmemgbklgcjobaaGreatDoor
