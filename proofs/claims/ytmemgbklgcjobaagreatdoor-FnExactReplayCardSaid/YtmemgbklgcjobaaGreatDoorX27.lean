/-
  Parts of the proofs over mills, of: CoilL, MethB, MethR. Conditions: each theorem states its own.
-/
import Derived.Test.YtmemgbklgcjobaaGreatDoorX21
import Derived.Test.YtmemgbklgcjobaaGreatDoorX22
import Derived.Test.YtmemgbklgcjobaaGreatDoorX25
import Derived.Test.YtmemgbklgcjobaaGreatDoorX26
set_option linter.unusedSimpArgs false
set_option linter.unusedVariables false
set_option maxRecDepth 10000
namespace Go.Proofs.YtmemgbklgcjobaaGreatDoor
open Go.RowKit
theorem lift_bad {lo hi : List Int} {t t' : Bool} {p p' : Int} (h : pileB lo hi = false) : liftR lo hi t p t' p' = (([], []), false) := by simp [liftR, h]
theorem lift_same {lo hi : List Int} {t t' : Bool} {p p' : Int} (h : pileB lo hi = true) (h2 : (t == t' && p == p') = true) : liftR lo hi t p t' p' = ((lo, hi), false) := by unfold liftR; rw [if_pos h, if_pos h2]
theorem lift_none {lo hi lo2 hi2 : List Int} {t t' : Bool} {p p' c : Int} (h : pileB lo hi = true) (h2 : takeR lo hi t p = ((lo2, hi2), c)) (h3 : c = 0) : liftR lo hi t p t' p' = ((lo, hi), false) := by
  subst h3
  unfold liftR
  rw [if_pos h, h2]
  split <;> rfl
theorem lift_not {lo hi lo2 hi2 lo3 hi3 : List Int} {t t' : Bool} {p p' c : Int} (h : pileB lo hi = true) (h2 : takeR lo hi t p = ((lo2, hi2), c)) (h4 : putR lo2 hi2 t' p' c = ((lo3, hi3), false)) : liftR lo hi t p t' p' = ((lo, hi), false) := by
  unfold liftR
  rw [if_pos h, h2]
  simp only [h4]
  simp
theorem lift_yes {lo hi lo2 hi2 lo3 hi3 : List Int} {t t' : Bool} {p p' c : Int} (h : pileB lo hi = true) (h1 : ¬ (t == t' && p == p') = true) (h2 : takeR lo hi t p = ((lo2, hi2), c)) (h3 : ¬ c = 0) (h4 : putR lo2 hi2 t' p' c = ((lo3, hi3), true)) : liftR lo hi t p t' p' = ((lo3, hi3), true) := by
  unfold liftR
  rw [if_pos h, if_neg h1, h2]
  simp only [h4]
  simp [h3]
set_option maxHeartbeats 3200000 in
theorem lift_impl (l h : Value) (lo hi : List Int) (t : Bool) (p : Int) (t' : Bool) (p' : Int) (w : World) (Hl : IntsAt 0 w.heap.size w l lo) (Hh : IntsAt 0 w.heap.size w h hi) :
    Calls Tryz.prog 167 #[pileV l h, .agg #[.bool t, .int .i64 p, .bool t', .int .i64 p']] w (PileGot2 w.heap.size (liftR lo hi t p t' p').1 (.bool (liftR lo hi t p t' p').2) w) := by
  have HL := hide Hl
  have HH := hide Hh
  clear Hl Hh
  have hp := fun W => pile_impl l h lo hi W
  have hc := fun W H1 H2 n1 n2 => copyPile_any l h lo hi W H1 H2 n1 n2
  have ht := fun W => takeP_impl l h lo hi t p W
  obtain ⟨⟨⟨lo2, hi2⟩, c⟩, hQ⟩ : ∃ Q, takeR lo hi t p = Q := ⟨_, rfl⟩
  rw [hQ] at ht
  have HQ := hide hQ
  clear hQ
  unfold pileV at hp hc ht ⊢
  have HP := hide hp
  have HC := hide hc
  have HT := hide ht
  clear hp hc ht
  go_enter Tryz.func167, Tryz.ntmps167
  go_wp2_with fail
  refine calls_at fun wx hwx => ?_
  have A_0 : RowL wx (w.heap.size) 29 [l, h] := by rw [hwx]; exact (((RowL.new _ 29 [l, h]).alloc _).alloc _)
  have S_0 : RowL wx (w.heap.size + 1) 132 [.bool t, .int .i64 p, .bool t', .int .i64 p'] := by rw [hwx]; simpa using ((RowL.new (World.alloc _ _) 132 [.bool t, .int .i64 p, .bool t', .int .i64 p']).alloc _)
  have R_0 : RowL wx (w.heap.size + 1 + 1) 29 [.slice none 0 0, .slice none 0 0] := by rw [hwx]; simpa using (RowL.new (World.alloc (World.alloc _ _) _) 29 [.slice none 0 0, .slice none 0 0])
  have B_0 : Below w.heap.size w wx := by rw [hwx]; go_grown
  clear hwx
  have hL0 := R_0.lt
  have VL_0 := hide (HL.out.below B_0)
  have VH_0 := hide (HH.out.below B_0)
  have k1 := HP.out wx ((VL_0.out).mono (Nat.le_refl _) (VL_0.out).lt (Nat.le_refl _)) ((VH_0.out).mono (Nat.le_refl _) (VH_0.out).lt (Nat.le_refl _))
  cases c1 : pileB lo hi with
  | false =>
    rw [c1] at k1
    have HZ := hide (lift_bad (t := t) (t' := t') (p := p) (p' := p') c1)
    clear c1
    refine (k1).mono ?_
    rintro e w1 ⟨rfl, hb⟩
    have A_1 := A_0.below hb A_0.lt
    have S_1 := S_0.below hb S_0.lt
    have R_1 := R_0.below hb R_0.lt
    have VL_1 := hide (VL_0.out.below hb)
    have VH_1 := hide (VH_0.out.below hb)
    have B_1 := hide (Below.step B_0 hb (Nat.le_refl _))
    have hz1 := hb.size
    clear hb
    have cR0 := R_1.c 0 rfl
    have cR1 := R_1.c 1 rfl
    have fR0 := R_1.frozen 0
    have fR1 := R_1.frozen 1
    clear k1
    go_wp2_with fail
    refine bodyPost_ret (by simp [results, Tryz.results167, go_sem, cR0, cR1]; try rfl) rfl ?_
    rw [HZ.out]
    exact ⟨_, _, rfl, pileOwn_nil (by have := (B_1.out).size; simpa [World.setCell] using this), ((B_1.out).setCell (by simp; omega) _).setCell (by simp; omega) _⟩
  | true =>
    rw [c1] at k1
    obtain ⟨n1, n2⟩ := pile_lens c1
    have C1 := hide c1
    clear c1
    refine (k1).mono ?_
    rintro e w1 ⟨rfl, hb⟩
    have A_1 := A_0.below hb A_0.lt
    have S_1 := S_0.below hb S_0.lt
    have R_1 := R_0.below hb R_0.lt
    have VL_1 := hide (VL_0.out.below hb)
    have VH_1 := hide (VH_0.out.below hb)
    have B_1 := hide (Below.step B_0 hb (Nat.le_refl _))
    have hz1 := hb.size
    clear hb
    have cA0 := A_1.c 0 rfl
    have cA1 := A_1.c 1 rfl
    have cS0 := S_1.c 0 rfl
    have cS1 := S_1.c 1 rfl
    have cS2 := S_1.c 2 rfl
    have cS3 := S_1.c 3 rfl
    clear k1
    by_cases hsm : (t == t' && p == p') = true
    · have HZ := hide (lift_same C1.out hsm)
      obtain ⟨e1, e2⟩ : t = t' ∧ p = p' := by simpa using hsm
      subst e1 e2
      clear hsm
      go_wp2_with fail
      have hzR := R_1.lt
      refine (HC.out w1 ((VL_1.out).mono (Nat.le_refl _) (VL_1.out).lt (Nat.le_refl _)) ((VH_1.out).mono (Nat.le_refl _) (VH_1.out).lt (Nat.le_refl _)) n1 n2).mono ?_
      rintro e w2 ⟨la, ha, rfl, own, hb⟩
      have A_2 := A_1.below hb A_1.lt
      have S_2 := S_1.below hb S_1.lt
      have R_2 := R_1.below hb R_1.lt
      have VL_2 := hide (VL_1.out.below hb)
      have VH_2 := hide (VH_1.out.below hb)
      have B_2 := hide (Below.step B_1.out hb (Nat.le_refl _))
      have hz2 := hb.size
      clear hb
      have cA0 := A_2.c 0 rfl
      have cA1 := A_2.c 1 rfl
      have cR0 := R_2.c 0 rfl
      have cR1 := R_2.c 1 rfl
      have fR0 := R_2.frozen 0
      have fR1 := R_2.frozen 1
      simp only [pileV]
      have O_a := hide own
      obtain ⟨ala, cla, rfl, -, -⟩ := own.lo.form
      obtain ⟨aha, cha, rfl, -, -⟩ := own.ho.form
      clear own
      have hzca : w.heap.size + 1 + 1 + 1 ≤ w1.heap.size := hzR
      go_wp2_with fail
      refine bodyPost_ret (by simp [results, Tryz.results167, go_sem, cR0, cR1]; try rfl) rfl ?_
      rw [HZ.out]
      exact ⟨_, _, rfl, (O_a.out.other (((Other.refl (w.heap.size + 1 + 1) (w.heap.size + 1 + 1 + 1) w2).setCell (p := ⟨w.heap.size + 1 + 1, 0, none⟩) (Nat.le_refl _) (Nat.lt_succ_self _) _).setCell (p := ⟨w.heap.size + 1 + 1, 1, none⟩) (Nat.le_refl _) (Nat.lt_succ_self _) _) (by omega)).mono (by omega), ((B_2.out).setCell (by simp; omega) _).setCell (by simp; omega) _⟩
    have HSM := hide hsm
    have hne : t = t' → ¬ p = p' := fun e1 e2 => hsm (by simp [e1, e2])
    clear hsm
    rcases Decidable.em (t = t') with htt | htt
    · have hpp := hne htt
      subst htt
      clear hne
      go_wp2_with fail
      refine (HT.out w1 ((VL_1.out).mono (Nat.le_refl _) (VL_1.out).lt (Nat.le_refl _)) ((VH_1.out).mono (Nat.le_refl _) (VH_1.out).lt (Nat.le_refl _))).mono ?_
      rintro e w2 ⟨l2, h2, rfl, own, hb⟩
      have A_2 := A_1.below hb A_1.lt
      have S_2 := S_1.below hb S_1.lt
      have R_2 := R_1.below hb R_1.lt
      have VL_2 := hide (VL_1.out.below hb)
      have VH_2 := hide (VH_1.out.below hb)
      have B_2 := hide (Below.step B_1.out hb (Nat.le_refl _))
      have hz2 := hb.size
      clear hb
      have cA0 := A_2.c 0 rfl
      have cA1 := A_2.c 1 rfl
      have cS0 := S_2.c 0 rfl
      have cS1 := S_2.c 1 rfl
      have cS2 := S_2.c 2 rfl
      have cS3 := S_2.c 3 rfl
      have cR0 := R_2.c 0 rfl
      have cR1 := R_2.c 1 rfl
      have fR0 := R_2.frozen 0
      have fR1 := R_2.frozen 1
      simp only [pileV]
      have O_rT := hide own
      obtain ⟨alT, clT, rfl, -, -⟩ := own.lo.form
      obtain ⟨ahT, chT, rfl, -, -⟩ := own.ho.form
      clear own
      simp only []
      have hzT0 : w.heap.size + 1 + 1 + 1 ≤ w1.heap.size := R_1.lt
      have hzR2 := R_2.lt
      have hzA2 := A_2.lt
      have hzS2 := S_2.lt
      by_cases hc0 : c = 0
      · have HZ := hide (lift_none (t' := t) (p' := p') C1.out HQ.out hc0)
        subst hc0
        go_wp2_with fail
        refine calls_at fun wT hw4 => ?_
        have T_T : RowL wT w2.heap.size 29 [.slice alT lo2.length clT, .slice ahT hi2.length chT] := by rw [hw4]; exact RowL.new _ _ _
        have hb4 : Below w2.heap.size w2 wT := by rw [hw4]; exact (Below.refl _ _).alloc (Nat.le_refl _) _
        have A_T := A_2.below hb4 A_2.lt
        have S_T := S_2.below hb4 S_2.lt
        have R_T := R_2.below hb4 R_2.lt
        have VL_T := hide (VL_2.out.below hb4)
        have VH_T := hide (VH_2.out.below hb4)
        have B_T := hide (Below.step B_2.out hb4 (Nat.le_refl _))
        have O_T := hide (O_rT.out.below hb4 (Nat.le_refl _))
        clear hw4 hb4
        have hTT := T_T.lt
        have hzR := R_T.lt
        refine (HC.out wT ((VL_T.out).mono (Nat.le_refl _) (VL_T.out).lt (Nat.le_refl _)) ((VH_T.out).mono (Nat.le_refl _) (VH_T.out).lt (Nat.le_refl _)) n1 n2).mono ?_
        rintro e w3 ⟨lb, hb, rfl, own, hb⟩
        have A_3 := A_T.below hb A_T.lt
        have S_3 := S_T.below hb S_T.lt
        have R_3 := R_T.below hb R_T.lt
        have T_3 := T_T.below hb T_T.lt
        have VL_3 := hide (VL_T.out.below hb)
        have VH_3 := hide (VH_T.out.below hb)
        have B_3 := hide (Below.step B_T.out hb (Nat.le_refl _))
        have hz3 := hb.size
        clear hb
        have cA0 := A_3.c 0 rfl
        have cA1 := A_3.c 1 rfl
        have cR0 := R_3.c 0 rfl
        have cR1 := R_3.c 1 rfl
        have fR0 := R_3.frozen 0
        have fR1 := R_3.frozen 1
        simp only [pileV]
        have O_b := hide own
        obtain ⟨alb, clb, rfl, -, -⟩ := own.lo.form
        obtain ⟨ahb, chb, rfl, -, -⟩ := own.ho.form
        clear own
        have hzcb : w.heap.size + 1 + 1 + 1 ≤ wT.heap.size := hzR
        go_wp2_with fail
        refine bodyPost_ret (by simp [results, Tryz.results167, go_sem, cR0, cR1]; try rfl) rfl ?_
        rw [HZ.out]
        exact ⟨_, _, rfl, (O_b.out.other (((Other.refl (w.heap.size + 1 + 1) (w.heap.size + 1 + 1 + 1) w3).setCell (p := ⟨w.heap.size + 1 + 1, 0, none⟩) (Nat.le_refl _) (Nat.lt_succ_self _) _).setCell (p := ⟨w.heap.size + 1 + 1, 1, none⟩) (Nat.le_refl _) (Nat.lt_succ_self _) _) (by omega)).mono (by omega), ((B_3.out).setCell (by simp; omega) _).setCell (by simp; omega) _⟩
      have HC0 := hide hc0
      have hcB : (c == 0) = false := by simpa using hc0
      clear hc0
      go_wp2_with fail
      refine calls_at fun wT hw4 => ?_
      have T_T : RowL wT w2.heap.size 29 [.slice alT lo2.length clT, .slice ahT hi2.length chT] := by rw [hw4]; exact RowL.new _ _ _
      have hb4 : Below w2.heap.size w2 wT := by rw [hw4]; exact (Below.refl _ _).alloc (Nat.le_refl _) _
      have A_T := A_2.below hb4 A_2.lt
      have S_T := S_2.below hb4 S_2.lt
      have R_T := R_2.below hb4 R_2.lt
      have VL_T := hide (VL_2.out.below hb4)
      have VH_T := hide (VH_2.out.below hb4)
      have B_T := hide (Below.step B_2.out hb4 (Nat.le_refl _))
      have O_T := hide (O_rT.out.below hb4 (Nat.le_refl _))
      clear hw4 hb4
      have hTT := T_T.lt
      clear hcB
      have hpt := put_impl (.slice alT lo2.length clT) (.slice ahT hi2.length chT) lo2 hi2 t p' c wT O_T.out.low0 O_T.out.high0
      unfold pileV at hpt
      obtain ⟨⟨⟨lo3, hi3⟩, ok⟩, hQ2⟩ : ∃ Q, putR lo2 hi2 t p' c = Q := ⟨_, rfl⟩
      rw [hQ2] at hpt
      have HQ2 := hide hQ2
      clear hQ2
      refine (hpt).mono ?_
      rintro e w3 ⟨l3, h3, rfl, own, hb⟩
      have A_3 := A_T.below hb A_T.lt
      have S_3 := S_T.below hb S_T.lt
      have R_3 := R_T.below hb R_T.lt
      have T_3 := T_T.below hb T_T.lt
      have VL_3 := hide (VL_T.out.below hb)
      have VH_3 := hide (VH_T.out.below hb)
      have B_3 := hide (Below.step B_T.out hb (Nat.le_refl _))
      have hz3 := hb.size
      clear hb
      have cA0 := A_3.c 0 rfl
      have cA1 := A_3.c 1 rfl
      have cR0 := R_3.c 0 rfl
      have cR1 := R_3.c 1 rfl
      have fR0 := R_3.frozen 0
      have fR1 := R_3.frozen 1
      clear hpt
      simp only [pileV]
      have O_rU := hide own
      obtain ⟨alU, clU, rfl, -, -⟩ := own.lo.form
      obtain ⟨ahU, chU, rfl, -, -⟩ := own.ho.form
      clear own
      simp only []
      have hzR3 := R_3.lt
      have hzA3 := A_3.lt
      cases ok with
      | false =>
        have HZ := hide (lift_not (t := t) (p := p) C1.out HQ.out HQ2.out)
        go_wp2_with fail
        refine calls_at fun wU hw4 => ?_
        have U_U : RowL wU w3.heap.size 29 [.slice alU lo3.length clU, .slice ahU hi3.length chU] := by rw [hw4]; exact RowL.new _ _ _
        have hb4 : Below w3.heap.size w3 wU := by rw [hw4]; exact (Below.refl _ _).alloc (Nat.le_refl _) _
        have A_U := A_3.below hb4 A_3.lt
        have S_U := S_3.below hb4 S_3.lt
        have R_U := R_3.below hb4 R_3.lt
        have T_U := T_3.below hb4 T_3.lt
        have VL_U := hide (VL_3.out.below hb4)
        have VH_U := hide (VH_3.out.below hb4)
        have B_U := hide (Below.step B_3.out hb4 (Nat.le_refl _))
        have O_U := hide (O_rU.out.below hb4 (Nat.le_refl _))
        clear hw4 hb4
        have hTU := U_U.lt
        have hzR := R_U.lt
        refine (HC.out wU ((VL_U.out).mono (Nat.le_refl _) (VL_U.out).lt (Nat.le_refl _)) ((VH_U.out).mono (Nat.le_refl _) (VH_U.out).lt (Nat.le_refl _)) n1 n2).mono ?_
        rintro e w4 ⟨ld, hd, rfl, own, hb⟩
        have A_4 := A_U.below hb A_U.lt
        have S_4 := S_U.below hb S_U.lt
        have R_4 := R_U.below hb R_U.lt
        have T_4 := T_U.below hb T_U.lt
        have U_4 := U_U.below hb U_U.lt
        have VL_4 := hide (VL_U.out.below hb)
        have VH_4 := hide (VH_U.out.below hb)
        have B_4 := hide (Below.step B_U.out hb (Nat.le_refl _))
        have hz4 := hb.size
        clear hb
        have cA0 := A_4.c 0 rfl
        have cA1 := A_4.c 1 rfl
        have cR0 := R_4.c 0 rfl
        have cR1 := R_4.c 1 rfl
        have fR0 := R_4.frozen 0
        have fR1 := R_4.frozen 1
        simp only [pileV]
        have O_d := hide own
        obtain ⟨ald, cld, rfl, -, -⟩ := own.lo.form
        obtain ⟨ahd, chd, rfl, -, -⟩ := own.ho.form
        clear own
        have hzcd : w.heap.size + 1 + 1 + 1 ≤ wU.heap.size := hzR
        go_wp2_with fail
        refine bodyPost_ret (by simp [results, Tryz.results167, go_sem, cR0, cR1]; try rfl) rfl ?_
        rw [HZ.out]
        exact ⟨_, _, rfl, (O_d.out.other (((Other.refl (w.heap.size + 1 + 1) (w.heap.size + 1 + 1 + 1) w4).setCell (p := ⟨w.heap.size + 1 + 1, 0, none⟩) (Nat.le_refl _) (Nat.lt_succ_self _) _).setCell (p := ⟨w.heap.size + 1 + 1, 1, none⟩) (Nat.le_refl _) (Nat.lt_succ_self _) _) (by omega)).mono (by omega), ((B_4.out).setCell (by simp; omega) _).setCell (by simp; omega) _⟩
      | true =>
        have HZ := hide (lift_yes C1.out HSM.out HQ.out HC0.out HQ2.out)
        go_wp2_with fail
        have hzU := R_3.lt
        refine bodyPost_ret (by simp [results, Tryz.results167, go_sem, cR0, cR1, hzU, World.cell?_alloc_lt]; try rfl) rfl ?_
        rw [HZ.out]
        exact ⟨_, _, rfl, ((O_rU.out.other (((Other.refl (w.heap.size + 1 + 1) (w.heap.size + 1 + 1 + 1) w3).setCell (p := ⟨w.heap.size + 1 + 1, 0, none⟩) (Nat.le_refl _) (Nat.lt_succ_self _) _).setCell (p := ⟨w.heap.size + 1 + 1, 1, none⟩) (Nat.le_refl _) (Nat.lt_succ_self _) _) (by omega)).below (B := w3.heap.size) (Below.alloc (Below.refl _ _) (by simp [World.setCell]) _) (by simp [World.setCell])).mono (by omega), (((B_3.out).setCell (by simp; omega) _).setCell (by simp; omega) _).alloc (by have := (B_3.out).size; simpa [World.setCell] using this) _⟩
    · clear hne
      go_wp2_with fail
      refine (HT.out w1 ((VL_1.out).mono (Nat.le_refl _) (VL_1.out).lt (Nat.le_refl _)) ((VH_1.out).mono (Nat.le_refl _) (VH_1.out).lt (Nat.le_refl _))).mono ?_
      rintro e w2 ⟨l2, h2, rfl, own, hb⟩
      have A_2 := A_1.below hb A_1.lt
      have S_2 := S_1.below hb S_1.lt
      have R_2 := R_1.below hb R_1.lt
      have VL_2 := hide (VL_1.out.below hb)
      have VH_2 := hide (VH_1.out.below hb)
      have B_2 := hide (Below.step B_1.out hb (Nat.le_refl _))
      have hz2 := hb.size
      clear hb
      have cA0 := A_2.c 0 rfl
      have cA1 := A_2.c 1 rfl
      have cS0 := S_2.c 0 rfl
      have cS1 := S_2.c 1 rfl
      have cS2 := S_2.c 2 rfl
      have cS3 := S_2.c 3 rfl
      have cR0 := R_2.c 0 rfl
      have cR1 := R_2.c 1 rfl
      have fR0 := R_2.frozen 0
      have fR1 := R_2.frozen 1
      simp only [pileV]
      have O_rT := hide own
      obtain ⟨alT, clT, rfl, -, -⟩ := own.lo.form
      obtain ⟨ahT, chT, rfl, -, -⟩ := own.ho.form
      clear own
      simp only []
      have hzT0 : w.heap.size + 1 + 1 + 1 ≤ w1.heap.size := R_1.lt
      have hzR2 := R_2.lt
      have hzA2 := A_2.lt
      have hzS2 := S_2.lt
      by_cases hc0 : c = 0
      · have HZ := hide (lift_none (t' := t') (p' := p') C1.out HQ.out hc0)
        subst hc0
        go_wp2_with fail
        refine calls_at fun wT hw4 => ?_
        have T_T : RowL wT w2.heap.size 29 [.slice alT lo2.length clT, .slice ahT hi2.length chT] := by rw [hw4]; exact RowL.new _ _ _
        have hb4 : Below w2.heap.size w2 wT := by rw [hw4]; exact (Below.refl _ _).alloc (Nat.le_refl _) _
        have A_T := A_2.below hb4 A_2.lt
        have S_T := S_2.below hb4 S_2.lt
        have R_T := R_2.below hb4 R_2.lt
        have VL_T := hide (VL_2.out.below hb4)
        have VH_T := hide (VH_2.out.below hb4)
        have B_T := hide (Below.step B_2.out hb4 (Nat.le_refl _))
        have O_T := hide (O_rT.out.below hb4 (Nat.le_refl _))
        clear hw4 hb4
        have hTT := T_T.lt
        have hzR := R_T.lt
        refine (HC.out wT ((VL_T.out).mono (Nat.le_refl _) (VL_T.out).lt (Nat.le_refl _)) ((VH_T.out).mono (Nat.le_refl _) (VH_T.out).lt (Nat.le_refl _)) n1 n2).mono ?_
        rintro e w3 ⟨lb, hb, rfl, own, hb⟩
        have A_3 := A_T.below hb A_T.lt
        have S_3 := S_T.below hb S_T.lt
        have R_3 := R_T.below hb R_T.lt
        have T_3 := T_T.below hb T_T.lt
        have VL_3 := hide (VL_T.out.below hb)
        have VH_3 := hide (VH_T.out.below hb)
        have B_3 := hide (Below.step B_T.out hb (Nat.le_refl _))
        have hz3 := hb.size
        clear hb
        have cA0 := A_3.c 0 rfl
        have cA1 := A_3.c 1 rfl
        have cR0 := R_3.c 0 rfl
        have cR1 := R_3.c 1 rfl
        have fR0 := R_3.frozen 0
        have fR1 := R_3.frozen 1
        simp only [pileV]
        have O_b := hide own
        obtain ⟨alb, clb, rfl, -, -⟩ := own.lo.form
        obtain ⟨ahb, chb, rfl, -, -⟩ := own.ho.form
        clear own
        have hzcb : w.heap.size + 1 + 1 + 1 ≤ wT.heap.size := hzR
        go_wp2_with fail
        refine bodyPost_ret (by simp [results, Tryz.results167, go_sem, cR0, cR1]; try rfl) rfl ?_
        rw [HZ.out]
        exact ⟨_, _, rfl, (O_b.out.other (((Other.refl (w.heap.size + 1 + 1) (w.heap.size + 1 + 1 + 1) w3).setCell (p := ⟨w.heap.size + 1 + 1, 0, none⟩) (Nat.le_refl _) (Nat.lt_succ_self _) _).setCell (p := ⟨w.heap.size + 1 + 1, 1, none⟩) (Nat.le_refl _) (Nat.lt_succ_self _) _) (by omega)).mono (by omega), ((B_3.out).setCell (by simp; omega) _).setCell (by simp; omega) _⟩
      have HC0 := hide hc0
      have hcB : (c == 0) = false := by simpa using hc0
      clear hc0
      go_wp2_with fail
      refine calls_at fun wT hw4 => ?_
      have T_T : RowL wT w2.heap.size 29 [.slice alT lo2.length clT, .slice ahT hi2.length chT] := by rw [hw4]; exact RowL.new _ _ _
      have hb4 : Below w2.heap.size w2 wT := by rw [hw4]; exact (Below.refl _ _).alloc (Nat.le_refl _) _
      have A_T := A_2.below hb4 A_2.lt
      have S_T := S_2.below hb4 S_2.lt
      have R_T := R_2.below hb4 R_2.lt
      have VL_T := hide (VL_2.out.below hb4)
      have VH_T := hide (VH_2.out.below hb4)
      have B_T := hide (Below.step B_2.out hb4 (Nat.le_refl _))
      have O_T := hide (O_rT.out.below hb4 (Nat.le_refl _))
      clear hw4 hb4
      have hTT := T_T.lt
      clear hcB
      have hpt := put_impl (.slice alT lo2.length clT) (.slice ahT hi2.length chT) lo2 hi2 t' p' c wT O_T.out.low0 O_T.out.high0
      unfold pileV at hpt
      obtain ⟨⟨⟨lo3, hi3⟩, ok⟩, hQ2⟩ : ∃ Q, putR lo2 hi2 t' p' c = Q := ⟨_, rfl⟩
      rw [hQ2] at hpt
      have HQ2 := hide hQ2
      clear hQ2
      refine (hpt).mono ?_
      rintro e w3 ⟨l3, h3, rfl, own, hb⟩
      have A_3 := A_T.below hb A_T.lt
      have S_3 := S_T.below hb S_T.lt
      have R_3 := R_T.below hb R_T.lt
      have T_3 := T_T.below hb T_T.lt
      have VL_3 := hide (VL_T.out.below hb)
      have VH_3 := hide (VH_T.out.below hb)
      have B_3 := hide (Below.step B_T.out hb (Nat.le_refl _))
      have hz3 := hb.size
      clear hb
      have cA0 := A_3.c 0 rfl
      have cA1 := A_3.c 1 rfl
      have cR0 := R_3.c 0 rfl
      have cR1 := R_3.c 1 rfl
      have fR0 := R_3.frozen 0
      have fR1 := R_3.frozen 1
      clear hpt
      simp only [pileV]
      have O_rU := hide own
      obtain ⟨alU, clU, rfl, -, -⟩ := own.lo.form
      obtain ⟨ahU, chU, rfl, -, -⟩ := own.ho.form
      clear own
      simp only []
      have hzR3 := R_3.lt
      have hzA3 := A_3.lt
      cases ok with
      | false =>
        have HZ := hide (lift_not (t := t) (p := p) C1.out HQ.out HQ2.out)
        go_wp2_with fail
        refine calls_at fun wU hw4 => ?_
        have U_U : RowL wU w3.heap.size 29 [.slice alU lo3.length clU, .slice ahU hi3.length chU] := by rw [hw4]; exact RowL.new _ _ _
        have hb4 : Below w3.heap.size w3 wU := by rw [hw4]; exact (Below.refl _ _).alloc (Nat.le_refl _) _
        have A_U := A_3.below hb4 A_3.lt
        have S_U := S_3.below hb4 S_3.lt
        have R_U := R_3.below hb4 R_3.lt
        have T_U := T_3.below hb4 T_3.lt
        have VL_U := hide (VL_3.out.below hb4)
        have VH_U := hide (VH_3.out.below hb4)
        have B_U := hide (Below.step B_3.out hb4 (Nat.le_refl _))
        have O_U := hide (O_rU.out.below hb4 (Nat.le_refl _))
        clear hw4 hb4
        have hTU := U_U.lt
        have hzR := R_U.lt
        refine (HC.out wU ((VL_U.out).mono (Nat.le_refl _) (VL_U.out).lt (Nat.le_refl _)) ((VH_U.out).mono (Nat.le_refl _) (VH_U.out).lt (Nat.le_refl _)) n1 n2).mono ?_
        rintro e w4 ⟨ld, hd, rfl, own, hb⟩
        have A_4 := A_U.below hb A_U.lt
        have S_4 := S_U.below hb S_U.lt
        have R_4 := R_U.below hb R_U.lt
        have T_4 := T_U.below hb T_U.lt
        have U_4 := U_U.below hb U_U.lt
        have VL_4 := hide (VL_U.out.below hb)
        have VH_4 := hide (VH_U.out.below hb)
        have B_4 := hide (Below.step B_U.out hb (Nat.le_refl _))
        have hz4 := hb.size
        clear hb
        have cA0 := A_4.c 0 rfl
        have cA1 := A_4.c 1 rfl
        have cR0 := R_4.c 0 rfl
        have cR1 := R_4.c 1 rfl
        have fR0 := R_4.frozen 0
        have fR1 := R_4.frozen 1
        simp only [pileV]
        have O_d := hide own
        obtain ⟨ald, cld, rfl, -, -⟩ := own.lo.form
        obtain ⟨ahd, chd, rfl, -, -⟩ := own.ho.form
        clear own
        have hzcd : w.heap.size + 1 + 1 + 1 ≤ wU.heap.size := hzR
        go_wp2_with fail
        refine bodyPost_ret (by simp [results, Tryz.results167, go_sem, cR0, cR1]; try rfl) rfl ?_
        rw [HZ.out]
        exact ⟨_, _, rfl, (O_d.out.other (((Other.refl (w.heap.size + 1 + 1) (w.heap.size + 1 + 1 + 1) w4).setCell (p := ⟨w.heap.size + 1 + 1, 0, none⟩) (Nat.le_refl _) (Nat.lt_succ_self _) _).setCell (p := ⟨w.heap.size + 1 + 1, 1, none⟩) (Nat.le_refl _) (Nat.lt_succ_self _) _) (by omega)).mono (by omega), ((B_4.out).setCell (by simp; omega) _).setCell (by simp; omega) _⟩
      | true =>
        have HZ := hide (lift_yes C1.out HSM.out HQ.out HC0.out HQ2.out)
        go_wp2_with fail
        have hzU := R_3.lt
        refine bodyPost_ret (by simp [results, Tryz.results167, go_sem, cR0, cR1, hzU, World.cell?_alloc_lt]; try rfl) rfl ?_
        rw [HZ.out]
        exact ⟨_, _, rfl, ((O_rU.out.other (((Other.refl (w.heap.size + 1 + 1) (w.heap.size + 1 + 1 + 1) w3).setCell (p := ⟨w.heap.size + 1 + 1, 0, none⟩) (Nat.le_refl _) (Nat.lt_succ_self _) _).setCell (p := ⟨w.heap.size + 1 + 1, 1, none⟩) (Nat.le_refl _) (Nat.lt_succ_self _) _) (by omega)).below (B := w3.heap.size) (Below.alloc (Below.refl _ _) (by simp [World.setCell]) _) (by simp [World.setCell])).mono (by omega), (((B_3.out).setCell (by simp; omega) _).setCell (by simp; omega) _).alloc (by have := (B_3.out).size; simpa [World.setCell] using this) _⟩
set_option maxHeartbeats 3200000 in
theorem lift_spec (l h : Value) (lo hi : List Int) (t : Bool) (p : Int) (t' : Bool) (p' : Int) (w : World) (Hl : IntsAt 0 w.heap.size w l lo) (Hh : IntsAt 0 w.heap.size w h hi) :
    Calls Tryz.prog 117 #[pileV l h, .agg #[.bool t, .int .i64 p, .bool t', .int .i64 p']] w (PileGot2 w.heap.size (liftR lo hi t p t' p').1 (.bool (liftR lo hi t p t' p').2) w) := by
  have HL := hide Hl
  have HH := hide Hh
  clear Hl Hh
  have hp := fun W => pile_spec l h lo hi W
  have hc := fun W H1 H2 n1 n2 => l6Copy_any l h lo hi W H1 H2 n1 n2
  have ht := fun W => takeP_spec l h lo hi t p W
  obtain ⟨⟨⟨lo2, hi2⟩, c⟩, hQ⟩ : ∃ Q, takeR lo hi t p = Q := ⟨_, rfl⟩
  rw [hQ] at ht
  have HQ := hide hQ
  clear hQ
  unfold pileV at hp hc ht ⊢
  have HP := hide hp
  have HC := hide hc
  have HT := hide ht
  clear hp hc ht
  go_enter Tryz.func117, Tryz.ntmps117
  go_wp2_with fail
  refine calls_at fun wx hwx => ?_
  have A_0 : RowL wx (w.heap.size) 29 [l, h] := by rw [hwx]; exact (((RowL.new _ 29 [l, h]).alloc _).alloc _)
  have S_0 : RowL wx (w.heap.size + 1) 132 [.bool t, .int .i64 p, .bool t', .int .i64 p'] := by rw [hwx]; simpa using ((RowL.new (World.alloc _ _) 132 [.bool t, .int .i64 p, .bool t', .int .i64 p']).alloc _)
  have R_0 : RowL wx (w.heap.size + 1 + 1) 29 [.slice none 0 0, .slice none 0 0] := by rw [hwx]; simpa using (RowL.new (World.alloc (World.alloc _ _) _) 29 [.slice none 0 0, .slice none 0 0])
  have B_0 : Below w.heap.size w wx := by rw [hwx]; go_grown
  clear hwx
  have hL0 := R_0.lt
  have VL_0 := hide (HL.out.below B_0)
  have VH_0 := hide (HH.out.below B_0)
  have k1 := HP.out wx ((VL_0.out).mono (Nat.le_refl _) (VL_0.out).lt (Nat.le_refl _)) ((VH_0.out).mono (Nat.le_refl _) (VH_0.out).lt (Nat.le_refl _))
  cases c1 : pileB lo hi with
  | false =>
    rw [c1] at k1
    have HZ := hide (lift_bad (t := t) (t' := t') (p := p) (p' := p') c1)
    clear c1
    refine (k1).mono ?_
    rintro e w1 ⟨rfl, hb⟩
    have A_1 := A_0.below hb A_0.lt
    have S_1 := S_0.below hb S_0.lt
    have R_1 := R_0.below hb R_0.lt
    have VL_1 := hide (VL_0.out.below hb)
    have VH_1 := hide (VH_0.out.below hb)
    have B_1 := hide (Below.step B_0 hb (Nat.le_refl _))
    have hz1 := hb.size
    clear hb
    have cR0 := R_1.c 0 rfl
    have cR1 := R_1.c 1 rfl
    have fR0 := R_1.frozen 0
    have fR1 := R_1.frozen 1
    clear k1
    go_wp2_with fail
    refine bodyPost_ret (by simp [results, Tryz.results117, go_sem, cR0, cR1]; try rfl) rfl ?_
    rw [HZ.out]
    exact ⟨_, _, rfl, pileOwn_nil (by have := (B_1.out).size; simpa [World.setCell] using this), ((B_1.out).setCell (by simp; omega) _).setCell (by simp; omega) _⟩
  | true =>
    rw [c1] at k1
    obtain ⟨n1, n2⟩ := pile_lens c1
    have C1 := hide c1
    clear c1
    refine (k1).mono ?_
    rintro e w1 ⟨rfl, hb⟩
    have A_1 := A_0.below hb A_0.lt
    have S_1 := S_0.below hb S_0.lt
    have R_1 := R_0.below hb R_0.lt
    have VL_1 := hide (VL_0.out.below hb)
    have VH_1 := hide (VH_0.out.below hb)
    have B_1 := hide (Below.step B_0 hb (Nat.le_refl _))
    have hz1 := hb.size
    clear hb
    have cA0 := A_1.c 0 rfl
    have cA1 := A_1.c 1 rfl
    have cS0 := S_1.c 0 rfl
    have cS1 := S_1.c 1 rfl
    have cS2 := S_1.c 2 rfl
    have cS3 := S_1.c 3 rfl
    clear k1
    go_wp2_with fail
    refine (HT.out w1 ((VL_1.out).mono (Nat.le_refl _) (VL_1.out).lt (Nat.le_refl _)) ((VH_1.out).mono (Nat.le_refl _) (VH_1.out).lt (Nat.le_refl _))).mono ?_
    rintro e w2 ⟨l2, h2, rfl, own, hb⟩
    have A_2 := A_1.below hb A_1.lt
    have S_2 := S_1.below hb S_1.lt
    have R_2 := R_1.below hb R_1.lt
    have VL_2 := hide (VL_1.out.below hb)
    have VH_2 := hide (VH_1.out.below hb)
    have B_2 := hide (Below.step B_1.out hb (Nat.le_refl _))
    have hz2 := hb.size
    clear hb
    have cA0 := A_2.c 0 rfl
    have cA1 := A_2.c 1 rfl
    have cS0 := S_2.c 0 rfl
    have cS1 := S_2.c 1 rfl
    have cS2 := S_2.c 2 rfl
    have cS3 := S_2.c 3 rfl
    have cR0 := R_2.c 0 rfl
    have cR1 := R_2.c 1 rfl
    have fR0 := R_2.frozen 0
    have fR1 := R_2.frozen 1
    simp only [pileV]
    have O_rT := hide own
    obtain ⟨alT, clT, rfl, -, -⟩ := own.lo.form
    obtain ⟨ahT, chT, rfl, -, -⟩ := own.ho.form
    clear own
    simp only []
    have hzT0 : w.heap.size + 1 + 1 + 1 ≤ w1.heap.size := R_1.lt
    have hzR2 := R_2.lt
    have hzA2 := A_2.lt
    have hzS2 := S_2.lt
    by_cases hc0 : c = 0
    · have HZ := hide (lift_none (t' := t') (p' := p') C1.out HQ.out hc0)
      subst hc0
      go_wp2_with fail
      refine calls_at fun wT hw4 => ?_
      have T_T : RowL wT w2.heap.size 29 [.slice alT lo2.length clT, .slice ahT hi2.length chT] := by rw [hw4]; exact RowL.new _ _ _
      have hb4 : Below w2.heap.size w2 wT := by rw [hw4]; exact (Below.refl _ _).alloc (Nat.le_refl _) _
      have A_T := A_2.below hb4 A_2.lt
      have S_T := S_2.below hb4 S_2.lt
      have R_T := R_2.below hb4 R_2.lt
      have VL_T := hide (VL_2.out.below hb4)
      have VH_T := hide (VH_2.out.below hb4)
      have B_T := hide (Below.step B_2.out hb4 (Nat.le_refl _))
      have O_T := hide (O_rT.out.below hb4 (Nat.le_refl _))
      clear hw4 hb4
      have hTT := T_T.lt
      have hzR := R_T.lt
      refine (HC.out wT ((VL_T.out).mono (Nat.le_refl _) (VL_T.out).lt (Nat.le_refl _)) ((VH_T.out).mono (Nat.le_refl _) (VH_T.out).lt (Nat.le_refl _)) n1 n2).mono ?_
      rintro e w3 ⟨lb, hb, rfl, own, hb⟩
      have A_3 := A_T.below hb A_T.lt
      have S_3 := S_T.below hb S_T.lt
      have R_3 := R_T.below hb R_T.lt
      have T_3 := T_T.below hb T_T.lt
      have VL_3 := hide (VL_T.out.below hb)
      have VH_3 := hide (VH_T.out.below hb)
      have B_3 := hide (Below.step B_T.out hb (Nat.le_refl _))
      have hz3 := hb.size
      clear hb
      have cA0 := A_3.c 0 rfl
      have cA1 := A_3.c 1 rfl
      have cR0 := R_3.c 0 rfl
      have cR1 := R_3.c 1 rfl
      have fR0 := R_3.frozen 0
      have fR1 := R_3.frozen 1
      simp only [pileV]
      have O_b := hide own
      obtain ⟨alb, clb, rfl, -, -⟩ := own.lo.form
      obtain ⟨ahb, chb, rfl, -, -⟩ := own.ho.form
      clear own
      have hzcb : w.heap.size + 1 + 1 + 1 ≤ wT.heap.size := hzR
      go_wp2_with fail
      refine bodyPost_ret (by simp [results, Tryz.results117, go_sem, cR0, cR1]; try rfl) rfl ?_
      rw [HZ.out]
      exact ⟨_, _, rfl, (O_b.out.other (((Other.refl (w.heap.size + 1 + 1) (w.heap.size + 1 + 1 + 1) w3).setCell (p := ⟨w.heap.size + 1 + 1, 0, none⟩) (Nat.le_refl _) (Nat.lt_succ_self _) _).setCell (p := ⟨w.heap.size + 1 + 1, 1, none⟩) (Nat.le_refl _) (Nat.lt_succ_self _) _) (by omega)).mono (by omega), ((B_3.out).setCell (by simp; omega) _).setCell (by simp; omega) _⟩
    have HC0 := hide hc0
    have hcB : (c == 0) = false := by simpa using hc0
    clear hc0
    by_cases hsm : (t == t' && p == p') = true
    · have HZ := hide (lift_same C1.out hsm)
      obtain ⟨e1, e2⟩ : t = t' ∧ p = p' := by simpa using hsm
      subst e1 e2
      clear hsm
      go_wp2_with fail
      refine calls_at fun wT hw4 => ?_
      have T_T : RowL wT w2.heap.size 29 [.slice alT lo2.length clT, .slice ahT hi2.length chT] := by rw [hw4]; exact RowL.new _ _ _
      have hb4 : Below w2.heap.size w2 wT := by rw [hw4]; exact (Below.refl _ _).alloc (Nat.le_refl _) _
      have A_T := A_2.below hb4 A_2.lt
      have S_T := S_2.below hb4 S_2.lt
      have R_T := R_2.below hb4 R_2.lt
      have VL_T := hide (VL_2.out.below hb4)
      have VH_T := hide (VH_2.out.below hb4)
      have B_T := hide (Below.step B_2.out hb4 (Nat.le_refl _))
      have O_T := hide (O_rT.out.below hb4 (Nat.le_refl _))
      clear hw4 hb4
      have hTT := T_T.lt
      have hzR := R_T.lt
      refine (HC.out wT ((VL_T.out).mono (Nat.le_refl _) (VL_T.out).lt (Nat.le_refl _)) ((VH_T.out).mono (Nat.le_refl _) (VH_T.out).lt (Nat.le_refl _)) n1 n2).mono ?_
      rintro e w3 ⟨la, ha, rfl, own, hb⟩
      have A_3 := A_T.below hb A_T.lt
      have S_3 := S_T.below hb S_T.lt
      have R_3 := R_T.below hb R_T.lt
      have T_3 := T_T.below hb T_T.lt
      have VL_3 := hide (VL_T.out.below hb)
      have VH_3 := hide (VH_T.out.below hb)
      have B_3 := hide (Below.step B_T.out hb (Nat.le_refl _))
      have hz3 := hb.size
      clear hb
      have cA0 := A_3.c 0 rfl
      have cA1 := A_3.c 1 rfl
      have cR0 := R_3.c 0 rfl
      have cR1 := R_3.c 1 rfl
      have fR0 := R_3.frozen 0
      have fR1 := R_3.frozen 1
      simp only [pileV]
      have O_a := hide own
      obtain ⟨ala, cla, rfl, -, -⟩ := own.lo.form
      obtain ⟨aha, cha, rfl, -, -⟩ := own.ho.form
      clear own
      have hzca : w.heap.size + 1 + 1 + 1 ≤ wT.heap.size := hzR
      go_wp2_with fail
      refine bodyPost_ret (by simp [results, Tryz.results117, go_sem, cR0, cR1]; try rfl) rfl ?_
      rw [HZ.out]
      exact ⟨_, _, rfl, (O_a.out.other (((Other.refl (w.heap.size + 1 + 1) (w.heap.size + 1 + 1 + 1) w3).setCell (p := ⟨w.heap.size + 1 + 1, 0, none⟩) (Nat.le_refl _) (Nat.lt_succ_self _) _).setCell (p := ⟨w.heap.size + 1 + 1, 1, none⟩) (Nat.le_refl _) (Nat.lt_succ_self _) _) (by omega)).mono (by omega), ((B_3.out).setCell (by simp; omega) _).setCell (by simp; omega) _⟩
    have HSM := hide hsm
    have hne : t = t' → ¬ p = p' := fun e1 e2 => hsm (by simp [e1, e2])
    clear hsm
    rcases Decidable.em (t = t') with htt | htt
    · have hpp := hne htt
      subst htt
      clear hne
      go_wp2_with fail
      refine calls_at fun wT hw4 => ?_
      have T_T : RowL wT w2.heap.size 29 [.slice alT lo2.length clT, .slice ahT hi2.length chT] := by rw [hw4]; exact RowL.new _ _ _
      have hb4 : Below w2.heap.size w2 wT := by rw [hw4]; exact (Below.refl _ _).alloc (Nat.le_refl _) _
      have A_T := A_2.below hb4 A_2.lt
      have S_T := S_2.below hb4 S_2.lt
      have R_T := R_2.below hb4 R_2.lt
      have VL_T := hide (VL_2.out.below hb4)
      have VH_T := hide (VH_2.out.below hb4)
      have B_T := hide (Below.step B_2.out hb4 (Nat.le_refl _))
      have O_T := hide (O_rT.out.below hb4 (Nat.le_refl _))
      clear hw4 hb4
      have hTT := T_T.lt
      clear hcB
      have hpt := put_spec (.slice alT lo2.length clT) (.slice ahT hi2.length chT) lo2 hi2 t p' c wT O_T.out.low0 O_T.out.high0
      unfold pileV at hpt
      obtain ⟨⟨⟨lo3, hi3⟩, ok⟩, hQ2⟩ : ∃ Q, putR lo2 hi2 t p' c = Q := ⟨_, rfl⟩
      rw [hQ2] at hpt
      have HQ2 := hide hQ2
      clear hQ2
      refine (hpt).mono ?_
      rintro e w3 ⟨l3, h3, rfl, own, hb⟩
      have A_3 := A_T.below hb A_T.lt
      have S_3 := S_T.below hb S_T.lt
      have R_3 := R_T.below hb R_T.lt
      have T_3 := T_T.below hb T_T.lt
      have VL_3 := hide (VL_T.out.below hb)
      have VH_3 := hide (VH_T.out.below hb)
      have B_3 := hide (Below.step B_T.out hb (Nat.le_refl _))
      have hz3 := hb.size
      clear hb
      have cA0 := A_3.c 0 rfl
      have cA1 := A_3.c 1 rfl
      have cR0 := R_3.c 0 rfl
      have cR1 := R_3.c 1 rfl
      have fR0 := R_3.frozen 0
      have fR1 := R_3.frozen 1
      clear hpt
      simp only [pileV]
      have O_rU := hide own
      obtain ⟨alU, clU, rfl, -, -⟩ := own.lo.form
      obtain ⟨ahU, chU, rfl, -, -⟩ := own.ho.form
      clear own
      simp only []
      have hzR3 := R_3.lt
      have hzA3 := A_3.lt
      cases ok with
      | false =>
        have HZ := hide (lift_not (t := t) (p := p) C1.out HQ.out HQ2.out)
        go_wp2_with fail
        refine calls_at fun wU hw4 => ?_
        have U_U : RowL wU w3.heap.size 29 [.slice alU lo3.length clU, .slice ahU hi3.length chU] := by rw [hw4]; exact RowL.new _ _ _
        have hb4 : Below w3.heap.size w3 wU := by rw [hw4]; exact (Below.refl _ _).alloc (Nat.le_refl _) _
        have A_U := A_3.below hb4 A_3.lt
        have S_U := S_3.below hb4 S_3.lt
        have R_U := R_3.below hb4 R_3.lt
        have T_U := T_3.below hb4 T_3.lt
        have VL_U := hide (VL_3.out.below hb4)
        have VH_U := hide (VH_3.out.below hb4)
        have B_U := hide (Below.step B_3.out hb4 (Nat.le_refl _))
        have O_U := hide (O_rU.out.below hb4 (Nat.le_refl _))
        clear hw4 hb4
        have hTU := U_U.lt
        have hzR := R_U.lt
        refine (HC.out wU ((VL_U.out).mono (Nat.le_refl _) (VL_U.out).lt (Nat.le_refl _)) ((VH_U.out).mono (Nat.le_refl _) (VH_U.out).lt (Nat.le_refl _)) n1 n2).mono ?_
        rintro e w4 ⟨ld, hd, rfl, own, hb⟩
        have A_4 := A_U.below hb A_U.lt
        have S_4 := S_U.below hb S_U.lt
        have R_4 := R_U.below hb R_U.lt
        have T_4 := T_U.below hb T_U.lt
        have U_4 := U_U.below hb U_U.lt
        have VL_4 := hide (VL_U.out.below hb)
        have VH_4 := hide (VH_U.out.below hb)
        have B_4 := hide (Below.step B_U.out hb (Nat.le_refl _))
        have hz4 := hb.size
        clear hb
        have cA0 := A_4.c 0 rfl
        have cA1 := A_4.c 1 rfl
        have cR0 := R_4.c 0 rfl
        have cR1 := R_4.c 1 rfl
        have fR0 := R_4.frozen 0
        have fR1 := R_4.frozen 1
        simp only [pileV]
        have O_d := hide own
        obtain ⟨ald, cld, rfl, -, -⟩ := own.lo.form
        obtain ⟨ahd, chd, rfl, -, -⟩ := own.ho.form
        clear own
        have hzcd : w.heap.size + 1 + 1 + 1 ≤ wU.heap.size := hzR
        go_wp2_with fail
        refine bodyPost_ret (by simp [results, Tryz.results117, go_sem, cR0, cR1]; try rfl) rfl ?_
        rw [HZ.out]
        exact ⟨_, _, rfl, (O_d.out.other (((Other.refl (w.heap.size + 1 + 1) (w.heap.size + 1 + 1 + 1) w4).setCell (p := ⟨w.heap.size + 1 + 1, 0, none⟩) (Nat.le_refl _) (Nat.lt_succ_self _) _).setCell (p := ⟨w.heap.size + 1 + 1, 1, none⟩) (Nat.le_refl _) (Nat.lt_succ_self _) _) (by omega)).mono (by omega), ((B_4.out).setCell (by simp; omega) _).setCell (by simp; omega) _⟩
      | true =>
        have HZ := hide (lift_yes C1.out HSM.out HQ.out HC0.out HQ2.out)
        go_wp2_with fail
        have hzU := R_3.lt
        refine bodyPost_ret (by simp [results, Tryz.results117, go_sem, cR0, cR1, hzU, World.cell?_alloc_lt]; try rfl) rfl ?_
        rw [HZ.out]
        exact ⟨_, _, rfl, ((O_rU.out.other (((Other.refl (w.heap.size + 1 + 1) (w.heap.size + 1 + 1 + 1) w3).setCell (p := ⟨w.heap.size + 1 + 1, 0, none⟩) (Nat.le_refl _) (Nat.lt_succ_self _) _).setCell (p := ⟨w.heap.size + 1 + 1, 1, none⟩) (Nat.le_refl _) (Nat.lt_succ_self _) _) (by omega)).below (B := w3.heap.size) (Below.alloc (Below.refl _ _) (by simp [World.setCell]) _) (by simp [World.setCell])).mono (by omega), (((B_3.out).setCell (by simp; omega) _).setCell (by simp; omega) _).alloc (by have := (B_3.out).size; simpa [World.setCell] using this) _⟩
    · clear hne
      go_wp2_with fail
      refine calls_at fun wT hw4 => ?_
      have T_T : RowL wT w2.heap.size 29 [.slice alT lo2.length clT, .slice ahT hi2.length chT] := by rw [hw4]; exact RowL.new _ _ _
      have hb4 : Below w2.heap.size w2 wT := by rw [hw4]; exact (Below.refl _ _).alloc (Nat.le_refl _) _
      have A_T := A_2.below hb4 A_2.lt
      have S_T := S_2.below hb4 S_2.lt
      have R_T := R_2.below hb4 R_2.lt
      have VL_T := hide (VL_2.out.below hb4)
      have VH_T := hide (VH_2.out.below hb4)
      have B_T := hide (Below.step B_2.out hb4 (Nat.le_refl _))
      have O_T := hide (O_rT.out.below hb4 (Nat.le_refl _))
      clear hw4 hb4
      have hTT := T_T.lt
      clear hcB
      have hpt := put_spec (.slice alT lo2.length clT) (.slice ahT hi2.length chT) lo2 hi2 t' p' c wT O_T.out.low0 O_T.out.high0
      unfold pileV at hpt
      obtain ⟨⟨⟨lo3, hi3⟩, ok⟩, hQ2⟩ : ∃ Q, putR lo2 hi2 t' p' c = Q := ⟨_, rfl⟩
      rw [hQ2] at hpt
      have HQ2 := hide hQ2
      clear hQ2
      refine (hpt).mono ?_
      rintro e w3 ⟨l3, h3, rfl, own, hb⟩
      have A_3 := A_T.below hb A_T.lt
      have S_3 := S_T.below hb S_T.lt
      have R_3 := R_T.below hb R_T.lt
      have T_3 := T_T.below hb T_T.lt
      have VL_3 := hide (VL_T.out.below hb)
      have VH_3 := hide (VH_T.out.below hb)
      have B_3 := hide (Below.step B_T.out hb (Nat.le_refl _))
      have hz3 := hb.size
      clear hb
      have cA0 := A_3.c 0 rfl
      have cA1 := A_3.c 1 rfl
      have cR0 := R_3.c 0 rfl
      have cR1 := R_3.c 1 rfl
      have fR0 := R_3.frozen 0
      have fR1 := R_3.frozen 1
      clear hpt
      simp only [pileV]
      have O_rU := hide own
      obtain ⟨alU, clU, rfl, -, -⟩ := own.lo.form
      obtain ⟨ahU, chU, rfl, -, -⟩ := own.ho.form
      clear own
      simp only []
      have hzR3 := R_3.lt
      have hzA3 := A_3.lt
      cases ok with
      | false =>
        have HZ := hide (lift_not (t := t) (p := p) C1.out HQ.out HQ2.out)
        go_wp2_with fail
        refine calls_at fun wU hw4 => ?_
        have U_U : RowL wU w3.heap.size 29 [.slice alU lo3.length clU, .slice ahU hi3.length chU] := by rw [hw4]; exact RowL.new _ _ _
        have hb4 : Below w3.heap.size w3 wU := by rw [hw4]; exact (Below.refl _ _).alloc (Nat.le_refl _) _
        have A_U := A_3.below hb4 A_3.lt
        have S_U := S_3.below hb4 S_3.lt
        have R_U := R_3.below hb4 R_3.lt
        have T_U := T_3.below hb4 T_3.lt
        have VL_U := hide (VL_3.out.below hb4)
        have VH_U := hide (VH_3.out.below hb4)
        have B_U := hide (Below.step B_3.out hb4 (Nat.le_refl _))
        have O_U := hide (O_rU.out.below hb4 (Nat.le_refl _))
        clear hw4 hb4
        have hTU := U_U.lt
        have hzR := R_U.lt
        refine (HC.out wU ((VL_U.out).mono (Nat.le_refl _) (VL_U.out).lt (Nat.le_refl _)) ((VH_U.out).mono (Nat.le_refl _) (VH_U.out).lt (Nat.le_refl _)) n1 n2).mono ?_
        rintro e w4 ⟨ld, hd, rfl, own, hb⟩
        have A_4 := A_U.below hb A_U.lt
        have S_4 := S_U.below hb S_U.lt
        have R_4 := R_U.below hb R_U.lt
        have T_4 := T_U.below hb T_U.lt
        have U_4 := U_U.below hb U_U.lt
        have VL_4 := hide (VL_U.out.below hb)
        have VH_4 := hide (VH_U.out.below hb)
        have B_4 := hide (Below.step B_U.out hb (Nat.le_refl _))
        have hz4 := hb.size
        clear hb
        have cA0 := A_4.c 0 rfl
        have cA1 := A_4.c 1 rfl
        have cR0 := R_4.c 0 rfl
        have cR1 := R_4.c 1 rfl
        have fR0 := R_4.frozen 0
        have fR1 := R_4.frozen 1
        simp only [pileV]
        have O_d := hide own
        obtain ⟨ald, cld, rfl, -, -⟩ := own.lo.form
        obtain ⟨ahd, chd, rfl, -, -⟩ := own.ho.form
        clear own
        have hzcd : w.heap.size + 1 + 1 + 1 ≤ wU.heap.size := hzR
        go_wp2_with fail
        refine bodyPost_ret (by simp [results, Tryz.results117, go_sem, cR0, cR1]; try rfl) rfl ?_
        rw [HZ.out]
        exact ⟨_, _, rfl, (O_d.out.other (((Other.refl (w.heap.size + 1 + 1) (w.heap.size + 1 + 1 + 1) w4).setCell (p := ⟨w.heap.size + 1 + 1, 0, none⟩) (Nat.le_refl _) (Nat.lt_succ_self _) _).setCell (p := ⟨w.heap.size + 1 + 1, 1, none⟩) (Nat.le_refl _) (Nat.lt_succ_self _) _) (by omega)).mono (by omega), ((B_4.out).setCell (by simp; omega) _).setCell (by simp; omega) _⟩
      | true =>
        have HZ := hide (lift_yes C1.out HSM.out HQ.out HC0.out HQ2.out)
        go_wp2_with fail
        have hzU := R_3.lt
        refine bodyPost_ret (by simp [results, Tryz.results117, go_sem, cR0, cR1, hzU, World.cell?_alloc_lt]; try rfl) rfl ?_
        rw [HZ.out]
        exact ⟨_, _, rfl, ((O_rU.out.other (((Other.refl (w.heap.size + 1 + 1) (w.heap.size + 1 + 1 + 1) w3).setCell (p := ⟨w.heap.size + 1 + 1, 0, none⟩) (Nat.le_refl _) (Nat.lt_succ_self _) _).setCell (p := ⟨w.heap.size + 1 + 1, 1, none⟩) (Nat.le_refl _) (Nat.lt_succ_self _) _) (by omega)).below (B := w3.heap.size) (Below.alloc (Below.refl _ _) (by simp [World.setCell]) _) (by simp [World.setCell])).mono (by omega), (((B_3.out).setCell (by simp; omega) _).setCell (by simp; omega) _).alloc (by have := (B_3.out).size; simpa [World.setCell] using this) _⟩
def BoxGot (base : Nat) (w : World) (q : List Int × List Int) (bx : Value) : Prop := ∃ G l h, bx = .pointer (some ⟨G, 0, none⟩) ∧ base ≤ G ∧ RowL w G 29 [l, h] ∧ PileOwn base w l h q.1 q.2
theorem box_new {base b : Nat} {w : World} {l h : Value} {q : List Int × List Int} (own : PileOwn b w l h q.1 q.2) (hb : base ≤ b) (hz : base ≤ w.heap.size) :
    BoxGot base (w.alloc (.cells #[l, h] 29)) q (.pointer (some ⟨w.heap.size, 0, none⟩)) :=
  ⟨_, _, _, rfl, hz, RowL.new _ _ _, (own.below ((Below.refl _ _).alloc (Nat.le_refl _) _) (Nat.le_refl _)).mono hb⟩
theorem box_old {base b G : Nat} {w : World} {x y l h : Value} {q : List Int × List Int} (r : RowL w G 29 [x, y]) (own : PileOwn b w l h q.1 q.2) (hG : base ≤ G) (hb : G < b) :
    BoxGot base ((w.setCell ⟨G, 0, none⟩ l).setCell ⟨G, 1, none⟩ h) q (.pointer (some ⟨G, 0, none⟩)) := by
  have k : Other G (G + 1) w ((w.setCell ⟨G, 0, none⟩ l).setCell ⟨G, 1, none⟩ h) :=
    ((Other.refl _ _ _).setCell (p := ⟨G, 0, none⟩) (Nat.le_refl _) (Nat.lt_succ_self _) _).setCell (p := ⟨G, 1, none⟩) (Nat.le_refl _) (Nat.lt_succ_self _) _
  exact ⟨_, _, _, rfl, hG, (r.set 0 l (by simp)).set 1 h (by simp), (own.other k (by omega)).mono (by omega)⟩
theorem held_call {w W W' : World} {B : Nat} {l h : Value} (hlt : B < w.heap.size) (k : Below W.heap.size W W') (H : (W.cell? ⟨B, 9, none⟩ = some l ∧ W.cell? ⟨B, 10, none⟩ = some h) ∧ Below w.heap.size w W) : (W'.cell? ⟨B, 9, none⟩ = some l ∧ W'.cell? ⟨B, 10, none⟩ = some h) ∧ Below w.heap.size w W' := by
  have hz := H.2.size
  exact ⟨⟨(k.cell (p := ⟨B, 9, none⟩) (show B < W.heap.size by omega)).trans H.1.1, (k.cell (p := ⟨B, 10, none⟩) (show B < W.heap.size by omega)).trans H.1.2⟩, H.2.trans (k.mono hz)⟩
theorem held_alloc {w W : World} {B : Nat} {l h : Value} {o : Obj} (hlt : B < w.heap.size) (H : (W.cell? ⟨B, 9, none⟩ = some l ∧ W.cell? ⟨B, 10, none⟩ = some h) ∧ Below w.heap.size w W) : ((W.alloc o).cell? ⟨B, 9, none⟩ = some l ∧ (W.alloc o).cell? ⟨B, 10, none⟩ = some h) ∧ Below w.heap.size w (W.alloc o) :=
  held_call hlt ((Below.refl _ _).alloc (Nat.le_refl _) o) H
theorem held_store {w W : World} {B G : Nat} {l h u v : Value} (hlt : B < w.heap.size) (hG : w.heap.size ≤ G) (H : (W.cell? ⟨B, 9, none⟩ = some l ∧ W.cell? ⟨B, 10, none⟩ = some h) ∧ Below w.heap.size w W) : (((W.setCell ⟨G, 0, none⟩ u).setCell ⟨G, 1, none⟩ v).cell? ⟨B, 9, none⟩ = some l ∧ ((W.setCell ⟨G, 0, none⟩ u).setCell ⟨G, 1, none⟩ v).cell? ⟨B, 10, none⟩ = some h) ∧ Below w.heap.size w ((W.setCell ⟨G, 0, none⟩ u).setCell ⟨G, 1, none⟩ v) := by
  have k : Below w.heap.size W ((W.setCell ⟨G, 0, none⟩ u).setCell ⟨G, 1, none⟩ v) := ((Below.refl _ _).setCell (p := ⟨G, 0, none⟩) hG _).setCell (p := ⟨G, 1, none⟩) hG _
  exact ⟨⟨(k.cell (p := ⟨B, 9, none⟩) hlt).trans H.1.1, (k.cell (p := ⟨B, 10, none⟩) hlt).trans H.1.2⟩, H.2.trans k⟩
theorem liftD_no1 {m : Mi} {a b : Int} (h : (decide (0 ≤ a) && decide (0 ≤ b)) = false) : liftD m a b = none := by simp [liftD, h]
theorem liftD_no2 {m : Mi} {a b : Int} (h : (liftR m.low m.high (spotTop a) (spotPlace a) (spotTop b) (spotPlace b)).2 = false) : liftD m a b = none := by simp [liftD, h]
theorem liftD_yes {m : Mi} {a b : Int} {q : List Int × List Int} (h1 : 0 ≤ a) (h2 : 0 ≤ b) (h : liftR m.low m.high (spotTop a) (spotPlace a) (spotTop b) (spotPlace b) = (q, true)) : liftD m a b = some { m with low := q.1, high := q.2 } := by simp [liftD, h, h1, h2]
set_option maxHeartbeats 1600000 in
theorem lift_meth {base B : Nat} {w : World} {s p l h : Value} {m : Mi} (a b : Int) (H : MillBox base B w s p l h m) (ha : a ≤ 9223372036854775807) (hb : b ≤ 9223372036854775807) :
    Calls Tryz.prog 110 #[.pointer (some ⟨B, 0, none⟩), .int .i64 a, .int .i64 b] w (Meth base B (liftD m a b) w) := by
  by_cases ha0 : 0 ≤ a
  · by_cases hb0 : 0 ≤ b
    · have HH := hide H
      have hr := H.row
      have hlt := hr.lt
      have hbz := H.got.hb
      have HL := hide (H.got.all.low)
      have HG := hide (H.got.all.high)
      have c9 : w.cell? ⟨B, 9, none⟩ = some l := hr.cell 9 (by simp [millC])
      have c10 : w.cell? ⟨B, 10, none⟩ = some h := hr.cell 10 (by simp [millC])
      obtain ⟨⟨q, r⟩, hQ⟩ : ∃ Q, liftR m.low m.high (spotTop a) (spotPlace a) (spotTop b) (spotPlace b) = Q := ⟨_, rfl⟩
      have HQ := hide hQ
      have HA := hide (fun W => spotN_impl a W ha0 ha)
      have HBB := hide (fun W => spotN_impl b W hb0 hb)
      have hlf := fun (W : World) (k : Below w.heap.size w W) => lift_impl l h m.low m.high (spotTop a) (spotPlace a) (spotTop b) (spotPlace b) W ((HL.out.below k).mono (Nat.le_refl _) k.size (Nat.le_refl _)) ((HG.out.below k).mono (Nat.le_refl _) k.size (Nat.le_refl _))
      rw [hQ] at hlf
      unfold pileV at hlf
      have HLF := hide hlf
      have hna : ¬ a < 0 := by omega
      have hnb : ¬ b < 0 := by omega
      obtain ⟨ta, hta⟩ : ∃ t, spotTop a = t := ⟨_, rfl⟩
      obtain ⟨pa, hpa⟩ : ∃ t, spotPlace a = t := ⟨_, rfl⟩
      obtain ⟨tb, htb⟩ : ∃ t, spotTop b = t := ⟨_, rfl⟩
      obtain ⟨pb, hpb⟩ : ∃ t, spotPlace b = t := ⟨_, rfl⟩
      rw [hta, hpa] at HA HLF
      rw [htb, hpb] at HBB HLF
      clear hQ hlf hta hpa htb hpb hr H
      go_enter Tryz.func110, Tryz.ntmps110
      go_wp2_with fail
      have hI : w.drew.cell? ⟨B, 9, none⟩ = some l ∧ w.drew.cell? ⟨B, 10, none⟩ = some h := ⟨c9, c10⟩
      have hK : Below w.heap.size w w.drew := (Below.refl _ _).drew
      go_cut [7, 8] from 15 to 27 (fun bx ok wr => BoxGot w.heap.size wr q bx ∧ ok = .bool r ∧ Below w.heap.size w wr)
      case first =>
        go_region_held (fun W => (W.cell? ⟨B, 9, none⟩ = some l ∧ W.cell? ⟨B, 10, none⟩ = some h) ∧ Below w.heap.size w W) (first | exact ⟨hI, hK⟩ | assumption | exact held_alloc hlt (by assumption) | exact held_store hlt (by first | exact Nat.le_refl _ | omega) (by assumption) | (trace_state; fail)) (first
          | (go_at_call 166; (with_reducible refine (HA.out _).mono ?_); rintro e w5 ⟨rfl, hb5⟩; have hS5 := held_call hlt hb5 (by assumption); have hz5 := hS5.2.size; obtain ⟨hc5, hf5⟩ := bcell hb5; have hzz5 := hb5.size; (try simp at hzz5); (try have hx50 : w.heap.size < w5.heap.size := by omega); (try have hx51 : w6.heap.size < w5.heap.size := by omega))
          | (go_at_call 166; (with_reducible refine (HBB.out _).mono ?_); rintro e w6 ⟨rfl, hb6⟩; have hS6 := held_call hlt hb6 (by assumption); have hz6 := hS6.2.size; obtain ⟨hc6, hf6⟩ := bcell hb6; have hzz6 := hb6.size; (try simp at hzz6); (try have hx60 : w.heap.size < w6.heap.size := by omega); (try have hx61 : w5.heap.size < w6.heap.size := by omega))
          | (go_at_call 167; (with_reducible refine (HLF.out _ (And.right (by assumption))).mono ?_); rintro e w7 ⟨lx, hx, rfl, own, hb7⟩; have hS7 := held_call hlt hb7 (by assumption); have hz7 := hS7.2.size; obtain ⟨hc7, hf7⟩ := bcell hb7; have hzz7 := hb7.size; (try simp at hzz7); (try have hx70 : w.heap.size < w7.heap.size := by omega); (try have hx71 : w5.heap.size < w7.heap.size := by omega); (try have hx72 : w6.heap.size < w7.heap.size := by omega); obtain ⟨alx, clx, hlx, -, -⟩ := own.lo.form; obtain ⟨ahx, chx, hhx, -, -⟩ := own.ho.form; subst hlx hhx; simp only [pileV]))
        all_goals
          have hwd : w.drew.heap.size = w.heap.size := rfl
          clear hna hnb
          go_wp2_with fail
          go_meet
        · exact ⟨box_new (base := w.heap.size) own (by omega) (by omega), rfl, And.right (by assumption)⟩
        · exact ⟨box_old ((RowL.new w6 _ _).below hb7 (by simp)) own (by omega) (by simp), rfl, And.right (by assumption)⟩
        · exact ⟨box_old (((RowL.new w5 _ _).below hb6 (by simp)).below hb7 (by omega)) own (by omega) (by omega), rfl, And.right (by assumption)⟩
        · exact ⟨box_old ((((RowL.new w.drew _ _).below hb5 (by simp)).below hb6 (by omega)).below hb7 (by omega)) own (by omega) (by omega), rfl, And.right (by assumption)⟩
      obtain ⟨⟨G, lx, hx, rfl, hG, hrow, hown⟩, rfl, hbw⟩ := hcut
      have HR := hide hrow
      have HO := hide hown
      have HBW := hide hbw
      have hGz := hrow.lt
      have g0 : wc.cell? ⟨G, 0, none⟩ = some lx := hrow.cell 0 (by simp)
      have g1 : wc.cell? ⟨G, 1, none⟩ = some hx := hrow.cell 1 (by simp)
      have R_c := HH.out.row.below hbw hlt
      have d9 : wc.cell? ⟨B, 9, none⟩ = some l := R_c.cell 9 (by simp [millC])
      have d10 : wc.cell? ⟨B, 10, none⟩ = some h := R_c.cell 10 (by simp [millC])
      have f9 := R_c.frozen 9
      have f10 := R_c.frozen 10
      have hltc := R_c.lt
      have hRc := hide R_c
      obtain ⟨alx, clx, rfl, -, -⟩ := hown.lo.form
      obtain ⟨ahx, chx, rfl, -, -⟩ := hown.ho.form
      clear hrow hown hbw R_c hI hK c9 c10
      cases r with
      | false =>
        have HN := hide (liftD_no2 (m := m) (a := a) (b := b) (by rw [HQ.out]))
        go_wp2_with fail
        go_ret
        rw [HN.out]
        exact Meth.no (HBW.out.mono hbz)
      | true =>
        have HY := hide (liftD_yes (m := m) ha0 hb0 HQ.out)
        go_wp2_with fail
        go_ret
        rw [HY.out]
        have G_2 := HH.out.got.yard HBW.out (Nat.le_refl _) HO.out
        have O_2 := notIn_new HH.out.off hlt HO.out
        obtain ⟨r1, k1, b1⟩ := box_set hRc.out G_2 O_2 HH.out.hB (j := 9) (by simp [millC]) (.slice alx q.1.length clx)
        obtain ⟨r2, k2, b2⟩ := box_set r1 k1 O_2 HH.out.hB (j := 10) (by simp [millC]) (.slice ahx q.2.length chx)
        refine ⟨rfl, ((HBW.out.mono hbz).trans b1).trans b2, fun x hx => ?_⟩
        obtain rfl := Option.some.inj hx
        exact ⟨_, _, _, _, r2, k2⟩
    · have hN := hide (liftD_no1 (m := m) (a := a) (b := b) (by simp [hb0]))
      have hna : ¬ a < 0 := by omega
      have hnb : b < 0 := by omega
      have hbz := H.got.hb
      go_enter Tryz.func110, Tryz.ntmps110
      go_wp2_with fail
      go_ret
      rw [hN.out]
      exact Meth.no (Below.refl _ _)
  · have hN := hide (liftD_no1 (m := m) (a := a) (b := b) (by simp [ha0]))
    have hna : a < 0 := by omega
    have hbz := H.got.hb
    go_enter Tryz.func110, Tryz.ntmps110
    go_wp2_with fail
    go_ret
    rw [hN.out]
    exact Meth.no (Below.refl _ _)
theorem rollD_no1 {m : Mi} {id n : Int} (h : ¬ 0 ≤ n) : rollD m id n = none := by simp [rollD, h]
theorem rollD_no2 {m : Mi} {id n : Int} (h : hasB m id 0 = false) : rollD m id n = none := by simp [rollD, h]
theorem rollD_no3 {m : Mi} {id n : Int} (h : (putR m.low m.high (spotTop n) (spotPlace n) id).2 = false) : rollD m id n = none := by simp [rollD, h]
theorem rollD_yes {m : Mi} {id n : Int} {q : List Int × List Int} (h1 : 0 ≤ n) (h2 : hasB m id 0 = true) (h : putR m.low m.high (spotTop n) (spotPlace n) id = (q, true)) : rollD m id n = some { m with low := q.1, high := q.2, pieces := setS m.pieces id 1 } := by simp [rollD, h, h1, h2]
set_option maxHeartbeats 1600000 in
theorem roll_meth {base B : Nat} {w : World} {s p l h : Value} {m : Mi} (id n : Int) (H : MillBox base B w s p l h m) (hl : m.pieces.length ≤ 1000000) (hn : n ≤ 9223372036854775807) :
    Calls Tryz.prog 109 #[.pointer (some ⟨B, 0, none⟩), .int .i64 id, .int .i64 n] w (Meth base B (rollD m id n) w) := by
  by_cases hn0 : 0 ≤ n
  · have hnb : ¬ n < 0 := by omega
    have HH := hide H
    have hr := H.row
    have hlt := hr.lt
    have hbz := H.got.hb
    have HL := hide (H.got.all.low)
    have HG := hide (H.got.all.high)
    have c8 : w.cell? ⟨B, 8, none⟩ = some p := hr.cell 8 (by simp [millC])
    have c9 : w.cell? ⟨B, 9, none⟩ = some l := hr.cell 9 (by simp [millC])
    have c10 : w.cell? ⟨B, 10, none⟩ = some h := hr.cell 10 (by simp [millC])
    have hhas := has_any B p m id 0 w H.got.all.pieces c8 hl
    cases hhb : hasB m id 0 with
    | false =>
      have hN := hide (rollD_no2 (n := n) hhb)
      rw [hhb] at hhas
      clear hhb hr H
      go_enter Tryz.func109, Tryz.ntmps109
      go_wp2_with fail
      refine hhas.mono ?_
      rintro e w1 ⟨rfl, rfl⟩
      go_wp2_with fail
      go_ret
      rw [hN.out]
      exact Meth.no (Below.refl _ _)
    | true =>
      rw [hhb] at hhas
      have HB2 := hide hhb
      obtain ⟨k, rfl, hk, hs0⟩ := hasB_iff.1 hhb
      have HHAS := hide hhas
      obtain ⟨⟨q, r⟩, hQ⟩ : ∃ Q, putR m.low m.high (spotTop n) (spotPlace n) ((k : Int) + 1) = Q := ⟨_, rfl⟩
      have HQ := hide hQ
      have HA := hide (fun W => spotN_impl n W hn0 hn)
      have hlf := fun (W : World) (kk : Below w.heap.size w W) => put_impl l h m.low m.high (spotTop n) (spotPlace n) ((k : Int) + 1) W ((HL.out.below kk).mono (Nat.le_refl _) kk.size (Nat.le_refl _)) ((HG.out.below kk).mono (Nat.le_refl _) kk.size (Nat.le_refl _))
      rw [hQ] at hlf
      unfold pileV at hlf
      have HLF := hide hlf
      obtain ⟨ta, hta⟩ : ∃ t, spotTop n = t := ⟨_, rfl⟩
      obtain ⟨pa, hpa⟩ : ∃ t, spotPlace n = t := ⟨_, rfl⟩
      rw [hta, hpa] at HA HLF
      clear hQ hlf hta hpa hr H hhas hhb hs0
      go_enter Tryz.func109, Tryz.ntmps109
      go_wp2_with fail
      refine HHAS.out.mono ?_
      rintro e w1 ⟨rfl, rfl⟩
      go_wp2_with fail
      have hI : w.drew.cell? ⟨B, 9, none⟩ = some l ∧ w.drew.cell? ⟨B, 10, none⟩ = some h := ⟨c9, c10⟩
      have hK : Below w.heap.size w w.drew := (Below.refl _ _).drew
      go_cut [7, 8] from 17 to 27 (fun bx ok wr => BoxGot w.heap.size wr q bx ∧ ok = .bool r ∧ Below w.heap.size w wr)
      case first =>
        go_region_held (fun W => (W.cell? ⟨B, 9, none⟩ = some l ∧ W.cell? ⟨B, 10, none⟩ = some h) ∧ Below w.heap.size w W) (first | exact ⟨hI, hK⟩ | assumption | exact held_alloc hlt (by assumption) | exact held_store hlt (by first | exact Nat.le_refl _ | omega) (by assumption) | (trace_state; fail)) (first
          | (go_at_call 166; (with_reducible refine (HA.out _).mono ?_); rintro e w5 ⟨rfl, hb5⟩; have hS5 := held_call hlt hb5 (by assumption); have hz5 := hS5.2.size; obtain ⟨hc5, hf5⟩ := bcell hb5; have hzz5 := hb5.size; (try simp at hzz5); (try have hx50 : w.heap.size < w5.heap.size := by omega))
          | (go_at_call 165; (with_reducible refine (HLF.out _ (And.right (by assumption))).mono ?_); rintro e w7 ⟨lx, hx, rfl, own, hb7⟩; have hS7 := held_call hlt hb7 (by assumption); have hz7 := hS7.2.size; obtain ⟨hc7, hf7⟩ := bcell hb7; have hzz7 := hb7.size; (try simp at hzz7); (try have hx70 : w.heap.size < w7.heap.size := by omega); (try have hx71 : w5.heap.size < w7.heap.size := by omega); obtain ⟨alx, clx, hlx, -, -⟩ := own.lo.form; obtain ⟨ahx, chx, hhx, -, -⟩ := own.ho.form; subst hlx hhx; simp only [pileV]))
        all_goals
          have hwd : w.drew.heap.size = w.heap.size := rfl
          clear hnb
          go_wp2_with fail
          go_meet
        · exact ⟨box_new (base := w.heap.size) own (by omega) (by omega), rfl, And.right (by assumption)⟩
        · exact ⟨box_old ((RowL.new w5 _ _).below hb7 (by simp)) own (by omega) (by simp), rfl, And.right (by assumption)⟩
        · exact ⟨box_old (((RowL.new w.drew _ _).below hb5 (by simp)).below hb7 (by omega)) own (by omega) (by omega), rfl, And.right (by assumption)⟩
      obtain ⟨⟨G, lx, hx, rfl, hG, hrow, hown⟩, rfl, hbw⟩ := hcut
      have HR := hide hrow
      have HO := hide hown
      have HBW := hide hbw
      have hGz := hrow.lt
      have g0 : wc.cell? ⟨G, 0, none⟩ = some lx := hrow.cell 0 (by simp)
      have g1 : wc.cell? ⟨G, 1, none⟩ = some hx := hrow.cell 1 (by simp)
      have R_c := HH.out.row.below hbw hlt
      have f9 := R_c.frozen 9
      have f10 := R_c.frozen 10
      have d9 : wc.cell? ⟨B, 9, none⟩ = some l := R_c.cell 9 (by simp [millC])
      have d10 : wc.cell? ⟨B, 10, none⟩ = some h := R_c.cell 10 (by simp [millC])
      have d8 : wc.cell? ⟨B, 8, none⟩ = some p := R_c.cell 8 (by simp [millC])
      have hltc := R_c.lt
      have hRc := hide R_c
      obtain ⟨alx, clx, rfl, -, -⟩ := hown.lo.form
      obtain ⟨ahx, chx, rfl, -, -⟩ := hown.ho.form
      have GC := HH.out.got.below hbw
      obtain ⟨g, cp, hpf, hgb, hgz, hgc⟩ := got_block GC (by omega)
      have hgB : g ≠ B := fun e => HH.out.off.2.1 (by rw [hpf, e]; rfl)
      have hBg : B ≠ g := fun e => hgB e.symm
      have HPF := hide hpf
      obtain ⟨hgc1, hgf1⟩ := hgc k hk
      rw [hpf] at d8
      have hkI : (k : Int) < (m.pieces.length : Int) := by omega
      have hk0 : (0 : Int) ≤ (k : Int) := by omega
      have hsub : IntKind.i64.wrap ((k : Int) + 1 - 1) = (k : Int) := by rw [show (k : Int) + 1 - 1 = (k : Int) by omega]; exact IntWalk.i64_in _ (by omega)
      clear hrow hown hbw R_c hI hK c8 c9 c10 GC hgc hpf
      cases r with
      | false =>
        have HN := hide (rollD_no3 (m := m) (id := (k : Int) + 1) (n := n) (by rw [HQ.out]))
        go_wp2_with fail
        go_ret
        rw [HN.out]
        exact Meth.no (HBW.out.mono hbz)
      | true =>
        have HY := hide (rollD_yes (m := m) hn0 HB2.out HQ.out)
        go_wp2_with fail
        go_ret
        rw [HY.out]
        have G_2 := HH.out.got.yard HBW.out (Nat.le_refl _) HO.out
        have O_2 := notIn_new HH.out.off hlt HO.out
        obtain ⟨r1, k1, b1⟩ := box_set hRc.out G_2 O_2 HH.out.hB (j := 9) (by simp [millC]) (.slice alx q.1.length clx)
        obtain ⟨r2, k2, b2⟩ := box_set r1 k1 O_2 HH.out.hB (j := 10) (by simp [millC]) (.slice ahx q.2.length chx)
        obtain ⟨k3, b3⟩ := got_state k2 (k := k) hk (g := g) (by rw [HPF.out]; rfl) 1
        refine ⟨rfl, (((HBW.out.mono hbz).trans b1).trans b2).trans b3, fun x hx => ?_⟩
        obtain rfl := Option.some.inj hx
        exact ⟨_, _, _, _, r2.other (lo := g) (hi := g + 1) ((Other.refl _ _ _).setCell (p := ⟨g, k * 2 + 1, none⟩) (Nat.le_refl _) (Nat.lt_succ_self _) _) (by omega), k3⟩
  · have hN := hide (rollD_no1 (m := m) (id := id) (n := n) hn0)
    have hna : n < 0 := by omega
    go_enter Tryz.func109, Tryz.ntmps109
    go_wp2_with fail
    go_ret
    rw [hN.out]
    exact Meth.no (Below.refl _ _)
end Go.Proofs.YtmemgbklgcjobaaGreatDoor
