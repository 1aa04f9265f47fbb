/-
  Parts of the proofs over mills, of: CoilL, MethB, CopyM. Conditions: each theorem states its own.
-/
import Derived.Test.YtmemgbklgcjobaaGreatDoorB22
import Derived.Test.YtmemgbklgcjobaaGreatDoorB36
set_option linter.unusedSimpArgs false
set_option linter.unusedVariables false
set_option maxRecDepth 10000
namespace Go.Proofs.YtmemgbklgcjobaaGreatDoor
open Go.RowKit
set_option maxHeartbeats 3200000 in
theorem lift_impl (l h : Value) (lo hi : List Int) (t : Bool) (p : Int) (t' : Bool) (p' : Int) (w : World) (Hl : IntsAt 0 w.heap.size w l lo) (Hh : IntsAt 0 w.heap.size w h hi) :
    Calls Tryz.prog 167 #[pileV l h, .agg #[.bool t, .int .i64 p, .bool t', .int .i64 p']] w (PileGot2 w.heap.size (liftR lo hi t p t' p').1 (.bool (liftR lo hi t p t' p').2) w) := by
  have HL := hide Hl
  have HH := hide Hh
  clear Hl Hh
  have hp := fun W => pile_impl l h lo hi W
  have hc := fun W H1 H2 n1 n2 => copyPile_any l h lo hi W H1 H2 n1 n2
  have ht := fun W => takeP_impl l h lo hi t p W
  obtain ⟨⟨⟨lo2, hi2⟩, c⟩, hQ⟩ : ∃ Q, takeR lo hi t p = Q := ⟨_, rfl⟩
  rw [hQ] at ht
  have HQ := hide hQ
  clear hQ
  unfold pileV at hp hc ht ⊢
  have HP := hide hp
  have HC := hide hc
  have HT := hide ht
  clear hp hc ht
  go_enter Tryz.func167, Tryz.ntmps167
  go_wp2_with fail
  refine calls_at fun wx hwx => ?_
  have A_0 : RowL wx (w.heap.size) 29 [l, h] := by rw [hwx]; exact (((RowL.new _ 29 [l, h]).alloc _).alloc _)
  have S_0 : RowL wx (w.heap.size + 1) 132 [.bool t, .int .i64 p, .bool t', .int .i64 p'] := by rw [hwx]; simpa using ((RowL.new (World.alloc _ _) 132 [.bool t, .int .i64 p, .bool t', .int .i64 p']).alloc _)
  have R_0 : RowL wx (w.heap.size + 1 + 1) 29 [.slice none 0 0, .slice none 0 0] := by rw [hwx]; simpa using (RowL.new (World.alloc (World.alloc _ _) _) 29 [.slice none 0 0, .slice none 0 0])
  have B_0 : Below w.heap.size w wx := by rw [hwx]; go_grown
  clear hwx
  have hL0 := R_0.lt
  have VL_0 := hide (HL.out.below B_0)
  have VH_0 := hide (HH.out.below B_0)
  have k1 := HP.out wx ((VL_0.out).mono (Nat.le_refl _) (VL_0.out).lt (Nat.le_refl _)) ((VH_0.out).mono (Nat.le_refl _) (VH_0.out).lt (Nat.le_refl _))
  cases c1 : pileB lo hi with
  | false =>
    rw [c1] at k1
    have HZ := hide (lift_bad (t := t) (t' := t') (p := p) (p' := p') c1)
    clear c1
    refine (k1).mono ?_
    rintro e w1 ⟨rfl, hb⟩
    have A_1 := A_0.below hb A_0.lt
    have S_1 := S_0.below hb S_0.lt
    have R_1 := R_0.below hb R_0.lt
    have VL_1 := hide (VL_0.out.below hb)
    have VH_1 := hide (VH_0.out.below hb)
    have B_1 := hide (Below.step B_0 hb (Nat.le_refl _))
    have hz1 := hb.size
    clear hb
    have cR0 := R_1.c 0 rfl
    have cR1 := R_1.c 1 rfl
    have fR0 := R_1.frozen 0
    have fR1 := R_1.frozen 1
    clear k1
    go_wp2_with fail
    refine bodyPost_ret (by simp [results, Tryz.results167, go_sem, cR0, cR1]; try rfl) rfl ?_
    rw [HZ.out]
    exact ⟨_, _, rfl, pileOwn_nil (by have := (B_1.out).size; simpa [World.setCell] using this), ((B_1.out).setCell (by simp; omega) _).setCell (by simp; omega) _⟩
  | true =>
    rw [c1] at k1
    obtain ⟨n1, n2⟩ := pile_lens c1
    have C1 := hide c1
    clear c1
    refine (k1).mono ?_
    rintro e w1 ⟨rfl, hb⟩
    have A_1 := A_0.below hb A_0.lt
    have S_1 := S_0.below hb S_0.lt
    have R_1 := R_0.below hb R_0.lt
    have VL_1 := hide (VL_0.out.below hb)
    have VH_1 := hide (VH_0.out.below hb)
    have B_1 := hide (Below.step B_0 hb (Nat.le_refl _))
    have hz1 := hb.size
    clear hb
    have cA0 := A_1.c 0 rfl
    have cA1 := A_1.c 1 rfl
    have cS0 := S_1.c 0 rfl
    have cS1 := S_1.c 1 rfl
    have cS2 := S_1.c 2 rfl
    have cS3 := S_1.c 3 rfl
    clear k1
    by_cases hsm : (t == t' && p == p') = true
    · have HZ := hide (lift_same C1.out hsm)
      obtain ⟨e1, e2⟩ : t = t' ∧ p = p' := by simpa using hsm
      subst e1 e2
      clear hsm
      go_wp2_with fail
      have hzR := R_1.lt
      refine (HC.out w1 ((VL_1.out).mono (Nat.le_refl _) (VL_1.out).lt (Nat.le_refl _)) ((VH_1.out).mono (Nat.le_refl _) (VH_1.out).lt (Nat.le_refl _)) n1 n2).mono ?_
      rintro e w2 ⟨la, ha, rfl, own, hb⟩
      have A_2 := A_1.below hb A_1.lt
      have S_2 := S_1.below hb S_1.lt
      have R_2 := R_1.below hb R_1.lt
      have VL_2 := hide (VL_1.out.below hb)
      have VH_2 := hide (VH_1.out.below hb)
      have B_2 := hide (Below.step B_1.out hb (Nat.le_refl _))
      have hz2 := hb.size
      clear hb
      have cA0 := A_2.c 0 rfl
      have cA1 := A_2.c 1 rfl
      have cR0 := R_2.c 0 rfl
      have cR1 := R_2.c 1 rfl
      have fR0 := R_2.frozen 0
      have fR1 := R_2.frozen 1
      simp only [pileV]
      have O_a := hide own
      obtain ⟨ala, cla, rfl, -, -⟩ := own.lo.form
      obtain ⟨aha, cha, rfl, -, -⟩ := own.ho.form
      clear own
      have hzca : w.heap.size + 1 + 1 + 1 ≤ w1.heap.size := hzR
      go_wp2_with fail
      refine bodyPost_ret (by simp [results, Tryz.results167, go_sem, cR0, cR1]; try rfl) rfl ?_
      rw [HZ.out]
      exact ⟨_, _, rfl, (O_a.out.other (((Other.refl (w.heap.size + 1 + 1) (w.heap.size + 1 + 1 + 1) w2).setCell (p := ⟨w.heap.size + 1 + 1, 0, none⟩) (Nat.le_refl _) (Nat.lt_succ_self _) _).setCell (p := ⟨w.heap.size + 1 + 1, 1, none⟩) (Nat.le_refl _) (Nat.lt_succ_self _) _) (by omega)).mono (by omega), ((B_2.out).setCell (by simp; omega) _).setCell (by simp; omega) _⟩
    have HSM := hide hsm
    have hne : t = t' → ¬ p = p' := fun e1 e2 => hsm (by simp [e1, e2])
    clear hsm
    rcases Decidable.em (t = t') with htt | htt
    · have hpp := hne htt
      subst htt
      clear hne
      go_wp2_with fail
      refine (HT.out w1 ((VL_1.out).mono (Nat.le_refl _) (VL_1.out).lt (Nat.le_refl _)) ((VH_1.out).mono (Nat.le_refl _) (VH_1.out).lt (Nat.le_refl _))).mono ?_
      rintro e w2 ⟨l2, h2, rfl, own, hb⟩
      have A_2 := A_1.below hb A_1.lt
      have S_2 := S_1.below hb S_1.lt
      have R_2 := R_1.below hb R_1.lt
      have VL_2 := hide (VL_1.out.below hb)
      have VH_2 := hide (VH_1.out.below hb)
      have B_2 := hide (Below.step B_1.out hb (Nat.le_refl _))
      have hz2 := hb.size
      clear hb
      have cA0 := A_2.c 0 rfl
      have cA1 := A_2.c 1 rfl
      have cS0 := S_2.c 0 rfl
      have cS1 := S_2.c 1 rfl
      have cS2 := S_2.c 2 rfl
      have cS3 := S_2.c 3 rfl
      have cR0 := R_2.c 0 rfl
      have cR1 := R_2.c 1 rfl
      have fR0 := R_2.frozen 0
      have fR1 := R_2.frozen 1
      simp only [pileV]
      have O_rT := hide own
      obtain ⟨alT, clT, rfl, -, -⟩ := own.lo.form
      obtain ⟨ahT, chT, rfl, -, -⟩ := own.ho.form
      clear own
      simp only []
      have hzT0 : w.heap.size + 1 + 1 + 1 ≤ w1.heap.size := R_1.lt
      have hzR2 := R_2.lt
      have hzA2 := A_2.lt
      have hzS2 := S_2.lt
      by_cases hc0 : c = 0
      · have HZ := hide (lift_none (t' := t) (p' := p') C1.out HQ.out hc0)
        subst hc0
        go_wp2_with fail
        refine calls_at fun wT hw4 => ?_
        have T_T : RowL wT w2.heap.size 29 [.slice alT lo2.length clT, .slice ahT hi2.length chT] := by rw [hw4]; exact RowL.new _ _ _
        have hb4 : Below w2.heap.size w2 wT := by rw [hw4]; exact (Below.refl _ _).alloc (Nat.le_refl _) _
        have A_T := A_2.below hb4 A_2.lt
        have S_T := S_2.below hb4 S_2.lt
        have R_T := R_2.below hb4 R_2.lt
        have VL_T := hide (VL_2.out.below hb4)
        have VH_T := hide (VH_2.out.below hb4)
        have B_T := hide (Below.step B_2.out hb4 (Nat.le_refl _))
        have O_T := hide (O_rT.out.below hb4 (Nat.le_refl _))
        clear hw4 hb4
        have hTT := T_T.lt
        have hzR := R_T.lt
        refine (HC.out wT ((VL_T.out).mono (Nat.le_refl _) (VL_T.out).lt (Nat.le_refl _)) ((VH_T.out).mono (Nat.le_refl _) (VH_T.out).lt (Nat.le_refl _)) n1 n2).mono ?_
        rintro e w3 ⟨lb, hb, rfl, own, hb⟩
        have A_3 := A_T.below hb A_T.lt
        have S_3 := S_T.below hb S_T.lt
        have R_3 := R_T.below hb R_T.lt
        have T_3 := T_T.below hb T_T.lt
        have VL_3 := hide (VL_T.out.below hb)
        have VH_3 := hide (VH_T.out.below hb)
        have B_3 := hide (Below.step B_T.out hb (Nat.le_refl _))
        have hz3 := hb.size
        clear hb
        have cA0 := A_3.c 0 rfl
        have cA1 := A_3.c 1 rfl
        have cR0 := R_3.c 0 rfl
        have cR1 := R_3.c 1 rfl
        have fR0 := R_3.frozen 0
        have fR1 := R_3.frozen 1
        simp only [pileV]
        have O_b := hide own
        obtain ⟨alb, clb, rfl, -, -⟩ := own.lo.form
        obtain ⟨ahb, chb, rfl, -, -⟩ := own.ho.form
        clear own
        have hzcb : w.heap.size + 1 + 1 + 1 ≤ wT.heap.size := hzR
        go_wp2_with fail
        refine bodyPost_ret (by simp [results, Tryz.results167, go_sem, cR0, cR1]; try rfl) rfl ?_
        rw [HZ.out]
        exact ⟨_, _, rfl, (O_b.out.other (((Other.refl (w.heap.size + 1 + 1) (w.heap.size + 1 + 1 + 1) w3).setCell (p := ⟨w.heap.size + 1 + 1, 0, none⟩) (Nat.le_refl _) (Nat.lt_succ_self _) _).setCell (p := ⟨w.heap.size + 1 + 1, 1, none⟩) (Nat.le_refl _) (Nat.lt_succ_self _) _) (by omega)).mono (by omega), ((B_3.out).setCell (by simp; omega) _).setCell (by simp; omega) _⟩
      have HC0 := hide hc0
      have hcB : (c == 0) = false := by simpa using hc0
      clear hc0
      go_wp2_with fail
      refine calls_at fun wT hw4 => ?_
      have T_T : RowL wT w2.heap.size 29 [.slice alT lo2.length clT, .slice ahT hi2.length chT] := by rw [hw4]; exact RowL.new _ _ _
      have hb4 : Below w2.heap.size w2 wT := by rw [hw4]; exact (Below.refl _ _).alloc (Nat.le_refl _) _
      have A_T := A_2.below hb4 A_2.lt
      have S_T := S_2.below hb4 S_2.lt
      have R_T := R_2.below hb4 R_2.lt
      have VL_T := hide (VL_2.out.below hb4)
      have VH_T := hide (VH_2.out.below hb4)
      have B_T := hide (Below.step B_2.out hb4 (Nat.le_refl _))
      have O_T := hide (O_rT.out.below hb4 (Nat.le_refl _))
      clear hw4 hb4
      have hTT := T_T.lt
      clear hcB
      have hpt := put_impl (.slice alT lo2.length clT) (.slice ahT hi2.length chT) lo2 hi2 t p' c wT O_T.out.low0 O_T.out.high0
      unfold pileV at hpt
      obtain ⟨⟨⟨lo3, hi3⟩, ok⟩, hQ2⟩ : ∃ Q, putR lo2 hi2 t p' c = Q := ⟨_, rfl⟩
      rw [hQ2] at hpt
      have HQ2 := hide hQ2
      clear hQ2
      refine (hpt).mono ?_
      rintro e w3 ⟨l3, h3, rfl, own, hb⟩
      have A_3 := A_T.below hb A_T.lt
      have S_3 := S_T.below hb S_T.lt
      have R_3 := R_T.below hb R_T.lt
      have T_3 := T_T.below hb T_T.lt
      have VL_3 := hide (VL_T.out.below hb)
      have VH_3 := hide (VH_T.out.below hb)
      have B_3 := hide (Below.step B_T.out hb (Nat.le_refl _))
      have hz3 := hb.size
      clear hb
      have cA0 := A_3.c 0 rfl
      have cA1 := A_3.c 1 rfl
      have cR0 := R_3.c 0 rfl
      have cR1 := R_3.c 1 rfl
      have fR0 := R_3.frozen 0
      have fR1 := R_3.frozen 1
      clear hpt
      simp only [pileV]
      have O_rU := hide own
      obtain ⟨alU, clU, rfl, -, -⟩ := own.lo.form
      obtain ⟨ahU, chU, rfl, -, -⟩ := own.ho.form
      clear own
      simp only []
      have hzR3 := R_3.lt
      have hzA3 := A_3.lt
      cases ok with
      | false =>
        have HZ := hide (lift_not (t := t) (p := p) C1.out HQ.out HQ2.out)
        go_wp2_with fail
        refine calls_at fun wU hw4 => ?_
        have U_U : RowL wU w3.heap.size 29 [.slice alU lo3.length clU, .slice ahU hi3.length chU] := by rw [hw4]; exact RowL.new _ _ _
        have hb4 : Below w3.heap.size w3 wU := by rw [hw4]; exact (Below.refl _ _).alloc (Nat.le_refl _) _
        have A_U := A_3.below hb4 A_3.lt
        have S_U := S_3.below hb4 S_3.lt
        have R_U := R_3.below hb4 R_3.lt
        have T_U := T_3.below hb4 T_3.lt
        have VL_U := hide (VL_3.out.below hb4)
        have VH_U := hide (VH_3.out.below hb4)
        have B_U := hide (Below.step B_3.out hb4 (Nat.le_refl _))
        have O_U := hide (O_rU.out.below hb4 (Nat.le_refl _))
        clear hw4 hb4
        have hTU := U_U.lt
        have hzR := R_U.lt
        refine (HC.out wU ((VL_U.out).mono (Nat.le_refl _) (VL_U.out).lt (Nat.le_refl _)) ((VH_U.out).mono (Nat.le_refl _) (VH_U.out).lt (Nat.le_refl _)) n1 n2).mono ?_
        rintro e w4 ⟨ld, hd, rfl, own, hb⟩
        have A_4 := A_U.below hb A_U.lt
        have S_4 := S_U.below hb S_U.lt
        have R_4 := R_U.below hb R_U.lt
        have T_4 := T_U.below hb T_U.lt
        have U_4 := U_U.below hb U_U.lt
        have VL_4 := hide (VL_U.out.below hb)
        have VH_4 := hide (VH_U.out.below hb)
        have B_4 := hide (Below.step B_U.out hb (Nat.le_refl _))
        have hz4 := hb.size
        clear hb
        have cA0 := A_4.c 0 rfl
        have cA1 := A_4.c 1 rfl
        have cR0 := R_4.c 0 rfl
        have cR1 := R_4.c 1 rfl
        have fR0 := R_4.frozen 0
        have fR1 := R_4.frozen 1
        simp only [pileV]
        have O_d := hide own
        obtain ⟨ald, cld, rfl, -, -⟩ := own.lo.form
        obtain ⟨ahd, chd, rfl, -, -⟩ := own.ho.form
        clear own
        have hzcd : w.heap.size + 1 + 1 + 1 ≤ wU.heap.size := hzR
        go_wp2_with fail
        refine bodyPost_ret (by simp [results, Tryz.results167, go_sem, cR0, cR1]; try rfl) rfl ?_
        rw [HZ.out]
        exact ⟨_, _, rfl, (O_d.out.other (((Other.refl (w.heap.size + 1 + 1) (w.heap.size + 1 + 1 + 1) w4).setCell (p := ⟨w.heap.size + 1 + 1, 0, none⟩) (Nat.le_refl _) (Nat.lt_succ_self _) _).setCell (p := ⟨w.heap.size + 1 + 1, 1, none⟩) (Nat.le_refl _) (Nat.lt_succ_self _) _) (by omega)).mono (by omega), ((B_4.out).setCell (by simp; omega) _).setCell (by simp; omega) _⟩
      | true =>
        have HZ := hide (lift_yes C1.out HSM.out HQ.out HC0.out HQ2.out)
        go_wp2_with fail
        have hzU := R_3.lt
        refine bodyPost_ret (by simp [results, Tryz.results167, go_sem, cR0, cR1, hzU, World.cell?_alloc_lt]; try rfl) rfl ?_
        rw [HZ.out]
        exact ⟨_, _, rfl, ((O_rU.out.other (((Other.refl (w.heap.size + 1 + 1) (w.heap.size + 1 + 1 + 1) w3).setCell (p := ⟨w.heap.size + 1 + 1, 0, none⟩) (Nat.le_refl _) (Nat.lt_succ_self _) _).setCell (p := ⟨w.heap.size + 1 + 1, 1, none⟩) (Nat.le_refl _) (Nat.lt_succ_self _) _) (by omega)).below (B := w3.heap.size) (Below.alloc (Below.refl _ _) (by simp [World.setCell]) _) (by simp [World.setCell])).mono (by omega), (((B_3.out).setCell (by simp; omega) _).setCell (by simp; omega) _).alloc (by have := (B_3.out).size; simpa [World.setCell] using this) _⟩
    · clear hne
      go_wp2_with fail
      refine (HT.out w1 ((VL_1.out).mono (Nat.le_refl _) (VL_1.out).lt (Nat.le_refl _)) ((VH_1.out).mono (Nat.le_refl _) (VH_1.out).lt (Nat.le_refl _))).mono ?_
      rintro e w2 ⟨l2, h2, rfl, own, hb⟩
      have A_2 := A_1.below hb A_1.lt
      have S_2 := S_1.below hb S_1.lt
      have R_2 := R_1.below hb R_1.lt
      have VL_2 := hide (VL_1.out.below hb)
      have VH_2 := hide (VH_1.out.below hb)
      have B_2 := hide (Below.step B_1.out hb (Nat.le_refl _))
      have hz2 := hb.size
      clear hb
      have cA0 := A_2.c 0 rfl
      have cA1 := A_2.c 1 rfl
      have cS0 := S_2.c 0 rfl
      have cS1 := S_2.c 1 rfl
      have cS2 := S_2.c 2 rfl
      have cS3 := S_2.c 3 rfl
      have cR0 := R_2.c 0 rfl
      have cR1 := R_2.c 1 rfl
      have fR0 := R_2.frozen 0
      have fR1 := R_2.frozen 1
      simp only [pileV]
      have O_rT := hide own
      obtain ⟨alT, clT, rfl, -, -⟩ := own.lo.form
      obtain ⟨ahT, chT, rfl, -, -⟩ := own.ho.form
      clear own
      simp only []
      have hzT0 : w.heap.size + 1 + 1 + 1 ≤ w1.heap.size := R_1.lt
      have hzR2 := R_2.lt
      have hzA2 := A_2.lt
      have hzS2 := S_2.lt
      by_cases hc0 : c = 0
      · have HZ := hide (lift_none (t' := t') (p' := p') C1.out HQ.out hc0)
        subst hc0
        go_wp2_with fail
        refine calls_at fun wT hw4 => ?_
        have T_T : RowL wT w2.heap.size 29 [.slice alT lo2.length clT, .slice ahT hi2.length chT] := by rw [hw4]; exact RowL.new _ _ _
        have hb4 : Below w2.heap.size w2 wT := by rw [hw4]; exact (Below.refl _ _).alloc (Nat.le_refl _) _
        have A_T := A_2.below hb4 A_2.lt
        have S_T := S_2.below hb4 S_2.lt
        have R_T := R_2.below hb4 R_2.lt
        have VL_T := hide (VL_2.out.below hb4)
        have VH_T := hide (VH_2.out.below hb4)
        have B_T := hide (Below.step B_2.out hb4 (Nat.le_refl _))
        have O_T := hide (O_rT.out.below hb4 (Nat.le_refl _))
        clear hw4 hb4
        have hTT := T_T.lt
        have hzR := R_T.lt
        refine (HC.out wT ((VL_T.out).mono (Nat.le_refl _) (VL_T.out).lt (Nat.le_refl _)) ((VH_T.out).mono (Nat.le_refl _) (VH_T.out).lt (Nat.le_refl _)) n1 n2).mono ?_
        rintro e w3 ⟨lb, hb, rfl, own, hb⟩
        have A_3 := A_T.below hb A_T.lt
        have S_3 := S_T.below hb S_T.lt
        have R_3 := R_T.below hb R_T.lt
        have T_3 := T_T.below hb T_T.lt
        have VL_3 := hide (VL_T.out.below hb)
        have VH_3 := hide (VH_T.out.below hb)
        have B_3 := hide (Below.step B_T.out hb (Nat.le_refl _))
        have hz3 := hb.size
        clear hb
        have cA0 := A_3.c 0 rfl
        have cA1 := A_3.c 1 rfl
        have cR0 := R_3.c 0 rfl
        have cR1 := R_3.c 1 rfl
        have fR0 := R_3.frozen 0
        have fR1 := R_3.frozen 1
        simp only [pileV]
        have O_b := hide own
        obtain ⟨alb, clb, rfl, -, -⟩ := own.lo.form
        obtain ⟨ahb, chb, rfl, -, -⟩ := own.ho.form
        clear own
        have hzcb : w.heap.size + 1 + 1 + 1 ≤ wT.heap.size := hzR
        go_wp2_with fail
        refine bodyPost_ret (by simp [results, Tryz.results167, go_sem, cR0, cR1]; try rfl) rfl ?_
        rw [HZ.out]
        exact ⟨_, _, rfl, (O_b.out.other (((Other.refl (w.heap.size + 1 + 1) (w.heap.size + 1 + 1 + 1) w3).setCell (p := ⟨w.heap.size + 1 + 1, 0, none⟩) (Nat.le_refl _) (Nat.lt_succ_self _) _).setCell (p := ⟨w.heap.size + 1 + 1, 1, none⟩) (Nat.le_refl _) (Nat.lt_succ_self _) _) (by omega)).mono (by omega), ((B_3.out).setCell (by simp; omega) _).setCell (by simp; omega) _⟩
      have HC0 := hide hc0
      have hcB : (c == 0) = false := by simpa using hc0
      clear hc0
      go_wp2_with fail
      refine calls_at fun wT hw4 => ?_
      have T_T : RowL wT w2.heap.size 29 [.slice alT lo2.length clT, .slice ahT hi2.length chT] := by rw [hw4]; exact RowL.new _ _ _
      have hb4 : Below w2.heap.size w2 wT := by rw [hw4]; exact (Below.refl _ _).alloc (Nat.le_refl _) _
      have A_T := A_2.below hb4 A_2.lt
      have S_T := S_2.below hb4 S_2.lt
      have R_T := R_2.below hb4 R_2.lt
      have VL_T := hide (VL_2.out.below hb4)
      have VH_T := hide (VH_2.out.below hb4)
      have B_T := hide (Below.step B_2.out hb4 (Nat.le_refl _))
      have O_T := hide (O_rT.out.below hb4 (Nat.le_refl _))
      clear hw4 hb4
      have hTT := T_T.lt
      clear hcB
      have hpt := put_impl (.slice alT lo2.length clT) (.slice ahT hi2.length chT) lo2 hi2 t' p' c wT O_T.out.low0 O_T.out.high0
      unfold pileV at hpt
      obtain ⟨⟨⟨lo3, hi3⟩, ok⟩, hQ2⟩ : ∃ Q, putR lo2 hi2 t' p' c = Q := ⟨_, rfl⟩
      rw [hQ2] at hpt
      have HQ2 := hide hQ2
      clear hQ2
      refine (hpt).mono ?_
      rintro e w3 ⟨l3, h3, rfl, own, hb⟩
      have A_3 := A_T.below hb A_T.lt
      have S_3 := S_T.below hb S_T.lt
      have R_3 := R_T.below hb R_T.lt
      have T_3 := T_T.below hb T_T.lt
      have VL_3 := hide (VL_T.out.below hb)
      have VH_3 := hide (VH_T.out.below hb)
      have B_3 := hide (Below.step B_T.out hb (Nat.le_refl _))
      have hz3 := hb.size
      clear hb
      have cA0 := A_3.c 0 rfl
      have cA1 := A_3.c 1 rfl
      have cR0 := R_3.c 0 rfl
      have cR1 := R_3.c 1 rfl
      have fR0 := R_3.frozen 0
      have fR1 := R_3.frozen 1
      clear hpt
      simp only [pileV]
      have O_rU := hide own
      obtain ⟨alU, clU, rfl, -, -⟩ := own.lo.form
      obtain ⟨ahU, chU, rfl, -, -⟩ := own.ho.form
      clear own
      simp only []
      have hzR3 := R_3.lt
      have hzA3 := A_3.lt
      cases ok with
      | false =>
        have HZ := hide (lift_not (t := t) (p := p) C1.out HQ.out HQ2.out)
        go_wp2_with fail
        refine calls_at fun wU hw4 => ?_
        have U_U : RowL wU w3.heap.size 29 [.slice alU lo3.length clU, .slice ahU hi3.length chU] := by rw [hw4]; exact RowL.new _ _ _
        have hb4 : Below w3.heap.size w3 wU := by rw [hw4]; exact (Below.refl _ _).alloc (Nat.le_refl _) _
        have A_U := A_3.below hb4 A_3.lt
        have S_U := S_3.below hb4 S_3.lt
        have R_U := R_3.below hb4 R_3.lt
        have T_U := T_3.below hb4 T_3.lt
        have VL_U := hide (VL_3.out.below hb4)
        have VH_U := hide (VH_3.out.below hb4)
        have B_U := hide (Below.step B_3.out hb4 (Nat.le_refl _))
        have O_U := hide (O_rU.out.below hb4 (Nat.le_refl _))
        clear hw4 hb4
        have hTU := U_U.lt
        have hzR := R_U.lt
        refine (HC.out wU ((VL_U.out).mono (Nat.le_refl _) (VL_U.out).lt (Nat.le_refl _)) ((VH_U.out).mono (Nat.le_refl _) (VH_U.out).lt (Nat.le_refl _)) n1 n2).mono ?_
        rintro e w4 ⟨ld, hd, rfl, own, hb⟩
        have A_4 := A_U.below hb A_U.lt
        have S_4 := S_U.below hb S_U.lt
        have R_4 := R_U.below hb R_U.lt
        have T_4 := T_U.below hb T_U.lt
        have U_4 := U_U.below hb U_U.lt
        have VL_4 := hide (VL_U.out.below hb)
        have VH_4 := hide (VH_U.out.below hb)
        have B_4 := hide (Below.step B_U.out hb (Nat.le_refl _))
        have hz4 := hb.size
        clear hb
        have cA0 := A_4.c 0 rfl
        have cA1 := A_4.c 1 rfl
        have cR0 := R_4.c 0 rfl
        have cR1 := R_4.c 1 rfl
        have fR0 := R_4.frozen 0
        have fR1 := R_4.frozen 1
        simp only [pileV]
        have O_d := hide own
        obtain ⟨ald, cld, rfl, -, -⟩ := own.lo.form
        obtain ⟨ahd, chd, rfl, -, -⟩ := own.ho.form
        clear own
        have hzcd : w.heap.size + 1 + 1 + 1 ≤ wU.heap.size := hzR
        go_wp2_with fail
        refine bodyPost_ret (by simp [results, Tryz.results167, go_sem, cR0, cR1]; try rfl) rfl ?_
        rw [HZ.out]
        exact ⟨_, _, rfl, (O_d.out.other (((Other.refl (w.heap.size + 1 + 1) (w.heap.size + 1 + 1 + 1) w4).setCell (p := ⟨w.heap.size + 1 + 1, 0, none⟩) (Nat.le_refl _) (Nat.lt_succ_self _) _).setCell (p := ⟨w.heap.size + 1 + 1, 1, none⟩) (Nat.le_refl _) (Nat.lt_succ_self _) _) (by omega)).mono (by omega), ((B_4.out).setCell (by simp; omega) _).setCell (by simp; omega) _⟩
      | true =>
        have HZ := hide (lift_yes C1.out HSM.out HQ.out HC0.out HQ2.out)
        go_wp2_with fail
        have hzU := R_3.lt
        refine bodyPost_ret (by simp [results, Tryz.results167, go_sem, cR0, cR1, hzU, World.cell?_alloc_lt]; try rfl) rfl ?_
        rw [HZ.out]
        exact ⟨_, _, rfl, ((O_rU.out.other (((Other.refl (w.heap.size + 1 + 1) (w.heap.size + 1 + 1 + 1) w3).setCell (p := ⟨w.heap.size + 1 + 1, 0, none⟩) (Nat.le_refl _) (Nat.lt_succ_self _) _).setCell (p := ⟨w.heap.size + 1 + 1, 1, none⟩) (Nat.le_refl _) (Nat.lt_succ_self _) _) (by omega)).below (B := w3.heap.size) (Below.alloc (Below.refl _ _) (by simp [World.setCell]) _) (by simp [World.setCell])).mono (by omega), (((B_3.out).setCell (by simp; omega) _).setCell (by simp; omega) _).alloc (by have := (B_3.out).size; simpa [World.setCell] using this) _⟩
theorem held_call {w W W' : World} {B : Nat} {l h : Value} (hlt : B < w.heap.size) (k : Below W.heap.size W W') (H : (W.cell? ⟨B, 9, none⟩ = some l ∧ W.cell? ⟨B, 10, none⟩ = some h) ∧ Below w.heap.size w W) : (W'.cell? ⟨B, 9, none⟩ = some l ∧ W'.cell? ⟨B, 10, none⟩ = some h) ∧ Below w.heap.size w W' := by
  have hz := H.2.size
  exact ⟨⟨(k.cell (p := ⟨B, 9, none⟩) (show B < W.heap.size by omega)).trans H.1.1, (k.cell (p := ⟨B, 10, none⟩) (show B < W.heap.size by omega)).trans H.1.2⟩, H.2.trans (k.mono hz)⟩
theorem held_alloc {w W : World} {B : Nat} {l h : Value} {o : Obj} (hlt : B < w.heap.size) (H : (W.cell? ⟨B, 9, none⟩ = some l ∧ W.cell? ⟨B, 10, none⟩ = some h) ∧ Below w.heap.size w W) : ((W.alloc o).cell? ⟨B, 9, none⟩ = some l ∧ (W.alloc o).cell? ⟨B, 10, none⟩ = some h) ∧ Below w.heap.size w (W.alloc o) :=
  held_call hlt ((Below.refl _ _).alloc (Nat.le_refl _) o) H
theorem held_store {w W : World} {B G : Nat} {l h u v : Value} (hlt : B < w.heap.size) (hG : w.heap.size ≤ G) (H : (W.cell? ⟨B, 9, none⟩ = some l ∧ W.cell? ⟨B, 10, none⟩ = some h) ∧ Below w.heap.size w W) : (((W.setCell ⟨G, 0, none⟩ u).setCell ⟨G, 1, none⟩ v).cell? ⟨B, 9, none⟩ = some l ∧ ((W.setCell ⟨G, 0, none⟩ u).setCell ⟨G, 1, none⟩ v).cell? ⟨B, 10, none⟩ = some h) ∧ Below w.heap.size w ((W.setCell ⟨G, 0, none⟩ u).setCell ⟨G, 1, none⟩ v) := by
  have k : Below w.heap.size W ((W.setCell ⟨G, 0, none⟩ u).setCell ⟨G, 1, none⟩ v) := ((Below.refl _ _).setCell (p := ⟨G, 0, none⟩) hG _).setCell (p := ⟨G, 1, none⟩) hG _
  exact ⟨⟨(k.cell (p := ⟨B, 9, none⟩) hlt).trans H.1.1, (k.cell (p := ⟨B, 10, none⟩) hlt).trans H.1.2⟩, H.2.trans k⟩
set_option maxHeartbeats 1600000 in
theorem lift_meth {base B : Nat} {w : World} {s p l h : Value} {m : Mi} (a b : Int) (H : MillBox base B w s p l h m) (ha : a ≤ 9223372036854775807) (hb : b ≤ 9223372036854775807) :
    Calls Tryz.prog 110 #[.pointer (some ⟨B, 0, none⟩), .int .i64 a, .int .i64 b] w (Meth base B (liftD m a b) w) := by
  by_cases ha0 : 0 ≤ a
  · by_cases hb0 : 0 ≤ b
    · have HH := hide H
      have hr := H.row
      have hlt := hr.lt
      have hbz := H.got.hb
      have HL := hide (H.got.all.low)
      have HG := hide (H.got.all.high)
      have c9 : w.cell? ⟨B, 9, none⟩ = some l := hr.cell 9 (by simp [millC])
      have c10 : w.cell? ⟨B, 10, none⟩ = some h := hr.cell 10 (by simp [millC])
      obtain ⟨⟨q, r⟩, hQ⟩ : ∃ Q, liftR m.low m.high (spotTop a) (spotPlace a) (spotTop b) (spotPlace b) = Q := ⟨_, rfl⟩
      have HQ := hide hQ
      have HA := hide (fun W => spotN_impl a W ha0 ha)
      have HBB := hide (fun W => spotN_impl b W hb0 hb)
      have hlf := fun (W : World) (k : Below w.heap.size w W) => lift_impl l h m.low m.high (spotTop a) (spotPlace a) (spotTop b) (spotPlace b) W ((HL.out.below k).mono (Nat.le_refl _) k.size (Nat.le_refl _)) ((HG.out.below k).mono (Nat.le_refl _) k.size (Nat.le_refl _))
      rw [hQ] at hlf
      unfold pileV at hlf
      have HLF := hide hlf
      have hna : ¬ a < 0 := by omega
      have hnb : ¬ b < 0 := by omega
      obtain ⟨ta, hta⟩ : ∃ t, spotTop a = t := ⟨_, rfl⟩
      obtain ⟨pa, hpa⟩ : ∃ t, spotPlace a = t := ⟨_, rfl⟩
      obtain ⟨tb, htb⟩ : ∃ t, spotTop b = t := ⟨_, rfl⟩
      obtain ⟨pb, hpb⟩ : ∃ t, spotPlace b = t := ⟨_, rfl⟩
      rw [hta, hpa] at HA HLF
      rw [htb, hpb] at HBB HLF
      clear hQ hlf hta hpa htb hpb hr H
      go_enter Tryz.func110, Tryz.ntmps110
      go_wp2_with fail
      have hI : w.drew.cell? ⟨B, 9, none⟩ = some l ∧ w.drew.cell? ⟨B, 10, none⟩ = some h := ⟨c9, c10⟩
      have hK : Below w.heap.size w w.drew := (Below.refl _ _).drew
      go_cut [7, 8] from 15 to 27 (fun bx ok wr => BoxGot w.heap.size wr q bx ∧ ok = .bool r ∧ Below w.heap.size w wr)
      case first =>
        go_region_held (fun W => (W.cell? ⟨B, 9, none⟩ = some l ∧ W.cell? ⟨B, 10, none⟩ = some h) ∧ Below w.heap.size w W) (first | exact ⟨hI, hK⟩ | assumption | exact held_alloc hlt (by assumption) | exact held_store hlt (by first | exact Nat.le_refl _ | omega) (by assumption) | (trace_state; fail)) (first
          | (go_at_call 166; (with_reducible refine (HA.out _).mono ?_); rintro e w5 ⟨rfl, hb5⟩; have hS5 := held_call hlt hb5 (by assumption); have hz5 := hS5.2.size; obtain ⟨hc5, hf5⟩ := bcell hb5; have hzz5 := hb5.size; (try simp at hzz5); (try have hx50 : w.heap.size < w5.heap.size := by omega); (try have hx51 : w6.heap.size < w5.heap.size := by omega))
          | (go_at_call 166; (with_reducible refine (HBB.out _).mono ?_); rintro e w6 ⟨rfl, hb6⟩; have hS6 := held_call hlt hb6 (by assumption); have hz6 := hS6.2.size; obtain ⟨hc6, hf6⟩ := bcell hb6; have hzz6 := hb6.size; (try simp at hzz6); (try have hx60 : w.heap.size < w6.heap.size := by omega); (try have hx61 : w5.heap.size < w6.heap.size := by omega))
          | (go_at_call 167; (with_reducible refine (HLF.out _ (And.right (by assumption))).mono ?_); rintro e w7 ⟨lx, hx, rfl, own, hb7⟩; have hS7 := held_call hlt hb7 (by assumption); have hz7 := hS7.2.size; obtain ⟨hc7, hf7⟩ := bcell hb7; have hzz7 := hb7.size; (try simp at hzz7); (try have hx70 : w.heap.size < w7.heap.size := by omega); (try have hx71 : w5.heap.size < w7.heap.size := by omega); (try have hx72 : w6.heap.size < w7.heap.size := by omega); obtain ⟨alx, clx, hlx, -, -⟩ := own.lo.form; obtain ⟨ahx, chx, hhx, -, -⟩ := own.ho.form; subst hlx hhx; simp only [pileV]))
        all_goals
          have hwd : w.drew.heap.size = w.heap.size := rfl
          clear hna hnb
          go_wp2_with fail
          go_meet
        · exact ⟨box_new (base := w.heap.size) own (by omega) (by omega), rfl, And.right (by assumption)⟩
        · exact ⟨box_old ((RowL.new w6 _ _).below hb7 (by simp)) own (by omega) (by simp), rfl, And.right (by assumption)⟩
        · exact ⟨box_old (((RowL.new w5 _ _).below hb6 (by simp)).below hb7 (by omega)) own (by omega) (by omega), rfl, And.right (by assumption)⟩
        · exact ⟨box_old ((((RowL.new w.drew _ _).below hb5 (by simp)).below hb6 (by omega)).below hb7 (by omega)) own (by omega) (by omega), rfl, And.right (by assumption)⟩
      obtain ⟨⟨G, lx, hx, rfl, hG, hrow, hown⟩, rfl, hbw⟩ := hcut
      have HR := hide hrow
      have HO := hide hown
      have HBW := hide hbw
      have hGz := hrow.lt
      have g0 : wc.cell? ⟨G, 0, none⟩ = some lx := hrow.cell 0 (by simp)
      have g1 : wc.cell? ⟨G, 1, none⟩ = some hx := hrow.cell 1 (by simp)
      have R_c := HH.out.row.below hbw hlt
      have d9 : wc.cell? ⟨B, 9, none⟩ = some l := R_c.cell 9 (by simp [millC])
      have d10 : wc.cell? ⟨B, 10, none⟩ = some h := R_c.cell 10 (by simp [millC])
      have f9 := R_c.frozen 9
      have f10 := R_c.frozen 10
      have hltc := R_c.lt
      have hRc := hide R_c
      obtain ⟨alx, clx, rfl, -, -⟩ := hown.lo.form
      obtain ⟨ahx, chx, rfl, -, -⟩ := hown.ho.form
      clear hrow hown hbw R_c hI hK c9 c10
      cases r with
      | false =>
        have HN := hide (liftD_no2 (m := m) (a := a) (b := b) (by rw [HQ.out]))
        go_wp2_with fail
        go_ret
        rw [HN.out]
        exact Meth.no (HBW.out.mono hbz)
      | true =>
        have HY := hide (liftD_yes (m := m) ha0 hb0 HQ.out)
        go_wp2_with fail
        go_ret
        rw [HY.out]
        have G_2 := HH.out.got.yard HBW.out (Nat.le_refl _) HO.out
        have O_2 := notIn_new HH.out.off hlt HO.out
        obtain ⟨r1, k1, b1⟩ := box_set hRc.out G_2 O_2 HH.out.hB (j := 9) (by simp [millC]) (.slice alx q.1.length clx)
        obtain ⟨r2, k2, b2⟩ := box_set r1 k1 O_2 HH.out.hB (j := 10) (by simp [millC]) (.slice ahx q.2.length chx)
        refine ⟨rfl, ((HBW.out.mono hbz).trans b1).trans b2, fun x hx => ?_⟩
        obtain rfl := Option.some.inj hx
        exact ⟨_, _, _, _, r2, k2⟩
    · have hN := hide (liftD_no1 (m := m) (a := a) (b := b) (by simp [hb0]))
      have hna : ¬ a < 0 := by omega
      have hnb : b < 0 := by omega
      have hbz := H.got.hb
      go_enter Tryz.func110, Tryz.ntmps110
      go_wp2_with fail
      go_ret
      rw [hN.out]
      exact Meth.no (Below.refl _ _)
  · have hN := hide (liftD_no1 (m := m) (a := a) (b := b) (by simp [ha0]))
    have hna : a < 0 := by omega
    have hbz := H.got.hb
    go_enter Tryz.func110, Tryz.ntmps110
    go_wp2_with fail
    go_ret
    rw [hN.out]
    exact Meth.no (Below.refl _ _)
set_option maxHeartbeats 3200000 in
theorem copyMill_any (s p l h : Value) (m : Mi) (w : World) (H : MillIn 0 w.heap.size w s p l h m) (n1 : m.store.length ≤ 1000000) (n2 : m.pieces.length ≤ 1000000) (n3 : m.low.length ≤ 1000000) (n4 : m.high.length ≤ 1000000) :
    Calls Tryz.prog 75 #[millV s p l h m] w (CopyGot w.heap.size m w) := by
  have HS := hide H.store
  have HP := hide H.pieces
  have HL := hide H.low
  have HH := hide H.high
  clear H
  unfold millV
  go_enter Tryz.func75, Tryz.ntmps75
  go_wp2_with fail
  refine calls_at fun wx hwx => ?_
  have A_0 : RowL wx (w.heap.size) 31 [s, .int .i64 m.rule.lc, .int .i64 m.rule.hc, .int .i64 m.rule.lm, .int .i64 m.rule.hm, .int .i64 m.rule.ls, .int .i64 m.rule.hs, .int .i64 m.strand, p, l, h, .int .i64 m.scrap] := by rw [hwx]; exact ((RowL.new _ 31 [s, .int .i64 m.rule.lc, .int .i64 m.rule.hc, .int .i64 m.rule.lm, .int .i64 m.rule.hm, .int .i64 m.rule.ls, .int .i64 m.rule.hs, .int .i64 m.strand, p, l, h, .int .i64 m.scrap]).alloc _)
  have R_0 : RowL wx (w.heap.size + 1) 31 [.slice none 0 0, .int .i64 0, .int .i64 0, .int .i64 0, .int .i64 0, .int .i64 0, .int .i64 0, .int .i64 0, .slice none 0 0, .slice none 0 0, .slice none 0 0, .int .i64 0] := by rw [hwx]; simpa using (RowL.new (World.alloc _ _) 31 [.slice none 0 0, .int .i64 0, .int .i64 0, .int .i64 0, .int .i64 0, .int .i64 0, .int .i64 0, .int .i64 0, .slice none 0 0, .slice none 0 0, .slice none 0 0, .int .i64 0])
  have B_0 : Below w.heap.size w wx := by rw [hwx]; go_grown
  clear hwx
  have hL0 := R_0.lt
  have VS_0 := hide (HS.out.below B_0)
  have VP_0 := hide (HP.out.below B_0)
  have VL_0 := hide (HL.out.below B_0)
  have VH_0 := hide (HH.out.below B_0)
  refine (cloneS_any s m.store 0 w.heap.size wx VS_0.out n1).mono ?_
  rintro e w1 ⟨vs, rfl, own, hb⟩
  have A_1 := A_0.below hb A_0.lt
  have R_1 := R_0.below hb R_0.lt
  have VS_1 := hide (VS_0.out.below hb)
  have VP_1 := hide (VP_0.out.below hb)
  have VL_1 := hide (VL_0.out.below hb)
  have VH_1 := hide (VH_0.out.below hb)
  have B_1 := hide (Below.step B_0 hb (Nat.le_refl _))
  have hz1 := hb.size
  clear hb
  have cA8 := A_1.c 8 rfl
  have cA0 := A_1.c 0 rfl
  have fA0 := A_1.frozen 0
  have Cs := hide own
  obtain ⟨aos, cps, rfl, -, -⟩ := own_slice own
  have Os_1 : Hid (OwnV wx.heap.size 65 5 w1 (.slice aos m.store.length cps) m.store.length (flatS m.store)) := hide ⟨.own own, by have := hz1; omega⟩
  clear own
  go_wp2_with fail
  refine calls_at fun y1 hwy => ?_
  have T_1 : Other (w.heap.size) (w.heap.size + 1) w1 y1 := by rw [hwy]; exact (Other.setCell (p := ⟨w.heap.size, 0, none⟩) (Other.refl _ _ _) (Nat.le_refl _) (Nat.lt_succ_self _) _)
  have A_1y : RowL y1 (w.heap.size) 31 [.slice aos m.store.length cps, .int .i64 m.rule.lc, .int .i64 m.rule.hc, .int .i64 m.rule.lm, .int .i64 m.rule.hm, .int .i64 m.rule.ls, .int .i64 m.rule.hs, .int .i64 m.strand, p, l, h, .int .i64 m.scrap] := by rw [hwy]; exact (RowL.set A_1 0 _ (by simp))
  have R_1y := R_1.other T_1 (by omega)
  have hL1 := A_1y.lt
  have VS_1y := hide (VS_1.out.other T_1 (by omega))
  have VP_1y := hide (VP_1.out.other T_1 (by omega))
  have VL_1y := hide (VL_1.out.other T_1 (by omega))
  have VH_1y := hide (VH_1.out.other T_1 (by omega))
  have Vos_1y := hide (Os_1.out.other T_1 (by omega))
  have B_1y := hide (B_1.out.trans (T_1.below (B := w.heap.size) (by omega) (by omega)))
  have hzy1 := T_1.size
  clear hwy T_1 cA8 cA0 fA0
  refine (cloneP_any p m.pieces 0 w.heap.size y1 VP_1y.out n2).mono ?_
  rintro e w2 ⟨vp, rfl, own, hb⟩
  have A_2 := A_1y.below hb A_1y.lt
  have R_2 := R_1y.below hb R_1y.lt
  have VS_2 := hide (VS_1y.out.below hb)
  have VP_2 := hide (VP_1y.out.below hb)
  have VL_2 := hide (VL_1y.out.below hb)
  have VH_2 := hide (VH_1y.out.below hb)
  have Vos_2 := hide (Vos_1y.out.below hb)
  have B_2 := hide (Below.step B_1y.out hb (Nat.le_refl _))
  have hz2 := hb.size
  clear hb
  have cA9 := A_2.c 9 rfl
  have cA10 := A_2.c 10 rfl
  have cA8 := A_2.c 8 rfl
  have fA8 := A_2.frozen 8
  have Cp := hide own
  obtain ⟨aop, cpp, rfl, -, -⟩ := own_slice own
  have Op_2 : Hid (OwnV y1.heap.size 73 2 w2 (.slice aop m.pieces.length cpp) m.pieces.length (flatP m.pieces)) := hide ⟨.own own, by have := hz2; omega⟩
  clear own
  go_wp2_with fail
  refine calls_at fun y2 hwy => ?_
  have T_2 : Other (w.heap.size) (w.heap.size + 1) w2 y2 := by rw [hwy]; exact (Other.setCell (p := ⟨w.heap.size, 8, none⟩) (Other.refl _ _ _) (Nat.le_refl _) (Nat.lt_succ_self _) _)
  have A_2y : RowL y2 (w.heap.size) 31 [.slice aos m.store.length cps, .int .i64 m.rule.lc, .int .i64 m.rule.hc, .int .i64 m.rule.lm, .int .i64 m.rule.hm, .int .i64 m.rule.ls, .int .i64 m.rule.hs, .int .i64 m.strand, .slice aop m.pieces.length cpp, l, h, .int .i64 m.scrap] := by rw [hwy]; exact (RowL.set A_2 8 _ (by simp))
  have R_2y := R_2.other T_2 (by omega)
  have hL2 := A_2y.lt
  have VS_2y := hide (VS_2.out.other T_2 (by omega))
  have VP_2y := hide (VP_2.out.other T_2 (by omega))
  have VL_2y := hide (VL_2.out.other T_2 (by omega))
  have VH_2y := hide (VH_2.out.other T_2 (by omega))
  have Vos_2y := hide (Vos_2.out.other T_2 (by omega))
  have Vop_2y := hide (Op_2.out.other T_2 (by omega))
  have B_2y := hide (B_2.out.trans (T_2.below (B := w.heap.size) (by omega) (by omega)))
  have hzy2 := T_2.size
  clear hwy T_2 cA9 cA10 cA8 fA8
  have hcy := copyPile_any l h m.low m.high y2 ((VL_2y.out).mono (Nat.le_refl _) (VL_2y.out).lt (Nat.le_refl _)) ((VH_2y.out).mono (Nat.le_refl _) (VH_2y.out).lt (Nat.le_refl _)) n3 n4
  unfold pileV at hcy
  refine (hcy).mono ?_
  rintro e w3 ⟨vl, vh, rfl, own, hb⟩
  have A_3 := A_2y.below hb A_2y.lt
  have R_3 := R_2y.below hb R_2y.lt
  have VS_3 := hide (VS_2y.out.below hb)
  have VP_3 := hide (VP_2y.out.below hb)
  have VL_3 := hide (VL_2y.out.below hb)
  have VH_3 := hide (VH_2y.out.below hb)
  have Vos_3 := hide (Vos_2y.out.below hb)
  have Vop_3 := hide (Vop_2y.out.below hb)
  have B_3 := hide (Below.step B_2y.out hb (Nat.le_refl _))
  have hz3 := hb.size
  clear hb
  obtain ⟨cA0, cA1, cA2, cA3, cA4, cA5, cA6, cA7, cA8, cA9, cA10, cA11⟩ := row12_c A_3
  obtain ⟨cR0, cR1, cR2, cR3, cR4, cR5, cR6, cR7, cR8, cR9, cR10, cR11⟩ := row12_c R_3
  have fA9 := A_3.frozen 9
  have fA10 := A_3.frozen 10
  obtain ⟨fR0, fR1, fR2, fR3, fR4, fR5, fR6, fR7, fR8, fR9, fR10, fR11⟩ := row12_f R_3
  simp only [pileV]
  clear hcy
  have Cy := hide own
  obtain ⟨aol, cpl, rfl, -, -⟩ := own.lo.form
  obtain ⟨aoh, cph, rfl, -, -⟩ := own.ho.form
  have HG : Hid (MillGot (w.heap.size + 2) w3 (.slice aos m.store.length cps) (.slice aop m.pieces.length cpp) (.slice aol m.low.length cpl) (.slice aoh m.high.length cph) m) := hide ⟨by omega, (Vos_3.out).own.mono (by omega), (Vop_3.out).own.mono (by omega), own.lo.mono (by omega), own.ho.mono (by omega), OwnE.apart (OwnE.own Cs.out) (OwnE.own Cp.out) (by omega), OwnE.apart (OwnE.own Cs.out) own.lo (by omega), OwnE.apart (OwnE.own Cs.out) own.ho (by omega), OwnE.apart (OwnE.own Cp.out) own.lo (by omega), OwnE.apart (OwnE.own Cp.out) own.ho (by omega), own.ap⟩
  clear own
  go_wp2_with fail
  refine bodyPost_ret (by simp [results, Tryz.results75, go_sem, cR0, cR1, cR2, cR3, cR4, cR5, cR6, cR7, cR8, cR9, cR10, cR11]; try rfl) rfl ?_
  have HF := fun W T => got_put (w := w) (base := w.heap.size) (a := w.heap.size) (z := w.heap.size + 1 + 1) (W := W) HG.out B_3.out T (by omega) (Nat.le_refl _) (by omega) (Nat.le_refl _)
  exact ⟨_, _, _, _, rfl, HF _ (Other.setCell (p := ⟨w.heap.size + 1, 11, none⟩) (Other.setCell (p := ⟨w.heap.size + 1, 10, none⟩) (Other.setCell (p := ⟨w.heap.size + 1, 9, none⟩) (Other.setCell (p := ⟨w.heap.size + 1, 8, none⟩) (Other.setCell (p := ⟨w.heap.size + 1, 7, none⟩) (Other.setCell (p := ⟨w.heap.size + 1, 6, none⟩) (Other.setCell (p := ⟨w.heap.size + 1, 5, none⟩) (Other.setCell (p := ⟨w.heap.size + 1, 4, none⟩) (Other.setCell (p := ⟨w.heap.size + 1, 3, none⟩) (Other.setCell (p := ⟨w.heap.size + 1, 2, none⟩) (Other.setCell (p := ⟨w.heap.size + 1, 1, none⟩) (Other.setCell (p := ⟨w.heap.size + 1, 0, none⟩) (Other.setCell (p := ⟨w.heap.size, 10, none⟩) (Other.setCell (p := ⟨w.heap.size, 9, none⟩) (Other.refl _ _ _) (Nat.le_refl _) (Nat.lt_succ_of_lt (Nat.lt_succ_self _)) _) (Nat.le_refl _) (Nat.lt_succ_of_lt (Nat.lt_succ_self _)) _) (Nat.le_succ _) (Nat.lt_succ_self _) _) (Nat.le_succ _) (Nat.lt_succ_self _) _) (Nat.le_succ _) (Nat.lt_succ_self _) _) (Nat.le_succ _) (Nat.lt_succ_self _) _) (Nat.le_succ _) (Nat.lt_succ_self _) _) (Nat.le_succ _) (Nat.lt_succ_self _) _) (Nat.le_succ _) (Nat.lt_succ_self _) _) (Nat.le_succ _) (Nat.lt_succ_self _) _) (Nat.le_succ _) (Nat.lt_succ_self _) _) (Nat.le_succ _) (Nat.lt_succ_self _) _) (Nat.le_succ _) (Nat.lt_succ_self _) _) (Nat.le_succ _) (Nat.lt_succ_self _) _)⟩
end Go.Proofs.YtmemgbklgcjobaaGreatDoor
