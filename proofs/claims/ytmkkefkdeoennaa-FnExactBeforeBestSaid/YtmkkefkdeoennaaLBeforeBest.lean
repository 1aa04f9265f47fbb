/-
  The walk over the law FnExactBeforeBest: it answers true, whatever the input, and leaves all old memory alone.
-/
import Derived.Test.YtmkkefkdeoennaaWalkL
import Derived.Test.YtmkkefkdeoennaaLawsA
namespace Go.Proofs.Ytmkkefkdeoennaa
open Go.RowKit

set_option maxHeartbeats 400000 in
theorem law_BeforeBest (v0 : Value) (xs0 : List J) (v1 : Value) (xs1 : List Int) (w : World) (a0 : JobsAt 0 w.heap.size w v0 xs0) (a1 : IntsAt 0 w.heap.size w v1 xs1) :
    Calls Try.prog 13 #[v0, v1] w fun e w' => e = .returned (.bool true) ∧ Below w.heap.size w w' := by
  have l0 := a0.len
  have l1 := a1.len
  by_cases g1 : xs1.length ≤ 1048576
  · skip
    by_cases g0 : xs0.length ≤ 1048576
    · skip
      obtain ⟨ao1, cap1, e1, -, -, -, -⟩ := id a1
      subst e1
      go_enter Try.func13, Try.ntmps13
      go_wp2_with fail
      refine (szJobS_any v0 xs0 0 _ _ w a0 (by omega) (by omega)).mono ?_
      rw [szI_ge g0]
      rintro e w' ⟨rfl, rfl⟩
      go_wp2_with fail
      refine (toJobS_any v0 xs0 0 _ w a0 (by omega)).mono ?_
      rintro e w1_ ⟨vs0, rfl, qs0, hb1⟩
      have a0_1 := a0.below hb1
      have a1_1 := a1.below hb1
      have z1 := hb1.size
      have A1 : Below w.heap.size w w1_ := bstep (Below.refl w.heap.size w) hb1
      go_wp2_with fail
      refine (toIntS_any (.slice ao1 xs1.length cap1) xs1 0 _ w1_ a1_1 (by omega)).mono ?_
      rintro e w2_ ⟨vs1, rfl, qs1, hb2⟩
      have a0_2 := a0_1.below hb2
      have a1_2 := a1_1.below hb2
      have s0_2 := qs0.below hb2
      have z2 := hb2.size
      have A2 : Below w.heap.size w w2_ := bstep A1 hb2
      go_wp2_with fail
      refine (beforeBest_spec vs0 xs0 _ _ vs1 xs1 _ _ w2_ s0_2 qs1).mono ?_
      rintro e w3_ ⟨vr, rfl, qr, hb3⟩
      have a0_3 := a0_2.below hb3
      have a1_3 := a1_2.below hb3
      have z3 := hb3.size
      have A3 : Below w.heap.size w w3_ := bstep A2 hb3
      go_wp2_with fail
      refine (toJobS_any v0 xs0 0 _ w3_ a0_3 (by omega)).mono ?_
      rintro e w4_ ⟨vx0, rfl, qx0, hb4⟩
      have a0_4 := a0_3.below hb4
      have a1_4 := a1_3.below hb4
      have r_4 := qr.below hb4
      have z4 := hb4.size
      have A4 : Below w.heap.size w w4_ := bstep A3 hb4
      go_wp2_with fail
      refine (toIntS_any (.slice ao1 xs1.length cap1) xs1 0 _ w4_ a1_4 (by omega)).mono ?_
      rintro e w5_ ⟨vx1, rfl, qx1, hb5⟩
      have a0_5 := a0_4.below hb5
      have a1_5 := a1_4.below hb5
      have r_5 := r_4.below hb5
      have x0_5 := qx0.below hb5
      have z5 := hb5.size
      have A5 : Below w.heap.size w w5_ := bstep A4 hb5
      go_wp2_with fail
      refine (beforeBest_impl vx0 xs0 _ _ vx1 xs1 _ _ w5_ x0_5 qx1).mono ?_
      rintro e w6_ ⟨vg, rfl, qg, hb6⟩
      have a0_6 := a0_5.below hb6
      have a1_6 := a1_5.below hb6
      have r_6 := r_5.below hb6
      have x0_6 := x0_5.below hb6
      have x1_6 := qx1.below hb6
      have z6 := hb6.size
      have A6 : Below w.heap.size w w6_ := bstep A5 hb6
      go_wp2_with fail
      have hR : ((bbR xs0 xs1)).length ≤ 1048576 := Nat.le_trans (bbR_len xs0 xs1) g0
      refine (eqIntS_any vg vr (bbR xs0 xs1) (bbR xs0 xs1) _ _ _ _ w6_ qg r_6).mono ?_
      rintro e w7_ ⟨rfl, hb7⟩
      have a0_7 := a0_6.below hb7
      have a1_7 := a1_6.below hb7
      have r_7 := r_6.below hb7
      have x0_7 := x0_6.below hb7
      have x1_7 := x1_6.below hb7
      have g_7 := qg.below hb7
      have z7 := hb7.size
      have A7 : Below w.heap.size w w7_ := bstep A6 hb7
      go_wp2_with fail
      refine (toJobS_any v0 xs0 0 _ w7_ a0_7 (by omega)).mono ?_
      rintro e w8_ ⟨vy0, rfl, qy0, hb8⟩
      have a0_8 := a0_7.below hb8
      have a1_8 := a1_7.below hb8
      have r_8 := r_7.below hb8
      have x0_8 := x0_7.below hb8
      have x1_8 := x1_7.below hb8
      have g_8 := g_7.below hb8
      have z8 := hb8.size
      have A8 : Below w.heap.size w w8_ := bstep A7 hb8
      go_wp2_with fail
      refine (eqJobS_any vx0 vy0 xs0 xs0 _ _ _ _ w8_ x0_8 qy0).mono ?_
      rintro e w9_ ⟨rfl, hb9⟩
      have a0_9 := a0_8.below hb9
      have a1_9 := a1_8.below hb9
      have r_9 := r_8.below hb9
      have x0_9 := x0_8.below hb9
      have x1_9 := x1_8.below hb9
      have g_9 := g_8.below hb9
      have z9 := hb9.size
      have A9 : Below w.heap.size w w9_ := bstep A8 hb9
      go_wp2_with fail
      refine (toIntS_any (.slice ao1 xs1.length cap1) xs1 0 _ w9_ a1_9 (by omega)).mono ?_
      rintro e w10_ ⟨vy1, rfl, qy1, hb10⟩
      have a0_10 := a0_9.below hb10
      have a1_10 := a1_9.below hb10
      have r_10 := r_9.below hb10
      have x0_10 := x0_9.below hb10
      have x1_10 := x1_9.below hb10
      have g_10 := g_9.below hb10
      have z10 := hb10.size
      have A10 : Below w.heap.size w w10_ := bstep A9 hb10
      go_wp2_with fail
      refine (eqIntS_any vx1 vy1 xs1 xs1 _ _ _ _ w10_ x1_10 qy1).mono ?_
      rintro e w11_ ⟨rfl, hb11⟩
      have a0_11 := a0_10.below hb11
      have a1_11 := a1_10.below hb11
      have r_11 := r_10.below hb11
      have x0_11 := x0_10.below hb11
      have x1_11 := x1_10.below hb11
      have g_11 := g_10.below hb11
      have z11 := hb11.size
      have A11 : Below w.heap.size w w11_ := bstep A10 hb11
      go_wp2_with fail
      refine (markJobS_any vx0 xs0 _ _ _ w11_ x0_11 (by omega) (by omega) (by omega)).mono ?_
      rintro e w12_ ⟨rfl, hb12⟩
      have a0_12 := a0_11.other hb12 (by omega)
      have a1_12 := a1_11.other hb12 (by omega)
      have r_12 := r_11.other hb12 (by omega)
      have x1_12 := x1_11.other hb12 (by omega)
      have g_12 := g_11.other hb12 (by omega)
      have z12 := hb12.size
      have A12 : Below w.heap.size w w12_ := Below.trans A11 (hb12.below (by omega) (by omega))
      go_wp2_with fail
      refine (markIntS_any vx1 xs1 _ _ _ w12_ x1_12 (by omega) (by omega) (by omega)).mono ?_
      rintro e w13_ ⟨rfl, hb13, -⟩
      have a0_13 := a0_12.other hb13 (by omega)
      have a1_13 := a1_12.other hb13 (by omega)
      have r_13 := r_12.other hb13 (by omega)
      have g_13 := g_12.other hb13 (by omega)
      have z13 := hb13.size
      have A13 : Below w.heap.size w w13_ := Below.trans A12 (hb13.below (by omega) (by omega))
      go_wp2_with fail
      refine (eqIntS_any vg vr (bbR xs0 xs1) (bbR xs0 xs1) _ _ _ _ w13_ g_13 r_13).mono ?_
      rintro e w14_ ⟨rfl, hb14⟩
      have a0_14 := a0_13.below hb14
      have a1_14 := a1_13.below hb14
      have r_14 := r_13.below hb14
      have g_14 := g_13.below hb14
      have z14 := hb14.size
      have A14 : Below w.heap.size w w14_ := bstep A13 hb14
      go_wp2_with fail
      refine (markIntS_any vg (bbR xs0 xs1) _ _ _ w14_ g_14 (by omega) (by omega) (by omega)).mono ?_
      rintro e w15_ ⟨rfl, hb15, ym, yl, ye, qm⟩
      have a0_15 := a0_14.other hb15 (by omega)
      have a1_15 := a1_14.other hb15 (by omega)
      have r_15 := r_14.other hb15 (by omega)
      have z15 := hb15.size
      have A15 : Below w.heap.size w w15_ := Below.trans A14 (hb15.below (by omega) (by omega))
      have Yl := hide yl
      have Ye := hide ye
      clear yl ye
      go_wp2_with fail
      refine (heldIntS_any vg ym _ _ _ w15_ qm (by rw [Yl.out]; omega) (by omega) (by omega) Ye.out).mono ?_
      rw [Yl.out]
      rintro e w' ⟨rfl, rfl⟩
      go_wp2_with fail
      refine (toJobS_any v0 xs0 0 _ w15_ a0_15 (by omega)).mono ?_
      rintro e w16_ ⟨vh0, rfl, qh0, hb16⟩
      have a0_16 := a0_15.below hb16
      have a1_16 := a1_15.below hb16
      have r_16 := r_15.below hb16
      have m_16 := qm.below hb16
      have z16 := hb16.size
      have A16 : Below w.heap.size w w16_ := bstep A15 hb16
      go_wp2_with fail
      refine (toIntS_any (.slice ao1 xs1.length cap1) xs1 0 _ w16_ a1_16 (by omega)).mono ?_
      rintro e w17_ ⟨vh1, rfl, qh1, hb17⟩
      have a0_17 := a0_16.below hb17
      have a1_17 := a1_16.below hb17
      have r_17 := r_16.below hb17
      have m_17 := m_16.below hb17
      have h0_17 := qh0.below hb17
      have z17 := hb17.size
      have A17 : Below w.heap.size w w17_ := bstep A16 hb17
      go_wp2_with fail
      refine (beforeBest_impl vh0 xs0 _ _ vh1 xs1 _ _ w17_ h0_17 qh1).mono ?_
      rintro e w18_ ⟨vh, rfl, qh, hb18⟩
      have a0_18 := a0_17.below hb18
      have a1_18 := a1_17.below hb18
      have r_18 := r_17.below hb18
      have m_18 := m_17.below hb18
      have z18 := hb18.size
      have A18 : Below w.heap.size w w18_ := bstep A17 hb18
      go_wp2_with fail
      refine (eqIntS_any vh vr (bbR xs0 xs1) (bbR xs0 xs1) _ _ _ _ w18_ qh r_18).mono ?_
      rintro e w19_ ⟨rfl, hb19⟩
      have a0_19 := a0_18.below hb19
      have a1_19 := a1_18.below hb19
      have m_19 := m_18.below hb19
      have z19 := hb19.size
      have A19 : Below w.heap.size w w19_ := bstep A18 hb19
      go_wp2_with fail
      refine (heldIntS_any vg ym _ _ _ w19_ m_19 (by rw [Yl.out]; omega) (by omega) (by omega) Ye.out).mono ?_
      rw [Yl.out]
      rintro e w' ⟨rfl, rfl⟩
      go_wp2_with fail
      go_ret
      exact ⟨rfl, A19⟩
    · skip
      obtain ⟨ao1, cap1, e1, -, -, -, -⟩ := id a1
      subst e1
      go_enter Try.func13, Try.ntmps13
      go_wp2_with fail
      refine (szJobS_any v0 xs0 0 _ _ w a0 (by omega) (by omega)).mono ?_
      rw [szI_lt g0]
      rintro e w' ⟨rfl, rfl⟩
      go_wp2_with fail
      go_ret
      exact ⟨rfl, Below.refl _ _⟩
  · skip
    obtain ⟨ao1, cap1, e1, -, -, -, -⟩ := id a1
    subst e1
    go_enter Try.func13, Try.ntmps13
    go_wp2_with fail
    go_ret
    exact ⟨rfl, Below.refl _ _⟩
end Go.Proofs.Ytmkkefkdeoennaa
