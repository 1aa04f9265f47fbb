/-
  The walk over the law FnExactFewestLate: it answers true, whatever the input, and leaves all old memory alone.
-/
import Derived.Test.YtmkkefkdeoennaaWalkU
import Derived.Test.YtmkkefkdeoennaaLawsA
namespace Go.Proofs.Ytmkkefkdeoennaa
open Go.RowKit

set_option maxHeartbeats 400000 in
theorem law_FewestLate (v0 : Value) (xs0 : List J) (w : World) (a0 : JobsAt 0 w.heap.size w v0 xs0) :
    Calls Try.prog 18 #[v0] w fun e w' => e = .returned (.bool true) ∧ Below w.heap.size w w' := by
  have l0 := a0.len
  by_cases g0 : xs0.length ≤ 1048576
  · skip
    go_enter Try.func18, Try.ntmps18
    go_wp2_with fail
    refine (szJobS_any v0 xs0 0 _ _ w a0 (by omega) (by omega)).mono ?_
    rw [szI_ge g0]
    rintro e w' ⟨rfl, rfl⟩
    go_wp2_with fail
    refine (toJobS_any v0 xs0 0 _ w a0 (by omega)).mono ?_
    rintro e w1_ ⟨vs0, rfl, qs0, hb1⟩
    have a0_1 := a0.below hb1
    have z1 := hb1.size
    have A1 : Below w.heap.size w w1_ := bstep (Below.refl w.heap.size w) hb1
    go_wp2_with fail
    refine (few_spec vs0 xs0 _ _ w1_ qs0).mono ?_
    rintro e w2_ ⟨vr, rfl, qr, hb2⟩
    have a0_2 := a0_1.below hb2
    have z2 := hb2.size
    have A2 : Below w.heap.size w w2_ := bstep A1 hb2
    go_wp2_with fail
    refine (toJobS_any v0 xs0 0 _ w2_ a0_2 (by omega)).mono ?_
    rintro e w3_ ⟨vx0, rfl, qx0, hb3⟩
    have a0_3 := a0_2.below hb3
    have r_3 := qr.below hb3
    have z3 := hb3.size
    have A3 : Below w.heap.size w w3_ := bstep A2 hb3
    go_wp2_with fail
    refine (few_impl vx0 xs0 _ _ w3_ qx0).mono ?_
    rintro e w4_ ⟨vg, rfl, qg, hb4⟩
    have a0_4 := a0_3.below hb4
    have r_4 := r_3.below hb4
    have x0_4 := qx0.below hb4
    have z4 := hb4.size
    have A4 : Below w.heap.size w w4_ := bstep A3 hb4
    go_wp2_with fail
    have hR : ((fewR xs0)).length ≤ 1048576 := Nat.le_trans (fewR_len _) g0
    refine (eqIntS_any vg vr (fewR xs0) (fewR xs0) _ _ _ _ w4_ qg r_4).mono ?_
    rintro e w5_ ⟨rfl, hb5⟩
    have a0_5 := a0_4.below hb5
    have r_5 := r_4.below hb5
    have x0_5 := x0_4.below hb5
    have g_5 := qg.below hb5
    have z5 := hb5.size
    have A5 : Below w.heap.size w w5_ := bstep A4 hb5
    go_wp2_with fail
    refine (toJobS_any v0 xs0 0 _ w5_ a0_5 (by omega)).mono ?_
    rintro e w6_ ⟨vy0, rfl, qy0, hb6⟩
    have a0_6 := a0_5.below hb6
    have r_6 := r_5.below hb6
    have x0_6 := x0_5.below hb6
    have g_6 := g_5.below hb6
    have z6 := hb6.size
    have A6 : Below w.heap.size w w6_ := bstep A5 hb6
    go_wp2_with fail
    refine (eqJobS_any vx0 vy0 xs0 xs0 _ _ _ _ w6_ x0_6 qy0).mono ?_
    rintro e w7_ ⟨rfl, hb7⟩
    have a0_7 := a0_6.below hb7
    have r_7 := r_6.below hb7
    have x0_7 := x0_6.below hb7
    have g_7 := g_6.below hb7
    have z7 := hb7.size
    have A7 : Below w.heap.size w w7_ := bstep A6 hb7
    go_wp2_with fail
    refine (markJobS_any vx0 xs0 _ _ _ w7_ x0_7 (by omega) (by omega) (by omega)).mono ?_
    rintro e w8_ ⟨rfl, hb8⟩
    have a0_8 := a0_7.other hb8 (by omega)
    have r_8 := r_7.other hb8 (by omega)
    have g_8 := g_7.other hb8 (by omega)
    have z8 := hb8.size
    have A8 : Below w.heap.size w w8_ := Below.trans A7 (hb8.below (by omega) (by omega))
    go_wp2_with fail
    refine (eqIntS_any vg vr (fewR xs0) (fewR xs0) _ _ _ _ w8_ g_8 r_8).mono ?_
    rintro e w9_ ⟨rfl, hb9⟩
    have a0_9 := a0_8.below hb9
    have r_9 := r_8.below hb9
    have g_9 := g_8.below hb9
    have z9 := hb9.size
    have A9 : Below w.heap.size w w9_ := bstep A8 hb9
    go_wp2_with fail
    refine (markIntS_any vg (fewR xs0) _ _ _ w9_ g_9 (by omega) (by omega) (by omega)).mono ?_
    rintro e w10_ ⟨rfl, hb10, ym, yl, ye, qm⟩
    have a0_10 := a0_9.other hb10 (by omega)
    have r_10 := r_9.other hb10 (by omega)
    have z10 := hb10.size
    have A10 : Below w.heap.size w w10_ := Below.trans A9 (hb10.below (by omega) (by omega))
    have Yl := hide yl
    have Ye := hide ye
    clear yl ye
    go_wp2_with fail
    refine (heldIntS_any vg ym _ _ _ w10_ qm (by rw [Yl.out]; omega) (by omega) (by omega) Ye.out).mono ?_
    rw [Yl.out]
    rintro e w' ⟨rfl, rfl⟩
    go_wp2_with fail
    refine (toJobS_any v0 xs0 0 _ w10_ a0_10 (by omega)).mono ?_
    rintro e w11_ ⟨vh0, rfl, qh0, hb11⟩
    have a0_11 := a0_10.below hb11
    have r_11 := r_10.below hb11
    have m_11 := qm.below hb11
    have z11 := hb11.size
    have A11 : Below w.heap.size w w11_ := bstep A10 hb11
    go_wp2_with fail
    refine (few_impl vh0 xs0 _ _ w11_ qh0).mono ?_
    rintro e w12_ ⟨vh, rfl, qh, hb12⟩
    have a0_12 := a0_11.below hb12
    have r_12 := r_11.below hb12
    have m_12 := m_11.below hb12
    have z12 := hb12.size
    have A12 : Below w.heap.size w w12_ := bstep A11 hb12
    go_wp2_with fail
    refine (eqIntS_any vh vr (fewR xs0) (fewR xs0) _ _ _ _ w12_ qh r_12).mono ?_
    rintro e w13_ ⟨rfl, hb13⟩
    have a0_13 := a0_12.below hb13
    have m_13 := m_12.below hb13
    have z13 := hb13.size
    have A13 : Below w.heap.size w w13_ := bstep A12 hb13
    go_wp2_with fail
    refine (heldIntS_any vg ym _ _ _ w13_ m_13 (by rw [Yl.out]; omega) (by omega) (by omega) Ye.out).mono ?_
    rw [Yl.out]
    rintro e w' ⟨rfl, rfl⟩
    go_wp2_with fail
    go_ret
    exact ⟨rfl, A13⟩
  · skip
    go_enter Try.func18, Try.ntmps18
    go_wp2_with fail
    refine (szJobS_any v0 xs0 0 _ _ w a0 (by omega) (by omega)).mono ?_
    rw [szI_lt g0]
    rintro e w' ⟨rfl, rfl⟩
    go_wp2_with fail
    go_ret
    exact ⟨rfl, Below.refl _ _⟩
end Go.Proofs.Ytmkkefkdeoennaa
