/-
  The walk over the law FnExactTwoLong: it answers true, whatever the input, and leaves all old memory alone.
-/
import Derived.Test.YtmkkefkdeoennaaWalkP
import Derived.Test.YtmkkefkdeoennaaLawsA
namespace Go.Proofs.Ytmkkefkdeoennaa
open Go.RowKit

set_option maxHeartbeats 400000 in
theorem law_TwoLong (v0 : Value) (xs0 : List J) (w : World) (a0 : JobsAt 0 w.heap.size w v0 xs0) :
    Calls Try.prog 14 #[v0] w fun e w' => e = .returned (.bool true) ∧ Below w.heap.size w w' := by
  have l0 := a0.len
  by_cases g0 : xs0.length ≤ 1048576
  · skip
    go_enter Try.func14, Try.ntmps14
    go_wp2_with fail
    refine (szJobS_any v0 xs0 0 _ _ w a0 (by omega) (by omega)).mono ?_
    rw [szI_ge g0]
    rintro e w' ⟨rfl, rfl⟩
    go_wp2_with fail
    refine (toJobS_any v0 xs0 0 _ w a0 (by omega)).mono ?_
    rintro e w1_ ⟨vs0, rfl, qs0, hb1⟩
    have a0_1 := a0.below hb1
    go_wp2_with fail
    refine (twoLong_spec vs0 xs0 _ _ w1_ qs0).mono ?_
    rintro e w2_ ⟨rfl, hb2⟩
    have a0_2 := a0_1.below hb2
    have s0_2 := qs0.below hb2
    go_wp2_with fail
    refine (toJobS_any v0 xs0 0 _ w2_ a0_2 (by omega)).mono ?_
    rintro e w3_ ⟨vx0, rfl, qx0, hb3⟩
    have a0_3 := a0_2.below hb3
    go_wp2_with fail
    refine (twoLong_impl vx0 xs0 _ _ w3_ qx0).mono ?_
    rintro e w4_ ⟨rfl, hb4⟩
    have a0_4 := a0_3.below hb4
    have x0_4 := qx0.below hb4
    go_wp2_with fail
    refine (toJobS_any v0 xs0 0 _ w4_ a0_4 (by omega)).mono ?_
    rintro e w5_ ⟨vy0, rfl, qy0, hb5⟩
    have a0_5 := a0_4.below hb5
    have x0_5 := x0_4.below hb5
    go_wp2_with fail
    refine (eqJobS_any vx0 vy0 xs0 xs0 _ _ _ _ w5_ x0_5 qy0).mono ?_
    rintro e w6_ ⟨rfl, hb6⟩
    have a0_6 := a0_5.below hb6
    have x0_6 := x0_5.below hb6
    have y0_6 := qy0.below hb6
    go_wp2_with fail
    go_ret
    exact ⟨rfl, (bstep (bstep (bstep (bstep (bstep hb1 hb2) hb3) hb4) hb5) hb6)⟩
  · skip
    go_enter Try.func14, Try.ntmps14
    go_wp2_with fail
    refine (szJobS_any v0 xs0 0 _ _ w a0 (by omega) (by omega)).mono ?_
    rw [szI_lt g0]
    rintro e w' ⟨rfl, rfl⟩
    go_wp2_with fail
    go_ret
    exact ⟨rfl, Below.refl _ _⟩
end Go.Proofs.Ytmkkefkdeoennaa
