/-
  The walk over the law FnExactJobsLate: it answers true, whatever the input, and leaves all old memory alone.
-/
import Derived.Test.YtmkkefkdeoennaaWalkH
import Derived.Test.YtmkkefkdeoennaaLawsA
namespace Go.Proofs.Ytmkkefkdeoennaa
open Go.RowKit

set_option maxHeartbeats 400000 in
theorem law_JobsLate (v0 : Value) (xs0 : List J) (v1 : Value) (xs1 : List Int) (w : World) (a0 : JobsAt 0 w.heap.size w v0 xs0) (a1 : IntsAt 0 w.heap.size w v1 xs1) :
    Calls Try.prog 11 #[v0, v1] w fun e w' => e = .returned (.bool true) ∧ Below w.heap.size w w' := by
  have l0 := a0.len
  have l1 := a1.len
  by_cases g1 : xs1.length ≤ 1048576
  · skip
    by_cases g0 : xs0.length ≤ 1048576
    · skip
      obtain ⟨ao1, cap1, e1, -, -, -, -⟩ := id a1
      subst e1
      go_enter Try.func11, Try.ntmps11
      go_wp2_with fail
      refine (szJobS_any v0 xs0 0 _ _ w a0 (by omega) (by omega)).mono ?_
      rw [szI_ge g0]
      rintro e w' ⟨rfl, rfl⟩
      go_wp2_with fail
      refine (toJobS_any v0 xs0 0 _ w a0 (by omega)).mono ?_
      rintro e w1_ ⟨vs0, rfl, qs0, hb1⟩
      have a0_1 := a0.below hb1
      have a1_1 := a1.below hb1
      go_wp2_with fail
      refine (toIntS_any (.slice ao1 xs1.length cap1) xs1 0 _ w1_ a1_1 (by omega)).mono ?_
      rintro e w2_ ⟨vs1, rfl, qs1, hb2⟩
      have a0_2 := a0_1.below hb2
      have a1_2 := a1_1.below hb2
      have s0_2 := qs0.below hb2
      go_wp2_with fail
      refine (JobsLate_spec vs0 xs0 _ _ vs1 xs1 _ _ w2_ s0_2 qs1).mono ?_
      rintro e w3_ ⟨rfl, hb3⟩
      have a0_3 := a0_2.below hb3
      have a1_3 := a1_2.below hb3
      have s0_3 := s0_2.below hb3
      have s1_3 := qs1.below hb3
      go_wp2_with fail
      refine (toJobS_any v0 xs0 0 _ w3_ a0_3 (by omega)).mono ?_
      rintro e w4_ ⟨vx0, rfl, qx0, hb4⟩
      have a0_4 := a0_3.below hb4
      have a1_4 := a1_3.below hb4
      go_wp2_with fail
      refine (toIntS_any (.slice ao1 xs1.length cap1) xs1 0 _ w4_ a1_4 (by omega)).mono ?_
      rintro e w5_ ⟨vx1, rfl, qx1, hb5⟩
      have a0_5 := a0_4.below hb5
      have a1_5 := a1_4.below hb5
      have x0_5 := qx0.below hb5
      go_wp2_with fail
      refine (JobsLate_impl vx0 xs0 _ _ vx1 xs1 _ _ w5_ x0_5 qx1).mono ?_
      rintro e w6_ ⟨rfl, hb6⟩
      have a0_6 := a0_5.below hb6
      have a1_6 := a1_5.below hb6
      have x0_6 := x0_5.below hb6
      have x1_6 := qx1.below hb6
      go_wp2_with fail
      refine (toJobS_any v0 xs0 0 _ w6_ a0_6 (by omega)).mono ?_
      rintro e w7_ ⟨vy0, rfl, qy0, hb7⟩
      have a0_7 := a0_6.below hb7
      have a1_7 := a1_6.below hb7
      have x0_7 := x0_6.below hb7
      have x1_7 := x1_6.below hb7
      go_wp2_with fail
      refine (eqJobS_any vx0 vy0 xs0 xs0 _ _ _ _ w7_ x0_7 qy0).mono ?_
      rintro e w8_ ⟨rfl, hb8⟩
      have a0_8 := a0_7.below hb8
      have a1_8 := a1_7.below hb8
      have x0_8 := x0_7.below hb8
      have x1_8 := x1_7.below hb8
      have y0_8 := qy0.below hb8
      go_wp2_with fail
      refine (toIntS_any (.slice ao1 xs1.length cap1) xs1 0 _ w8_ a1_8 (by omega)).mono ?_
      rintro e w9_ ⟨vy1, rfl, qy1, hb9⟩
      have a0_9 := a0_8.below hb9
      have a1_9 := a1_8.below hb9
      have x0_9 := x0_8.below hb9
      have x1_9 := x1_8.below hb9
      have y0_9 := y0_8.below hb9
      go_wp2_with fail
      refine (eqIntS_any vx1 vy1 xs1 xs1 _ _ _ _ w9_ x1_9 qy1).mono ?_
      rintro e w10_ ⟨rfl, hb10⟩
      have a0_10 := a0_9.below hb10
      have a1_10 := a1_9.below hb10
      have x0_10 := x0_9.below hb10
      have x1_10 := x1_9.below hb10
      have y0_10 := y0_9.below hb10
      have y1_10 := qy1.below hb10
      go_wp2_with fail
      go_ret
      exact ⟨rfl, (bstep (bstep (bstep (bstep (bstep (bstep (bstep (bstep (bstep hb1 hb2) hb3) hb4) hb5) hb6) hb7) hb8) hb9) hb10)⟩
    · skip
      obtain ⟨ao1, cap1, e1, -, -, -, -⟩ := id a1
      subst e1
      go_enter Try.func11, Try.ntmps11
      go_wp2_with fail
      refine (szJobS_any v0 xs0 0 _ _ w a0 (by omega) (by omega)).mono ?_
      rw [szI_lt g0]
      rintro e w' ⟨rfl, rfl⟩
      go_wp2_with fail
      go_ret
      exact ⟨rfl, Below.refl _ _⟩
  · skip
    obtain ⟨ao1, cap1, e1, -, -, -, -⟩ := id a1
    subst e1
    go_enter Try.func11, Try.ntmps11
    go_wp2_with fail
    go_ret
    exact ⟨rfl, Below.refl _ _⟩
end Go.Proofs.Ytmkkefkdeoennaa
