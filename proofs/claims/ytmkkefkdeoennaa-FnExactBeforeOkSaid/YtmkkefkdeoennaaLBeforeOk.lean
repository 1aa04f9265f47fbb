/-
  The walk over the law FnExactBeforeOk: it answers true, whatever the input, and leaves all old memory alone.
-/
import Derived.Test.YtmkkefkdeoennaaWalkI
import Derived.Test.YtmkkefkdeoennaaLawsA
namespace Go.Proofs.Ytmkkefkdeoennaa
open Go.RowKit

set_option maxHeartbeats 400000 in
theorem law_BeforeOk (v0 : Value) (xs0 : List J) (v1 : Value) (xs1 : List Int) (v2 : Value) (xs2 : List Int) (w : World) (a0 : JobsAt 0 w.heap.size w v0 xs0) (a1 : IntsAt 0 w.heap.size w v1 xs1) (a2 : IntsAt 0 w.heap.size w v2 xs2) :
    Calls Try.prog 12 #[v0, v1, v2] w fun e w' => e = .returned (.bool true) ∧ Below w.heap.size w w' := by
  have l0 := a0.len
  have l1 := a1.len
  have l2 := a2.len
  by_cases g1 : xs1.length ≤ 1048576
  · skip
    by_cases g2 : xs2.length ≤ 1048576
    · skip
      by_cases g0 : xs0.length ≤ 1048576
      · skip
        obtain ⟨ao1, cap1, e1, -, -, -, -⟩ := id a1
        subst e1
        obtain ⟨ao2, cap2, e2, -, -, -, -⟩ := id a2
        subst e2
        go_enter Try.func12, Try.ntmps12
        go_wp2_with fail
        refine (szJobS_any v0 xs0 0 _ _ w a0 (by omega) (by omega)).mono ?_
        rw [szI_ge g0]
        rintro e w' ⟨rfl, rfl⟩
        go_wp2_with fail
        refine (toJobS_any v0 xs0 0 _ w a0 (by omega)).mono ?_
        rintro e w1_ ⟨vs0, rfl, qs0, hb1⟩
        have a0_1 := a0.below hb1
        have a1_1 := a1.below hb1
        have a2_1 := a2.below hb1
        go_wp2_with fail
        refine (toIntS_any (.slice ao1 xs1.length cap1) xs1 0 _ w1_ a1_1 (by omega)).mono ?_
        rintro e w2_ ⟨vs1, rfl, qs1, hb2⟩
        have a0_2 := a0_1.below hb2
        have a1_2 := a1_1.below hb2
        have a2_2 := a2_1.below hb2
        have s0_2 := qs0.below hb2
        go_wp2_with fail
        refine (toIntS_any (.slice ao2 xs2.length cap2) xs2 0 _ w2_ a2_2 (by omega)).mono ?_
        rintro e w3_ ⟨vs2, rfl, qs2, hb3⟩
        have a0_3 := a0_2.below hb3
        have a1_3 := a1_2.below hb3
        have a2_3 := a2_2.below hb3
        have s0_3 := s0_2.below hb3
        have s1_3 := qs1.below hb3
        go_wp2_with fail
        refine (beforeOk_spec vs0 xs0 _ _ vs1 xs1 _ _ vs2 xs2 _ _ w3_ s0_3 s1_3 qs2).mono ?_
        rintro e w4_ ⟨rfl, hb4⟩
        have a0_4 := a0_3.below hb4
        have a1_4 := a1_3.below hb4
        have a2_4 := a2_3.below hb4
        have s0_4 := s0_3.below hb4
        have s1_4 := s1_3.below hb4
        have s2_4 := qs2.below hb4
        go_wp2_with fail
        refine (toJobS_any v0 xs0 0 _ w4_ a0_4 (by omega)).mono ?_
        rintro e w5_ ⟨vx0, rfl, qx0, hb5⟩
        have a0_5 := a0_4.below hb5
        have a1_5 := a1_4.below hb5
        have a2_5 := a2_4.below hb5
        go_wp2_with fail
        refine (toIntS_any (.slice ao1 xs1.length cap1) xs1 0 _ w5_ a1_5 (by omega)).mono ?_
        rintro e w6_ ⟨vx1, rfl, qx1, hb6⟩
        have a0_6 := a0_5.below hb6
        have a1_6 := a1_5.below hb6
        have a2_6 := a2_5.below hb6
        have x0_6 := qx0.below hb6
        go_wp2_with fail
        refine (toIntS_any (.slice ao2 xs2.length cap2) xs2 0 _ w6_ a2_6 (by omega)).mono ?_
        rintro e w7_ ⟨vx2, rfl, qx2, hb7⟩
        have a0_7 := a0_6.below hb7
        have a1_7 := a1_6.below hb7
        have a2_7 := a2_6.below hb7
        have x0_7 := x0_6.below hb7
        have x1_7 := qx1.below hb7
        go_wp2_with fail
        refine (beforeOk_impl vx0 xs0 _ _ vx1 xs1 _ _ vx2 xs2 _ _ w7_ x0_7 x1_7 qx2).mono ?_
        rintro e w8_ ⟨rfl, hb8⟩
        have a0_8 := a0_7.below hb8
        have a1_8 := a1_7.below hb8
        have a2_8 := a2_7.below hb8
        have x0_8 := x0_7.below hb8
        have x1_8 := x1_7.below hb8
        have x2_8 := qx2.below hb8
        go_wp2_with fail
        refine (toJobS_any v0 xs0 0 _ w8_ a0_8 (by omega)).mono ?_
        rintro e w9_ ⟨vy0, rfl, qy0, hb9⟩
        have a0_9 := a0_8.below hb9
        have a1_9 := a1_8.below hb9
        have a2_9 := a2_8.below hb9
        have x0_9 := x0_8.below hb9
        have x1_9 := x1_8.below hb9
        have x2_9 := x2_8.below hb9
        go_wp2_with fail
        refine (eqJobS_any vx0 vy0 xs0 xs0 _ _ _ _ w9_ x0_9 qy0).mono ?_
        rintro e w10_ ⟨rfl, hb10⟩
        have a0_10 := a0_9.below hb10
        have a1_10 := a1_9.below hb10
        have a2_10 := a2_9.below hb10
        have x0_10 := x0_9.below hb10
        have x1_10 := x1_9.below hb10
        have x2_10 := x2_9.below hb10
        have y0_10 := qy0.below hb10
        go_wp2_with fail
        refine (toIntS_any (.slice ao1 xs1.length cap1) xs1 0 _ w10_ a1_10 (by omega)).mono ?_
        rintro e w11_ ⟨vy1, rfl, qy1, hb11⟩
        have a0_11 := a0_10.below hb11
        have a1_11 := a1_10.below hb11
        have a2_11 := a2_10.below hb11
        have x0_11 := x0_10.below hb11
        have x1_11 := x1_10.below hb11
        have x2_11 := x2_10.below hb11
        have y0_11 := y0_10.below hb11
        go_wp2_with fail
        refine (eqIntS_any vx1 vy1 xs1 xs1 _ _ _ _ w11_ x1_11 qy1).mono ?_
        rintro e w12_ ⟨rfl, hb12⟩
        have a0_12 := a0_11.below hb12
        have a1_12 := a1_11.below hb12
        have a2_12 := a2_11.below hb12
        have x0_12 := x0_11.below hb12
        have x1_12 := x1_11.below hb12
        have x2_12 := x2_11.below hb12
        have y0_12 := y0_11.below hb12
        have y1_12 := qy1.below hb12
        go_wp2_with fail
        refine (toIntS_any (.slice ao2 xs2.length cap2) xs2 0 _ w12_ a2_12 (by omega)).mono ?_
        rintro e w13_ ⟨vy2, rfl, qy2, hb13⟩
        have a0_13 := a0_12.below hb13
        have a1_13 := a1_12.below hb13
        have a2_13 := a2_12.below hb13
        have x0_13 := x0_12.below hb13
        have x1_13 := x1_12.below hb13
        have x2_13 := x2_12.below hb13
        have y0_13 := y0_12.below hb13
        have y1_13 := y1_12.below hb13
        go_wp2_with fail
        refine (eqIntS_any vx2 vy2 xs2 xs2 _ _ _ _ w13_ x2_13 qy2).mono ?_
        rintro e w14_ ⟨rfl, hb14⟩
        have a0_14 := a0_13.below hb14
        have a1_14 := a1_13.below hb14
        have a2_14 := a2_13.below hb14
        have x0_14 := x0_13.below hb14
        have x1_14 := x1_13.below hb14
        have x2_14 := x2_13.below hb14
        have y0_14 := y0_13.below hb14
        have y1_14 := y1_13.below hb14
        have y2_14 := qy2.below hb14
        go_wp2_with fail
        go_ret
        exact ⟨rfl, (bstep (bstep (bstep (bstep (bstep (bstep (bstep (bstep (bstep (bstep (bstep (bstep (bstep hb1 hb2) hb3) hb4) hb5) hb6) hb7) hb8) hb9) hb10) hb11) hb12) hb13) hb14)⟩
      · skip
        obtain ⟨ao1, cap1, e1, -, -, -, -⟩ := id a1
        subst e1
        obtain ⟨ao2, cap2, e2, -, -, -, -⟩ := id a2
        subst e2
        go_enter Try.func12, Try.ntmps12
        go_wp2_with fail
        refine (szJobS_any v0 xs0 0 _ _ w a0 (by omega) (by omega)).mono ?_
        rw [szI_lt g0]
        rintro e w' ⟨rfl, rfl⟩
        go_wp2_with fail
        go_ret
        exact ⟨rfl, Below.refl _ _⟩
    · skip
      obtain ⟨ao1, cap1, e1, -, -, -, -⟩ := id a1
      subst e1
      obtain ⟨ao2, cap2, e2, -, -, -, -⟩ := id a2
      subst e2
      go_enter Try.func12, Try.ntmps12
      go_wp2_with fail
      go_ret
      exact ⟨rfl, Below.refl _ _⟩
  · skip
    obtain ⟨ao1, cap1, e1, -, -, -, -⟩ := id a1
    subst e1
    go_enter Try.func12, Try.ntmps12
    go_wp2_with fail
    go_ret
    exact ⟨rfl, Below.refl _ _⟩
end Go.Proofs.Ytmkkefkdeoennaa
