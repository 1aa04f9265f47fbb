/-
  The walk over the law FnWorstLate: it answers true, whatever the code, and leaves all old memory alone.
-/
import Derived.Test.YtfjemnjdkniibaaDoorReads3
import Derived.Test.YtfjemnjdkniibaaDoorWalkO
import Derived.Test.YtfjemnjdkniibaaDoorWalkH
namespace Go.Proofs.YtfjemnjdkniibaaDoor
open Go.RowKit

set_option maxRecDepth 10000 in
set_option maxHeartbeats 800000 in
theorem law_WorstLate (v : Value) (n : Nat) (w : World) (h : BytesAt 0 w.heap.size w v n) :
    Calls Tryd.prog 14 #[v] w fun e w' => e = .returned (.bool true) ∧ Below w.heap.size w w' := by
  obtain ⟨ao, cap, rfl, hnc, hcap, -, -⟩ := id h
  have HB := hide h
  clear h
  by_cases hlong : 1048576 < n
  · go_enter Tryd.func14, Tryd.ntmps14
    go_wp2_with fail
    go_ret
    exact ⟨rfl, Below.refl _ _⟩
  · go_enter Tryd.func14, Tryd.ntmps14
    go_wp2_with fail
    refine (drawWorstLate _ n _ HB.out).mono ?_
    rintro e w1 ⟨v1, js, v2, bs, rfl, hl, hbl, hj, hi, hb1⟩
    obtain ⟨ao1, cap1, rfl, hlc1, hcap1, hj0⟩ := hj.where'
    obtain ⟨ao2, cap2, rfl, hlc2, hcap2, hi0⟩ := hi.where
    have HA1 := hide hj0
    have HA2 := hide hi0
    have HJ1 := hide hj
    have HI1 := hide hi
    have HB1 := hide hb1
    clear hj hi hb1 hj0 hi0
    cases hok : okB js bs with
    | false =>
      have hx : worstR js bs = -1 := by simp [worstR, hok]
      have HX := hide hx
      clear hx hok
      go_wp2_with fail
      refine (WorstLate_impl _ js _ _ _ bs _ _ _ HJ1.out HI1.out).mono ?_
      rw [HX.out]
      rintro e w2 ⟨rfl, hb⟩
      have HJ2 := hide (HJ1.out.below hb)
      have HI2 := hide (HI1.out.below hb)
      have HB2 := hide (Below.step HB1.out hb (Nat.le_refl _))
      clear hb
      go_wp2_with fail
      refine (WorstLate_spec _ js _ _ _ bs _ _ _ HJ2.out HI2.out).mono ?_
      rw [HX.out]
      rintro e w3 ⟨rfl, hb⟩
      have HJ3 := hide (HJ2.out.below hb)
      have HI3 := hide (HI2.out.below hb)
      have HB3 := hide (Below.step HB2.out hb (Nat.le_refl _))
      clear hb
      go_wp2_with fail
      refine (alive_any _).mono ?_
      rintro e w4 ⟨rfl, hb⟩
      have HJ4 := hide (HJ3.out.below hb)
      have HI4 := hide (HI3.out.below hb)
      have HB4 := hide (Below.step HB3.out hb (Nat.le_refl _))
      clear hb
      go_wp2_with fail
      go_ret
      exact ⟨rfl, HB4.out⟩
    | true =>
      have hv := ok_jsv hok
      have hx0 := worst_nn hok
      have hy0 := worst_nn (order_ok cmpDue hv)
      have hyx := edd hok
      have hli := late_iff hok
      have hz0 := late_nn hok
      obtain ⟨xs, hxs⟩ : ∃ xs, orderR kDue js = xs := ⟨_, rfl⟩
      rw [hxs] at hy0 hyx
      obtain ⟨x, hx⟩ : ∃ x, worstR js bs = x := ⟨_, rfl⟩
      obtain ⟨y, hy⟩ : ∃ y, worstR js xs = y := ⟨_, rfl⟩
      obtain ⟨z, hz⟩ : ∃ z, lateR js bs = z := ⟨_, rfl⟩
      rw [hx] at hx0 hyx hli
      rw [hy] at hy0 hyx
      rw [hz] at hz0 hli
      rw [decide_eq_decide] at hli
      have h6 := jsvB_len hv
      have hxl := (order_len cmpDue hv hxs).1
      have hx6 : xs.length ≤ 6 := by omega
      have HX := hide hx
      have HY := hide hy
      have HZ := hide hz
      have HXS := hide hxs
      have HLI := hide hli
      clear hx hy hz hxs hok hli hxl hv
      go_wp2_with fail
      refine (WorstLate_impl _ js _ _ _ bs _ _ _ HJ1.out HI1.out).mono ?_
      rw [HX.out]
      rintro e w2 ⟨rfl, hb⟩
      have HJ2 := hide (HJ1.out.below hb)
      have HI2 := hide (HI1.out.below hb)
      have HB2 := hide (Below.step HB1.out hb (Nat.le_refl _))
      clear hb
      go_wp2_with fail
      refine (WorstLate_spec _ js _ _ _ bs _ _ _ HJ2.out HI2.out).mono ?_
      rw [HX.out]
      rintro e w3 ⟨rfl, hb⟩
      have HJ3 := hide (HJ2.out.below hb)
      have HI3 := hide (HI2.out.below hb)
      have HB3 := hide (Below.step HB2.out hb (Nat.le_refl _))
      clear hb
      go_wp2_with fail
      refine (dueOrder_impl _ js _ _ _ HJ3.out).mono ?_
      rw [HXS.out]
      rintro e w4 ⟨r, rfl, hr, hb⟩
      obtain ⟨aoo, capo, rfl, hlo, hco, ha⟩ := hr.where
      have HAO := hide ha
      have HO4 := hide hr
      have HJ4 := hide (HJ3.out.below hb)
      have HI4 := hide (HI3.out.below hb)
      have HB4 := hide (Below.step HB3.out hb (Nat.le_refl _))
      clear hb hr ha
      go_wp2_with fail
      refine (WorstLate_impl _ js _ _ _ xs _ _ _ HJ4.out HO4.out).mono ?_
      rw [HY.out]
      rintro e w5 ⟨rfl, hb⟩
      have HJ5 := hide (HJ4.out.below hb)
      have HI5 := hide (HI4.out.below hb)
      have HO5 := hide (HO4.out.below hb)
      have HB5 := hide (Below.step HB4.out hb (Nat.le_refl _))
      clear hb
      by_cases hpos : 0 < x
      · have hz1 : 0 < z := HLI.out.1 hpos
        go_wp2_with fail
        refine (JobsLate_impl _ js _ _ _ bs _ _ _ HJ5.out HI5.out).mono ?_
        rw [HZ.out]
        rintro e w6 ⟨rfl, hb⟩
        have HJ6 := hide (HJ5.out.below hb)
        have HI6 := hide (HI5.out.below hb)
        have HO6 := hide (HO5.out.below hb)
        have HB6 := hide (Below.step HB5.out hb (Nat.le_refl _))
        clear hb
        go_wp2_with fail
        go_ret
        exact ⟨rfl, HB6.out⟩
      · have hz1 : z = 0 := by have := mt HLI.out.2 hpos; omega
        have hx1 : x = 0 := by omega
        subst hz1 hx1
        go_wp2_with fail
        refine (JobsLate_impl _ js _ _ _ bs _ _ _ HJ5.out HI5.out).mono ?_
        rw [HZ.out]
        rintro e w6 ⟨rfl, hb⟩
        have HJ6 := hide (HJ5.out.below hb)
        have HI6 := hide (HI5.out.below hb)
        have HO6 := hide (HO5.out.below hb)
        have HB6 := hide (Below.step HB5.out hb (Nat.le_refl _))
        clear hb
        go_wp2_with fail
        go_ret
        exact ⟨rfl, HB6.out⟩
end Go.Proofs.YtfjemnjdkniibaaDoor
