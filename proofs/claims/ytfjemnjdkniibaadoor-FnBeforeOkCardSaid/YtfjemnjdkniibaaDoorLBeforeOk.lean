/-
  The walk over the law FnBeforeOk: it answers true, whatever the code, and leaves all old memory alone.
-/
import Derived.Test.YtfjemnjdkniibaaDoorDrawT
import Derived.Test.YtfjemnjdkniibaaDoorAloned
import Derived.Test.YtfjemnjdkniibaaDoorWalkL
import Derived.Test.YtfjemnjdkniibaaDoorWalkH
namespace Go.Proofs.YtfjemnjdkniibaaDoor
open Go.RowKit

set_option maxRecDepth 10000 in
set_option maxHeartbeats 800000 in
theorem law_BeforeOk (v : Value) (n : Nat) (w : World) (h : BytesAt 0 w.heap.size w v n) :
    Calls Tryd.prog 9 #[v] w fun e w' => e = .returned (.bool true) ∧ Below w.heap.size w w' := by
  obtain ⟨ao, cap, rfl, hnc, hcap, -, -⟩ := id h
  have HB := hide h
  clear h
  by_cases hlong : 1048576 < n
  · go_enter Tryd.func9, Tryd.ntmps9
    go_wp2_with fail
    go_ret
    exact ⟨rfl, Below.refl _ _⟩
  · go_enter Tryd.func9, Tryd.ntmps9
    go_wp2_with fail
    refine (drawBeforeOk _ n _ HB.out).mono ?_
    rintro e w1 ⟨v1, js, v2, bs, v3, os, rfl, hl, hbl, hol, hj, hi, hi2, hb1⟩
    obtain ⟨ao1, cap1, rfl, hlc1, hcap1, -⟩ := hj.where'
    obtain ⟨ao2, cap2, rfl, hlc2, hcap2, -⟩ := hi.where
    obtain ⟨ao3, cap3, rfl, hlc3, hcap3, -⟩ := hi2.where
    have HJ1 := hide hj
    have HI1 := hide hi
    have HO1 := hide hi2
    have HB1 := hide hb1
    clear hj hi hi2 hb1
    cases hok : bokR js bs os with
    | false =>
      have HX := hide hok
      clear hok
      go_wp2_with fail
      refine (beforeOk_impl _ js _ _ _ bs _ _ _ os _ _ _ HJ1.out HI1.out HO1.out).mono ?_
      rw [HX.out]
      rintro e w2 ⟨rfl, hb⟩
      have HJ2 := hide (HJ1.out.below hb)
      have HI2 := hide (HI1.out.below hb)
      have HO2 := hide (HO1.out.below hb)
      have HB2 := hide (Below.step HB1.out hb (Nat.le_refl _))
      clear hb
      go_wp2_with fail
      refine (beforeOk_spec _ js _ _ _ bs _ _ _ os _ _ _ HJ2.out HI2.out HO2.out).mono ?_
      rw [HX.out]
      rintro e w3 ⟨rfl, hb⟩
      have HJ3 := hide (HJ2.out.below hb)
      have HI3 := hide (HI2.out.below hb)
      have HO3 := hide (HO2.out.below hb)
      have HB3 := hide (Below.step HB2.out hb (Nat.le_refl _))
      clear hb
      go_wp2_with fail
      refine (alive_any _).mono ?_
      rintro e w4 ⟨rfl, hb⟩
      have HJ4 := hide (HJ3.out.below hb)
      have HI4 := hide (HI3.out.below hb)
      have HO4 := hide (HO3.out.below hb)
      have HB4 := hide (Below.step HB3.out hb (Nat.le_refl _))
      clear hb
      go_wp2_with fail
      go_ret
      exact ⟨rfl, HB4.out⟩
    | true =>
      have hbf : bfB js bs = true := by simp only [bokR, Bool.and_eq_true] at hok; exact hok.1.1
      have hy0 := worst_nn (bok_ok (bb_ok hbf))
      have hyx := lawler hok
      obtain ⟨xs, hxs⟩ : ∃ xs, bbR js bs = xs := ⟨_, rfl⟩
      have hxl := bbR_len js bs
      rw [hxs] at hy0 hyx hxl
      obtain ⟨y, hy⟩ : ∃ y, worstR js xs = y := ⟨_, rfl⟩
      obtain ⟨x, hx⟩ : ∃ x, worstR js os = x := ⟨_, rfl⟩
      rw [hy] at hy0 hyx
      rw [hx] at hyx
      have HX := hide hok
      have HXS := hide hxs
      have HY := hide hy
      have HZ := hide hx
      clear hok hbf hxs hy hx
      go_wp2_with fail
      refine (beforeOk_impl _ js _ _ _ bs _ _ _ os _ _ _ HJ1.out HI1.out HO1.out).mono ?_
      rw [HX.out]
      rintro e w2 ⟨rfl, hb⟩
      have HJ2 := hide (HJ1.out.below hb)
      have HI2 := hide (HI1.out.below hb)
      have HO2 := hide (HO1.out.below hb)
      have HB2 := hide (Below.step HB1.out hb (Nat.le_refl _))
      clear hb
      go_wp2_with fail
      refine (beforeOk_spec _ js _ _ _ bs _ _ _ os _ _ _ HJ2.out HI2.out HO2.out).mono ?_
      rw [HX.out]
      rintro e w3 ⟨rfl, hb⟩
      have HJ3 := hide (HJ2.out.below hb)
      have HI3 := hide (HI2.out.below hb)
      have HO3 := hide (HO2.out.below hb)
      have HB3 := hide (Below.step HB2.out hb (Nat.le_refl _))
      clear hb
      go_wp2_with fail
      refine (beforeBest_impl _ js _ _ _ bs _ _ _ HJ3.out HI3.out).mono ?_
      rw [HXS.out]
      rintro e w4 ⟨r, rfl, hr, hb⟩
      obtain ⟨aoe, cape, rfl, hle, hce, ha⟩ := hr.where
      have HAE := hide ha
      have HE4 := hide hr
      have HJ4 := hide (HJ3.out.below hb)
      have HI4 := hide (HI3.out.below hb)
      have HO4 := hide (HO3.out.below hb)
      have HB4 := hide (Below.step HB3.out hb (Nat.le_refl _))
      clear hb hr ha
      go_wp2_with fail
      refine (WorstLate_impl _ js _ _ _ xs _ _ _ HJ4.out HE4.out).mono ?_
      rw [HY.out]
      rintro e w5 ⟨rfl, hb⟩
      have HJ5 := hide (HJ4.out.below hb)
      have HI5 := hide (HI4.out.below hb)
      have HO5 := hide (HO4.out.below hb)
      have HE5 := hide (HE4.out.below hb)
      have HB5 := hide (Below.step HB4.out hb (Nat.le_refl _))
      clear hb
      go_wp2_with fail
      refine (WorstLate_impl _ js _ _ _ os _ _ _ HJ5.out HO5.out).mono ?_
      rw [HZ.out]
      rintro e w6 ⟨rfl, hb⟩
      have HJ6 := hide (HJ5.out.below hb)
      have HI6 := hide (HI5.out.below hb)
      have HO6 := hide (HO5.out.below hb)
      have HE6 := hide (HE5.out.below hb)
      have HB6 := hide (Below.step HB5.out hb (Nat.le_refl _))
      clear hb
      go_wp2_with fail
      go_ret
      exact ⟨rfl, HB6.out⟩
end Go.Proofs.YtfjemnjdkniibaaDoor
