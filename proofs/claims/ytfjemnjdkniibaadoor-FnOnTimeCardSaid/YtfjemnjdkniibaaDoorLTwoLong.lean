/-
  The walk over the law FnTwoLong: it answers true, whatever the code, and leaves all old memory alone.
-/
import Derived.Test.YtfjemnjdkniibaaDoorLJobsValid
import Derived.Test.YtfjemnjdkniibaaDoorPlainTwo
import Derived.Test.YtfjemnjdkniibaaDoorWalkP
namespace Go.Proofs.YtfjemnjdkniibaaDoor
open Go.RowKit

theorem two_le {js : List J} {z : Int} (h : 0 ≤ twoEndR js z) : twoEndR js z ≤ 594 := by
  obtain ⟨hv, h0, h1⟩ := twoEnd_out h
  exact (twoEndR_bd hv h0 h1).2
theorem long_bd {js : List J} (h : jsvB js = true) : longR js ≤ 63 := by
  have e : longR js = ((sh js (orderR kSpan js)).2.2 : Nat) := by simp [longR, orderR, h]
  have hlt := long_lt h (ord_perm (order_ord cmpSpan h))
  have hp := pow_nat js.length
  have := pow_bd (jsvB_len h)
  omega

set_option maxRecDepth 10000 in
set_option maxHeartbeats 800000 in
theorem law_TwoLong (v : Value) (n : Nat) (w : World) (h : BytesAt 0 w.heap.size w v n) :
    Calls Tryd.prog 10 #[v] w fun e w' => e = .returned (.bool true) ∧ Below w.heap.size w w' := by
  obtain ⟨ao, cap, rfl, hnc, hcap, -, -⟩ := id h
  have HB := hide h
  clear h
  by_cases hlong : 1048576 < n
  · go_enter Tryd.func10, Tryd.ntmps10
    go_wp2_with fail
    go_ret
    exact ⟨rfl, Below.refl _ _⟩
  · go_enter Tryd.func10, Tryd.ntmps10
    go_wp2_with fail
    refine (drawTwoLong _ n _ HB.out).mono ?_
    rintro e w1 ⟨v1, js, rfl, hl, ⟨b, cap1, rfl⟩, hj, hb1⟩
    obtain ⟨hlc1, hcap1⟩ := jobs_cap hj
    have HJ1 := hide hj
    have HB1 := hide hb1
    clear hj hb1
    go_wp2_with fail
    refine (twoLong_impl _ js _ _ _ HJ1.out).mono ?_
    rintro e w2 ⟨rfl, hb⟩
    have HJ2 := hide (HJ1.out.below hb)
    have HB2 := hide (Below.step HB1.out hb (Nat.le_refl _))
    clear hb
    go_wp2_with fail
    refine (twoLong_spec _ js _ _ _ HJ2.out).mono ?_
    rintro e w3 ⟨rfl, hb⟩
    have HJ3 := hide (HJ2.out.below hb)
    have HB3 := hide (Below.step HB2.out hb (Nat.le_refl _))
    clear hb
    cases hv : jsvB js with
    | false =>
      have e : longR js = -1 := by simp [longR, hv]
      rw [e]
      go_wp2_with fail
      refine (alive_any _).mono ?_
      rintro e w4 ⟨rfl, hb⟩
      have HJ4 := hide (HJ3.out.below hb)
      have HB4 := hide (Below.step HB3.out hb (Nat.le_refl _))
      clear hb
      go_wp2_with fail
      go_ret
      exact ⟨rfl, HB4.out⟩
    | true =>
      obtain ⟨a1, a2, a3⟩ := twoLong_ok hv
      have hb := twoBest_le a2
      have hx := two_le a2
      obtain ⟨z, hz⟩ : ∃ z, longR js = z := ⟨_, rfl⟩
      rw [hz] at a1 a2 a3 hb hx ⊢
      have HV := hide hv
      have h594 : twoBestR js ≤ 594 := by omega
      have hz63 := long_bd hv
      rw [hz] at hz63
      clear hz hv
      go_wp2_with fail
      refine (twoEnd_impl _ js _ _ z _ HJ3.out (by omega)).mono ?_
      rintro e w4 ⟨rfl, hb⟩
      have HJ4 := hide (HJ3.out.below hb)
      have HB4 := hide (Below.step HB3.out hb (Nat.le_refl _))
      clear hb
      generalize twoEndR js z = x at *
      go_wp2_with fail
      refine (twoBest_impl _ js _ _ _ HJ4.out).mono ?_
      rintro e w5 ⟨rfl, hb⟩
      have HJ5 := hide (HJ4.out.below hb)
      have HB5 := hide (Below.step HB4.out hb (Nat.le_refl _))
      clear hb
      generalize twoBestR js = y at *
      obtain ⟨hb0, hb1⟩ := hb
      go_wp2_with fail
      go_ret
      exact ⟨rfl, HB5.out⟩
end Go.Proofs.YtfjemnjdkniibaaDoor
