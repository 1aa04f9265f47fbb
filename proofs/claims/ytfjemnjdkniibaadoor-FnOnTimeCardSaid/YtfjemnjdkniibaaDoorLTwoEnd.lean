/-
  The walk over the law FnTwoEnd: it answers true, whatever the code, and leaves all old memory alone.
-/
import Derived.Test.YtfjemnjdkniibaaDoorLTwoLong
namespace Go.Proofs.YtfjemnjdkniibaaDoor
open Go.RowKit

/-- Jobs and a number were drawn. -/
def NumGot (w : World) (e : Ending) (w' : World) : Prop :=
  ∃ (b cap : Nat) (js : List J) (z : Int), e = .returned (.tuple #[.slice (some ⟨b, 0, none⟩) js.length cap, .int .i64 z]) ∧ (-1000 ≤ z ∧ z ≤ 1000) ∧ js.length ≤ 7 ∧ JobsAt w.heap.size w'.heap.size w' (.slice (some ⟨b, 0, none⟩) js.length cap) js ∧ Below w.heap.size w w'
theorem num_got {w w1 w2 w3 : World} {R b cap : Nat} {js : List J} {z : Int} (hb : Below w.heap.size w w1) (hR : w.heap.size ≤ R) (hz : -1000 ≤ z ∧ z ≤ 1000) (hl : js.length ≤ 7) (hj : JobsAt w1.heap.size w2.heap.size w2 (.slice (some ⟨b, 0, none⟩) js.length cap) js) (ho : Other R (R + 1) w1 w2) (ho' : Other R (R + 1) w2 w3) (hR1 : R < w1.heap.size) :
    NumGot w (.returned (.tuple #[.slice (some ⟨b, 0, none⟩) js.length cap, .int .i64 z])) w3 :=
  ⟨b, cap, js, z, rfl, hz, hl, (hj.other ho' (.inr (by omega))).mono hb.size ho'.size (Nat.le_refl _), hb.trans ((ho.trans ho').below hR hb.size)⟩
set_option maxRecDepth 10000 in
theorem drawTwoEnd (v : Value) (n : Nat) (w : World) (h : BytesAt 0 w.heap.size w v n) : Calls Tryd.prog 26 #[v] w (NumGot w) := by
  have HB := hide h
  clear h
  go_enter Tryd.func26, Tryd.ntmps26
  go_wp2_with fail
  refine (open_any v n _ HB.out).mono ?_
  rintro e w1 ⟨R, rfl, hR, hb1, hr1⟩
  go_wp2_with fail
  refine (l20Jobs_any R 0 12 _ hr1 (by omega) (by omega) (by omega)).mono ?_
  rintro e w2 ⟨v1, js, rfl, hl, ⟨b, cap, rfl⟩, hj, ho, hr2⟩
  have HJ := hide hj
  have HO := hide ho
  have HB1 := hide hb1
  have hR2 := hide hr2
  have hRl := hr1.lt
  clear hj ho hb1 hr2
  by_cases h6 : js.length ≤ 6
  · obtain ⟨hq1, hq2⟩ := pow_bd h6
    go_wp2_with fail
    refine (pick_in R _ (2 ^ js.length) _ hR2.out (by omega) (by omega) (by omega)).mono ?_
    rintro e w3 ⟨x1, rfl, p1, p2, ho3, hr3⟩
    go_wp2_with fail
    refine (pick_in R _ 30 _ hr3 (by omega) (by omega) (by omega)).mono ?_
    rintro e w4 ⟨x2, rfl, q1, q2, ho4, hr4⟩
    go_wp2_with fail
    refine (pick_in R _ 30 _ hr4 (by omega) (by omega) (by omega)).mono ?_
    rintro e w5 ⟨x3, rfl, r1, r2, ho5, hr5⟩
    have HF := hide (num_got (z := x1 + x2 / 29 * 64 - x3 / 29 * 90) HB1.out hR (by omega) hl HJ.out HO.out ((ho3.trans ho4).trans ho5) hRl)
    clear ho3 ho4 ho5 hr3 hr4 hr5
    go_wp2_with fail
    go_ret2
    exact HF.out
  · go_wp2_with fail
    refine (pick_in R _ (64) _ hR2.out (by omega) (by omega) (by omega)).mono ?_
    rintro e w3 ⟨x1, rfl, p1, p2, ho3, hr3⟩
    go_wp2_with fail
    refine (pick_in R _ 30 _ hr3 (by omega) (by omega) (by omega)).mono ?_
    rintro e w4 ⟨x2, rfl, q1, q2, ho4, hr4⟩
    go_wp2_with fail
    refine (pick_in R _ 30 _ hr4 (by omega) (by omega) (by omega)).mono ?_
    rintro e w5 ⟨x3, rfl, r1, r2, ho5, hr5⟩
    have HF := hide (num_got (z := x1 + x2 / 29 * 64 - x3 / 29 * 90) HB1.out hR (by omega) hl HJ.out HO.out ((ho3.trans ho4).trans ho5) hRl)
    clear ho3 ho4 ho5 hr3 hr4 hr5
    go_wp2_with fail
    go_ret2
    exact HF.out

theorem twoEnd_nn {js : List J} (hv : jsvB js = true) (z : Int) : 0 ≤ twoEndI js z := by
  have a := bitSum_bd (set := z) (b := 0) hv js.length (Nat.le_refl _)
  unfold twoEndI; omega

set_option maxRecDepth 10000 in
set_option maxHeartbeats 800000 in
theorem law_TwoEnd (v : Value) (n : Nat) (w : World) (h : BytesAt 0 w.heap.size w v n) :
    Calls Tryd.prog 5 #[v] w fun e w' => e = .returned (.bool true) ∧ Below w.heap.size w w' := by
  obtain ⟨ao, cap, rfl, hnc, hcap, -, -⟩ := id h
  have HB := hide h
  clear h
  by_cases hlong : 1048576 < n
  · go_enter Tryd.func5, Tryd.ntmps5
    go_wp2_with fail
    go_ret
    exact ⟨rfl, Below.refl _ _⟩
  · go_enter Tryd.func5, Tryd.ntmps5
    go_wp2_with fail
    refine (drawTwoEnd _ n _ HB.out).mono ?_
    rintro e w1 ⟨b, cap1, js, z, rfl, hz, hl, hj, hb1⟩
    obtain ⟨hlc1, hcap1⟩ := jobs_cap hj
    have HJ1 := hide hj
    have HB1 := hide hb1
    clear hj hb1
    go_wp2_with fail
    refine (twoEnd_impl _ js _ _ z _ HJ1.out (by omega)).mono ?_
    rintro e w2 ⟨rfl, hb⟩
    have HJ2 := hide (HJ1.out.below hb)
    have HB2 := hide (Below.step HB1.out hb (Nat.le_refl _))
    clear hb
    go_wp2_with fail
    refine (twoEnd_spec _ js _ _ z _ HJ2.out (by omega)).mono ?_
    rintro e w3 ⟨rfl, hb⟩
    have HJ3 := hide (HJ2.out.below hb)
    have HB3 := hide (Below.step HB2.out hb (Nat.le_refl _))
    clear hb
    by_cases hx0 : 0 ≤ twoEndR js z
    · obtain ⟨hv, z0, z1⟩ := twoEnd_out hx0
      obtain ⟨b1, b2⟩ := twoBest_le hx0
      have hf := twoEnd_flip hx0
      have h594 := two_le hx0
      have hl6 := jsvB_len hv
      obtain ⟨q1, q2⟩ := pow_bd hl6
      have HF := hide hf
      have hlI : (js.length : Int) ≤ 6 := by omega
      clear hf hv hl6
      obtain ⟨x, hx⟩ : ∃ x, twoEndR js z = x := ⟨_, rfl⟩
      rw [hx] at HF hx0 b2 h594 ⊢
      clear hx
      go_wp2_with fail
      refine (twoBest_impl _ js _ _ _ HJ3.out).mono ?_
      rintro e w4 ⟨rfl, hb⟩
      have HJ4 := hide (HJ3.out.below hb)
      have HB4 := hide (Below.step HB3.out hb (Nat.le_refl _))
      clear hb
      generalize twoBestR js = y at *
      go_wp2_with fail
      refine (twoEnd_impl _ js _ _ (2 ^ js.length - 1 - z) _ HJ4.out (by omega)).mono ?_
      rw [HF.out]
      rintro e w5 ⟨rfl, hb⟩
      have HJ5 := hide (HJ4.out.below hb)
      have HB5 := hide (Below.step HB4.out hb (Nat.le_refl _))
      clear hb
      go_wp2_with fail
      go_ret
      exact ⟨rfl, HB5.out⟩
    · have e : twoEndR js z = -1 := by
        unfold twoEndR at hx0 ⊢
        split at hx0
        · rename_i hc; rw [Bool.and_eq_true] at hc; exact absurd (twoEnd_nn hc.1 z) hx0
        · rename_i hc; rw [if_neg hc]
      rw [e]
      go_wp2_with fail
      refine (alive_any _).mono ?_
      rintro e w4 ⟨rfl, hb⟩
      have HJ4 := hide (HJ3.out.below hb)
      have HB4 := hide (Below.step HB3.out hb (Nat.le_refl _))
      clear hb
      go_wp2_with fail
      go_ret
      exact ⟨rfl, HB4.out⟩
end Go.Proofs.YtfjemnjdkniibaaDoor
