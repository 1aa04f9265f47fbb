/-
  The walks over TwoBest.
-/
import Derived.Test.YtfjemnjdkniibaaDoorWalkC
namespace Go.Proofs.YtfjemnjdkniibaaDoor
open Go.RowKit

/-- The least TwoEnd of the numbers 0 .. n. -/
def bestTo (js : List J) : Nat → Int
  | 0 => twoEndR js 0
  | n + 1 => min (bestTo js n) (twoEndR js ((n : Int) + 1))

def twoBestR (js : List J) : Int := if jsvB js then bestTo js (2 ^ js.length - 1) else -1

theorem twoEndR_bd {js : List J} (h : jsvB js = true) {n : Int} (h0 : 0 ≤ n) (h1 : n < 2 ^ js.length) : 0 ≤ twoEndR js n ∧ twoEndR js n ≤ 594 := by
  have hw : wi n 0 (2 ^ js.length - 1) = true := wi_iff.2 ⟨h0, by omega⟩
  have hl := jsvB_len h
  have a := bitSum_bd (set := n) (b := 0) h js.length (Nat.le_refl _)
  have b := bitSum_bd (set := n) (b := 1) h js.length (Nat.le_refl _)
  simp only [twoEndR, h, hw, Bool.and_self, if_true, twoEndI]
  omega
theorem bestTo_bd {js : List J} (h : jsvB js = true) : ∀ n : Nat, (n : Int) < 2 ^ js.length → 0 ≤ bestTo js n ∧ bestTo js n ≤ 594
  | 0, h1 => twoEndR_bd h (by omega) (by simpa using h1)
  | n + 1, h1 => by
    have ih := bestTo_bd h n (by omega)
    have := twoEndR_bd h (n := (n : Int) + 1) (by omega) (by omega)
    simp only [bestTo]
    omega

theorem pow_bd62 {n : Nat} (h : n ≤ 62) : 1 ≤ (2 : Int) ^ n ∧ (2 : Int) ^ n ≤ 4611686018427387904 := by
  have h1 : (2 : Nat) ^ n ≤ 2 ^ 62 := Nat.pow_le_pow_right (by omega) h
  have h0 : 0 < (2 : Nat) ^ n := Nat.pow_pos (by omega)
  have e : ((2 ^ n : Nat) : Int) = (2 : Int) ^ n := by simp
  rw [← e]
  have h2 : (2 : Nat) ^ 62 = 4611686018427387904 := by decide
  omega

set_option maxHeartbeats 400000 in
theorem twoBest_spec_bad1 (v : Value) (js : List J) (lo hi : Nat) (w : World) (h : JobsAt lo hi w v js) (hv : jsvB js = false) (hn : js.length ≤ 62) :
    Calls Tryd.prog 34 #[v] w fun e w' => e = .returned (.int .i64 (-1)) ∧ Below w.heap.size w w' := by
  obtain ⟨hp1, hp2⟩ := pow_bd62 hn
  obtain ⟨ao, cap, rfl, hlc, hcap, -, -⟩ := id h
  have HV := hide hv
  have HH := hide h
  clear hv h
  go_enter Tryd.func34, Tryd.ntmps34
  go_wp2_with fail
  go_loopw [3, 4] (fun b i wr => b = .int .i64 (-1) ∧ i = .int .i64 0 ∧ wr = w) (fun _ _ _ => 0)
  case atStart => exact ⟨rfl, rfl, rfl⟩
  case round =>
    obtain ⟨rfl, rfl, hwr⟩ := hrel
    subst hwr
    go_wp2_with (go_at_call 25; refine (jsv_spec _ js lo hi _ HH.out).mono ?_; rw [HV.out]; rintro e w1 ⟨rfl, hb1⟩)
    go_ret
    exact ⟨rfl, hb1⟩

set_option maxHeartbeats 400000 in
theorem twoBest_spec_bad2 (v : Value) (js : List J) (lo hi : Nat) (w : World) (h : JobsAt lo hi w v js) (hn : 64 ≤ js.length) :
    Calls Tryd.prog 34 #[v] w fun e w' => e = .returned (.int .i64 (-1)) ∧ Below w.heap.size w w' := by
  obtain ⟨ao, cap, rfl, hlc, hcap, -, -⟩ := id h
  clear h
  have hmin : min js.length 64 = 64 := by omega
  have hw : RowKit.wrap64 18446744073709551616 = 0 := by unfold wrap64; omega
  go_enter Tryd.func34, Tryd.ntmps34
  go_wp2_with fail
  go_loopw [3, 4] (fun b i wr => b = .int .i64 (-1) ∧ i = .int .i64 0 ∧ wr = w) (fun _ _ _ => 0)
  case atStart => exact ⟨rfl, rfl, rfl⟩
  case round =>
    obtain ⟨rfl, rfl, hwr⟩ := hrel
    subst hwr
    go_wp2_with fail
    go_ret
    exact ⟨rfl, Below.refl _ _⟩

set_option maxHeartbeats 400000 in
theorem twoBest_spec_bad3 (v : Value) (js : List J) (lo hi : Nat) (w : World) (h : JobsAt lo hi w v js) (hn : js.length = 63) :
    Calls Tryd.prog 34 #[v] w fun e w' => e = .returned (.int .i64 (-1)) ∧ Below w.heap.size w w' := by
  obtain ⟨ao, cap, rfl, hlc, hcap, -, -⟩ := id h
  clear h
  obtain ⟨z, hw, hz0⟩ : ∃ z : Int, IntKind.i64.wrap (2 ^ js.length) = z ∧ z ≤ 0 := ⟨_, rfl, by rw [hn, IntKind.wrap_i64]; omega⟩
  have hn1 : js.length ≤ 63 := by omega
  clear hn
  go_enter Tryd.func34, Tryd.ntmps34
  go_wp2_with fail
  go_loopw [3, 4] (fun b i wr => b = .int .i64 (-1) ∧ i = .int .i64 0 ∧ wr = w) (fun _ _ _ => 0)
  case atStart => exact ⟨rfl, rfl, rfl⟩
  case round =>
    obtain ⟨rfl, rfl, hwr⟩ := hrel
    subst hwr
    go_wp2_with fail
    go_ret
    exact ⟨rfl, Below.refl _ _⟩

set_option maxHeartbeats 400000 in
theorem twoBest_spec_ok (v : Value) (js : List J) (lo hi : Nat) (w : World) (h : JobsAt lo hi w v js) (hv : jsvB js = true) :
    Calls Tryd.prog 34 #[v] w fun e w' => e = .returned (.int .i64 (twoBestR js)) ∧ Below w.heap.size w w' := by
  obtain ⟨ao, cap, rfl, hlc, hcap, -, -⟩ := id h
  have hl := jsvB_len hv
  have hlI : (js.length : Int) ≤ 6 := by omega
  obtain ⟨hp1, hp2⟩ := pow_bd hl
  have hr : twoBestR js = bestTo js (2 ^ js.length - 1) := by simp [twoBestR, hv]
  have HV := hide hv
  have HR := hide hr
  have HH := hide h
  clear hv hr h
  go_enter Tryd.func34, Tryd.ntmps34
  go_wp2_with fail
  go_loopw [3, 4] (fun b i wr => ∃ k : Nat, (k : Int) ≤ 2 ^ js.length ∧ i = .int .i64 k ∧ Below w.heap.size w wr ∧ ((k = 0 ∧ b = .int .i64 (-1)) ∨ ∃ m, k = m + 1 ∧ b = .int .i64 (bestTo js m))) (fun _ i _ => 64 - (intOf i).toNat)
  case atStart => exact ⟨0, by simpa using by omega, rfl, Below.refl _ _, .inl ⟨rfl, rfl⟩⟩
  case round =>
    obtain ⟨k, hk, rfl, hb, hst⟩ := hrel
    have hHr : Hid (JobsAt lo hi wr (.slice ao js.length cap) js) := hide (JobsAt.keep HH.out (Keeps.of_below hb HH.out.lt) hb.size)
    by_cases hlt : (k : Int) < 2 ^ js.length
    · rcases hst with ⟨rfl, rfl⟩ | ⟨m, rfl, rfl⟩
      · go_wp2_with fail
        refine (jsv_spec _ js lo hi _ hHr.out).mono ?_
        rw [HV.out]
        rintro e w1 ⟨rfl, hb1⟩
        go_wp2_with fail
        refine (twoEnd_spec _ js lo hi _ _ (hHr.out.below hb1) (by omega)).mono ?_
        rintro e w2 ⟨rfl, hb2⟩
        go_wp2_with fail
        go_roundw
        case rel => exact ⟨1, by omega, rfl, Below.step (Below.step hb hb1 (Nat.le_refl _)) hb2 (Nat.le_refl _), .inr ⟨0, rfl, rfl⟩⟩
        case measure => simp [intOf]
      · obtain ⟨hm0, hm1⟩ := bestTo_bd HV.out m (by omega)
        obtain ⟨ht0, ht1⟩ := twoEndR_bd HV.out (n := (m : Int) + 1) (by omega) (by omega)
        have hB : decide (bestTo js m < 0) = false := by simpa using hm0
        go_wp2_with fail
        refine (jsv_spec _ js lo hi _ hHr.out).mono ?_
        rw [HV.out]
        rintro e w1 ⟨rfl, hb1⟩
        have h1r := hide (hHr.out.below hb1)
        go_wp2_with fail
        refine (twoEnd_spec _ js lo hi _ _ h1r.out (by omega)).mono ?_
        rintro e w2 ⟨rfl, hb2⟩
        have h2r := hide (h1r.out.below hb2)
        go_wp2_with fail
        · refine (twoEnd_spec _ js lo hi _ _ h2r.out (by omega)).mono ?_
          rintro e w3 ⟨rfl, hb3⟩
          go_wp2_with fail
          go_roundw
          case rel => exact ⟨m + 2, by omega, by go_num, Below.step (Below.step (Below.step hb hb1 (Nat.le_refl _)) hb2 (Nat.le_refl _)) hb3 (Nat.le_refl _), .inr ⟨m + 1, rfl, by simp only [bestTo]; congr 1; omega⟩⟩
          case measure => simp [intOf]; omega
        · go_roundw
          case rel => exact ⟨m + 2, by omega, by go_num, Below.step (Below.step hb hb1 (Nat.le_refl _)) hb2 (Nat.le_refl _), .inr ⟨m + 1, rfl, by simp only [bestTo]; congr 1; omega⟩⟩
          case measure => simp [intOf]; omega
    · rcases hst with ⟨rfl, rfl⟩ | ⟨m, rfl, rfl⟩
      · exact absurd hp1 (by omega)
      · go_wp2_with fail
        go_ret
        refine ⟨?_, hb⟩
        have em : m = 2 ^ js.length - 1 := by
          have e : ((2 ^ js.length : Nat) : Int) = (2 : Int) ^ js.length := by simp
          omega
        rw [HR.out, em]; rfl

theorem twoBest_spec (v : Value) (js : List J) (lo hi : Nat) (w : World) (h : JobsAt lo hi w v js) :
    Calls Tryd.prog 34 #[v] w fun e w' => e = .returned (.int .i64 (twoBestR js)) ∧ Below w.heap.size w w' := by
  cases hv : jsvB js with
  | true => exact twoBest_spec_ok v js lo hi w h hv
  | false =>
    have hr : twoBestR js = -1 := by simp [twoBestR, hv]
    rw [hr]
    by_cases h1 : js.length ≤ 62
    · exact twoBest_spec_bad1 v js lo hi w h hv h1
    · by_cases h2 : js.length = 63
      · exact twoBest_spec_bad3 v js lo hi w h h2
      · exact twoBest_spec_bad2 v js lo hi w h (by omega)

set_option maxHeartbeats 400000 in
theorem twoBest_impl_ok (v : Value) (js : List J) (lo hi : Nat) (w : World) (h : JobsAt lo hi w v js) (hv : jsvB js = true) :
    Calls Tryd.prog 29 #[v] w fun e w' => e = .returned (.int .i64 (twoBestR js)) ∧ Below w.heap.size w w' := by
  obtain ⟨ao, cap, rfl, hlc, hcap, -, -⟩ := id h
  have hl := jsvB_len hv
  have hlI : (js.length : Int) ≤ 6 := by omega
  obtain ⟨hp1, hp2⟩ := pow_bd hl
  have hr : twoBestR js = bestTo js (2 ^ js.length - 1) := by simp [twoBestR, hv]
  have HV := hide hv
  have HR := hide hr
  have HH := hide h
  clear hv hr h
  go_enter Tryd.func29, Tryd.ntmps29
  go_wp2_with fail
  refine (jsv_impl _ js lo hi _ HH.out).mono ?_
  rw [HV.out]
  rintro e w1 ⟨rfl, hb1⟩
  have h1r := hide (HH.out.below hb1)
  go_wp2_with fail
  refine (twoEnd_impl _ js lo hi _ _ h1r.out (by omega)).mono ?_
  rintro e w2 ⟨rfl, hb2⟩
  have hb12 : Below w.heap.size w w2 := Below.step hb1 hb2 (Nat.le_refl _)
  go_wp2_with fail
  go_loopw [3, 4] (fun b i wr => ∃ k : Nat, (k : Int) + 1 ≤ 2 ^ js.length ∧ i = .int .i64 ((k : Int) + 1) ∧ Below w.heap.size w wr ∧ b = .int .i64 (bestTo js k)) (fun _ i _ => 64 - (intOf i).toNat)
  case atStart => exact ⟨0, by simpa using hp1, rfl, hb12, rfl⟩
  case round =>
    obtain ⟨k, hk, rfl, hb, rfl⟩ := hrel
    have hHr : Hid (JobsAt lo hi wr (.slice ao js.length cap) js) := hide (JobsAt.keep HH.out (Keeps.of_below hb HH.out.lt) hb.size)
    by_cases hlt : (k : Int) + 1 < 2 ^ js.length
    · obtain ⟨hm0, hm1⟩ := bestTo_bd HV.out k (by omega)
      obtain ⟨ht0, ht1⟩ := twoEndR_bd HV.out (n := (k : Int) + 1) (by omega) (by omega)
      go_wp2_with fail
      refine (twoEnd_impl _ js lo hi _ _ hHr.out (by omega)).mono ?_
      rintro e w3 ⟨rfl, hb3⟩
      go_wp2_with fail
      all_goals
        go_roundw
        case rel => exact ⟨k + 1, by omega, by go_num, Below.step hb hb3 (Nat.le_refl _), by simp only [bestTo]; congr 1; omega⟩
        case measure => simp [intOf]; omega
    · go_wp2_with fail
      go_ret
      refine ⟨?_, hb⟩
      have em : k = 2 ^ js.length - 1 := by
        have e : ((2 ^ js.length : Nat) : Int) = (2 : Int) ^ js.length := by simp
        omega
      rw [HR.out, em]; rfl

theorem twoBest_impl (v : Value) (js : List J) (lo hi : Nat) (w : World) (h : JobsAt lo hi w v js) :
    Calls Tryd.prog 29 #[v] w fun e w' => e = .returned (.int .i64 (twoBestR js)) ∧ Below w.heap.size w w' := by
  cases hv : jsvB js with
  | true => exact twoBest_impl_ok v js lo hi w h hv
  | false =>
    have hr : twoBestR js = -1 := by simp [twoBestR, hv]
    rw [hr]
    obtain ⟨ao, cap, rfl, hlc, hcap, -, -⟩ := id h
    go_enter Tryd.func29, Tryd.ntmps29
    go_wp2_with fail
    refine (jsv_impl _ js lo hi _ h).mono ?_
    rw [hv]
    rintro e w1 ⟨rfl, hb1⟩
    go_wp2_with fail
    go_ret
    exact ⟨rfl, hb1⟩
end Go.Proofs.YtfjemnjdkniibaaDoor
