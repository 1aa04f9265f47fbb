/-
  The walks over the small functions: ranges, validity of jobs, copies and comparisons of slices of jobs and of ints.
-/
import Derived.Test.YtmkkefkdeoennaaBase
import Derived.Test.YtmkkefkdeoennaaProg
import Derived.StillTailTactics
import Derived.Deep.QuietTactic
import Derived.BigQuiet
namespace Go.Proofs.Ytmkkefkdeoennaa
open Go.RowKit

theorem within_any (n a b : Int) (w : World) :
    Calls Try.prog 61 #[.int .i64 n, .int .i64 a, .int .i64 b] w fun e w' => e = .returned (.bool (wi n a b)) ∧ w = w' := by
  by_cases h1 : a ≤ n
  · go_enter Try.func61, Try.ntmps61
    go_wp2
    go_ret
    simp [h1, wi]
  · have h2 : decide (a ≤ n) = false := by simp [h1]
    go_enter Try.func61, Try.ntmps61
    go_wp2
    go_ret
    simp [wi, h2]

theorem l1In_any (n a b : Int) (w : World) :
    Calls Try.prog 60 #[.int .i64 n, .int .i64 a, .int .i64 b] w fun e w' => e = .returned (.bool (wi n a b)) ∧ w = w' := by
  by_cases h1 : a ≤ n
  · go_enter Try.func60, Try.ntmps60
    go_wp2
    go_ret
    simp [h1, wi]
  · have h2 : decide (a ≤ n) = false := by simp [h1]
    go_enter Try.func60, Try.ntmps60
    go_wp2
    go_ret
    simp [wi, h2]

theorem jv_impl (s d g : Int) (w : World) :
    Calls Try.prog 21 #[.agg #[.int .i64 s, .int .i64 d, .int .i64 g]] w fun e w' => e = .returned (.bool (jvB ⟨s, d, g⟩)) ∧ Below w.heap.size w w' := by
  go_enter Try.func21, Try.ntmps21
  go_wp2_with (go_at_call 61; refine (within_any _ _ _ _).mono ?_; rintro e w' ⟨rfl, rfl⟩)
  all_goals
    go_ret
    exact ⟨by simp_all [jvB], by go_grown⟩

theorem jv_spec (s d g : Int) (w : World) :
    Calls Try.prog 19 #[.agg #[.int .i64 s, .int .i64 d, .int .i64 g]] w fun e w' => e = .returned (.bool (jvB ⟨s, d, g⟩)) ∧ Below w.heap.size w w' := by
  go_enter Try.func19, Try.ntmps19
  go_wp2_with (go_at_call 60; refine (l1In_any _ _ _ _).mono ?_; rintro e w' ⟨rfl, rfl⟩)
  all_goals
    go_ret
    exact ⟨by simp_all [jvB], by go_grown⟩

theorem toJob_any (s d g : Int) (w : World) :
    Calls Try.prog 20 #[.agg #[.int .i64 s, .int .i64 d, .int .i64 g]] w fun e w' => e = .returned (.agg #[.int .i64 s, .int .i64 d, .int .i64 g]) ∧ Below w.heap.size w w' := by
  go_enter Try.func20, Try.ntmps20
  go_wp2
  go_returns
  exact ⟨rfl, by go_grown⟩

theorem eqJob_any (s d g s' d' g' : Int) (w : World) :
    Calls Try.prog 62 #[.agg #[.int .i64 s, .int .i64 d, .int .i64 g], .agg #[.int .i64 s', .int .i64 d', .int .i64 g']] w fun e w' => e = .returned (.bool (jeq ⟨s, d, g⟩ ⟨s', d', g'⟩)) ∧ Below w.heap.size w w' := by
  go_enter Try.func62, Try.ntmps62
  go_wp2
  all_goals
    go_ret
    exact ⟨by simp_all [jeq], by go_grown⟩

/-- What is left of the purse. -/
def szI (left : Int) (n : Nat) : Int := if left - n < 0 then -1 else left - n

theorem szJobS_any (v : Value) (js : List J) (lo hi : Nat) (left : Int) (w : World) (h : JobsAt lo hi w v js) (h1 : 0 ≤ left) (h2 : left ≤ 1048576) :
    Calls Try.prog 22 #[v, .int .i64 left] w fun e w' => e = .returned (.int .i64 (szI left js.length)) ∧ w = w' := by
  have hl := h.len
  obtain ⟨ao, cap, rfl, hlc, hcap, hhi, hc⟩ := h
  have Hc := hide hc
  clear hc
  go_enter Try.func22, Try.ntmps22
  go_wp2
  all_goals
    go_ret
    refine ⟨?_, rfl⟩
    unfold szI
    first | (rw [if_pos (by omega)]; rfl) | (rw [if_neg (by omega)]; rfl)

set_option maxHeartbeats 400000 in
theorem jsv_impl (v : Value) (js : List J) (lo hi : Nat) (w : World) (h : JobsAt lo hi w v js) :
    Calls Try.prog 25 #[v] w fun e w' => e = .returned (.bool (jsvB js)) ∧ Below w.heap.size w w' := by
  obtain ⟨ao, cap, rfl, hlc, hcap, hhi, hc⟩ := h
  have Hc := hide hc
  clear hc
  by_cases h6 : js.length ≤ 6
  · go_enter Try.func25, Try.ntmps25
    go_wp2_with fail
    go_loopw [10] (fun i wr => ∃ k : Nat, k ≤ js.length ∧ i = .int .i64 k ∧ Below w.heap.size w wr ∧ (∀ j (_ : j < js.length), j < k → jvB js[j] = true)) (fun i _ => js.length - (intOf i).toNat)
    case atStart => exact ⟨0, Nat.zero_le _, rfl, Below.refl _ _, fun _ _ h => absurd h (Nat.not_lt_zero _)⟩
    case round =>
      obtain ⟨k, hk, rfl, hb, hall⟩ := hrel
      have Ha := hide hall
      clear hall
      by_cases hlt : k < js.length
      · obtain ⟨b, o, rfl, hb1, hb2, hcs⟩ := Hc.out (by omega)
        obtain ⟨⟨h1, h2, h3⟩, -⟩ := hcs k hlt
        rw [← hb.cell (p := ⟨b, _, none⟩) (by simpa using by omega)] at h1 h2 h3
        clear hcs
        go_wp2_with (go_at_call 21; refine (jv_impl _ _ _ _).mono ?_; rintro e w1 ⟨rfl, hb1'⟩)
        · go_ret
          refine ⟨?_, Below.step (hb.alloc hb.size _) hb1' (Nat.le_refl _)⟩
          have hf : jvB js[k] = false := by simpa using (by assumption : (!jvB { s := js[k].s, d := js[k].d, g := js[k].g }) = true)
          simp [jsvB, all_fell hlt hf]
        · have hf : jvB js[k] = true := by simpa using (by assumption : (!jvB { s := js[k].s, d := js[k].d, g := js[k].g }) = false)
          go_roundw
          case rel => exact ⟨k + 1, by omega, by go_num, Below.step (hb.alloc hb.size _) hb1' (Nat.le_refl _), all_snoc hlt Ha.out hf⟩
          case measure => simp [intOf]; omega
      · go_wp2
        go_ret
        exact ⟨by simp [jsvB, h6, all_done (by omega) Ha.out], hb⟩
  · go_enter Try.func25, Try.ntmps25
    go_wp2_with fail
    go_ret
    exact ⟨by simp [jsvB, h6], Below.refl _ _⟩

set_option maxHeartbeats 400000 in
theorem jsv_spec (v : Value) (js : List J) (lo hi : Nat) (w : World) (h : JobsAt lo hi w v js) :
    Calls Try.prog 23 #[v] w fun e w' => e = .returned (.bool (jsvB js)) ∧ Below w.heap.size w w' := by
  obtain ⟨ao, cap, rfl, hlc, hcap, hhi, hc⟩ := h
  have Hc := hide hc
  clear hc
  go_enter Try.func23, Try.ntmps23
  go_wp2_with fail
  go_loopw [3] (fun i wr => ∃ k : Nat, k ≤ js.length ∧ i = .int .i64 k ∧ Below w.heap.size w wr ∧ (∀ j (_ : j < js.length), j < k → jvB js[j] = true)) (fun i _ => js.length - (intOf i).toNat)
  case atStart => exact ⟨0, Nat.zero_le _, rfl, Below.refl _ _, fun _ _ h => absurd h (Nat.not_lt_zero _)⟩
  case round =>
    obtain ⟨k, hk, rfl, hb, hall⟩ := hrel
    have Ha := hide hall
    clear hall
    by_cases hlt : k < js.length
    · obtain ⟨b, o, rfl, hb1, hb2, hcs⟩ := Hc.out (by omega)
      obtain ⟨⟨h1, h2, h3⟩, -⟩ := hcs k hlt
      rw [← hb.cell (p := ⟨b, _, none⟩) (by simpa using by omega)] at h1 h2 h3
      clear hcs
      go_wp2_with (go_at_call 19; refine (jv_spec _ _ _ _).mono ?_; rintro e w1 ⟨rfl, hb1'⟩)
      · go_ret
        refine ⟨?_, Below.step hb hb1' (Nat.le_refl _)⟩
        have hf : jvB js[k] = false := by simpa using (by assumption : (!jvB { s := js[k].s, d := js[k].d, g := js[k].g }) = true)
        simp [jsvB, all_fell hlt hf]
      · have hf : jvB js[k] = true := by simpa using (by assumption : (!jvB { s := js[k].s, d := js[k].d, g := js[k].g }) = false)
        go_roundw
        case rel => exact ⟨k + 1, by omega, by go_num, Below.step hb hb1' (Nat.le_refl _), all_snoc hlt Ha.out hf⟩
        case measure => simp [intOf]; omega
    · go_wp2_with fail
      go_ret
      refine ⟨?_, hb⟩
      have hall := all_done (by omega) Ha.out
      by_cases h6 : js.length ≤ 6
      · simp [jsvB, hall, h6]; omega
      · simp [jsvB, h6]; omega

set_option maxHeartbeats 400000 in
theorem eqIntS_any (v v' : Value) (xs ys : List Int) (lo hi lo' hi' : Nat) (w : World) (h : IntsAt lo hi w v xs) (h' : IntsAt lo' hi' w v' ys) :
    Calls Try.prog 32 #[v, v'] w fun e w' => e = .returned (.bool (decide (xs = ys))) ∧ Below w.heap.size w w' := by
  obtain ⟨ao, cap, rfl, hlc, hcap, hhi, hc⟩ := h
  obtain ⟨ao', cap', rfl, hlc', hcap', hhi', hc'⟩ := h'
  have Hc := hide hc
  have Hc' := hide hc'
  clear hc hc'
  by_cases hl : xs.length = ys.length
  · have HL := hide hl
    have hlB : ((xs.length : Int) != (ys.length : Int)) = false := by simp [hl]
    clear hl
    go_enter Try.func32, Try.ntmps32
    go_wp2_with fail
    go_loopw [5] (fun i wr => ∃ k : Nat, k ≤ xs.length ∧ i = .int .i64 k ∧ Below w.heap.size w wr ∧ xs.take k = ys.take k) (fun i _ => xs.length - (intOf i).toNat)
    case atStart => exact ⟨0, Nat.zero_le _, rfl, Below.refl _ _, rfl⟩
    case round =>
      obtain ⟨k, hk, rfl, hb, hall⟩ := hrel
      have Ha := hide hall
      clear hall
      by_cases hlt : k < xs.length
      · have hlt' : k < ys.length := by have := HL.out; omega
        obtain ⟨b, o, rfl, hb1, hb2, hcs⟩ := Hc.out (by omega)
        obtain ⟨b', o', rfl, hb1', hb2', hcs'⟩ := Hc'.out (by omega)
        obtain ⟨h1, -⟩ := hcs k hlt
        obtain ⟨h1', -⟩ := hcs' k hlt'
        rw [← hb.cell (p := ⟨_, _, none⟩) (by simpa using by omega)] at h1 h1'
        clear hcs hcs'
        have hi1 : (k : Int) < (xs.length : Int) := by omega
        have hi2 : (k : Int) < (ys.length : Int) := by omega
        by_cases hq : xs[k] = ys[k]
        · have hqB : (xs[k] != ys[k]) = false := by simp [hq]
          have hall' : xs.take (k + 1) = ys.take (k + 1) := by
            rw [List.take_succ_eq_append_getElem hlt, List.take_succ_eq_append_getElem hlt', Ha.out, hq]
          have Ha' := hide hall'
          clear hq hall'
          go_wp2_with fail
          go_quiet (fail)
          go_wp2_with fail
          go_roundw
          case rel => exact ⟨k + 1, by omega, by go_num, below_drewN hb _, Ha'.out⟩
          case measure => simp [intOf]; omega
        · have hqB : (xs[k] != ys[k]) = true := by simp [hq]
          have HQ := hide hq
          clear hq
          go_wp2_with fail
          go_quiet (fail)
          go_wp2_with fail
          go_ret
          refine ⟨?_, below_drewN hb _⟩
          have hne : xs ≠ ys := by
            intro e
            subst e
            exact HQ.out rfl
          simp [hne]
      · go_wp2_with fail
        go_ret
        refine ⟨?_, hb⟩
        have e : xs = ys := by
          have := Ha.out
          rw [List.take_of_length_le (by omega), List.take_of_length_le (by have := HL.out; omega)] at this
          exact this
        simp [e]
  · have hlB : ((xs.length : Int) != (ys.length : Int)) = true := by simp; omega
    go_enter Try.func32, Try.ntmps32
    go_wp2_with fail
    go_ret
    exact ⟨by simp; intro h; exact hl (by rw [h]), Below.refl _ _⟩
set_option maxHeartbeats 400000 in
theorem eqJobS_any (v v' : Value) (xs ys : List J) (lo hi lo' hi' : Nat) (w : World) (h : JobsAt lo hi w v xs) (h' : JobsAt lo' hi' w v' ys) :
    Calls Try.prog 26 #[v, v'] w fun e w' => e = .returned (.bool (decide (xs = ys))) ∧ Below w.heap.size w w' := by
  obtain ⟨ao, cap, rfl, hlc, hcap, hhi, hc⟩ := h
  obtain ⟨ao', cap', rfl, hlc', hcap', hhi', hc'⟩ := h'
  have Hc := hide hc
  have Hc' := hide hc'
  clear hc hc'
  by_cases hl : xs.length = ys.length
  · have HL := hide hl
    have hlB : ((xs.length : Int) != (ys.length : Int)) = false := by simp [hl]
    clear hl
    go_enter Try.func26, Try.ntmps26
    go_wp2_with fail
    go_loopw [5] (fun i wr => ∃ k : Nat, k ≤ xs.length ∧ i = .int .i64 k ∧ Below w.heap.size w wr ∧ xs.take k = ys.take k) (fun i _ => xs.length - (intOf i).toNat)
    case atStart => exact ⟨0, Nat.zero_le _, rfl, Below.refl _ _, rfl⟩
    case round =>
      obtain ⟨k, hk, rfl, hb, hall⟩ := hrel
      have Ha := hide hall
      clear hall
      by_cases hlt : k < xs.length
      · have hlt' : k < ys.length := by have := HL.out; omega
        obtain ⟨b, o, rfl, hb1, hb2, hcs⟩ := Hc.out (by omega)
        obtain ⟨b', o', rfl, hb1', hb2', hcs'⟩ := Hc'.out (by omega)
        obtain ⟨⟨h1, h2, h3⟩, -⟩ := hcs k hlt
        obtain ⟨⟨h1', h2', h3'⟩, -⟩ := hcs' k hlt'
        rw [← hb.cell (p := ⟨_, _, none⟩) (by simpa using by omega)] at h1 h2 h3 h1' h2' h3'
        clear hcs hcs'
        have hi1 : (k : Int) < (xs.length : Int) := by omega
        have hi2 : (k : Int) < (ys.length : Int) := by omega
        by_cases hq : xs[k] = ys[k]
        · have hqB : jeq { s := xs[k].s, d := xs[k].d, g := xs[k].g } { s := ys[k].s, d := ys[k].d, g := ys[k].g } = true := by simp [jeq, hq]
          have hall' : xs.take (k + 1) = ys.take (k + 1) := by
            rw [List.take_succ_eq_append_getElem hlt, List.take_succ_eq_append_getElem hlt', Ha.out, hq]
          have Ha' := hide hall'
          clear hq hall'
          go_wp2_with fail
          go_still_tail 8, (by kernel_rfl)
          change wpList _ _ _ _ _ wr.drew
          clear h1 h2 h3 h1' h2' h3'
          go_wp2_with (go_at_call 62; refine (eqJob_any _ _ _ _ _ _ _).mono ?_; rintro e w1 ⟨rfl, hw1⟩)
          go_roundw
          case rel => exact ⟨k + 1, by omega, by go_num, Below.step hb.drew hw1 (Nat.le_refl _), Ha'.out⟩
          case measure => simp [intOf]; omega
        · have hqB : jeq { s := xs[k].s, d := xs[k].d, g := xs[k].g } { s := ys[k].s, d := ys[k].d, g := ys[k].g } = false := by
            unfold jeq; rw [decide_eq_false_iff_not]; exact hq
          have HQ := hide hq
          clear hq
          go_wp2_with fail
          go_still_tail 8, (by kernel_rfl)
          change wpList _ _ _ _ _ wr.drew
          clear h1 h2 h3 h1' h2' h3'
          go_wp2_with (go_at_call 62; refine (eqJob_any _ _ _ _ _ _ _).mono ?_; rintro e w1 ⟨rfl, hw1⟩)
          go_ret
          refine ⟨?_, Below.step hb.drew hw1 (Nat.le_refl _)⟩
          have hne : xs ≠ ys := by
            intro e
            subst e
            exact HQ.out rfl
          simp [hne]
      · go_wp2_with fail
        go_ret
        refine ⟨?_, hb⟩
        have e : xs = ys := by
          have := Ha.out
          rw [List.take_of_length_le (by omega), List.take_of_length_le (by have := HL.out; omega)] at this
          exact this
        simp [e]
  · have hlB : ((xs.length : Int) != (ys.length : Int)) = true := by simp; omega
    go_enter Try.func26, Try.ntmps26
    go_wp2_with fail
    go_ret
    exact ⟨by simp; intro h; exact hl (by rw [h]), Below.refl _ _⟩
end Go.Proofs.Ytmkkefkdeoennaa
