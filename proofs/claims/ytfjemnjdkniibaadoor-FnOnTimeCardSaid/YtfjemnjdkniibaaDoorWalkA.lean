/-
  The walks over the small functions: ranges, validity of jobs, copies and comparisons of slices of jobs and of ints.
-/
import Derived.Test.YtfjemnjdkniibaaDoorBase
import Derived.Test.YtfjemnjdkniibaaDoorProg
import Derived.StillTailTactics
import Derived.Deep.QuietTactic
import Derived.BigQuiet
namespace Go.Proofs.YtfjemnjdkniibaaDoor
open Go.RowKit

theorem within_any (n a b : Int) (w : World) :
    Calls Tryd.prog 74 #[.int .i64 n, .int .i64 a, .int .i64 b] w fun e w' => e = .returned (.bool (wi n a b)) ∧ w = w' := by
  by_cases h1 : a ≤ n
  · go_enter Tryd.func74, Tryd.ntmps74
    go_wp2
    go_ret
    simp [h1, wi]
  · have h2 : decide (a ≤ n) = false := by simp [h1]
    go_enter Tryd.func74, Tryd.ntmps74
    go_wp2
    go_ret
    simp [wi, h2]

theorem l1In_any (n a b : Int) (w : World) :
    Calls Tryd.prog 75 #[.int .i64 n, .int .i64 a, .int .i64 b] w fun e w' => e = .returned (.bool (wi n a b)) ∧ w = w' := by
  by_cases h1 : a ≤ n
  · go_enter Tryd.func75, Tryd.ntmps75
    go_wp2
    go_ret
    simp [h1, wi]
  · have h2 : decide (a ≤ n) = false := by simp [h1]
    go_enter Tryd.func75, Tryd.ntmps75
    go_wp2
    go_ret
    simp [wi, h2]

theorem jv_impl (s d g : Int) (w : World) :
    Calls Tryd.prog 20 #[.agg #[.int .i64 s, .int .i64 d, .int .i64 g]] w fun e w' => e = .returned (.bool (jvB ⟨s, d, g⟩)) ∧ Below w.heap.size w w' := by
  go_enter Tryd.func20, Tryd.ntmps20
  go_wp2_with (go_at_call 74; refine (within_any _ _ _ _).mono ?_; rintro e w' ⟨rfl, rfl⟩)
  all_goals
    go_ret
    exact ⟨by simp_all [jvB], by go_grown⟩

theorem jv_spec (s d g : Int) (w : World) :
    Calls Tryd.prog 21 #[.agg #[.int .i64 s, .int .i64 d, .int .i64 g]] w fun e w' => e = .returned (.bool (jvB ⟨s, d, g⟩)) ∧ Below w.heap.size w w' := by
  go_enter Tryd.func21, Tryd.ntmps21
  go_wp2_with (go_at_call 75; refine (l1In_any _ _ _ _).mono ?_; rintro e w' ⟨rfl, rfl⟩)
  all_goals
    go_ret
    exact ⟨by simp_all [jvB], by go_grown⟩

/-- What is left of the purse. -/
def szI (left : Int) (n : Nat) : Int := if left - n < 0 then -1 else left - n

set_option maxHeartbeats 400000 in
theorem jsv_impl (v : Value) (js : List J) (lo hi : Nat) (w : World) (h : JobsAt lo hi w v js) :
    Calls Tryd.prog 24 #[v] w fun e w' => e = .returned (.bool (jsvB js)) ∧ Below w.heap.size w w' := by
  obtain ⟨ao, cap, rfl, hlc, hcap, hhi, hc⟩ := h
  have Hc := hide hc
  clear hc
  by_cases h6 : js.length ≤ 6
  · go_enter Tryd.func24, Tryd.ntmps24
    go_wp2_with fail
    go_loopw [10] (fun i wr => ∃ k : Nat, k ≤ js.length ∧ i = .int .i64 k ∧ Below w.heap.size w wr ∧ (∀ j (_ : j < js.length), j < k → jvB js[j] = true)) (fun i _ => js.length - (intOf i).toNat)
    case atStart => exact ⟨0, Nat.zero_le _, rfl, Below.refl _ _, fun _ _ h => absurd h (Nat.not_lt_zero _)⟩
    case round =>
      obtain ⟨k, hk, rfl, hb, hall⟩ := hrel
      have Ha := hide hall
      clear hall
      by_cases hlt : k < js.length
      · obtain ⟨b, o, rfl, hb1, hb2, hcs⟩ := Hc.out (by omega)
        obtain ⟨⟨h1, h2, h3⟩, -⟩ := hcs k hlt
        rw [← hb.cell (p := ⟨b, _, none⟩) (by simpa using by omega)] at h1 h2 h3
        clear hcs
        go_wp2_with (go_at_call 20; refine (jv_impl _ _ _ _).mono ?_; rintro e w1 ⟨rfl, hb1'⟩)
        · go_ret
          refine ⟨?_, Below.step (hb.alloc hb.size _) hb1' (Nat.le_refl _)⟩
          have hf : jvB js[k] = false := by simpa using (by assumption : (!jvB { s := js[k].s, d := js[k].d, g := js[k].g }) = true)
          simp [jsvB, all_fell hlt hf]
        · have hf : jvB js[k] = true := by simpa using (by assumption : (!jvB { s := js[k].s, d := js[k].d, g := js[k].g }) = false)
          go_roundw
          case rel => exact ⟨k + 1, by omega, by go_num, Below.step (hb.alloc hb.size _) hb1' (Nat.le_refl _), all_snoc hlt Ha.out hf⟩
          case measure => simp [intOf]; omega
      · go_wp2
        go_ret
        exact ⟨by simp [jsvB, h6, all_done (by omega) Ha.out], hb⟩
  · go_enter Tryd.func24, Tryd.ntmps24
    go_wp2_with fail
    go_ret
    exact ⟨by simp [jsvB, h6], Below.refl _ _⟩

set_option maxHeartbeats 400000 in
theorem jsv_spec (v : Value) (js : List J) (lo hi : Nat) (w : World) (h : JobsAt lo hi w v js) :
    Calls Tryd.prog 25 #[v] w fun e w' => e = .returned (.bool (jsvB js)) ∧ Below w.heap.size w w' := by
  obtain ⟨ao, cap, rfl, hlc, hcap, hhi, hc⟩ := h
  have Hc := hide hc
  clear hc
  go_enter Tryd.func25, Tryd.ntmps25
  go_wp2_with fail
  go_loopw [3] (fun i wr => ∃ k : Nat, k ≤ js.length ∧ i = .int .i64 k ∧ Below w.heap.size w wr ∧ (∀ j (_ : j < js.length), j < k → jvB js[j] = true)) (fun i _ => js.length - (intOf i).toNat)
  case atStart => exact ⟨0, Nat.zero_le _, rfl, Below.refl _ _, fun _ _ h => absurd h (Nat.not_lt_zero _)⟩
  case round =>
    obtain ⟨k, hk, rfl, hb, hall⟩ := hrel
    have Ha := hide hall
    clear hall
    by_cases hlt : k < js.length
    · obtain ⟨b, o, rfl, hb1, hb2, hcs⟩ := Hc.out (by omega)
      obtain ⟨⟨h1, h2, h3⟩, -⟩ := hcs k hlt
      rw [← hb.cell (p := ⟨b, _, none⟩) (by simpa using by omega)] at h1 h2 h3
      clear hcs
      go_wp2_with (go_at_call 21; refine (jv_spec _ _ _ _).mono ?_; rintro e w1 ⟨rfl, hb1'⟩)
      · go_ret
        refine ⟨?_, Below.step hb hb1' (Nat.le_refl _)⟩
        have hf : jvB js[k] = false := by simpa using (by assumption : (!jvB { s := js[k].s, d := js[k].d, g := js[k].g }) = true)
        simp [jsvB, all_fell hlt hf]
      · have hf : jvB js[k] = true := by simpa using (by assumption : (!jvB { s := js[k].s, d := js[k].d, g := js[k].g }) = false)
        go_roundw
        case rel => exact ⟨k + 1, by omega, by go_num, Below.step hb hb1' (Nat.le_refl _), all_snoc hlt Ha.out hf⟩
        case measure => simp [intOf]; omega
    · go_wp2_with fail
      go_ret
      refine ⟨?_, hb⟩
      have hall := all_done (by omega) Ha.out
      by_cases h6 : js.length ≤ 6
      · simp [jsvB, hall, h6]; omega
      · simp [jsvB, h6]; omega

end Go.Proofs.YtfjemnjdkniibaaDoor
