/-
  BeforeBest in plain words: the order is made from its end on.
-/
import Derived.Test.YtfjemnjdkniibaaDoorWalkI
namespace Go.Proofs.YtfjemnjdkniibaaDoor
open Go.RowKit

/-- Job k was not chosen, and all that wait for it were; asked of the first j only. -/
def freeTo (bs out : List Int) (k j : Nat) : Bool := !hasI out k && upTo j (fun i => (bs.getD i 0 != (k : Int)) || hasI out i)
/-- The best of the first k. -/
def selTo (js : List J) (bs out : List Int) : Nat → Int
  | 0 => -1
  | k + 1 => if freeTo bs out k js.length && (decide (selTo js bs out k < 0) || decide ((js.getD (selTo js bs out k).toNat ⟨0, 0, 0⟩).d ≤ (js.getD k ⟨0, 0, 0⟩).d)) then (k : Int) else selTo js bs out k
/-- What was chosen after m rounds, the last one first. -/
def bbTo (js : List J) (bs : List Int) : Nat → List Int
  | 0 => []
  | m + 1 => selTo js bs (bbTo js bs m) js.length :: bbTo js bs m
def bbR (js : List J) (bs : List Int) : List Int := if bfB js bs then bbTo js bs js.length else []

theorem bbTo_len (js : List J) (bs : List Int) : ∀ m, (bbTo js bs m).length = m
  | 0 => rfl
  | m + 1 => by simp [bbTo, bbTo_len js bs m]
theorem bbR_len (js : List J) (bs : List Int) : (bbR js bs).length ≤ js.length := by
  unfold bbR
  split
  · rw [bbTo_len]; omega
  · simp
theorem selTo_cases (js : List J) (bs out : List Int) : ∀ k, selTo js bs out k = -1 ∨ ∃ x : Nat, selTo js bs out k = x ∧ x < k ∧ freeTo bs out x js.length = true
  | 0 => .inl rfl
  | k + 1 => by
    simp only [selTo]
    split
    · rename_i h
      rw [Bool.and_eq_true] at h
      exact .inr ⟨k, rfl, by omega, h.1⟩
    · rcases selTo_cases js bs out k with h | ⟨x, h1, h2, h3⟩
      · exact .inl h
      · exact .inr ⟨x, h1, by omega, h3⟩
theorem freeTo_succ (bs out : List Int) (k j : Nat) : freeTo bs out k (j + 1) = (freeTo bs out k j && ((bs.getD j 0 != (k : Int)) || hasI out j)) := by
  have : upTo (j + 1) (fun i => (bs.getD i 0 != (k : Int)) || hasI out i) = (upTo j (fun i => (bs.getD i 0 != (k : Int)) || hasI out i) && ((bs.getD j 0 != (k : Int)) || hasI out j)) := by
    simp [upTo, List.range_succ, List.all_append]
  unfold freeTo
  rw [this, Bool.and_assoc]

/-- If all of the indices below n are in a list, it has at least n. -/
theorem all_in {out : List Int} : ∀ n : Nat, (∀ i : Nat, i < n → (i : Int) ∈ out) → n ≤ out.length := by
  intro n
  induction n generalizing out with
  | zero => intro _; omega
  | succ n ih =>
    intro h
    have hn := h n (by omega)
    have h2 : n ≤ (out.erase (n : Int)).length := ih fun i hi => (List.mem_erase_of_ne (by omega)).2 (h i (by omega))
    rw [List.length_erase_of_mem hn] at h2
    have : 0 < out.length := List.length_pos_of_mem hn
    omega

/-- The greatest index that was not chosen may be. -/
theorem some_free {js : List J} {bs out : List Int} (hb : bfAll bs = true) (hl : bs.length = js.length) (hlt : out.length < js.length) : ∃ k, k < js.length ∧ freeTo bs out k js.length = true := by
  have hex : ∃ k, k < js.length ∧ hasI out k = false := by
    refine Classical.byContradiction fun hno => ?_
    have : js.length ≤ out.length := all_in _ fun i hi => by
      cases h : hasI out i with
      | true => exact hasI_iff.1 h
      | false => exact absurd ⟨i, hi, h⟩ hno
    omega
  have hmax : ∀ d k, js.length - k ≤ d → k < js.length → hasI out k = false → ∃ k, k < js.length ∧ hasI out k = false ∧ ∀ j, k < j → j < js.length → hasI out j = true := by
    intro d
    induction d with
    | zero => intro k h1 h2; omega
    | succ d ih =>
      intro k h1 h2 h3
      by_cases hg : ∃ j, k < j ∧ j < js.length ∧ hasI out j = false
      · obtain ⟨j, a, b, c⟩ := hg
        exact ih j (by omega) b c
      · exact ⟨k, h2, h3, fun j a b => by
          cases h : hasI out j with
          | true => rfl
          | false => exact absurd ⟨j, a, b, h⟩ hg⟩
  obtain ⟨k0, a, b⟩ := hex
  obtain ⟨k, h1, h2, h3⟩ := hmax _ k0 (Nat.le_refl _) a b
  refine ⟨k, h1, ?_⟩
  unfold freeTo
  rw [h2, Bool.not_false, Bool.true_and, upTo_iff]
  intro j hj
  by_cases e : bs.getD j 0 = (k : Int)
  · have hj' : j < bs.length := by omega
    have := upTo_iff.1 hb j hj'
    rw [bfK_at hj'] at this
    obtain ⟨_, c⟩ := wi_iff.1 this
    have e' : bs[j] = (k : Int) := by simpa [hj'] using e
    rw [h3 j (by omega) hj]; simp
  · simp only [Bool.or_eq_true]; exact .inl (by simpa using e)

theorem selTo_some {js : List J} {bs out : List Int} {k : Nat} (hk : freeTo bs out k js.length = true) : ∀ n, k < n → 0 ≤ selTo js bs out n
  | 0, h => by omega
  | n + 1, h => by
    simp only [selTo]
    split
    · omega
    · rename_i hno
      rcases Nat.lt_or_ge k n with h1 | h1
      · exact selTo_some hk n h1
      · obtain rfl : k = n := by omega
        rw [hk, Bool.true_and] at hno
        simp only [Bool.or_eq_true, decide_eq_true_eq, not_or, Int.not_lt] at hno
        exact hno.1

/-- In each round one is chosen that was not chosen yet. -/
theorem sel_ok {js : List J} {bs : List Int} (h : bfB js bs = true) {m : Nat} (hm : m < js.length) :
    ∃ x : Nat, selTo js bs (bbTo js bs m) js.length = x ∧ x < js.length ∧ freeTo bs (bbTo js bs m) x js.length = true := by
  have hl := bfB_len h
  have hb : bfAll bs = true := by simp only [bfB, Bool.and_eq_true] at h; exact h.2
  obtain ⟨k, h1, h2⟩ := some_free hb hl (out := bbTo js bs m) (by rw [bbTo_len]; exact hm)
  have h0 := selTo_some h2 js.length h1
  rcases selTo_cases js bs (bbTo js bs m) js.length with h3 | h3
  · omega
  · exact h3
end Go.Proofs.YtfjemnjdkniibaaDoor
