/-
  Plain lemmas on numbers and lists, for the later walks. No program in sight.
-/
import Derived.Test.YtbafifilklfafaaDoorBase
namespace Go.Proofs.YtbafifilklfafaaDoor
open Go.RowKit

/-- p holds of all numbers below n. -/
def upTo (n : Nat) (p : Nat → Bool) : Bool := (List.range n).all p
theorem upTo_iff {n : Nat} {p : Nat → Bool} : upTo n p = true ↔ ∀ k, k < n → p k = true := by simp [upTo]
theorem upTo_true {n : Nat} {p : Nat → Bool} (h : ∀ k, k < n → p k = true) : upTo n p = true := upTo_iff.2 h
theorem upTo_false {n k : Nat} {p : Nat → Bool} (hk : k < n) (hp : p k = false) : upTo n p = false := by
  cases h : upTo n p with
  | false => rfl
  | true => rw [upTo_iff.1 h k hk] at hp; cases hp
theorem upTo_congr {n : Nat} {p q : Nat → Bool} (h : ∀ k, k < n → p k = q k) : upTo n p = upTo n q := by
  rw [Bool.eq_iff_iff, upTo_iff, upTo_iff]
  exact ⟨fun a k hk => by rw [← h k hk]; exact a k hk, fun a k hk => by rw [h k hk]; exact a k hk⟩
theorem upTo_snoc {k : Nat} {p : Nat → Bool} (h : ∀ j, j < k → p j = true) (hp : p k = true) : ∀ j, j < k + 1 → p j = true := fun j hj => by
  rcases Nat.lt_or_ge j k with h1 | h1
  · exact h j h1
  · obtain rfl : j = k := by omega
    exact hp
end Go.Proofs.YtbafifilklfafaaDoor
