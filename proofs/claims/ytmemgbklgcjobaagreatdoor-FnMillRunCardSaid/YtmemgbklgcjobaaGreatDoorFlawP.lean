/-
  Contracts of the laws' callees where the answer is known. No walk.
-/
import Derived.Test.YtmemgbklgcjobaaGreatDoorB48
namespace Go.Proofs.YtmemgbklgcjobaaGreatDoor
open Go.RowKit

/-- The way from a first world, carried as a view is. -/
structure Way (a w : World) : Prop where
  b : Below a.heap.size a w
theorem Way.below {a w w' : World} (h : Way a w) (k : Below w.heap.size w w') : Way a w' := ⟨Below.step h.b k (Nat.le_refl _)⟩
theorem mv_yes {f : FuncId} {args : Array Value} {m : Mi} {w : World} (h : Calls Tryz.prog f args w fun e w' => e = .returned (.bool (millB m)) ∧ Below w.heap.size w w') (hv : millB m = true) : Calls Tryz.prog f args w fun e w' => e = .returned (.bool true) ∧ Below w.heap.size w w' := by
  rw [hv] at h
  exact h
theorem sm_no {f : FuncId} {args : Array Value} {m z : Mi} {w : World} (h : Calls Tryz.prog f args w fun e w' => e = .returned (.bool (decide (m = z))) ∧ Below w.heap.size w w') (hv : m ≠ z) : Calls Tryz.prog f args w fun e w' => e = .returned (.bool false) ∧ Below w.heap.size w w' := by
  rw [decide_eq_false hv] at h
  exact h
theorem sm_yes {f : FuncId} {args : Array Value} {m z : Mi} {w : World} (h : Calls Tryz.prog f args w fun e w' => e = .returned (.bool (decide (m = z))) ∧ Below w.heap.size w w') (hv : m = z) : Calls Tryz.prog f args w fun e w' => e = .returned (.bool true) ∧ Below w.heap.size w w' := by
  rw [decide_eq_true hv] at h
  exact h
theorem ms_is {f : FuncId} {args : Array Value} {x m : Mi} {w : World} (h : Calls Tryz.prog f args w fun e w' => e = .returned (.int .i64 (massR x)) ∧ Below w.heap.size w w') (hv : massR x = massR m) : Calls Tryz.prog f args w fun e w' => e = .returned (.int .i64 (massR m)) ∧ Below w.heap.size w w' := by
  rw [hv] at h
  exact h
end Go.Proofs.YtmemgbklgcjobaaGreatDoor
