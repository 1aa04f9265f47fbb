/-
  The walk over the law FnExactDeedText.
-/
import Derived.Test.YtbafifilklfafaaDoorTextA
namespace Go.Proofs.YtbafifilklfafaaDoor
open Go.RowKit

/-- The box's cells behind a call. -/
theorem box3 {w0 W w' : World} {B : Nat} {u v x : Value} (hb : Below W.heap.size W w') (h0 : W.cell? ⟨B, 0, none⟩ = some u) (h1 : W.cell? ⟨B, 1, none⟩ = some v) (hx : W.cell? ⟨B, 2, none⟩ = some x) (h2 : B < W.heap.size) (h3 : Below w0.heap.size w0 W) :
    (w'.cell? ⟨B, 0, none⟩ = some u ∧ w'.cell? ⟨B, 1, none⟩ = some v ∧ w'.cell? ⟨B, 2, none⟩ = some x) ∧ B < w'.heap.size ∧ Below w0.heap.size w0 w' :=
  ⟨⟨by rw [hb.cell h2]; exact h0, by rw [hb.cell h2]; exact h1, by rw [hb.cell h2]; exact hx⟩, Nat.lt_of_lt_of_le h2 hb.size, Below.step h3 hb (Nat.le_refl _)⟩

end Go.Proofs.YtbafifilklfafaaDoor
