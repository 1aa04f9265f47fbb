/-
  A block that is known whole, as a list of values; how it is kept. No program in sight.
-/
import Derived.Test.YtbafifilklfafaaDoorBase
namespace Go.Proofs.YtbafifilklfafaaDoor
open Go.RowKit

/-- Block b holds the values vs. -/
def RowL (w : World) (b T : Nat) (vs : List Value) : Prop := w.rowIs b T vs.length (fun i => vs.getD i default)
theorem RowL.cell {w : World} {b T : Nat} {vs : List Value} (h : RowL w b T vs) (i : Nat) (hi : i < vs.length) : w.cell? ⟨b, i, none⟩ = some (vs.getD i default) := World.rowIs.cell h hi
theorem RowL.frozen {w : World} {b T : Nat} {vs : List Value} (h : RowL w b T vs) (i : Nat) : w.frozen? ⟨b, i, none⟩ = false := World.rowIs.frozen h i
theorem RowL.lt {w : World} {b T : Nat} {vs : List Value} (h : RowL w b T vs) : b < w.heap.size := World.rowIs.lt h
theorem RowL.below {w w' : World} {B b T : Nat} {vs : List Value} (h : RowL w b T vs) (k : Below B w w') (hB : b < B) : RowL w' b T vs := rowIs_below h k hB
theorem RowL.other {w w' : World} {lo hi b T : Nat} {vs : List Value} (h : RowL w b T vs) (k : Other lo hi w w') (hB : b < lo ∨ hi ≤ b) : RowL w' b T vs :=
  World.rowIs.of_block h (k.block b h.lt hB)
theorem RowL.new (w : World) (T : Nat) (vs : List Value) : RowL (w.alloc (.cells vs.toArray T)) w.heap.size T vs := by
  have h := World.rowIs_alloc w vs.toArray T (fun i => vs.getD i default) (fun i hi => by
    have hi' : i < vs.length := by simpa using hi
    simp [List.getElem?_eq_getElem hi'])
  unfold RowL
  simpa using h
theorem RowL.alloc {w : World} {b T : Nat} {vs : List Value} (h : RowL w b T vs) (o : Obj) : RowL (w.alloc o) b T vs :=
  h.below ((Below.refl w.heap.size w).alloc (Nat.le_refl _) o) h.lt
theorem RowL.drew {w : World} {b T : Nat} {vs : List Value} (h : RowL w b T vs) : RowL w.drew b T vs := h
theorem RowL.drewN {w : World} {b T : Nat} {vs : List Value} (h : RowL w b T vs) (n : Nat) : RowL (w.drewN n) b T vs := h
theorem RowL.set {w : World} {b T : Nat} {vs : List Value} (h : RowL w b T vs) (i : Nat) (x : Value) (hi : i < vs.length) : RowL (w.setCell ⟨b, i, none⟩ x) b T (vs.set i x) := by
  unfold RowL
  rw [List.length_set]
  refine (World.rowIs.set h i x).congr fun j hj => ?_
  simp only [List.getD_eq_getElem?_getD, List.getElem?_set]
  by_cases e : j = i
  · subst e; simp [hi]
  · rw [if_neg e, if_neg (fun h => e h.symm)]
theorem RowL.far {w : World} {b T : Nat} {vs : List Value} (h : RowL w b T vs) {p : Addr} (hp : p.block ≠ b) (x : Value) : RowL (w.setCell p x) b T vs :=
  World.rowIs.of_block h (Below.heap_setCell _ _ _ _ hp.symm)
/-- The world of a call under a name. -/
theorem calls_at {P : Program} {f : FuncId} {args : Array Value} {W : World} {Q : Ending → World → Prop} (h : ∀ wx, wx = W → Calls P f args wx Q) : Calls P f args W Q := h _ rfl
end Go.Proofs.YtbafifilklfafaaDoor
