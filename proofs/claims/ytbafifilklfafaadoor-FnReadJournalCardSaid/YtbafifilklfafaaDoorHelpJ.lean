/-
  The walks over the laws' helpers: copies, comparisons, marks of slices (MillDeed).
-/
import Derived.Test.YtbafifilklfafaaDoorWalkA
import Derived.Test.YtbafifilklfafaaDoorMillV
namespace Go.Proofs.YtbafifilklfafaaDoor
open Go.RowKit

theorem JobsAt.of_row1 {w : World} {g T n m : Nat} {f : Nat → Value} (h : w.rowIs g T m f) {xs : List J} (hn : xs.length ≤ n) (hm : n * 3 ≤ m) (hn' : n ≤ 9223372036854775807) (hf : ∀ i (_ : i < xs.length), f (i * 3) = .int .i64 xs[i].s ∧ f (i * 3 + 1) = .int .i64 xs[i].d ∧ f (i * 3 + 2) = .int .i64 xs[i].g) :
    JobsAt g (g + 1) w (.slice (some ⟨g, 0, none⟩) xs.length n) xs :=
  ⟨_, n, rfl, hn, hn', h.lt, fun _ => ⟨g, 0, rfl, Nat.le_refl _, Nat.lt_succ_self _, fun i hi => by
    obtain ⟨f0, f1, f2⟩ := hf i hi
    rw [Nat.zero_add]
    exact ⟨⟨by rw [h.cell (by omega), f0], by rw [h.cell (by omega), f1], by rw [h.cell (by omega), f2]⟩, h.frozen _, h.frozen _, h.frozen _⟩⟩⟩
theorem info_J : (Tryd.prog.info? 25).map (fun i => (i.zero, i.size, i.bytes)) = some (some (.agg #[.int .i64 0, .int .i64 0, .int .i64 0]), 3, 24) := by kernel_rfl
def eqJ (a b : J) : Bool := decide (a = b)
def mkJ (a : Int) : J := ⟨a, a + 1, a + 1 + 1⟩
end Go.Proofs.YtbafifilklfafaaDoor
