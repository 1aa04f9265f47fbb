/-
  The walks over the copies of slices: toIntS, toJobS; over markIntS, markJobS, heldIntS.
-/
import Derived.Test.YtbafifilklfafaaDoorWalkA
namespace Go.Proofs.YtbafifilklfafaaDoor
open Go.RowKit

theorem info_int : (Tryd.prog.info? 3).map (fun i => (i.zero, i.size, i.bytes)) = some (some (.int .i64 0), 1, 8) := by kernel_rfl
end Go.Proofs.YtbafifilklfafaaDoor
