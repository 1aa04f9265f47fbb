/-
  The walks over the copies of slices: toIntS, toJobS; over markIntS, markJobS, heldIntS.
-/
import Derived.Test.YtfjemnjdkniibaaDoorWalkA
namespace Go.Proofs.YtfjemnjdkniibaaDoor
open Go.RowKit

theorem info_int : (Tryd.prog.info? 3).map (fun i => (i.zero, i.size, i.bytes)) = some (some (.int .i64 0), 1, 8) := by kernel_rfl
theorem info_job : (Tryd.prog.info? 24).map (fun i => (i.zero, i.size, i.bytes)) = some (some (.agg #[.int .i64 0, .int .i64 0, .int .i64 0]), 3, 24) := by kernel_rfl

end Go.Proofs.YtfjemnjdkniibaaDoor
