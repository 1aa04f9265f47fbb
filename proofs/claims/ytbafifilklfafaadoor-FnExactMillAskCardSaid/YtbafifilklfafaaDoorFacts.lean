/-
  The closed facts that every row of this seat shares.
-/
import Derived.Test.YtbafifilklfafaaDoorRows
import Derived.Test.YtbafifilklfafaaDoorFrame
namespace Go.Proofs.YtbafifilklfafaaDoor
theorem own : ownKnob Tryd.prog.godebug = none := by kernel_rfl
theorem laidOut : laidOutB Tryd.prog = true := by kernel_rfl
theorem may_ok : Tryd.pinned.checked.prog.mayEnter = true := by kernel_rfl
theorem lifts_ok : (Rows.fnReadDeedRow.lifted == Tryd.pinned.checked.prog.liftsFinal) = true := by kernel_rfl
theorem make_ok : (Tryd.pinned.checked.prog.make == some Rows.fnReadDeedRow.make) = true := by kernel_rfl
end Go.Proofs.YtbafifilklfafaaDoor
