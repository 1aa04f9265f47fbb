/-
  The closed facts that every row of this seat shares.
-/
import Derived.Test.YtfjemnjdkniibaaDoorRows
import Derived.Test.YtfjemnjdkniibaaDoorFrame
namespace Go.Proofs.YtfjemnjdkniibaaDoor
theorem own : ownKnob Tryd.prog.godebug = none := by kernel_rfl
theorem laidOut : laidOutB Tryd.prog = true := by kernel_rfl
theorem may_ok : Tryd.pinned.checked.prog.mayEnter = true := by kernel_rfl
theorem lifts_ok : (Rows.fnJobValidRow.lifted == Tryd.pinned.checked.prog.liftsFinal) = true := by kernel_rfl
theorem make_ok : (Tryd.pinned.checked.prog.make == some Rows.fnJobValidRow.make) = true := by kernel_rfl
end Go.Proofs.YtfjemnjdkniibaaDoor
