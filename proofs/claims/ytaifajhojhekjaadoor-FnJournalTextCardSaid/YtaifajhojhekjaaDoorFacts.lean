/-
  The closed facts that every row of this seat shares.
-/
import Derived.Test.YtaifajhojhekjaaDoorRows
import Derived.Test.YtaifajhojhekjaaDoorFrame
namespace Go.Proofs.YtaifajhojhekjaaDoor
theorem own : ownKnob Tryd.prog.godebug = none := by kernel_rfl
theorem laidOut : laidOutB Tryd.prog = true := by kernel_rfl
theorem may_ok : Tryd.pinned.checked.prog.mayEnter = true := by kernel_rfl
theorem lifts_ok : (Rows.fnSpotOfRow.lifted == Tryd.pinned.checked.prog.liftsFinal) = true := by kernel_rfl
theorem make_ok : (Tryd.pinned.checked.prog.make == some Rows.fnSpotOfRow.make) = true := by kernel_rfl
end Go.Proofs.YtaifajhojhekjaaDoor
