/-
  The closed facts that every row of this seat shares.
-/
import Derived.Test.YtaifajhojhekjaaRows
import Derived.Test.YtaifajhojhekjaaFrame
namespace Go.Proofs.Ytaifajhojhekjaa
theorem own : ownKnob Try.prog.godebug = none := by kernel_rfl
theorem laidOut : laidOutB Try.prog = true := by kernel_rfl
theorem may_ok : Try.pinned.checked.prog.mayEnter = true := by kernel_rfl
theorem lifts_ok : (Rows.fnExactMillValidRow.lifted == Try.pinned.checked.prog.liftsFinal) = true := by kernel_rfl
theorem make_ok : (Try.pinned.checked.prog.make == some Rows.fnExactMillValidRow.make) = true := by kernel_rfl
end Go.Proofs.Ytaifajhojhekjaa
