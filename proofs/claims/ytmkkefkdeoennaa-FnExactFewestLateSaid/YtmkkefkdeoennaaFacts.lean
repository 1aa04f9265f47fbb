/-
  The closed facts that every row of this seat shares.
-/
import Derived.Test.YtmkkefkdeoennaaRows
import Derived.Test.YtmkkefkdeoennaaFrame
namespace Go.Proofs.Ytmkkefkdeoennaa
theorem own : ownKnob Try.prog.godebug = none := by kernel_rfl
theorem laidOut : laidOutB Try.prog = true := by kernel_rfl
theorem may_ok : Try.pinned.checked.prog.mayEnter = true := by kernel_rfl
theorem lifts_ok : (Rows.fnExactJobValidRow.lifted == Try.pinned.checked.prog.liftsFinal) = true := by kernel_rfl
theorem make_ok : (Try.pinned.checked.prog.make == some Rows.fnExactJobValidRow.make) = true := by kernel_rfl
end Go.Proofs.Ytmkkefkdeoennaa
