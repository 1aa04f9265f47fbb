/-
  The closed facts that every row of this seat shares.
-/
import Derived.Test.YtdpijblhcjmicaaRows
import Derived.Test.YtdpijblhcjmicaaFrame
namespace Go.Proofs.Ytdpijblhcjmicaa
theorem own : ownKnob Try.prog.godebug = none := by kernel_rfl
theorem laidOut : laidOutB Try.prog = true := by kernel_rfl
theorem may_ok : Try.pinned.checked.prog.mayEnter = true := by kernel_rfl
theorem lifts_ok : (Rows.fnExactSpotOfRow.lifted == Try.pinned.checked.prog.liftsFinal) = true := by kernel_rfl
theorem make_ok : (Try.pinned.checked.prog.make == some Rows.fnExactSpotOfRow.make) = true := by kernel_rfl
end Go.Proofs.Ytdpijblhcjmicaa
