/-
  The length of what JobEnds answers.
-/
import Derived.Test.YtmkkefkdeoennaaWalkG
namespace Go.Proofs.Ytmkkefkdeoennaa
theorem jobEndsR_len (js : List J) (os : List Int) : (jobEndsR js os).length ≤ js.length := by
  unfold jobEndsR
  split
  · rw [endsTo_length]; omega
  · simp
end Go.Proofs.Ytmkkefkdeoennaa
