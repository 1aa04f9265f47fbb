/-
  The walks over the small functions: ranges, validity of jobs, copies and comparisons of slices of jobs and of ints.
-/
import Derived.Test.YtaifajhojhekjaaBase
import Derived.Test.YtaifajhojhekjaaProg
import Derived.StillTailTactics
import Derived.Deep.QuietTactic
import Derived.BigQuiet
namespace Go.Proofs.Ytaifajhojhekjaa
open Go.RowKit

theorem within_any (n a b : Int) (w : World) :
    Calls Try.prog 39 #[.int .i64 n, .int .i64 a, .int .i64 b] w fun e w' => e = .returned (.bool (wi n a b)) ∧ w = w' := by
  by_cases h1 : a ≤ n
  · go_enter Try.func39, Try.ntmps39
    go_wp2
    go_ret
    simp [h1, wi]
  · have h2 : decide (a ≤ n) = false := by simp [h1]
    go_enter Try.func39, Try.ntmps39
    go_wp2
    go_ret
    simp [wi, h2]

theorem l1In_any (n a b : Int) (w : World) :
    Calls Try.prog 30 #[.int .i64 n, .int .i64 a, .int .i64 b] w fun e w' => e = .returned (.bool (wi n a b)) ∧ w = w' := by
  by_cases h1 : a ≤ n
  · go_enter Try.func30, Try.ntmps30
    go_wp2
    go_ret
    simp [h1, wi]
  · have h2 : decide (a ≤ n) = false := by simp [h1]
    go_enter Try.func30, Try.ntmps30
    go_wp2
    go_ret
    simp [wi, h2]

/-- What is left of the purse. -/
def szI (left : Int) (n : Nat) : Int := if left - n < 0 then -1 else left - n

end Go.Proofs.Ytaifajhojhekjaa
