/-
  The walks over the small functions: ranges, validity of jobs, copies and comparisons of slices of jobs and of ints.
-/
import Derived.Test.YtbafifilklfafaaDoorBase
import Derived.Test.YtbafifilklfafaaDoorProg
import Derived.StillTailTactics
import Derived.Deep.QuietTactic
import Derived.BigQuiet
namespace Go.Proofs.YtbafifilklfafaaDoor
open Go.RowKit

theorem within_any (n a b : Int) (w : World) :
    Calls Tryd.prog 35 #[.int .i64 n, .int .i64 a, .int .i64 b] w fun e w' => e = .returned (.bool (wi n a b)) ∧ w = w' := by
  by_cases h1 : a ≤ n
  · go_enter Tryd.func35, Tryd.ntmps35
    go_wp2
    go_ret
    simp [h1, wi]
  · have h2 : decide (a ≤ n) = false := by simp [h1]
    go_enter Tryd.func35, Tryd.ntmps35
    go_wp2
    go_ret
    simp [wi, h2]

theorem l1In_any (n a b : Int) (w : World) :
    Calls Tryd.prog 62 #[.int .i64 n, .int .i64 a, .int .i64 b] w fun e w' => e = .returned (.bool (wi n a b)) ∧ w = w' := by
  by_cases h1 : a ≤ n
  · go_enter Tryd.func62, Tryd.ntmps62
    go_wp2
    go_ret
    simp [h1, wi]
  · have h2 : decide (a ≤ n) = false := by simp [h1]
    go_enter Tryd.func62, Tryd.ntmps62
    go_wp2
    go_ret
    simp [wi, h2]

/-- What is left of the purse. -/
def szI (left : Int) (n : Nat) : Int := if left - n < 0 then -1 else left - n

end Go.Proofs.YtbafifilklfafaaDoor
