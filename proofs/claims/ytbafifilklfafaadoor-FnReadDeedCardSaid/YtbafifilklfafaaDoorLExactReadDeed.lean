/-
  The walk over the law FnExactReadDeed.
-/
import Derived.Test.YtbafifilklfafaaDoorPlainRD
import Derived.Test.YtbafifilklfafaaDoorLExactDeedText
namespace Go.Proofs.YtbafifilklfafaaDoor
open Go.RowKit

theorem deedV_form (r : Option (Int × Int × Int)) : ∃ k o t b, deedV r = .tuple #[.agg #[.int .i64 k, .int .i64 o, .int .i64 t], .bool b] := by
  rcases r with _ | ⟨k, o, t⟩
  · exact ⟨0, 0, 0, false, rfl⟩
  · exact ⟨k, o, t, true, rfl⟩

end Go.Proofs.YtbafifilklfafaaDoor
