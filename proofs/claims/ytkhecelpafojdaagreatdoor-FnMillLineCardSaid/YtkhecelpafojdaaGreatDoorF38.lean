/-
  Parts of the proofs over mills, of: DoAS. Conditions: each theorem states its own.
-/
import Derived.Test.YtkhecelpafojdaaGreatDoorF34
import Derived.Test.YtkhecelpafojdaaGreatDoorF35
import Derived.Test.YtkhecelpafojdaaGreatDoorF36
import Derived.Test.YtkhecelpafojdaaGreatDoorF37
set_option linter.unusedSimpArgs false
set_option linter.unusedVariables false
set_option maxRecDepth 10000
set_option maxHeartbeats 64000000
namespace Go.Proofs.YtkhecelpafojdaaGreatDoor
open Go.RowKit
theorem do_spec (s p l h : Value) (m : Mi) (d : J) (w : World) (H : aM 0 w.heap.size w s p l h m) (ha : d.d ≤ 9223372036854775807) (hb : d.g ≤ 9223372036854775807) :
 Calls Tryz.prog 27 #[ag s p l h m, .agg #[.int .i64 d.s, .int .i64 d.d, .int .i64 d.g]] w (jg w.heap.size (doR m d) w) := by
 obtain ⟨k, a, b⟩ := d;by_cases e0 : k = 0
 ·subst e0; exact do_s0 s p l h m a b w H ha hb
 by_cases e1 : k = 1
 ·subst e1; exact do_s1 s p l h m a b w H ha hb
 by_cases e2 : k = 2
 ·subst e2; exact do_s2 s p l h m a b w H ha hb
 by_cases e3 : k = 3
 ·subst e3; exact do_s3 s p l h m a b w H ha hb
 by_cases e4 : k = 4
 ·subst e4; exact do_s4 s p l h m a b w H ha hb
 exact do_sx s p l h m k a b w H ha hb (by simpa using e0) (by simpa using e1) (by simpa using e2) (by simpa using e3) (by simpa using e4)
end Go.Proofs.YtkhecelpafojdaaGreatDoor
