/-
  One job more of the call's own.
-/
import Derived.Test.YtfjemnjdkniibaaDoorFews
namespace Go.Proofs.YtfjemnjdkniibaaDoor
open Go.RowKit
theorem grown_job {base k n : Nat} {w w' : World} {v v' : Value} {o1 : Obj} {cs ds : List Value} (hw : w.ownsRow base 24 3 v n cs) (hz : base ≤ w.heap.size)
    (hown : w'.ownsRow base 24 3 v' (k + 1) ds) (hg : (w.alloc o1).grownBy w' v.ownBlock) :
    Below base w w' ∧ ∃ g c, v' = .slice (some ⟨g, 0, none⟩) (k + 1) c ∧ w'.ownsRow base 24 3 v' (k + 1) ds := by
  have hB : Below base w w' := ((Below.refl _ _).alloc hz _).grown hg (Nat.le_trans hz (by simp)) fun k hk => (hw.lt k hk).1
  refine ⟨hB, ?_⟩
  rcases id hown.2 with ⟨_, h0⟩ | ⟨g, c, cur, e, _⟩
  · omega
  · exact ⟨g, c, e, hown⟩
end Go.Proofs.YtfjemnjdkniibaaDoor
