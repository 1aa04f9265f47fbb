/-
  A bound of the sum of the ends.
-/
import Derived.Test.YtfjemnjdkniibaaDoorReads3
namespace Go.Proofs.YtfjemnjdkniibaaDoor
open Go.RowKit
theorem sum_bd {js : List J} {os : List Int} (h : okB js os = true) : endSumR js os ≤ 352836 := by
  have hv := ok_jsv h
  have ho := ok_ord h
  have h6 := jsvB_len hv
  rw [endSumR, if_pos h]
  have := (endSum_bd hv (endsTo_length _ _ _) (fun k hk => ends_bd hv ho hk) js.length (Nat.le_refl _)).2
  omega
theorem grown_jobs {base k n : Nat} {w w' : World} {v v' : Value} {o1 o2 : Obj} {cs ds : List Value} (hw : w.ownsRow base 24 3 v n cs) (hz : base ≤ w.heap.size)
    (hown : w'.ownsRow base 24 3 v' (k + 1) ds) (hg : ((w.alloc o1).alloc o2).grownBy w' v.ownBlock) :
    Below base w w' ∧ ∃ g c, v' = .slice (some ⟨g, 0, none⟩) (k + 1) c ∧ w'.ownsRow base 24 3 v' (k + 1) ds := by
  have hB : Below base w w' := (((Below.refl _ _).alloc hz _).alloc (Nat.le_trans hz (by simp)) _).grown hg (Nat.le_trans hz (by simp; omega)) fun k hk => (hw.lt k hk).1
  refine ⟨hB, ?_⟩
  rcases id hown.2 with ⟨_, h0⟩ | ⟨g, c, cur, e, _⟩
  · omega
  · exact ⟨g, c, e, hown⟩
end Go.Proofs.YtfjemnjdkniibaaDoor
