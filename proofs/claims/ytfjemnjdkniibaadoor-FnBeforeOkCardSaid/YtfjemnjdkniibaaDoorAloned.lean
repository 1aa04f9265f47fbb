/-
  What the laws on what must be done before need: alone, each -1; one int ahead of a tail.
-/
import Derived.Test.YtfjemnjdkniibaaDoorLJobsValid
import Derived.Test.YtfjemnjdkniibaaDoorSame
import Derived.Test.YtfjemnjdkniibaaDoorPlainLawler
namespace Go.Proofs.YtfjemnjdkniibaaDoor
open Go.RowKit

theorem JobsAt.where {lo hi : Nat} {w : World} {v : Value} {js : List J} (h : JobsAt lo hi w v js) : ∃ ao cap, v = .slice ao js.length cap ∧ js.length ≤ cap ∧ cap ≤ 9223372036854775807 ∧ (0 < js.length → ∃ b o, ao = some ⟨b, o, none⟩) := by
  obtain ⟨ao, cap, rfl, h1, h2, _, h4⟩ := h
  exact ⟨ao, cap, rfl, h1, h2, fun h => by obtain ⟨b, o, e, _⟩ := h4 h; exact ⟨b, o, e⟩⟩
theorem own_rep {base k : Nat} {w : World} {v : Value} (h : OwnI base w v (List.replicate k (-1))) : w.ownsRow base 3 1 v k ((List.replicate k (-1 : Int)).map (Value.int .i64)) := by
  have := h.2
  rwa [List.length_replicate] at this
theorem grown_rep {base k : Nat} {w w' : World} {v v' : Value} {o : Obj} {cs : List Value} (hw : OwnI base w v (List.replicate k (-1))) (hz : base ≤ w.heap.size)
    (hown : w'.ownsRow base 3 1 v' (k + 1) cs) (hg : (w.alloc o).grownBy w' v.ownBlock) (hc : cs = (List.replicate k (-1 : Int)).map (Value.int .i64) ++ [.int .i64 (-1)] := by first | rfl | simp) :
    Below base w w' ∧ ∃ g c, v' = .slice (some ⟨g, 0, none⟩) (k + 1) c ∧ OwnI base w' v' (List.replicate (k + 1) (-1)) := by
  subst hc
  have e : (List.replicate k (-1 : Int)).length + 1 = k + 1 := by simp
  obtain ⟨h1, g, c, h2, h3⟩ := grown_one (y := -1) hw hz (by rw [e]; exact hown) hg
  rw [e] at h2
  exact ⟨h1, g, c, h2, by rw [List.replicate_succ']; exact h3⟩
theorem rep_at {lo hi k : Nat} {w : World} {v : Value} (h : IntsAt lo hi w v (List.replicate k (-1))) : IntsAt lo hi w v (List.replicate k (-1)) := h
theorem own_lit {w0 : World} (w : World) (x : Int) (hb : w0.heap.size ≤ w.heap.size) : (w.alloc (.cells #[.int .i64 x] 3)).ownsRow w0.heap.size 3 1 (.slice (some ⟨w.heap.size, 0, none⟩) 1 1) 1 [.int .i64 x] := by
  have := OwnI.new w0.heap.size w [x] hb (by simp)
  exact this.2
theorem ints_tail {lo hi b o cap : Nat} {w : World} {xs : List Int} (h : IntsAt lo hi w (.slice (some ⟨b, o, none⟩) xs.length cap) xs) :
    ∀ j u, (xs.tail.map (Value.int .i64))[j]? = some u → w.cell? ((⟨b, o + 1, none⟩ : Addr).add j) = some u := by
  intro j u hu
  have hadd : ∀ o i, (⟨b, o, none⟩ : Addr).add i = ⟨b, o + i, none⟩ := fun o i => by unfold Addr.add; split <;> simp_all
  obtain ⟨hj, e⟩ := List.getElem?_eq_some_iff.1 hu
  have hj' : j + 1 < xs.length := by simp at hj; omega
  rw [hadd, show o + 1 + j = o + (j + 1) by omega, h.read hj', ← e]
  simp
theorem wrong_bf {js : List J} {bs : List Int} : bfB js (0 :: bs) = false := by
  have h : bfAll (0 :: bs) = false := upTo_false (k := 0) (by simp) (by rw [bfK_at (by simp)]; rfl)
  simp [bfB, h]
end Go.Proofs.YtfjemnjdkniibaaDoor
