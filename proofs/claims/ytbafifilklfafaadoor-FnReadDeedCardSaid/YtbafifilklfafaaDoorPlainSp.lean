/-
  A deed's text with a space behind it is no deed's text. No program in sight.
-/
import Derived.Test.YtbafifilklfafaaDoorPlainRD
namespace Go.Proofs.YtbafifilklfafaaDoor
open Go.RowKit

theorem num_last {n : Int} (h : 0 ≤ n) : ∃ l b, (numB n).data.toList = l ++ [b] ∧ b ≠ (32 : UInt8) := by
  rw [numB_data n h]
  obtain ⟨h1, h2, -, -⟩ := dec_props n.toNat
  refine ⟨(Lib.decDigits n.toNat).dropLast, (Lib.decDigits n.toNat).getLast h2, (List.dropLast_concat_getLast h2).symm, fun e => ?_⟩
  have := h1 _ (List.getLast_mem h2)
  rw [e] at this
  exact absurd this.1 (by decide)
theorem dt_last {k o t : Int} (hs : (dtB k o t).size ≠ 0) : ∃ l b, (dtB k o t).data.toList = l ++ [b] ∧ b ≠ (32 : UInt8) := by
  obtain ⟨h1, h2, h3, h4⟩ := good_parts hs rfl
  have ho := wi_iff.1 h2
  have ht := wi_iff.1 h3
  rcases h5 : twoB k
  · obtain rfl : t = 0 := by
      rcases h4 with h4 | h4
      · rw [h5] at h4; cases h4
      · exact h4
    obtain ⟨l, b, e, hb⟩ := num_last ho.1
    exact ⟨(nameB k).data.toList ++ 32 :: l, b, by rw [dt_one h1 h2 h5, e]; simp, hb⟩
  · obtain ⟨l, b, e, hb⟩ := num_last ht.1
    exact ⟨(nameB k).data.toList ++ 32 :: ((numB o).data.toList ++ 32 :: l), b, by rw [dt_two h1 h2 h3 h5, e]; simp, hb⟩
theorem rd_space (s : ByteArray) : rdI (partsB (s ++ ⟨#[32]⟩)) = none := by
  cases hr : rdI (partsB (s ++ ⟨#[32]⟩)) with
  | none => rfl
  | some x =>
    obtain ⟨a, b, c⟩ := x
    obtain ⟨h1, h2⟩ := (rdI_iff (parts_cut _) a b c).1 hr
    obtain ⟨l, y, e, hy⟩ := dt_last (k := a) (o := b) (t := c) (by rw [h2]; exact h1)
    rw [h2] at e
    have e2 : s.data.toList ++ [32] = l ++ [y] := by rw [← e]; simp
    have := (List.append_inj' e2 rfl).2
    simp only [List.cons.injEq, and_true] at this
    exact absurd this.symm hy
end Go.Proofs.YtbafifilklfafaaDoor
