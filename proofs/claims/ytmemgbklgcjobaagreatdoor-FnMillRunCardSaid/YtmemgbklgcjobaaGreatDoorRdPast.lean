/-
  A reader stays where a box of another type is written. No walk.
-/
import Derived.Test.YtmemgbklgcjobaaGreatDoorB48
namespace Go.Proofs.YtmemgbklgcjobaaGreatDoor
open Go.RowKit

theorem Rd.past {R k Z T : Nat} {w w' : World} {vs : List Value} (h : Rd R k w) (r : RowL w Z T vs) (hne : R ≠ Z) (hv : ∀ u ∈ vs, ∀ x, u ≠ .int .u8 x) (K : Other Z (Z + 1) w w') : Rd R k w' := by
  obtain ⟨v, n, p, h1, h2⟩ := h
  have hRl := World.rowIs.lt h2.row
  refine ⟨v, n, p, h1, World.rowIs.of_block h2.row (K.block R hRl (by omega)), ?_, h2.few⟩
  obtain ⟨ao, cap, e, a1, a2, a3, a4⟩ := h2.bytes
  refine ⟨ao, cap, e, a1, a2, Nat.le_trans a3 K.size, fun hn => ?_⟩
  obtain ⟨b, o, e1, e2, e3, e4⟩ := a4 hn
  have hb : b ≠ Z := by
    rintro rfl
    obtain ⟨x, x1, -⟩ := e4 0 hn
    obtain ⟨c, hc, hl, hf⟩ := r
    simp [World.cell?, hc] at x1
    obtain ⟨hi, -⟩ := Array.getElem?_eq_some_iff.1 x1
    have hi2 : o < vs.length := by omega
    have h3 := hf o hi2
    rw [x1] at h3
    have h4 := Option.some.inj h3
    have h5 : vs.getD o default = vs[o] := by simp [hi2]
    simp only [h5] at h4
    exact hv _ (List.getElem_mem hi2) x h4.symm
  refine ⟨b, o, e1, e2, e3, fun i hi => ?_⟩
  obtain ⟨x, x1, x2⟩ := e4 i hi
  exact ⟨x, by rw [World.cell?_of_block (w := w) (K.block b (by omega) (by omega))]; exact x1, x2⟩
theorem no8_zero : ∀ u ∈ [Value.slice none 0 0, Value.int .i64 0, Value.int .i64 0, Value.int .i64 0, Value.int .i64 0, Value.int .i64 0, Value.int .i64 0, Value.int .i64 0, Value.slice none 0 0, Value.slice none 0 0, Value.slice none 0 0, Value.int .i64 0], ∀ x, u ≠ Value.int .u8 x := by
  intro u hu x
  simp only [List.mem_cons, List.not_mem_nil, or_false] at hu
  rcases hu with rfl | rfl | rfl | rfl | rfl | rfl | rfl | rfl | rfl | rfl | rfl | rfl <;> (intro h; cases h)
end Go.Proofs.YtmemgbklgcjobaaGreatDoor
