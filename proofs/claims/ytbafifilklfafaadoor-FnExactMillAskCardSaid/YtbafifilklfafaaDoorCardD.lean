/-
  What all cards of this seat share: an argument that is a slice of bytes, opened; a start in which the listed tables lie as their initialisers lay them.
-/
import Derived.Test.YtbafifilklfafaaDoorFacts
import Derived.Test.YtbafifilklfafaaDoorDraw
import Derived.Test.YtbafifilklfafaaDoorCards
import Derived.Test.YtbafifilklfafaaDoorTie
import Derived.Deep.DeepHandedRow
import Derived.Lib.LaidTab
import Derived.Lib.SmallJoins
import Derived.LaidMore
namespace Go.Proofs.YtbafifilklfafaaDoor
open Go.ChangeShapes Go.WideShapes Go.Deep Go.RowKit Go.ChangeAt

section
variable {H : Type} {enc : TypeId × Value → H} {P : Program}
/-- An argument that is a slice of bytes. -/
theorem open_bytesAt {t e : TypeId} {w : World} {v : Value} {d : DataW H} {ps : List MemPlace} (ht : P.underlying t = some (.slice e)) (he : P.underlying e = some (.int .u8)) (hc : P.cellsOf e = 1)
    (h : DataW.Trod enc P w 0 (fun _ => true) true t v d ps) (hvs : ∃ ao n c, v = .slice ao n c) : ∃ n, BytesAt 0 w.heap.size w v n := by
  obtain ⟨ao, n0, c0, rfl⟩ := hvs
  obtain ⟨fuel, hf⟩ := h
  rcases open_slice1 ht hc hf with ⟨hcs, hx⟩ | ⟨a, len, cap, m, n, V, D, Pl, hcs, hb, hl, hm, hmm, hx, hi⟩
  · simp only [Value.cells, List.cons.injEq, and_true] at hcs
    rw [hcs]
    exact ⟨0, none, 0, rfl, Nat.le_refl _, by omega, Nat.le_refl _, fun h => absurd h (Nat.not_lt_zero _)⟩
  · simp only [Value.cells, List.cons.injEq, and_true] at hcs
    rw [hcs]
    simp only [↓reduceIte] at hmm
    subst hmm
    have hint : ∀ i, i < m → ∃ x : Int, V i = .int .u8 x ∧ 0 ≤ x ∧ x ≤ 255 := fun i him => by
      obtain ⟨_, ht'⟩ := hi i him
      obtain ⟨x, e1, _, e3⟩ := DataW.trod_int he ht'
      simp only [List.cons.injEq, and_true] at e1
      simp [Lit.wf, IntKind.min, IntKind.max, IntKind.signed, IntKind.bits] at e3
      exact ⟨x, e1, by omega, by omega⟩
    refine ⟨len, some a, m, rfl, hl, by unfold maxLen at hm; omega, Nat.le_refl _, fun hn => ?_⟩
    obtain ⟨h0, _⟩ := hi 0 (by omega)
    have ha0 : a.add 0 = a := by simp [Addr.add]
    rw [ha0] at h0
    obtain ⟨hs, hblt⟩ := cell_spot h0
    obtain ⟨b, o, sp⟩ := a
    simp only at hs hblt
    subst hs
    refine ⟨b, o, rfl, Nat.zero_le _, hblt, fun i hi' => ?_⟩
    obtain ⟨h1, _⟩ := hi i (by omega)
    obtain ⟨x, e1, e2, e3⟩ := hint i (by omega)
    have hadd : (⟨b, o, none⟩ : Addr).add i = ⟨b, o + i, none⟩ := by
      unfold Addr.add
      split
      · next h => subst h; rfl
      · rfl
    rw [hadd] at h1
    exact ⟨x, by rw [h1, e1], e2, e3⟩
end

theorem wants_none : Tryd.prog.wantsStandIn 22 = false := by kernel_rfl
theorem looks_off : false = Tryd.pinned.checked.prog.looks [] := by kernel_rfl
end Go.Proofs.YtbafifilklfafaaDoor
