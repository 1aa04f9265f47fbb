/-
  Where the cells of a slice lie.
-/
import Derived.Test.YtfjemnjdkniibaaDoorReads2
namespace Go.Proofs.YtfjemnjdkniibaaDoor
open Go.RowKit
theorem JobsAt.block_lt {lo hi b o n cap : Nat} {w : World} {js : List J} (h : JobsAt lo hi w (.slice (some ⟨b, o, none⟩) n cap) js) (hn : 0 < js.length) : b < w.heap.size := by
  obtain ⟨ao, cap', e, -, -, h3, h4⟩ := h
  simp only [Value.slice.injEq] at e
  obtain ⟨rfl, -, -⟩ := e
  obtain ⟨b', o', e, -, h5, -⟩ := h4 hn
  simp only [Option.some.injEq, Addr.mk.injEq] at e
  omega
theorem IntsAt.block_lt {lo hi b o n cap : Nat} {w : World} {xs : List Int} (h : IntsAt lo hi w (.slice (some ⟨b, o, none⟩) n cap) xs) (hn : 0 < xs.length) : b < w.heap.size := by
  obtain ⟨ao, cap', e, -, -, h3, h4⟩ := h
  simp only [Value.slice.injEq] at e
  obtain ⟨rfl, -, -⟩ := e
  obtain ⟨b', o', e, -, h5, -⟩ := h4 hn
  simp only [Option.some.injEq, Addr.mk.injEq] at e
  omega
end Go.Proofs.YtfjemnjdkniibaaDoor
