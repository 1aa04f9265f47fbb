/-
  Reading a job of a slice; facts of orders for the laws.
-/
import Derived.Test.YtfjemnjdkniibaaDoorLTwoEnd
import Derived.Test.YtfjemnjdkniibaaDoorSame
import Derived.Test.YtfjemnjdkniibaaDoorPlainMoore
namespace Go.Proofs.YtfjemnjdkniibaaDoor
open Go.RowKit
theorem JobsAt.where' {lo hi : Nat} {w : World} {v : Value} {js : List J} (h : JobsAt lo hi w v js) : ∃ ao cap, v = .slice ao js.length cap ∧ js.length ≤ cap ∧ cap ≤ 9223372036854775807 ∧ (0 < js.length → ∃ b o, ao = some ⟨b, o, none⟩) := by
  obtain ⟨ao, cap, rfl, h1, h2, _, h4⟩ := h
  exact ⟨ao, cap, rfl, h1, h2, fun h => by obtain ⟨b, o, e, _⟩ := h4 h; exact ⟨b, o, e⟩⟩
theorem JobsAt.read {lo hi b o n cap k : Nat} {w : World} {js : List J} (h : JobsAt lo hi w (.slice (some ⟨b, o, none⟩) n cap) js) (hk : k < js.length) :
    w.cell? ⟨b, o + k * 3, none⟩ = some (.int .i64 js[k].s) ∧ w.cell? ⟨b, o + k * 3 + 1, none⟩ = some (.int .i64 js[k].d) ∧ w.cell? ⟨b, o + k * 3 + 2, none⟩ = some (.int .i64 js[k].g) := by
  obtain ⟨ao, cap', e, -, -, -, h4⟩ := h
  simp only [Value.slice.injEq] at e
  obtain ⟨rfl, -, -⟩ := e
  obtain ⟨b', o', e, -, -, hc⟩ := h4 (by omega)
  simp only [Option.some.injEq, Addr.mk.injEq] at e
  obtain ⟨rfl, rfl, -⟩ := e
  exact (hc k hk).1
/-- What the order's k-th is, and when it is done. -/
theorem ends_fact {js : List J} {os : List Int} (h : okB js os = true) {k : Nat} (hk : k < os.length) : ∃ x : Nat, os[k] = x ∧ x < js.length ∧ tSum js os (k + 1) = tSum js os k + (jAt js x).s ∧
    ∃ hx : x < (endsTo js os os.length).length, (endsTo js os os.length)[x] = tSum js os (k + 1) := by
  have ho := ok_ord h
  obtain ⟨x, hx, hxl⟩ := ordB_at ho hk
  have he := ends_at ho hk os.length hk (Nat.le_refl _)
  rw [hx, Int.toNat_natCast] at he
  have hlen : x < (endsTo js os os.length).length := by rw [endsTo_length]; exact hxl
  refine ⟨x, hx, hxl, by rw [tSum_succ hk hx hxl, jAt_lt hxl], hlen, ?_⟩
  rw [getD_lt hlen] at he
  exact he
end Go.Proofs.YtfjemnjdkniibaaDoor
