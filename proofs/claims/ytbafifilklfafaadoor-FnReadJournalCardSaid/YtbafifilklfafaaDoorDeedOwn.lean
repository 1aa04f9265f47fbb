/-
  Slices of deeds that the call itself owns; two own slices apart. No walk.
-/
import Derived.Test.YtbafifilklfafaaDoorMillOwn
import Derived.Test.YtbafifilklfafaaDoorHelpJ
namespace Go.Proofs.YtbafifilklfafaaDoor
open Go.RowKit

theorem JobsAt.nil (lo hi : Nat) (w : World) (ao : Option Addr) (cap : Nat) (hc : cap ≤ 9223372036854775807) (h : hi ≤ w.heap.size) : JobsAt lo hi w (.slice ao 0 cap) [] :=
  ⟨ao, cap, rfl, Nat.zero_le _, hc, h, fun h => absurd h (Nat.not_lt_zero _)⟩
/-- The cells of Js, one behind the other. -/
def dL (x : J) : List Value := [.int .i64 x.s, .int .i64 x.d, .int .i64 x.g]
def flatD (xs : List J) : List Value := xs.flatMap dL
theorem flatD_len : ∀ xs : List J, (flatD xs).length = xs.length * 3
  | [] => rfl
  | x :: xs => by
    have := flatD_len xs
    simp only [flatD, dL, List.flatMap_cons, List.length_append, List.length_cons, List.length_nil] at this ⊢
    omega
theorem flatD_append (a b : List J) : flatD (a ++ b) = flatD a ++ flatD b := by simp [flatD]
theorem flatD_at : ∀ (xs : List J) (i : Nat) (h : i < xs.length), (flatD xs)[i * 3]? = some (.int .i64 xs[i].s) ∧ (flatD xs)[i * 3 + 1]? = some (.int .i64 xs[i].d) ∧ (flatD xs)[i * 3 + 2]? = some (.int .i64 xs[i].g)
  | x :: xs, 0, _ => ⟨rfl, rfl, rfl⟩
  | x :: xs, i + 1, h => by
    have := flatD_at xs i (by simpa using h)
    have e : flatD (x :: xs) = dL x ++ flatD xs := rfl
    rw [e, show (i + 1) * 3 = i * 3 + 3 by omega, show i * 3 + 3 + 1 = i * 3 + 1 + 3 by omega, show i * 3 + 3 + 2 = i * 3 + 2 + 3 by omega]
    rw [List.getElem?_append_right (by simp [dL]), List.getElem?_append_right (by simp [dL]), List.getElem?_append_right (by simp [dL])]
    simpa [dL] using this
theorem flatD_one : ∀ (xs : List J), ∀ u ∈ flatD xs, u.oneCell' = true := by
  intro xs u hu
  simp only [flatD, List.mem_flatMap] at hu
  obtain ⟨x, _, hx⟩ := hu
  simp [dL] at hx
  rcases hx with rfl | rfl | rfl <;> rfl
theorem ownD_at1 {w : World} {base n g cap : Nat} {xs : List J} (h : w.ownsRow base 25 3 (.slice (some ⟨g, 0, none⟩) n cap) n (flatD xs)) (hn : n = xs.length) : base ≤ g ∧ g < w.heap.size ∧ JobsAt g (g + 1) w (.slice (some ⟨g, 0, none⟩) n cap) xs := by
  subst hn
  have hlt := h.lt g rfl
  obtain ⟨ao, cap', e, h1, h2⟩ := own_slice h
  simp only [Value.slice.injEq] at e
  obtain ⟨-, -, rfl⟩ := e
  refine ⟨hlt.1, hlt.2, some ⟨g, 0, none⟩, cap, rfl, h1, h2, hlt.2, fun _ => ⟨g, 0, rfl, Nat.le_refl _, Nat.lt_succ_self _, fun i hi => ?_⟩⟩
  obtain ⟨f0, f1, f2⟩ := flatD_at xs i hi
  have c := h.cells rfl
  simp only [Nat.zero_add]
  refine ⟨⟨by have := c _ _ f0; rw [adds] at this; exact this, by have := c _ _ f1; rw [adds] at this; exact this, by have := c _ _ f2; rw [adds] at this; exact this⟩, h.frozenAt _, h.frozenAt _, h.frozenAt _⟩
theorem ownD_one {w : World} {base n : Nat} {v : Value} {xs : List J} (h : w.ownsRow base 25 3 v n (flatD xs)) (hn : n = xs.length) (hb : base ≤ w.heap.size) :
    ∃ a z, base ≤ a ∧ a ≤ z ∧ z ≤ w.heap.size ∧ JobsAt a z w v xs ∧ ∀ k, a ≤ k → k < z → v.ownBlock = some k := by
  rcases id h.2 with ⟨rfl, h0⟩ | ⟨g, cap, cur, rfl, -, -, -, -, -, -⟩
  · have : xs = [] := List.eq_nil_of_length_eq_zero (by omega)
    subst this
    exact ⟨base, base, Nat.le_refl _, Nat.le_refl _, hb, JobsAt.nil _ _ _ _ _ (by omega) hb, fun k h1 h2 => by omega⟩
  · obtain ⟨h1, h2, h3⟩ := ownD_at1 h hn
    exact ⟨g, g + 1, h1, by omega, h2, h3, fun k k1 k2 => by show some g = some k; rw [show g = k by omega]⟩
theorem ownD_at {w : World} {base n : Nat} {v : Value} {xs : List J} (h : w.ownsRow base 25 3 v n (flatD xs)) (hn : n = xs.length) (hb : base ≤ w.heap.size) : JobsAt base w.heap.size w v xs := by
  obtain ⟨a, z, h1, h2, h3, h4, -⟩ := ownD_one h hn hb
  exact h4.mono h1 h3 (Nat.le_refl _)

theorem Apart.grow {u u' v : Value} {w : World} {base T sz n : Nat} {cs : List Value} (h : Apart u v) (hv : w.ownsRow base T sz v n cs) (h4 : u'.ownBlock = u.ownBlock ∨ u'.ownBlock = some w.heap.size) : Apart u' v := fun k h1 h2 => by
  rcases h4 with e | e
  · exact h k (e ▸ h1) h2
  · rw [e] at h1
    have := (hv.lt k h2).2
    have := Option.some.inj h1
    omega
theorem ownsRow_apart {w w' : World} {u v : Value} {base T sz n : Nat} {cs : List Value} (h : w.ownsRow base T sz v n cs) (hg : w.grownBy w' u.ownBlock) (ha : Apart u v) : w'.ownsRow base T sz v n cs :=
  ownsRow_grown h hg fun k hk e => ha k e.symm hk
/-- What ClearDeeds of both answer. -/
def DeedsNew (base : Nat) (js : List J) (w : World) (e : Ending) (w' : World) : Prop := ∃ v, e = .returned v ∧ w'.ownsRow base 25 3 v js.length (flatD js) ∧ Below base w w'
end Go.Proofs.YtbafifilklfafaaDoor
