/-
  Mills in memory: their slices, read or owned. No walk.
-/
import Derived.Test.YtbafifilklfafaaDoorMillV
import Derived.Test.YtbafifilklfafaaDoorWalkB
import Derived.Laws.AppendOwn
import Derived.Deep.AppendLies
namespace Go.Proofs.YtbafifilklfafaaDoor
open Go.RowKit

theorem ownsRow_other {w w' : World} {base T sz lo hi n : Nat} {v : Value} {cs : List Value} (h : w.ownsRow base T sz v n cs) (k : Other lo hi w w') (hd : ∀ g, v.ownBlock = some g → g < lo ∨ hi ≤ g) : w'.ownsRow base T sz v n cs := by
  refine ⟨h.1, ?_⟩
  rcases h.2 with h | ⟨g, cap, cur, e, h0, h1, r⟩
  · exact .inl h
  · refine .inr ⟨g, cap, cur, e, h0, ?_, r⟩
    have hlt := (Array.getElem?_eq_some_iff.1 h1).1
    rw [k.block g hlt (hd g (by rw [e]; rfl))]
    exact h1
theorem ownsRow_below {w w' : World} {base T sz B n : Nat} {v : Value} {cs : List Value} (h : w.ownsRow base T sz v n cs) (k : Below B w w') (hB : w.heap.size ≤ B) : w'.ownsRow base T sz v n cs := by
  refine ⟨h.1, ?_⟩
  rcases h.2 with h | ⟨g, cap, cur, e, h0, h1, r⟩
  · exact .inl h
  · refine .inr ⟨g, cap, cur, e, h0, ?_, r⟩
    have hlt := (Array.getElem?_eq_some_iff.1 h1).1
    rw [k.block g (by omega)]
    exact h1
theorem ownsRow_mono {w : World} {base base' T sz n : Nat} {v : Value} {cs : List Value} (h : w.ownsRow base T sz v n cs) (hb : base' ≤ base) : w.ownsRow base' T sz v n cs := by
  refine ⟨h.1, ?_⟩
  rcases h.2 with h | ⟨g, cap, cur, e, h0, h1, r⟩
  · exact .inl h
  · exact .inr ⟨g, cap, cur, e, by omega, h1, r⟩
theorem ownsRow_grown {w w' : World} {row : Option Nat} {base T sz n : Nat} {v : Value} {cs : List Value} (h : w.ownsRow base T sz v n cs) (hg : w.grownBy w' row) (hd : ∀ k, v.ownBlock = some k → some k ≠ row) : w'.ownsRow base T sz v n cs := by
  refine ⟨h.1, ?_⟩
  rcases h.2 with h | ⟨g, cap, cur, e, h0, h1, r⟩
  · exact .inl h
  · refine .inr ⟨g, cap, cur, e, h0, ?_, r⟩
    have hlt := (Array.getElem?_eq_some_iff.1 h1).1
    rw [hg.block g hlt (hd g (by rw [e]; rfl))]
    exact h1
theorem own_slice {w : World} {base T sz n : Nat} {v : Value} {cs : List Value} (h : w.ownsRow base T sz v n cs) : ∃ ao cap, v = .slice ao n cap ∧ n ≤ cap ∧ cap ≤ 9223372036854775807 := by
  rcases h.2 with ⟨rfl, rfl⟩ | ⟨g, cap, cur, e, _, _, h1, h2, _⟩
  · exact ⟨none, 0, rfl, Nat.le_refl _, by omega⟩
  · exact ⟨_, cap, e, h1, by unfold maxLen at h2; exact h2⟩
theorem adds (g i : Nat) : (⟨g, 0, none⟩ : Addr).add i = ⟨g, i, none⟩ := by unfold Addr.add; split <;> simp_all
theorem lit_cells (w : World) (cs : List Value) (T : Nat) : ∀ j u, cs[j]? = some u → (w.alloc (.cells cs.toArray T)).cell? ((⟨w.heap.size, 0, none⟩ : Addr).add j) = some u := by
  intro j u hu
  rw [adds]
  have h := heap_alloc_new w (.cells cs.toArray T)
  unfold World.cell?
  simp only [h]
  simpa using hu
theorem Other.step {lo hi B : Nat} {a b c : World} (h : Other lo hi a b) (k : Below B b c) (hB : a.heap.size ≤ B) : Other lo hi a c :=
  ⟨k.os.trans h.os, k.tape.trans h.tape, k.output.trans h.output, Nat.le_trans h.size k.size, fun i hi ho => (k.block i (by omega)).trans (h.block i hi ho)⟩
theorem Below.grow {base T sz n B : Nat} {w w' : World} {v : Value} {cs : List Value} (hg : w.grownBy w' v.ownBlock) (ho : w.ownsRow base T sz v n cs) (hb : B ≤ base) (hB : B ≤ w.heap.size) : Below B w w' :=
  (Below.refl _ _).grown hg hB fun k hk => Nat.le_trans hb (ho.lt k hk).1

def flatI (xs : List Int) : List Value := xs.map (Value.int .i64)
theorem flatI_one (xs : List Int) : ∀ u ∈ flatI xs, u.oneCell' = true := by
  intro u hu
  obtain ⟨y, _, rfl⟩ := List.mem_map.1 hu
  rfl
theorem ownI_at1 {w : World} {base n g cap : Nat} {xs : List Int} (h : w.ownsRow base 3 1 (.slice (some ⟨g, 0, none⟩) n cap) n (flatI xs)) (hn : n = xs.length) : base ≤ g ∧ g < w.heap.size ∧ IntsAt g (g + 1) w (.slice (some ⟨g, 0, none⟩) n cap) xs := by
  subst hn
  have hlt := h.lt g rfl
  obtain ⟨ao, cap', e, h1, h2⟩ := own_slice h
  simp only [Value.slice.injEq] at e
  obtain ⟨-, -, rfl⟩ := e
  refine ⟨hlt.1, hlt.2, some ⟨g, 0, none⟩, cap, rfl, h1, h2, hlt.2, fun _ => ⟨g, 0, rfl, Nat.le_refl _, Nat.lt_succ_self _, fun i hi => ?_⟩⟩
  have c := h.cells rfl i (.int .i64 xs[i]) (by simp [flatI, hi])
  rw [adds] at c
  rw [Nat.zero_add]
  exact ⟨c, h.frozenAt _⟩
theorem IntsAt.none (lo hi : Nat) (w : World) (ao : Option Addr) (cap : Nat) (hc : cap ≤ 9223372036854775807) (h : hi ≤ w.heap.size) : IntsAt lo hi w (.slice ao 0 cap) [] :=
  ⟨ao, cap, rfl, Nat.zero_le _, hc, h, fun h => absurd h (Nat.not_lt_zero _)⟩
theorem ownI_one {w : World} {base n : Nat} {v : Value} {xs : List Int} (h : w.ownsRow base 3 1 v n (flatI xs)) (hn : n = xs.length) (hb : base ≤ w.heap.size) :
    ∃ a z, base ≤ a ∧ a ≤ z ∧ z ≤ w.heap.size ∧ IntsAt a z w v xs ∧ z ≤ a + 1 ∧ ∀ k, a ≤ k → k < z → v.ownBlock = some k := by
  rcases id h.2 with ⟨rfl, h0⟩ | ⟨g, cap, cur, rfl, -, -, -, -, -, -⟩
  · have : xs = [] := List.eq_nil_of_length_eq_zero (by omega)
    subst this
    exact ⟨base, base, Nat.le_refl _, Nat.le_refl _, hb, IntsAt.none _ _ _ _ _ (by omega) hb, by omega, fun k h1 h2 => by omega⟩
  · obtain ⟨h1, h2, h3⟩ := ownI_at1 h hn
    exact ⟨g, g + 1, h1, by omega, h2, h3, Nat.le_refl _, fun k k1 k2 => by show some g = some k; rw [show g = k by omega]⟩
theorem ownI_at {w : World} {base n : Nat} {v : Value} {xs : List Int} (h : w.ownsRow base 3 1 v n (flatI xs)) (hn : n = xs.length) (hb : base ≤ w.heap.size) : IntsAt base w.heap.size w v xs := by
  obtain ⟨a, z, h1, h2, h3, h4, -⟩ := ownI_one h hn hb
  exact h4.mono h1 h3 (Nat.le_refl _)

def Apart (u v : Value) : Prop := ∀ k, u.ownBlock = some k → v.ownBlock ≠ some k
theorem Apart.symm {u v : Value} (h : Apart u v) : Apart v u := fun k h1 h2 => h k h2 h1
theorem apart_new {w w' : World} {base B T T' sz sz' n n' : Nat} {u v : Value} {cs cs' : List Value} (h : w.ownsRow base T sz u n cs) (h' : w'.ownsRow B T' sz' v n' cs') (hB : w.heap.size ≤ B) : Apart u v := fun k h1 h2 => by
  have a := (h.lt k h1).2
  have b := (h'.lt k h2).1
  omega
theorem apart_nil (v : Value) (c : Nat) : Apart (.slice none 0 c) v := fun k h1 => by simp [Value.ownBlock] at h1
end Go.Proofs.YtbafifilklfafaaDoor
