/-
  Parts of the proof, of 1 texts: what MillV show. Conditions: each theorem states its own.
-/
import Derived.Test.YtajjnciookhamaaGreatM01
import Derived.Test.YtajjnciookhamaaGreatM04
namespace Go.Proofs.YtajjnciookhamaaGreat
open Go.RowKit
/-- v is a slice of the Sts xs. -/
def StAt (lo hi : Nat) (w : World) (v : Value) (xs : List St) : Prop :=
  ∃ (ao : Option Addr) (cap : Nat), v = .slice ao xs.length cap ∧ xs.length ≤ cap ∧ cap ≤ 9223372036854775807 ∧ hi ≤ w.heap.size ∧
    (0 < xs.length → ∃ b o, ao = some ⟨b, o, none⟩ ∧ lo ≤ b ∧ b < hi ∧
      ∀ i (h : i < xs.length), (w.cell? ⟨b, o + i * 5, none⟩ = some (.int .i64 xs[i].c) ∧ w.cell? ⟨b, o + i * 5 + 1, none⟩ = some (.int .i64 xs[i].m) ∧ w.cell? ⟨b, o + i * 5 + 2, none⟩ = some (.int .i64 xs[i].s) ∧ w.cell? ⟨b, o + i * 5 + 3, none⟩ = some (.int .i64 xs[i].p) ∧ w.cell? ⟨b, o + i * 5 + 4, none⟩ = some (.int .i64 xs[i].k)) ∧
        w.frozen? ⟨b, o + i * 5, none⟩ = false ∧ w.frozen? ⟨b, o + i * 5 + 1, none⟩ = false ∧ w.frozen? ⟨b, o + i * 5 + 2, none⟩ = false ∧ w.frozen? ⟨b, o + i * 5 + 3, none⟩ = false ∧ w.frozen? ⟨b, o + i * 5 + 4, none⟩ = false)
theorem StAt.keep {lo hi : Nat} {w w' : World} {v : Value} {xs : List St} (h : StAt lo hi w v xs) (k : Keeps lo hi w w') (hs : w.heap.size ≤ w'.heap.size) : StAt lo hi w' v xs := by
  obtain ⟨ao, cap, e, h1, h2, h3, h4⟩ := h
  refine ⟨ao, cap, e, h1, h2, by omega, fun hn => ?_⟩
  obtain ⟨b, o, ea, hb1, hb2, hc⟩ := h4 hn
  refine ⟨b, o, ea, hb1, hb2, fun i hi => ?_⟩
  rw [k.cell hb1 hb2, k.cell hb1 hb2, k.cell hb1 hb2, k.cell hb1 hb2, k.cell hb1 hb2, k.frozen hb1 hb2, k.frozen hb1 hb2, k.frozen hb1 hb2, k.frozen hb1 hb2, k.frozen hb1 hb2]
  exact hc i hi
theorem StAt.lt {lo hi : Nat} {w : World} {v : Value} {xs : List St} (h : StAt lo hi w v xs) : hi ≤ w.heap.size := by
  obtain ⟨_, _, _, _, _, h3, _⟩ := h; exact h3
theorem StAt.below {lo hi : Nat} {w w' : World} {v : Value} {xs : List St} (h : StAt lo hi w v xs) (k : Below w.heap.size w w') : StAt lo hi w' v xs :=
  h.keep (.of_below k h.lt) k.size
theorem StAt.other {lo hi l m : Nat} {w w' : World} {v : Value} {xs : List St} (h : StAt lo hi w v xs) (k : Other l m w w') (hd : hi ≤ l ∨ m ≤ lo) : StAt lo hi w' v xs :=
  h.keep (k.keeps h.lt hd) k.size
theorem StAt.mono {lo hi lo' hi' : Nat} {w : World} {v : Value} {xs : List St} (h : StAt lo hi w v xs) (h1 : lo' ≤ lo) (h2 : hi ≤ hi') (h3 : hi' ≤ w.heap.size) : StAt lo' hi' w v xs := by
  obtain ⟨ao, cap, e, a1, a2, a3, a4⟩ := h
  refine ⟨ao, cap, e, a1, a2, h3, fun hn => ?_⟩
  obtain ⟨b, o, ea, hb1, hb2, hc⟩ := a4 hn
  exact ⟨b, o, ea, by omega, by omega, hc⟩
theorem StAt.len {lo hi : Nat} {w : World} {v : Value} {xs : List St} (h : StAt lo hi w v xs) : xs.length ≤ 9223372036854775807 := by
  obtain ⟨_, _, _, _, _, _, _⟩ := h; omega
theorem StAt.nil (lo hi : Nat) (w : World) (ao : Option Addr) (cap : Nat) (hc : cap ≤ 9223372036854775807) (h : hi ≤ w.heap.size) : StAt lo hi w (.slice ao 0 cap) [] :=
  ⟨ao, cap, rfl, Nat.zero_le _, hc, h, fun h => absurd h (Nat.not_lt_zero _)⟩
theorem StAt.of_row {w : World} {g T n m : Nat} {f : Nat → Value} (h : w.rowIs g T m f) {xs : List St} (hn : xs.length ≤ n) (hm : n * 5 ≤ m) (hn' : n ≤ 9223372036854775807) (hf : ∀ i (_ : i < xs.length), f (i * 5) = .int .i64 xs[i].c ∧ f (i * 5 + 1) = .int .i64 xs[i].m ∧ f (i * 5 + 2) = .int .i64 xs[i].s ∧ f (i * 5 + 3) = .int .i64 xs[i].p ∧ f (i * 5 + 4) = .int .i64 xs[i].k) {lo : Nat} (hlo : lo ≤ g) :
    StAt lo w.heap.size w (.slice (some ⟨g, 0, none⟩) xs.length n) xs :=
  ⟨_, n, rfl, hn, hn', Nat.le_refl _, fun _ => ⟨g, 0, rfl, hlo, h.lt, fun i hi => by
    obtain ⟨f0, f1, f2, f3, f4⟩ := hf i hi
    rw [Nat.zero_add]
    exact ⟨⟨by rw [h.cell (by omega), f0], by rw [h.cell (by omega), f1], by rw [h.cell (by omega), f2], by rw [h.cell (by omega), f3], by rw [h.cell (by omega), f4]⟩, h.frozen _, h.frozen _, h.frozen _, h.frozen _, h.frozen _⟩⟩⟩
theorem StAt.of_row1 {w : World} {g T n m : Nat} {f : Nat → Value} (h : w.rowIs g T m f) {xs : List St} (hn : xs.length ≤ n) (hm : n * 5 ≤ m) (hn' : n ≤ 9223372036854775807) (hf : ∀ i (_ : i < xs.length), f (i * 5) = .int .i64 xs[i].c ∧ f (i * 5 + 1) = .int .i64 xs[i].m ∧ f (i * 5 + 2) = .int .i64 xs[i].s ∧ f (i * 5 + 3) = .int .i64 xs[i].p ∧ f (i * 5 + 4) = .int .i64 xs[i].k) :
    StAt g (g + 1) w (.slice (some ⟨g, 0, none⟩) xs.length n) xs :=
  ⟨_, n, rfl, hn, hn', h.lt, fun _ => ⟨g, 0, rfl, Nat.le_refl _, Nat.lt_succ_self _, fun i hi => by
    obtain ⟨f0, f1, f2, f3, f4⟩ := hf i hi
    rw [Nat.zero_add]
    exact ⟨⟨by rw [h.cell (by omega), f0], by rw [h.cell (by omega), f1], by rw [h.cell (by omega), f2], by rw [h.cell (by omega), f3], by rw [h.cell (by omega), f4]⟩, h.frozen _, h.frozen _, h.frozen _, h.frozen _, h.frozen _⟩⟩⟩
/-- One of the slice written, field by field. -/
theorem StAt.set {lo hi b o n cap k : Nat} {w : World} {xs : List St} (h : StAt lo hi w (.slice (some ⟨b, o, none⟩) n cap) xs) (hk : k < xs.length) (hn : n = xs.length) (x0 x1 x2 x3 x4 : Int) :
    StAt lo hi (((((w.setCell ⟨b, o + k * 5, none⟩ (.int .i64 x0)).setCell ⟨b, o + k * 5 + 1, none⟩ (.int .i64 x1)).setCell ⟨b, o + k * 5 + 2, none⟩ (.int .i64 x2)).setCell ⟨b, o + k * 5 + 3, none⟩ (.int .i64 x3)).setCell ⟨b, o + k * 5 + 4, none⟩ (.int .i64 x4)) (.slice (some ⟨b, o, none⟩) n cap) (xs.set k ⟨x0, x1, x2, x3, x4⟩) := by
  obtain ⟨ao, cap', e, h1, h2, h3, h4⟩ := h
  simp only [Value.slice.injEq] at e
  obtain ⟨rfl, -, rfl⟩ := e
  refine ⟨some ⟨b, o, none⟩, cap, by simp [hn], by simpa using h1, h2, by simpa [World.setCell] using h3, fun _ => ?_⟩
  obtain ⟨b', o', e, hb1, hb2, hc⟩ := h4 (by omega)
  simp only [Option.some.injEq, Addr.mk.injEq] at e
  obtain ⟨rfl, rfl, -⟩ := e
  refine ⟨b, o, rfl, hb1, hb2, fun i hi => ?_⟩
  have hi' : i < xs.length := by simpa using hi
  obtain ⟨⟨c0, c1, c2, c3, c4⟩, d⟩ := hc i hi'
  refine ⟨?_, by simp only [World.frozen?_setCell]; exact d⟩
  by_cases e : i = k
  · subst e
    refine ⟨?_, ?_, ?_, ?_, ?_⟩
    · rw [World.cell?_setCell_other _ _ _ _ (addr_ne_off (by omega)), World.cell?_setCell_other _ _ _ _ (addr_ne_off (by omega)), World.cell?_setCell_other _ _ _ _ (addr_ne_off (by omega)), World.cell?_setCell_other _ _ _ _ (addr_ne_off (by omega)), World.cell?_setCell_same _ _ _ (c0)]
      simp
    · rw [World.cell?_setCell_other _ _ _ _ (addr_ne_off (by omega)), World.cell?_setCell_other _ _ _ _ (addr_ne_off (by omega)), World.cell?_setCell_other _ _ _ _ (addr_ne_off (by omega)), World.cell?_setCell_same _ _ _ (by rw [World.cell?_setCell_other _ _ _ _ (addr_ne_off (by omega))]; exact c1)]
      simp
    · rw [World.cell?_setCell_other _ _ _ _ (addr_ne_off (by omega)), World.cell?_setCell_other _ _ _ _ (addr_ne_off (by omega)), World.cell?_setCell_same _ _ _ (by rw [World.cell?_setCell_other _ _ _ _ (addr_ne_off (by omega)), World.cell?_setCell_other _ _ _ _ (addr_ne_off (by omega))]; exact c2)]
      simp
    · rw [World.cell?_setCell_other _ _ _ _ (addr_ne_off (by omega)), World.cell?_setCell_same _ _ _ (by rw [World.cell?_setCell_other _ _ _ _ (addr_ne_off (by omega)), World.cell?_setCell_other _ _ _ _ (addr_ne_off (by omega)), World.cell?_setCell_other _ _ _ _ (addr_ne_off (by omega))]; exact c3)]
      simp
    · rw [World.cell?_setCell_same _ _ _ (by rw [World.cell?_setCell_other _ _ _ _ (addr_ne_off (by omega)), World.cell?_setCell_other _ _ _ _ (addr_ne_off (by omega)), World.cell?_setCell_other _ _ _ _ (addr_ne_off (by omega)), World.cell?_setCell_other _ _ _ _ (addr_ne_off (by omega))]; exact c4)]
      simp
  · rw [List.getElem_set_ne (fun h => e h.symm)]
    refine ⟨?_, ?_, ?_, ?_, ?_⟩
    · rw [World.cell?_setCell_other _ _ _ _ (addr_ne_off (by omega)), World.cell?_setCell_other _ _ _ _ (addr_ne_off (by omega)), World.cell?_setCell_other _ _ _ _ (addr_ne_off (by omega)), World.cell?_setCell_other _ _ _ _ (addr_ne_off (by omega)), World.cell?_setCell_other _ _ _ _ (addr_ne_off (by omega))]; exact c0
    · rw [World.cell?_setCell_other _ _ _ _ (addr_ne_off (by omega)), World.cell?_setCell_other _ _ _ _ (addr_ne_off (by omega)), World.cell?_setCell_other _ _ _ _ (addr_ne_off (by omega)), World.cell?_setCell_other _ _ _ _ (addr_ne_off (by omega)), World.cell?_setCell_other _ _ _ _ (addr_ne_off (by omega))]; exact c1
    · rw [World.cell?_setCell_other _ _ _ _ (addr_ne_off (by omega)), World.cell?_setCell_other _ _ _ _ (addr_ne_off (by omega)), World.cell?_setCell_other _ _ _ _ (addr_ne_off (by omega)), World.cell?_setCell_other _ _ _ _ (addr_ne_off (by omega)), World.cell?_setCell_other _ _ _ _ (addr_ne_off (by omega))]; exact c2
    · rw [World.cell?_setCell_other _ _ _ _ (addr_ne_off (by omega)), World.cell?_setCell_other _ _ _ _ (addr_ne_off (by omega)), World.cell?_setCell_other _ _ _ _ (addr_ne_off (by omega)), World.cell?_setCell_other _ _ _ _ (addr_ne_off (by omega)), World.cell?_setCell_other _ _ _ _ (addr_ne_off (by omega))]; exact c3
    · rw [World.cell?_setCell_other _ _ _ _ (addr_ne_off (by omega)), World.cell?_setCell_other _ _ _ _ (addr_ne_off (by omega)), World.cell?_setCell_other _ _ _ _ (addr_ne_off (by omega)), World.cell?_setCell_other _ _ _ _ (addr_ne_off (by omega)), World.cell?_setCell_other _ _ _ _ (addr_ne_off (by omega))]; exact c4
/-- v is a slice of the Pcs xs. -/
def PcAt (lo hi : Nat) (w : World) (v : Value) (xs : List Pc) : Prop :=
  ∃ (ao : Option Addr) (cap : Nat), v = .slice ao xs.length cap ∧ xs.length ≤ cap ∧ cap ≤ 9223372036854775807 ∧ hi ≤ w.heap.size ∧
    (0 < xs.length → ∃ b o, ao = some ⟨b, o, none⟩ ∧ lo ≤ b ∧ b < hi ∧
      ∀ i (h : i < xs.length), (w.cell? ⟨b, o + i * 2, none⟩ = some (.int .i64 xs[i].l) ∧ w.cell? ⟨b, o + i * 2 + 1, none⟩ = some (.int .i64 xs[i].s)) ∧
        w.frozen? ⟨b, o + i * 2, none⟩ = false ∧ w.frozen? ⟨b, o + i * 2 + 1, none⟩ = false)
theorem PcAt.keep {lo hi : Nat} {w w' : World} {v : Value} {xs : List Pc} (h : PcAt lo hi w v xs) (k : Keeps lo hi w w') (hs : w.heap.size ≤ w'.heap.size) : PcAt lo hi w' v xs := by
  obtain ⟨ao, cap, e, h1, h2, h3, h4⟩ := h
  refine ⟨ao, cap, e, h1, h2, by omega, fun hn => ?_⟩
  obtain ⟨b, o, ea, hb1, hb2, hc⟩ := h4 hn
  refine ⟨b, o, ea, hb1, hb2, fun i hi => ?_⟩
  rw [k.cell hb1 hb2, k.cell hb1 hb2, k.frozen hb1 hb2, k.frozen hb1 hb2]
  exact hc i hi
theorem PcAt.lt {lo hi : Nat} {w : World} {v : Value} {xs : List Pc} (h : PcAt lo hi w v xs) : hi ≤ w.heap.size := by
  obtain ⟨_, _, _, _, _, h3, _⟩ := h; exact h3
theorem PcAt.below {lo hi : Nat} {w w' : World} {v : Value} {xs : List Pc} (h : PcAt lo hi w v xs) (k : Below w.heap.size w w') : PcAt lo hi w' v xs :=
  h.keep (.of_below k h.lt) k.size
theorem PcAt.other {lo hi l m : Nat} {w w' : World} {v : Value} {xs : List Pc} (h : PcAt lo hi w v xs) (k : Other l m w w') (hd : hi ≤ l ∨ m ≤ lo) : PcAt lo hi w' v xs :=
  h.keep (k.keeps h.lt hd) k.size
theorem PcAt.mono {lo hi lo' hi' : Nat} {w : World} {v : Value} {xs : List Pc} (h : PcAt lo hi w v xs) (h1 : lo' ≤ lo) (h2 : hi ≤ hi') (h3 : hi' ≤ w.heap.size) : PcAt lo' hi' w v xs := by
  obtain ⟨ao, cap, e, a1, a2, a3, a4⟩ := h
  refine ⟨ao, cap, e, a1, a2, h3, fun hn => ?_⟩
  obtain ⟨b, o, ea, hb1, hb2, hc⟩ := a4 hn
  exact ⟨b, o, ea, by omega, by omega, hc⟩
theorem PcAt.len {lo hi : Nat} {w : World} {v : Value} {xs : List Pc} (h : PcAt lo hi w v xs) : xs.length ≤ 9223372036854775807 := by
  obtain ⟨_, _, _, _, _, _, _⟩ := h; omega
theorem PcAt.nil (lo hi : Nat) (w : World) (ao : Option Addr) (cap : Nat) (hc : cap ≤ 9223372036854775807) (h : hi ≤ w.heap.size) : PcAt lo hi w (.slice ao 0 cap) [] :=
  ⟨ao, cap, rfl, Nat.zero_le _, hc, h, fun h => absurd h (Nat.not_lt_zero _)⟩
theorem PcAt.of_row {w : World} {g T n m : Nat} {f : Nat → Value} (h : w.rowIs g T m f) {xs : List Pc} (hn : xs.length ≤ n) (hm : n * 2 ≤ m) (hn' : n ≤ 9223372036854775807) (hf : ∀ i (_ : i < xs.length), f (i * 2) = .int .i64 xs[i].l ∧ f (i * 2 + 1) = .int .i64 xs[i].s) {lo : Nat} (hlo : lo ≤ g) :
    PcAt lo w.heap.size w (.slice (some ⟨g, 0, none⟩) xs.length n) xs :=
  ⟨_, n, rfl, hn, hn', Nat.le_refl _, fun _ => ⟨g, 0, rfl, hlo, h.lt, fun i hi => by
    obtain ⟨f0, f1⟩ := hf i hi
    rw [Nat.zero_add]
    exact ⟨⟨by rw [h.cell (by omega), f0], by rw [h.cell (by omega), f1]⟩, h.frozen _, h.frozen _⟩⟩⟩
theorem PcAt.of_row1 {w : World} {g T n m : Nat} {f : Nat → Value} (h : w.rowIs g T m f) {xs : List Pc} (hn : xs.length ≤ n) (hm : n * 2 ≤ m) (hn' : n ≤ 9223372036854775807) (hf : ∀ i (_ : i < xs.length), f (i * 2) = .int .i64 xs[i].l ∧ f (i * 2 + 1) = .int .i64 xs[i].s) :
    PcAt g (g + 1) w (.slice (some ⟨g, 0, none⟩) xs.length n) xs :=
  ⟨_, n, rfl, hn, hn', h.lt, fun _ => ⟨g, 0, rfl, Nat.le_refl _, Nat.lt_succ_self _, fun i hi => by
    obtain ⟨f0, f1⟩ := hf i hi
    rw [Nat.zero_add]
    exact ⟨⟨by rw [h.cell (by omega), f0], by rw [h.cell (by omega), f1]⟩, h.frozen _, h.frozen _⟩⟩⟩
/-- One of the slice written, field by field. -/
theorem PcAt.set {lo hi b o n cap k : Nat} {w : World} {xs : List Pc} (h : PcAt lo hi w (.slice (some ⟨b, o, none⟩) n cap) xs) (hk : k < xs.length) (hn : n = xs.length) (x0 x1 : Int) :
    PcAt lo hi ((w.setCell ⟨b, o + k * 2, none⟩ (.int .i64 x0)).setCell ⟨b, o + k * 2 + 1, none⟩ (.int .i64 x1)) (.slice (some ⟨b, o, none⟩) n cap) (xs.set k ⟨x0, x1⟩) := by
  obtain ⟨ao, cap', e, h1, h2, h3, h4⟩ := h
  simp only [Value.slice.injEq] at e
  obtain ⟨rfl, -, rfl⟩ := e
  refine ⟨some ⟨b, o, none⟩, cap, by simp [hn], by simpa using h1, h2, by simpa [World.setCell] using h3, fun _ => ?_⟩
  obtain ⟨b', o', e, hb1, hb2, hc⟩ := h4 (by omega)
  simp only [Option.some.injEq, Addr.mk.injEq] at e
  obtain ⟨rfl, rfl, -⟩ := e
  refine ⟨b, o, rfl, hb1, hb2, fun i hi => ?_⟩
  have hi' : i < xs.length := by simpa using hi
  obtain ⟨⟨c0, c1⟩, d⟩ := hc i hi'
  refine ⟨?_, by simp only [World.frozen?_setCell]; exact d⟩
  by_cases e : i = k
  · subst e
    refine ⟨?_, ?_⟩
    · rw [World.cell?_setCell_other _ _ _ _ (addr_ne_off (by omega)), World.cell?_setCell_same _ _ _ (c0)]
      simp
    · rw [World.cell?_setCell_same _ _ _ (by rw [World.cell?_setCell_other _ _ _ _ (addr_ne_off (by omega))]; exact c1)]
      simp
  · rw [List.getElem_set_ne (fun h => e h.symm)]
    refine ⟨?_, ?_⟩
    · rw [World.cell?_setCell_other _ _ _ _ (addr_ne_off (by omega)), World.cell?_setCell_other _ _ _ _ (addr_ne_off (by omega))]; exact c0
    · rw [World.cell?_setCell_other _ _ _ _ (addr_ne_off (by omega)), World.cell?_setCell_other _ _ _ _ (addr_ne_off (by omega))]; exact c1
theorem rowIs_put2 {w : World} {g T n : Nat} {f : Nat → Value} (h : w.rowIs g T n f) (a : Nat) (x0 x1 : Value) :
    ∃ f', ((w.setCell ⟨g, a, none⟩ x0).setCell ⟨g, a + 1, none⟩ x1).rowIs g T n f' ∧ f' (a) = x0 ∧ f' (a + 1) = x1 ∧ ∀ i, i ≠ a → i ≠ a + 1 → f' i = f i := by
  refine ⟨_, ((h.set (a) x0).set (a + 1) x1), ?_, ?_, fun i h0 h1 => ?_⟩
  · simp
  · simp
  · simp [h0, h1]
theorem rowIs_put3 {w : World} {g T n : Nat} {f : Nat → Value} (h : w.rowIs g T n f) (a : Nat) (x0 x1 x2 : Value) :
    ∃ f', (((w.setCell ⟨g, a, none⟩ x0).setCell ⟨g, a + 1, none⟩ x1).setCell ⟨g, a + 2, none⟩ x2).rowIs g T n f' ∧ f' (a) = x0 ∧ f' (a + 1) = x1 ∧ f' (a + 2) = x2 ∧ ∀ i, i ≠ a → i ≠ a + 1 → i ≠ a + 2 → f' i = f i := by
  refine ⟨_, (((h.set (a) x0).set (a + 1) x1).set (a + 2) x2), ?_, ?_, ?_, fun i h0 h1 h2 => ?_⟩
  · simp
  · simp
  · simp
  · simp [h0, h1, h2]
theorem rowIs_put5 {w : World} {g T n : Nat} {f : Nat → Value} (h : w.rowIs g T n f) (a : Nat) (x0 x1 x2 x3 x4 : Value) :
    ∃ f', (((((w.setCell ⟨g, a, none⟩ x0).setCell ⟨g, a + 1, none⟩ x1).setCell ⟨g, a + 2, none⟩ x2).setCell ⟨g, a + 3, none⟩ x3).setCell ⟨g, a + 4, none⟩ x4).rowIs g T n f' ∧ f' (a) = x0 ∧ f' (a + 1) = x1 ∧ f' (a + 2) = x2 ∧ f' (a + 3) = x3 ∧ f' (a + 4) = x4 ∧ ∀ i, i ≠ a → i ≠ a + 1 → i ≠ a + 2 → i ≠ a + 3 → i ≠ a + 4 → f' i = f i := by
  refine ⟨_, (((((h.set (a) x0).set (a + 1) x1).set (a + 2) x2).set (a + 3) x3).set (a + 4) x4), ?_, ?_, ?_, ?_, ?_, fun i h0 h1 h2 h3 h4 => ?_⟩
  · simp
  · simp
  · simp
  · simp
  · simp
  · simp [h0, h1, h2, h3, h4]
end Go.Proofs.YtajjnciookhamaaGreat
