/-
  Parts of the proofs over mills, of: MillV, MillOwn. Conditions: each theorem states its own.
-/
import Derived.Deep.AppendLies
import Derived.Test.YtkhecelpafojdaaGreatDoorF04
import Derived.Test.YtkhecelpafojdaaGreatDoorF05
set_option linter.unusedSimpArgs false
set_option linter.unusedVariables false
set_option maxRecDepth 10000
set_option maxHeartbeats 64000000
namespace Go.Proofs.YtkhecelpafojdaaGreatDoor
open Go.RowKit
abbrev mC (a : Option Addr) (c : Nat) (b : Option Addr) (d : Nat) (e : Option Addr) (f : Nat) (g : Option Addr) (h : Nat) (m : Mi) : List Value := [.slice a m.store.length c, .int .i64 m.rule.lc, .int .i64 m.rule.hc, .int .i64 m.rule.lm, .int .i64 m.rule.hm, .int .i64 m.rule.ls, .int .i64 m.rule.hs, .int .i64 m.strand, .slice b m.pieces.length d, .slice e m.low.length f, .slice g m.high.length h, .int .i64 m.scrap]
def bW (lo hi : Nat) (w : World) (v : Value) (xs : List St) : Prop :=
 ∃ (ao : Option Addr) (cap : Nat), v = .slice ao xs.length cap ∧ xs.length ≤ cap ∧ cap ≤ 9223372036854775807 ∧ hi ≤ w.heap.size ∧
  (0 < xs.length → ∃ b o, ao = some ⟨b, o, none⟩ ∧ lo ≤ b ∧ b < hi ∧
    ∀ i (h : i < xs.length), (w.cell? ⟨b, o + i * 5, none⟩ = some (.int .i64 xs[i].c) ∧ w.cell? ⟨b, o + i * 5 + 1, none⟩ = some (.int .i64 xs[i].m) ∧ w.cell? ⟨b, o + i * 5 + 2, none⟩ = some (.int .i64 xs[i].s) ∧ w.cell? ⟨b, o + i * 5 + 3, none⟩ = some (.int .i64 xs[i].p) ∧ w.cell? ⟨b, o + i * 5 + 4, none⟩ = some (.int .i64 xs[i].k)) ∧
     w.frozen? ⟨b, o + i * 5, none⟩ = false ∧ w.frozen? ⟨b, o + i * 5 + 1, none⟩ = false ∧ w.frozen? ⟨b, o + i * 5 + 2, none⟩ = false ∧ w.frozen? ⟨b, o + i * 5 + 3, none⟩ = false ∧ w.frozen? ⟨b, o + i * 5 + 4, none⟩ = false)
theorem bW.keep {lo hi : Nat} {w w' : World} {v : Value} {xs : List St} (h : bW lo hi w v xs) (k : iH lo hi w w') (hs : w.heap.size ≤ w'.heap.size) : bW lo hi w' v xs := by
 obtain ⟨ao, cap, e, h1, h2, h3, h4⟩ := h;refine ⟨ao, cap, e, h1, h2, by omega, fun hn => ?_⟩;obtain ⟨b, o, ea, hb1, hb2, hc⟩ := h4 hn;refine ⟨b, o, ea, hb1, hb2, fun i hi => ?_⟩;rw [k.cell hb1 hb2, k.cell hb1 hb2, k.cell hb1 hb2, k.cell hb1 hb2, k.cell hb1 hb2, k.frozen hb1 hb2, k.frozen hb1 hb2, k.frozen hb1 hb2, k.frozen hb1 hb2, k.frozen hb1 hb2];exact hc i hi
theorem bW.lt {lo hi : Nat} {w : World} {v : Value} {xs : List St} (h : bW lo hi w v xs) : hi ≤ w.heap.size := by
 obtain ⟨_, _, _, _, _, h3, _⟩ := h; exact h3
theorem bW.below {lo hi : Nat} {w w' : World} {v : Value} {xs : List St} (h : bW lo hi w v xs) (k : Below w.heap.size w w') : bW lo hi w' v xs :=
 h.keep (.of_below k h.lt) k.size
theorem bW.other {lo hi l m : Nat} {w w' : World} {v : Value} {xs : List St} (h : bW lo hi w v xs) (k : ai l m w w') (hd : hi ≤ l ∨ m ≤ lo) : bW lo hi w' v xs :=
 h.keep (k.keeps h.lt hd) k.size
theorem bW.mono {lo hi lo' hi' : Nat} {w : World} {v : Value} {xs : List St} (h : bW lo hi w v xs) (h1 : lo' ≤ lo) (h2 : hi ≤ hi') (h3 : hi' ≤ w.heap.size) : bW lo' hi' w v xs := by
 obtain ⟨ao, cap, e, a1, a2, a3, a4⟩ := h;refine ⟨ao, cap, e, a1, a2, h3, fun hn => ?_⟩;obtain ⟨b, o, ea, hb1, hb2, hc⟩ := a4 hn;exact ⟨b, o, ea, by omega, by omega, hc⟩
theorem bW.len {lo hi : Nat} {w : World} {v : Value} {xs : List St} (h : bW lo hi w v xs) : xs.length ≤ 9223372036854775807 := by
 obtain ⟨_, _, _, _, _, _, _⟩ := h; omega
theorem bW.nil (lo hi : Nat) (w : World) (ao : Option Addr) (cap : Nat) (hc : cap ≤ 9223372036854775807) (h : hi ≤ w.heap.size) : bW lo hi w (.slice ao 0 cap) [] :=
 ⟨ao, cap, rfl, Nat.zero_le _, hc, h, fun h => absurd h (Nat.not_lt_zero _)⟩
theorem bW.of_row {w : World} {g T n m : Nat} {f : Nat → Value} (h : w.rowIs g T m f) {xs : List St} (hn : xs.length ≤ n) (hm : n * 5 ≤ m) (hn' : n ≤ 9223372036854775807) (hf : ∀ i (_ : i < xs.length), f (i * 5) = .int .i64 xs[i].c ∧ f (i * 5 + 1) = .int .i64 xs[i].m ∧ f (i * 5 + 2) = .int .i64 xs[i].s ∧ f (i * 5 + 3) = .int .i64 xs[i].p ∧ f (i * 5 + 4) = .int .i64 xs[i].k) {lo : Nat} (hlo : lo ≤ g) :
 bW lo w.heap.size w (.slice (some ⟨g, 0, none⟩) xs.length n) xs :=
 ⟨_, n, rfl, hn, hn', Nat.le_refl _, fun _ => ⟨g, 0, rfl, hlo, h.lt, fun i hi => by
  obtain ⟨f0, f1, f2, f3, f4⟩ := hf i hi;rw [Nat.zero_add];exact ⟨⟨by rw [h.cell (by omega), f0], by rw [h.cell (by omega), f1], by rw [h.cell (by omega), f2], by rw [h.cell (by omega), f3], by rw [h.cell (by omega), f4]⟩, h.frozen _, h.frozen _, h.frozen _, h.frozen _, h.frozen _⟩⟩⟩
theorem bW.set {lo hi b o n cap k : Nat} {w : World} {xs : List St} (h : bW lo hi w (.slice (some ⟨b, o, none⟩) n cap) xs) (hk : k < xs.length) (hn : n = xs.length) (x0 x1 x2 x3 x4 : Int) :
 bW lo hi (((((w.setCell ⟨b, o + k * 5, none⟩ (.int .i64 x0)).setCell ⟨b, o + k * 5 + 1, none⟩ (.int .i64 x1)).setCell ⟨b, o + k * 5 + 2, none⟩ (.int .i64 x2)).setCell ⟨b, o + k * 5 + 3, none⟩ (.int .i64 x3)).setCell ⟨b, o + k * 5 + 4, none⟩ (.int .i64 x4)) (.slice (some ⟨b, o, none⟩) n cap) (xs.set k ⟨x0, x1, x2, x3, x4⟩) := by
 obtain ⟨ao, cap', e, h1, h2, h3, h4⟩ := h;simp only [Value.slice.injEq] at e;obtain ⟨rfl, -, rfl⟩ := e;refine ⟨some ⟨b, o, none⟩, cap, by simp [hn], by simpa using h1, h2, by simpa [World.setCell] using h3, fun _ => ?_⟩;obtain ⟨b', o', e, hb1, hb2, hc⟩ := h4 (by omega);simp only [Option.some.injEq, Addr.mk.injEq] at e;obtain ⟨rfl, rfl, -⟩ := e;refine ⟨b, o, rfl, hb1, hb2, fun i hi => ?_⟩;have hi' : i < xs.length := by simpa using hi
 obtain ⟨⟨c0, c1, c2, c3, c4⟩, d⟩ := hc i hi';refine ⟨?_, by simp only [World.frozen?_setCell]; exact d⟩;by_cases e : i = k
 ·subst e
  refine ⟨?_, ?_, ?_, ?_, ?_⟩
  ·rw [cso (by omega), cso (by omega), cso (by omega), cso (by omega), World.cell?_setCell_same _ _ _ (c0)]
   simp
  ·rw [cso (by omega), cso (by omega), cso (by omega), World.cell?_setCell_same _ _ _ (by rw [cso (by omega)]; exact c1)]
   simp
  ·rw [cso (by omega), cso (by omega), World.cell?_setCell_same _ _ _ (by rw [cso (by omega), cso (by omega)]; exact c2)]
   simp
  ·rw [cso (by omega), World.cell?_setCell_same _ _ _ (by rw [cso (by omega), cso (by omega), cso (by omega)]; exact c3)]
   simp
  ·rw [World.cell?_setCell_same _ _ _ (by rw [cso (by omega), cso (by omega), cso (by omega), cso (by omega)]; exact c4)]
   simp
 ·rw [List.getElem_set_ne (fun h => e h.symm)]
  refine ⟨?_, ?_, ?_, ?_, ?_⟩
  ·rw [cso (by omega), cso (by omega), cso (by omega), cso (by omega), cso (by omega)]; exact c0
  ·rw [cso (by omega), cso (by omega), cso (by omega), cso (by omega), cso (by omega)]; exact c1
  ·rw [cso (by omega), cso (by omega), cso (by omega), cso (by omega), cso (by omega)]; exact c2
  ·rw [cso (by omega), cso (by omega), cso (by omega), cso (by omega), cso (by omega)]; exact c3
  ·rw [cso (by omega), cso (by omega), cso (by omega), cso (by omega), cso (by omega)]; exact c4
def fo (lo hi : Nat) (w : World) (v : Value) (xs : List Pc) : Prop :=
 ∃ (ao : Option Addr) (cap : Nat), v = .slice ao xs.length cap ∧ xs.length ≤ cap ∧ cap ≤ 9223372036854775807 ∧ hi ≤ w.heap.size ∧
  (0 < xs.length → ∃ b o, ao = some ⟨b, o, none⟩ ∧ lo ≤ b ∧ b < hi ∧
    ∀ i (h : i < xs.length), (w.cell? ⟨b, o + i * 2, none⟩ = some (.int .i64 xs[i].l) ∧ w.cell? ⟨b, o + i * 2 + 1, none⟩ = some (.int .i64 xs[i].s)) ∧
     w.frozen? ⟨b, o + i * 2, none⟩ = false ∧ w.frozen? ⟨b, o + i * 2 + 1, none⟩ = false)
theorem fo.keep {lo hi : Nat} {w w' : World} {v : Value} {xs : List Pc} (h : fo lo hi w v xs) (k : iH lo hi w w') (hs : w.heap.size ≤ w'.heap.size) : fo lo hi w' v xs := by
 obtain ⟨ao, cap, e, h1, h2, h3, h4⟩ := h;refine ⟨ao, cap, e, h1, h2, by omega, fun hn => ?_⟩;obtain ⟨b, o, ea, hb1, hb2, hc⟩ := h4 hn;refine ⟨b, o, ea, hb1, hb2, fun i hi => ?_⟩;rw [k.cell hb1 hb2, k.cell hb1 hb2, k.frozen hb1 hb2, k.frozen hb1 hb2];exact hc i hi
theorem fo.lt {lo hi : Nat} {w : World} {v : Value} {xs : List Pc} (h : fo lo hi w v xs) : hi ≤ w.heap.size := by
 obtain ⟨_, _, _, _, _, h3, _⟩ := h; exact h3
theorem fo.below {lo hi : Nat} {w w' : World} {v : Value} {xs : List Pc} (h : fo lo hi w v xs) (k : Below w.heap.size w w') : fo lo hi w' v xs :=
 h.keep (.of_below k h.lt) k.size
theorem fo.other {lo hi l m : Nat} {w w' : World} {v : Value} {xs : List Pc} (h : fo lo hi w v xs) (k : ai l m w w') (hd : hi ≤ l ∨ m ≤ lo) : fo lo hi w' v xs :=
 h.keep (k.keeps h.lt hd) k.size
theorem fo.mono {lo hi lo' hi' : Nat} {w : World} {v : Value} {xs : List Pc} (h : fo lo hi w v xs) (h1 : lo' ≤ lo) (h2 : hi ≤ hi') (h3 : hi' ≤ w.heap.size) : fo lo' hi' w v xs := by
 obtain ⟨ao, cap, e, a1, a2, a3, a4⟩ := h;refine ⟨ao, cap, e, a1, a2, h3, fun hn => ?_⟩;obtain ⟨b, o, ea, hb1, hb2, hc⟩ := a4 hn;exact ⟨b, o, ea, by omega, by omega, hc⟩
theorem fo.len {lo hi : Nat} {w : World} {v : Value} {xs : List Pc} (h : fo lo hi w v xs) : xs.length ≤ 9223372036854775807 := by
 obtain ⟨_, _, _, _, _, _, _⟩ := h; omega
theorem fo.nil (lo hi : Nat) (w : World) (ao : Option Addr) (cap : Nat) (hc : cap ≤ 9223372036854775807) (h : hi ≤ w.heap.size) : fo lo hi w (.slice ao 0 cap) [] :=
 ⟨ao, cap, rfl, Nat.zero_le _, hc, h, fun h => absurd h (Nat.not_lt_zero _)⟩
theorem fo.of_row {w : World} {g T n m : Nat} {f : Nat → Value} (h : w.rowIs g T m f) {xs : List Pc} (hn : xs.length ≤ n) (hm : n * 2 ≤ m) (hn' : n ≤ 9223372036854775807) (hf : ∀ i (_ : i < xs.length), f (i * 2) = .int .i64 xs[i].l ∧ f (i * 2 + 1) = .int .i64 xs[i].s) {lo : Nat} (hlo : lo ≤ g) :
 fo lo w.heap.size w (.slice (some ⟨g, 0, none⟩) xs.length n) xs :=
 ⟨_, n, rfl, hn, hn', Nat.le_refl _, fun _ => ⟨g, 0, rfl, hlo, h.lt, fun i hi => by
  obtain ⟨f0, f1⟩ := hf i hi;rw [Nat.zero_add];exact ⟨⟨by rw [h.cell (by omega), f0], by rw [h.cell (by omega), f1]⟩, h.frozen _, h.frozen _⟩⟩⟩
theorem fo.set {lo hi b o n cap k : Nat} {w : World} {xs : List Pc} (h : fo lo hi w (.slice (some ⟨b, o, none⟩) n cap) xs) (hk : k < xs.length) (hn : n = xs.length) (x0 x1 : Int) :
 fo lo hi ((w.setCell ⟨b, o + k * 2, none⟩ (.int .i64 x0)).setCell ⟨b, o + k * 2 + 1, none⟩ (.int .i64 x1)) (.slice (some ⟨b, o, none⟩) n cap) (xs.set k ⟨x0, x1⟩) := by
 obtain ⟨ao, cap', e, h1, h2, h3, h4⟩ := h;simp only [Value.slice.injEq] at e;obtain ⟨rfl, -, rfl⟩ := e;refine ⟨some ⟨b, o, none⟩, cap, by simp [hn], by simpa using h1, h2, by simpa [World.setCell] using h3, fun _ => ?_⟩;obtain ⟨b', o', e, hb1, hb2, hc⟩ := h4 (by omega);simp only [Option.some.injEq, Addr.mk.injEq] at e;obtain ⟨rfl, rfl, -⟩ := e;refine ⟨b, o, rfl, hb1, hb2, fun i hi => ?_⟩;have hi' : i < xs.length := by simpa using hi
 obtain ⟨⟨c0, c1⟩, d⟩ := hc i hi';refine ⟨?_, by simp only [World.frozen?_setCell]; exact d⟩;by_cases e : i = k
 ·subst e
  refine ⟨?_, ?_⟩
  ·rw [cso (by omega), World.cell?_setCell_same _ _ _ (c0)]
   simp
  ·rw [World.cell?_setCell_same _ _ _ (by rw [cso (by omega)]; exact c1)]
   simp
 ·rw [List.getElem_set_ne (fun h => e h.symm)]
  refine ⟨?_, ?_⟩
  ·rw [cso (by omega), cso (by omega)]; exact c0
  ·rw [cso (by omega), cso (by omega)]; exact c1
theorem rowIs_put5 {w : World} {g T n : Nat} {f : Nat → Value} (h : w.rowIs g T n f) (a : Nat) (x0 x1 x2 x3 x4 : Value) :
 ∃ f', (((((w.setCell ⟨g, a, none⟩ x0).setCell ⟨g, a + 1, none⟩ x1).setCell ⟨g, a + 2, none⟩ x2).setCell ⟨g, a + 3, none⟩ x3).setCell ⟨g, a + 4, none⟩ x4).rowIs g T n f' ∧ f' (a) = x0 ∧ f' (a + 1) = x1 ∧ f' (a + 2) = x2 ∧ f' (a + 3) = x3 ∧ f' (a + 4) = x4 ∧ ∀ i, i ≠ a → i ≠ a + 1 → i ≠ a + 2 → i ≠ a + 3 → i ≠ a + 4 → f' i = f i := by
 refine ⟨_, (((((h.set (a) x0).set (a + 1) x1).set (a + 2) x2).set (a + 3) x3).set (a + 4) x4), ?_, ?_, ?_, ?_, ?_, fun i h0 h1 h2 h3 h4 => ?_⟩
 ·simp
 ·simp
 ·simp
 ·simp
 ·simp
 ·simp [h0, h1, h2, h3, h4]
theorem bJ {w w' : World} {base T sz lo hi n : Nat} {v : Value} {cs : List Value} (h : w.ownsRow base T sz v n cs) (k : ai lo hi w w') (hd : ∀ g, v.ownBlock = some g → g < lo ∨ hi ≤ g) : w'.ownsRow base T sz v n cs := by
 refine ⟨h.1, ?_⟩;rcases h.2 with h | ⟨g, cap, cur, e, h0, h1, r⟩
 ·exact .inl h
 ·refine .inr ⟨g, cap, cur, e, h0, ?_, r⟩
  have hlt := (Array.getElem?_eq_some_iff.1 h1).1;rw [k.block g hlt (hd g (by rw [e]; rfl))];exact h1
theorem ownsRow_below {w w' : World} {base T sz B n : Nat} {v : Value} {cs : List Value} (h : w.ownsRow base T sz v n cs) (k : Below B w w') (hB : w.heap.size ≤ B) : w'.ownsRow base T sz v n cs := by
 refine ⟨h.1, ?_⟩;rcases h.2 with h | ⟨g, cap, cur, e, h0, h1, r⟩
 ·exact .inl h
 ·refine .inr ⟨g, cap, cur, e, h0, ?_, r⟩
  have hlt := (Array.getElem?_eq_some_iff.1 h1).1;rw [k.block g (by omega)];exact h1
theorem aJ {w : World} {base base' T sz n : Nat} {v : Value} {cs : List Value} (h : w.ownsRow base T sz v n cs) (hb : base' ≤ base) : w.ownsRow base' T sz v n cs := by
 refine ⟨h.1, ?_⟩;rcases h.2 with h | ⟨g, cap, cur, e, h0, h1, r⟩
 ·exact .inl h
 ·exact .inr ⟨g, cap, cur, e, by omega, h1, r⟩
theorem jA {w w' : World} {row : Option Nat} {base T sz n : Nat} {v : Value} {cs : List Value} (h : w.ownsRow base T sz v n cs) (hg : w.grownBy w' row) (hd : ∀ k, v.ownBlock = some k → some k ≠ row) : w'.ownsRow base T sz v n cs := by
 refine ⟨h.1, ?_⟩;rcases h.2 with h | ⟨g, cap, cur, e, h0, h1, r⟩
 ·exact .inl h
 ·refine .inr ⟨g, cap, cur, e, h0, ?_, r⟩
  have hlt := (Array.getElem?_eq_some_iff.1 h1).1;rw [hg.block g hlt (hd g (by rw [e]; rfl))];exact h1
theorem aB {w : World} {base T sz n : Nat} {v : Value} {cs : List Value} (h : w.ownsRow base T sz v n cs) : ∃ ao cap, v = .slice ao n cap ∧ n ≤ cap ∧ cap ≤ 9223372036854775807 := by
 rcases h.2 with ⟨rfl, rfl⟩ | ⟨g, cap, cur, e, _, _, h1, h2, _⟩
 ·exact ⟨none, 0, rfl, Nat.le_refl _, by omega⟩
 ·exact ⟨_, cap, e, h1, by unfold maxLen at h2; exact h2⟩
theorem adds (g i : Nat) : (⟨g, 0, none⟩ : Addr).add i = ⟨g, i, none⟩ := by unfold Addr.add; split <;> simp_all
theorem jF (w : World) (cs : List Value) (T : Nat) : ∀ j u, cs[j]? = some u → (w.alloc (.cells cs.toArray T)).cell? ((⟨w.heap.size, 0, none⟩ : Addr).add j) = some u := by
 intro j u hu;rw [adds];have h := heap_alloc_new w (.cells cs.toArray T);unfold World.cell?;simp only [h];simpa using hu
theorem ai.step {lo hi B : Nat} {a b c : World} (h : ai lo hi a b) (k : Below B b c) (hB : a.heap.size ≤ B) : ai lo hi a c :=
 ⟨k.os.trans h.os, k.tape.trans h.tape, k.output.trans h.output, Nat.le_trans h.size k.size, fun i hi ho => (k.block i (by omega)).trans (h.block i hi ho)⟩
theorem Below.grow {base T sz n B : Nat} {w w' : World} {v : Value} {cs : List Value} (hg : w.grownBy w' v.ownBlock) (ho : w.ownsRow base T sz v n cs) (hb : B ≤ base) (hB : B ≤ w.heap.size) : Below B w w' :=
 (Below.refl _ _).grown hg hB fun k hk => Nat.le_trans hb (ho.lt k hk).1
def stL (x : St) : List Value := [.int .i64 x.c, .int .i64 x.m, .int .i64 x.s, .int .i64 x.p, .int .i64 x.k]
def bB (xs : List St) : List Value := xs.flatMap stL
theorem flatS_len : ∀ xs : List St, (bB xs).length = xs.length * 5
 | [] => rfl
 | x :: xs => by
  have := flatS_len xs;simp only [bB, stL, List.flatMap_cons, List.length_append, List.length_cons, List.length_nil] at this ⊢;omega
theorem flatS_append (a b : List St) : bB (a ++ b) = bB a ++ bB b := by simp [bB]
theorem flatS_at : ∀ (xs : List St) (i : Nat) (h : i < xs.length), (bB xs)[i * 5]? = some (.int .i64 xs[i].c) ∧ (bB xs)[i * 5 + 1]? = some (.int .i64 xs[i].m) ∧ (bB xs)[i * 5 + 2]? = some (.int .i64 xs[i].s) ∧ (bB xs)[i * 5 + 3]? = some (.int .i64 xs[i].p) ∧ (bB xs)[i * 5 + 4]? = some (.int .i64 xs[i].k)
 | x :: xs, 0, _ => ⟨rfl, rfl, rfl, rfl, rfl⟩
 | x :: xs, i + 1, h => by
  have := flatS_at xs i (by simpa using h);have e : bB (x :: xs) = stL x ++ bB xs := rfl;rw [e, show (i + 1) * 5 = i * 5 + 5 by omega, show i * 5 + 5 + 1 = i * 5 + 1 + 5 by omega, show i * 5 + 5 + 2 = i * 5 + 2 + 5 by omega, show i * 5 + 5 + 3 = i * 5 + 3 + 5 by omega, show i * 5 + 5 + 4 = i * 5 + 4 + 5 by omega];rw [List.getElem?_append_right (by simp [stL]), List.getElem?_append_right (by simp [stL]), List.getElem?_append_right (by simp [stL]), List.getElem?_append_right (by simp [stL]), List.getElem?_append_right (by simp [stL])];simpa [stL] using this
theorem flatS_one : ∀ (xs : List St), ∀ u ∈ bB xs, u.oneCell' = true := by
 intro xs u hu;simp only [bB, List.mem_flatMap] at hu;obtain ⟨x, _, hx⟩ := hu;simp [stL] at hx;rcases hx with rfl | rfl | rfl | rfl | rfl <;> rfl
theorem ownSt_at1 {w : World} {base n g cap : Nat} {xs : List St} (h : w.ownsRow base 99 5 (.slice (some ⟨g, 0, none⟩) n cap) n (bB xs)) (hn : n = xs.length) : base ≤ g ∧ g < w.heap.size ∧ bW g (g + 1) w (.slice (some ⟨g, 0, none⟩) n cap) xs := by
 subst hn;have hlt := h.lt g rfl;obtain ⟨ao, cap', e, h1, h2⟩ := aB h;simp only [Value.slice.injEq] at e;obtain ⟨-, -, rfl⟩ := e;refine ⟨hlt.1, hlt.2, some ⟨g, 0, none⟩, cap, rfl, h1, h2, hlt.2, fun _ => ⟨g, 0, rfl, Nat.le_refl _, Nat.lt_succ_self _, fun i hi => ?_⟩⟩;obtain ⟨f0, f1, f2, f3, f4⟩ := flatS_at xs i hi;have c := h.cells rfl;simp only [Nat.zero_add];refine ⟨⟨by have := c _ _ f0; rw [adds] at this; exact this, by have := c _ _ f1; rw [adds] at this; exact this, by have := c _ _ f2; rw [adds] at this; exact this, by have := c _ _ f3; rw [adds] at this; exact this, by have := c _ _ f4; rw [adds] at this; exact this⟩, h.frozenAt _, h.frozenAt _, h.frozenAt _, h.frozenAt _, h.frozenAt _⟩
theorem ownSt_one {w : World} {base n : Nat} {v : Value} {xs : List St} (h : w.ownsRow base 99 5 v n (bB xs)) (hn : n = xs.length) (hb : base ≤ w.heap.size) :
 ∃ a z, base ≤ a ∧ a ≤ z ∧ z ≤ w.heap.size ∧ bW a z w v xs ∧ z ≤ a + 1 ∧ ∀ k, a ≤ k → k < z → v.ownBlock = some k := by
 rcases id h.2 with ⟨rfl, h0⟩ | ⟨g, cap, cur, rfl, -, -, -, -, -, -⟩
 ·have : xs = [] := List.eq_nil_of_length_eq_zero (by omega)
  subst this;exact ⟨base, base, Nat.le_refl _, Nat.le_refl _, hb, bW.nil _ _ _ _ _ (by omega) hb, by omega, fun k h1 h2 => by omega⟩
 ·obtain ⟨h1, h2, h3⟩ := ownSt_at1 h hn
  exact ⟨g, g + 1, h1, by omega, h2, h3, Nat.le_refl _, fun k k1 k2 => by show some g = some k; rw [show g = k by omega]⟩
theorem ownSt_at {w : World} {base n : Nat} {v : Value} {xs : List St} (h : w.ownsRow base 99 5 v n (bB xs)) (hn : n = xs.length) (hb : base ≤ w.heap.size) : bW base w.heap.size w v xs := by
 obtain ⟨a, z, h1, h2, h3, h4, -⟩ := ownSt_one h hn hb;exact h4.mono h1 h3 nl
def pcL (x : Pc) : List Value := [.int .i64 x.l, .int .i64 x.s]
def bO (xs : List Pc) : List Value := xs.flatMap pcL
theorem flatP_len : ∀ xs : List Pc, (bO xs).length = xs.length * 2
 | [] => rfl
 | x :: xs => by
  have := flatP_len xs;simp only [bO, pcL, List.flatMap_cons, List.length_append, List.length_cons, List.length_nil] at this ⊢;omega
theorem flatP_append (a b : List Pc) : bO (a ++ b) = bO a ++ bO b := by simp [bO]
theorem flatP_at : ∀ (xs : List Pc) (i : Nat) (h : i < xs.length), (bO xs)[i * 2]? = some (.int .i64 xs[i].l) ∧ (bO xs)[i * 2 + 1]? = some (.int .i64 xs[i].s)
 | x :: xs, 0, _ => ⟨rfl, rfl⟩
 | x :: xs, i + 1, h => by
  have := flatP_at xs i (by simpa using h);have e : bO (x :: xs) = pcL x ++ bO xs := rfl;rw [e, show (i + 1) * 2 = i * 2 + 2 by omega, show i * 2 + 2 + 1 = i * 2 + 1 + 2 by omega];rw [List.getElem?_append_right (by simp [pcL]), List.getElem?_append_right (by simp [pcL])];simpa [pcL] using this
theorem flatP_one : ∀ (xs : List Pc), ∀ u ∈ bO xs, u.oneCell' = true := by
 intro xs u hu;simp only [bO, List.mem_flatMap] at hu;obtain ⟨x, _, hx⟩ := hu;simp [pcL] at hx;rcases hx with rfl | rfl <;> rfl
theorem ownPc_at1 {w : World} {base n g cap : Nat} {xs : List Pc} (h : w.ownsRow base 63 2 (.slice (some ⟨g, 0, none⟩) n cap) n (bO xs)) (hn : n = xs.length) : base ≤ g ∧ g < w.heap.size ∧ fo g (g + 1) w (.slice (some ⟨g, 0, none⟩) n cap) xs := by
 subst hn;have hlt := h.lt g rfl;obtain ⟨ao, cap', e, h1, h2⟩ := aB h;simp only [Value.slice.injEq] at e;obtain ⟨-, -, rfl⟩ := e;refine ⟨hlt.1, hlt.2, some ⟨g, 0, none⟩, cap, rfl, h1, h2, hlt.2, fun _ => ⟨g, 0, rfl, Nat.le_refl _, Nat.lt_succ_self _, fun i hi => ?_⟩⟩;obtain ⟨f0, f1⟩ := flatP_at xs i hi;have c := h.cells rfl;simp only [Nat.zero_add];refine ⟨⟨by have := c _ _ f0; rw [adds] at this; exact this, by have := c _ _ f1; rw [adds] at this; exact this⟩, h.frozenAt _, h.frozenAt _⟩
theorem ownPc_one {w : World} {base n : Nat} {v : Value} {xs : List Pc} (h : w.ownsRow base 63 2 v n (bO xs)) (hn : n = xs.length) (hb : base ≤ w.heap.size) :
 ∃ a z, base ≤ a ∧ a ≤ z ∧ z ≤ w.heap.size ∧ fo a z w v xs ∧ z ≤ a + 1 ∧ ∀ k, a ≤ k → k < z → v.ownBlock = some k := by
 rcases id h.2 with ⟨rfl, h0⟩ | ⟨g, cap, cur, rfl, -, -, -, -, -, -⟩
 ·have : xs = [] := List.eq_nil_of_length_eq_zero (by omega)
  subst this;exact ⟨base, base, Nat.le_refl _, Nat.le_refl _, hb, fo.nil _ _ _ _ _ (by omega) hb, by omega, fun k h1 h2 => by omega⟩
 ·obtain ⟨h1, h2, h3⟩ := ownPc_at1 h hn
  exact ⟨g, g + 1, h1, by omega, h2, h3, Nat.le_refl _, fun k k1 k2 => by show some g = some k; rw [show g = k by omega]⟩
theorem ownPc_at {w : World} {base n : Nat} {v : Value} {xs : List Pc} (h : w.ownsRow base 63 2 v n (bO xs)) (hn : n = xs.length) (hb : base ≤ w.heap.size) : fo base w.heap.size w v xs := by
 obtain ⟨a, z, h1, h2, h3, h4, -⟩ := ownPc_one h hn hb;exact h4.mono h1 h3 nl
def aC (xs : List Int) : List Value := xs.map (Value.int .i64)
theorem flatI_one (xs : List Int) : ∀ u ∈ aC xs, u.oneCell' = true := by
 intro u hu;obtain ⟨y, _, rfl⟩ := List.mem_map.1 hu;rfl
theorem ownI_at1 {w : World} {base n g cap : Nat} {xs : List Int} (h : w.ownsRow base 3 1 (.slice (some ⟨g, 0, none⟩) n cap) n (aC xs)) (hn : n = xs.length) : base ≤ g ∧ g < w.heap.size ∧ au g (g + 1) w (.slice (some ⟨g, 0, none⟩) n cap) xs := by
 subst hn;have hlt := h.lt g rfl;obtain ⟨ao, cap', e, h1, h2⟩ := aB h;simp only [Value.slice.injEq] at e;obtain ⟨-, -, rfl⟩ := e;refine ⟨hlt.1, hlt.2, some ⟨g, 0, none⟩, cap, rfl, h1, h2, hlt.2, fun _ => ⟨g, 0, rfl, Nat.le_refl _, Nat.lt_succ_self _, fun i hi => ?_⟩⟩;have c := h.cells rfl i (.int .i64 xs[i]) (by simp [aC, hi]);rw [adds] at c;rw [Nat.zero_add];exact ⟨c, h.frozenAt _⟩
theorem au.none (lo hi : Nat) (w : World) (ao : Option Addr) (cap : Nat) (hc : cap ≤ 9223372036854775807) (h : hi ≤ w.heap.size) : au lo hi w (.slice ao 0 cap) [] :=
 ⟨ao, cap, rfl, Nat.zero_le _, hc, h, fun h => absurd h (Nat.not_lt_zero _)⟩
theorem ownI_one {w : World} {base n : Nat} {v : Value} {xs : List Int} (h : w.ownsRow base 3 1 v n (aC xs)) (hn : n = xs.length) (hb : base ≤ w.heap.size) :
 ∃ a z, base ≤ a ∧ a ≤ z ∧ z ≤ w.heap.size ∧ au a z w v xs ∧ z ≤ a + 1 ∧ ∀ k, a ≤ k → k < z → v.ownBlock = some k := by
 rcases id h.2 with ⟨rfl, h0⟩ | ⟨g, cap, cur, rfl, -, -, -, -, -, -⟩
 ·have : xs = [] := List.eq_nil_of_length_eq_zero (by omega)
  subst this;exact ⟨base, base, Nat.le_refl _, Nat.le_refl _, hb, au.none _ _ _ _ _ (by omega) hb, by omega, fun k h1 h2 => by omega⟩
 ·obtain ⟨h1, h2, h3⟩ := ownI_at1 h hn
  exact ⟨g, g + 1, h1, by omega, h2, h3, Nat.le_refl _, fun k k1 k2 => by show some g = some k; rw [show g = k by omega]⟩
theorem bH {w : World} {base n : Nat} {v : Value} {xs : List Int} (h : w.ownsRow base 3 1 v n (aC xs)) (hn : n = xs.length) (hb : base ≤ w.heap.size) : au base w.heap.size w v xs := by
 obtain ⟨a, z, h1, h2, h3, h4, -⟩ := ownI_one h hn hb;exact h4.mono h1 h3 nl
def aD (l h : Value) : Value := .agg #[l, h]
def ag (s p l h : Value) (m : Mi) : Value :=
 .agg #[s, .int .i64 m.rule.lc, .int .i64 m.rule.hc, .int .i64 m.rule.lm, .int .i64 m.rule.hm, .int .i64 m.rule.ls, .int .i64 m.rule.hs, .int .i64 m.strand, p, l, h, .int .i64 m.scrap]
structure aM (lo hi : Nat) (w : World) (s p l h : Value) (m : Mi) : Prop where
 store : bW lo hi w s m.store
 pieces : fo lo hi w p m.pieces
 low : au lo hi w l m.low
 high : au lo hi w h m.high
theorem aM.op {lo hi : Nat} {w : World} {s p l h : Value} {m : Mi} (H : aM lo hi w s p l h m) : ∃ a c a2 c2 a3 c3 a4 c4, s = .slice a m.store.length c ∧ p = .slice a2 m.pieces.length c2 ∧ l = .slice a3 m.low.length c3 ∧ h = .slice a4 m.high.length c4 := by
 obtain ⟨a, c, e1, -⟩ := H.store;obtain ⟨a2, c2, e2, -⟩ := H.pieces;obtain ⟨a3, c3, e3, -⟩ := H.low;obtain ⟨a4, c4, e4, -⟩ := H.high;exact ⟨a, c, a2, c2, a3, c3, a4, c4, e1, e2, e3, e4⟩
theorem aM.below {lo hi : Nat} {w w' : World} {s p l h : Value} {m : Mi} (H : aM lo hi w s p l h m) (k : Below w.heap.size w w') : aM lo hi w' s p l h m :=
 ⟨H.store.below k, H.pieces.below k, H.low.below k, H.high.below k⟩
theorem aM.other {lo hi a z : Nat} {w w' : World} {s p l h : Value} {m : Mi} (H : aM lo hi w s p l h m) (k : ai a z w w') (hd : hi ≤ a ∨ z ≤ lo) : aM lo hi w' s p l h m :=
 ⟨H.store.other k hd, H.pieces.other k hd, H.low.other k hd, H.high.other k hd⟩
theorem aM.mono {lo hi lo' hi' : Nat} {w : World} {s p l h : Value} {m : Mi} (H : aM lo hi w s p l h m) (h1 : lo' ≤ lo) (h2 : hi ≤ hi') (h3 : hi' ≤ w.heap.size) : aM lo' hi' w s p l h m :=
 ⟨H.store.mono h1 h2 h3, H.pieces.mono h1 h2 h3, H.low.mono h1 h2 h3, H.high.mono h1 h2 h3⟩
theorem aM.drew {lo hi : Nat} {w : World} {s p l h : Value} {m : Mi} (H : aM lo hi w s p l h m) : aM lo hi w.drew s p l h m :=
 H.below (Below.refl _ _).drew
theorem aM.all {lo hi : Nat} {w : World} {s p l h : Value} {m : Mi} (H : aM lo hi w s p l h m) : aM 0 w.heap.size w s p l h m :=
 H.mono (Nat.zero_le _) H.store.lt nl
def Apart (u v : Value) : Prop := ∀ k, u.ownBlock = some k → v.ownBlock ≠ some k
theorem Apart.symm {u v : Value} (h : Apart u v) : Apart v u := fun k h1 h2 => h k h2 h1
structure bY (base : Nat) (w : World) (s p l h : Value) (m : Mi) : Prop where
 hb : base ≤ w.heap.size
 so : w.ownsRow base 99 5 s m.store.length (bB m.store)
 po : w.ownsRow base 63 2 p m.pieces.length (bO m.pieces)
 lo : w.ownsRow base 3 1 l m.low.length (aC m.low)
 ho : w.ownsRow base 3 1 h m.high.length (aC m.high)
 sp : Apart s p
 sl : Apart s l
 sh : Apart s h
 pl : Apart p l
 ph : Apart p h
 lh : Apart l h
theorem bY.at {base : Nat} {w : World} {s p l h : Value} {m : Mi} (H : bY base w s p l h m) : aM base w.heap.size w s p l h m :=
 ⟨ownSt_at H.so rfl H.hb, ownPc_at H.po rfl H.hb, bH H.lo rfl H.hb, bH H.ho rfl H.hb⟩
theorem bY.below {base B : Nat} {w w' : World} {s p l h : Value} {m : Mi} (H : bY base w s p l h m) (k : Below B w w') (hB : w.heap.size ≤ B) : bY base w' s p l h m :=
 ⟨Nat.le_trans H.hb k.size, ownsRow_below H.so k hB, ownsRow_below H.po k hB, ownsRow_below H.lo k hB, ownsRow_below H.ho k hB, H.sp, H.sl, H.sh, H.pl, H.ph, H.lh⟩
theorem bY.other {base a z : Nat} {w w' : World} {s p l h : Value} {m : Mi} (H : bY base w s p l h m) (k : ai a z w w') (hd : z ≤ base) : bY base w' s p l h m := by
 have hd' : ∀ {T sz n : Nat} {v : Value} {cs : List Value}, w.ownsRow base T sz v n cs → ∀ g, v.ownBlock = some g → g < a ∨ z ≤ g := fun ho g hg => by
  have := (ho.lt g hg).1; omega
 exact ⟨Nat.le_trans H.hb k.size, bJ H.so k (hd' H.so), bJ H.po k (hd' H.po), bJ H.lo k (hd' H.lo), bJ H.ho k (hd' H.ho), H.sp, H.sl, H.sh, H.pl, H.ph, H.lh⟩
theorem bY.mono {base base' : Nat} {w : World} {s p l h : Value} {m : Mi} (H : bY base w s p l h m) (hb : base' ≤ base) : bY base' w s p l h m :=
 ⟨Nat.le_trans hb H.hb, aJ H.so hb, aJ H.po hb, aJ H.lo hb, aJ H.ho hb, H.sp, H.sl, H.sh, H.pl, H.ph, H.lh⟩
theorem eZ {w w' : World} {base B T T' sz sz' n n' : Nat} {u v : Value} {cs cs' : List Value} (h : w.ownsRow base T sz u n cs) (h' : w'.ownsRow B T' sz' v n' cs') (hB : w.heap.size ≤ B) : Apart u v := fun k h1 h2 => by
 have a := (h.lt k h1).2;have b := (h'.lt k h2).1;omega
theorem fK (v : Value) (c : Nat) : Apart (.slice none 0 c) v := fun k h1 => by simp [Value.ownBlock] at h1
theorem bY.store {base B : Nat} {w w' : World} {s s' p l h : Value} {m : Mi} {xs : List St} (H : bY base w s p l h m) (k : Below B w w') (hB : w.heap.size ≤ B) (hb : base ≤ B) (n : w'.ownsRow B 99 5 s' xs.length (bB xs)) (y : Int) :
 bY base w' s' p l h { m with store := xs, strand := y } :=
 ⟨Nat.le_trans H.hb k.size, aJ n hb, ownsRow_below H.po k hB, ownsRow_below H.lo k hB, ownsRow_below H.ho k hB, (eZ H.po n hB).symm, (eZ H.lo n hB).symm, (eZ H.ho n hB).symm, H.pl, H.ph, H.lh⟩
theorem bY.yard {base B : Nat} {w w' : World} {s p l h l' h' : Value} {m : Mi} {xs ys : List Int} (H : bY base w s p l h m) (k : Below B w w') (hB : w.heap.size ≤ B) (hb : base ≤ B)
 (n : w'.ownsRow B 3 1 l' xs.length (aC xs)) (n' : w'.ownsRow B 3 1 h' ys.length (aC ys)) (ha : Apart l' h') : bY base w' s p l' h' { m with low := xs, high := ys } :=
 ⟨Nat.le_trans H.hb k.size, ownsRow_below H.so k hB, ownsRow_below H.po k hB, aJ n hb, aJ n' hb, H.sp, eZ H.so n hB, eZ H.so n' hB, eZ H.po n hB, eZ H.po n' hB, ha⟩
theorem bY.nums {base : Nat} {w : World} {s p l h : Value} {m : Mi} (H : bY base w s p l h m) (r : Gr) (x y : Int) : bY base w s p l h { m with rule := r, strand := x, scrap := y } :=
 ⟨H.hb, H.so, H.po, H.lo, H.ho, H.sp, H.sl, H.sh, H.pl, H.ph, H.lh⟩
def gU (lo hi : Nat) (w : World) (s p l h : Value) (m : Mi) : Prop :=
 ∃ a1 z1 a2 z2 a3 z3 a4 z4 : Nat, (lo ≤ a1 ∧ z1 ≤ hi) ∧ (lo ≤ a2 ∧ z2 ≤ hi) ∧ (lo ≤ a3 ∧ z3 ≤ hi) ∧ (lo ≤ a4 ∧ z4 ≤ hi) ∧
  ((z1 ≤ a2 ∨ z2 ≤ a1) ∧ (z1 ≤ a3 ∨ z3 ≤ a1) ∧ (z1 ≤ a4 ∨ z4 ≤ a1) ∧ (z2 ≤ a3 ∨ z3 ≤ a2) ∧ (z2 ≤ a4 ∨ z4 ≤ a2) ∧ (z3 ≤ a4 ∨ z4 ≤ a3)) ∧
  bW a1 z1 w s m.store ∧ fo a2 z2 w p m.pieces ∧ au a3 z3 w l m.low ∧ au a4 z4 w h m.high ∧ hi ≤ w.heap.size
theorem gU.in {lo hi : Nat} {w : World} {s p l h : Value} {m : Mi} (H : gU lo hi w s p l h m) : aM lo hi w s p l h m := by
 obtain ⟨a1, z1, a2, z2, a3, z3, a4, z4, ⟨b1, c1⟩, ⟨b2, c2⟩, ⟨b3, c3⟩, ⟨b4, c4⟩, -, h1, h2, h3, h4, h5⟩ := H;exact ⟨h1.mono b1 c1 h5, h2.mono b2 c2 h5, h3.mono b3 c3 h5, h4.mono b4 c4 h5⟩
theorem gU.below {lo hi : Nat} {w w' : World} {s p l h : Value} {m : Mi} (H : gU lo hi w s p l h m) (k : Below w.heap.size w w') : gU lo hi w' s p l h m := by
 obtain ⟨a1, z1, a2, z2, a3, z3, a4, z4, q1, q2, q3, q4, d, h1, h2, h3, h4, h5⟩ := H;exact ⟨a1, z1, a2, z2, a3, z3, a4, z4, q1, q2, q3, q4, d, h1.below k, h2.below k, h3.below k, h4.below k, Nat.le_trans h5 k.size⟩
theorem gU.other {lo hi a z : Nat} {w w' : World} {s p l h : Value} {m : Mi} (H : gU lo hi w s p l h m) (k : ai a z w w') (hd : hi ≤ a ∨ z ≤ lo) : gU lo hi w' s p l h m := by
 obtain ⟨a1, z1, a2, z2, a3, z3, a4, z4, q1, q2, q3, q4, d, h1, h2, h3, h4, h5⟩ := H;exact ⟨a1, z1, a2, z2, a3, z3, a4, z4, q1, q2, q3, q4, d, h1.other k (by omega), h2.other k (by omega), h3.other k (by omega), h4.other k (by omega), Nat.le_trans h5 k.size⟩
theorem sep_of {u v : Value} (ha : Apart u v) {a z b y : Nat} (h1 : ∀ k, a ≤ k → k < z → u.ownBlock = some k) (h2 : ∀ k, b ≤ k → k < y → v.ownBlock = some k) (h3 : a ≤ z) (h4 : b ≤ y) (h5 : z ≤ a + 1) (h6 : y ≤ b + 1) : z ≤ b ∨ y ≤ a := by
 rcases Nat.lt_or_ge b z with h | h
 ·rcases Nat.lt_or_ge a y with h' | h'
  ·rcases Nat.lt_or_ge a z with h7 | h7
   ·rcases Nat.lt_or_ge b y with h8 | h8
    ·have : a = b := by omega
     subst this;exact absurd (h2 a nl h8) (ha a (h1 a nl h7))
    ·omega
   ·omega
  ·exact .inr h'
 ·exact .inl h
theorem bY.sep {base : Nat} {w : World} {s p l h : Value} {m : Mi} (H : bY base w s p l h m) : gU base w.heap.size w s p l h m := by
 obtain ⟨a1, z1, b1, c1, d1, e1, f1, g1⟩ := ownSt_one H.so rfl H.hb;obtain ⟨a2, z2, b2, c2, d2, e2, f2, g2⟩ := ownPc_one H.po rfl H.hb;obtain ⟨a3, z3, b3, c3, d3, e3, f3, g3⟩ := ownI_one H.lo rfl H.hb;obtain ⟨a4, z4, b4, c4, d4, e4, f4, g4⟩ := ownI_one H.ho rfl H.hb;exact ⟨a1, z1, a2, z2, a3, z3, a4, z4, ⟨b1, d1⟩, ⟨b2, d2⟩, ⟨b3, d3⟩, ⟨b4, d4⟩, ⟨sep_of H.sp g1 g2 c1 c2 f1 f2, sep_of H.sl g1 g3 c1 c3 f1 f3, sep_of H.sh g1 g4 c1 c4 f1 f4, sep_of H.pl g2 g3 c2 c3 f2 f3, sep_of H.ph g2 g4 c2 c4 f2 f4, sep_of H.lh g3 g4 c3 c4 f3 f4⟩, e1, e2, e3, e4, Nat.le_refl _⟩
end Go.Proofs.YtkhecelpafojdaaGreatDoor
