/-
  Parts of the proofs over mills, of: Base. Conditions: each theorem states its own.
-/
import Derived.WalkSpells
import Derived.WalkLawsBesides
import Derived.Handy
import Derived.Deep.OwnRows
set_option linter.unusedSimpArgs false
set_option linter.unusedVariables false
set_option maxRecDepth 10000
set_option maxHeartbeats 64000000
namespace Go.Proofs.YtkhecelpafojdaaGreatDoor
open Go.RowKit
theorem hide {p : Prop} (h : p) : Hid p := h
def iH (lo hi : Nat) (w w' : World) : Prop := ∀ k, lo ≤ k → k < hi → w'.heap[k]? = w.heap[k]?
theorem iH.refl (lo hi : Nat) (w : World) : iH lo hi w w := fun _ _ _ => rfl
theorem iH.trans {lo hi : Nat} {a b c : World} (h : iH lo hi a b) (k : iH lo hi b c) : iH lo hi a c := fun i h1 h2 => (k i h1 h2).trans (h i h1 h2)
theorem iH.of_below {lo hi B : Nat} {w w' : World} (h : Below B w w') (hB : hi ≤ B) : iH lo hi w w' := fun k _ h2 => h.block k (by omega)
theorem iH.cell {lo hi b o : Nat} {w w' : World} (h : iH lo hi w w') (h1 : lo ≤ b) (h2 : b < hi) : w'.cell? ⟨b, o, none⟩ = w.cell? ⟨b, o, none⟩ :=
 World.cell?_of_block (w := w) (h b h1 h2)
theorem iH.frozen {lo hi b o : Nat} {w w' : World} (h : iH lo hi w w') (h1 : lo ≤ b) (h2 : b < hi) : w'.frozen? ⟨b, o, none⟩ = w.frozen? ⟨b, o, none⟩ :=
 World.frozen?_of_block (w := w) (h b h1 h2)
theorem below_drewN {B : Nat} {a w : World} (h : Below B a w) (n : Nat) : Below B a (w.drewN n) := ⟨h.os, h.tape, h.output, h.size, h.block⟩
theorem gX {W w1 : World} (hb : Below W.heap.size W w1) : (∀ b o, b < W.heap.size → w1.cell? ⟨b, o, none⟩ = W.cell? ⟨b, o, none⟩) ∧ (∀ b o, b < W.heap.size → w1.frozen? ⟨b, o, none⟩ = W.frozen? ⟨b, o, none⟩) :=
 ⟨fun b o h => hb.cell (p := ⟨b, o, none⟩) h, fun b o h => hb.frozen (p := ⟨b, o, none⟩) h⟩
theorem ns {n : Nat} : n < n + 1 := Nat.lt_succ_self n
theorem Below.step {B : Nat} {a w w1 : World} (h : Below B a w) (k : Below w.heap.size w w1) (hB : B ≤ a.heap.size) : Below B a w1 :=
 h.trans (k.mono (Nat.le_trans hB h.size))
theorem bs {a w w1 : World} (h : Below a.heap.size a w) (k : Below w.heap.size w w1) : Hid (Below a.heap.size a w1) := hide (Below.step h k (Nat.le_refl _))
structure ai (lo hi : Nat) (w w' : World) : Prop where
 os : w'.os = w.os
 tape : w'.tape = w.tape
 output : w'.output = w.output
 size : w.heap.size ≤ w'.heap.size
 block : ∀ k, k < w.heap.size → (k < lo ∨ hi ≤ k) → w'.heap[k]? = w.heap[k]?
theorem ai.refl (lo hi : Nat) (w : World) : ai lo hi w w := ⟨rfl, rfl, rfl, Nat.le_refl _, fun _ _ _ => rfl⟩
theorem ai.trans {lo hi : Nat} {a b c : World} (h : ai lo hi a b) (k : ai lo hi b c) : ai lo hi a c :=
 ⟨k.os.trans h.os, k.tape.trans h.tape, k.output.trans h.output, Nat.le_trans h.size k.size, fun i hi ho => (k.block i (Nat.lt_of_lt_of_le hi h.size) ho).trans (h.block i hi ho)⟩
theorem ai.setCell {lo hi : Nat} {a w : World} (h : ai lo hi a w) {p : Addr} (h1 : lo ≤ p.block) (h2 : p.block < hi) (u : Value) : ai lo hi a (w.setCell p u) :=
 h.trans ⟨rfl, rfl, rfl, by simp [World.setCell], fun k _ hk => Below.heap_setCell _ _ _ _ (by omega)⟩
theorem ai.drew {lo hi : Nat} {a w : World} (h : ai lo hi a w) : ai lo hi a w.drew := ⟨h.os, h.tape, h.output, h.size, h.block⟩
theorem ai.of_below {lo hi : Nat} {w w' : World} (h : Below w.heap.size w w') : ai lo hi w w' := ⟨h.os, h.tape, h.output, h.size, fun k hk _ => h.block k hk⟩
theorem ai.below {lo hi B : Nat} {w w' : World} (h : ai lo hi w w') (h1 : B ≤ lo) (h2 : B ≤ w.heap.size) : Below B w w' :=
 ⟨h.os, h.tape, h.output, h.size, fun k hk => h.block k (by omega) (.inl (by omega))⟩
theorem ai.keeps {lo hi l m : Nat} {w w' : World} (h : ai lo hi w w') (hm : m ≤ w.heap.size) (hd : m ≤ lo ∨ hi ≤ l) : iH l m w w' :=
 fun k h1 h2 => h.block k (by omega) (by omega)
def au (lo hi : Nat) (w : World) (v : Value) (xs : List Int) : Prop :=
 ∃ (ao : Option Addr) (cap : Nat), v = .slice ao xs.length cap ∧ xs.length ≤ cap ∧ cap ≤ 9223372036854775807 ∧ hi ≤ w.heap.size ∧
  (0 < xs.length → ∃ b o, ao = some ⟨b, o, none⟩ ∧ lo ≤ b ∧ b < hi ∧
    ∀ i (h : i < xs.length), w.cell? ⟨b, o + i, none⟩ = some (.int .i64 xs[i]) ∧ w.frozen? ⟨b, o + i, none⟩ = false)
structure J where
 s : Int
 d : Int
 g : Int
 deriving DecidableEq
def bz (lo hi : Nat) (w : World) (v : Value) (js : List J) : Prop :=
 ∃ (ao : Option Addr) (cap : Nat), v = .slice ao js.length cap ∧ js.length ≤ cap ∧ cap ≤ 9223372036854775807 ∧ hi ≤ w.heap.size ∧
  (0 < js.length → ∃ b o, ao = some ⟨b, o, none⟩ ∧ lo ≤ b ∧ b < hi ∧
    ∀ i (h : i < js.length), (w.cell? ⟨b, o + i * 3, none⟩ = some (.int .i64 js[i].s) ∧ w.cell? ⟨b, o + i * 3 + 1, none⟩ = some (.int .i64 js[i].d) ∧ w.cell? ⟨b, o + i * 3 + 2, none⟩ = some (.int .i64 js[i].g)) ∧
     w.frozen? ⟨b, o + i * 3, none⟩ = false ∧ w.frozen? ⟨b, o + i * 3 + 1, none⟩ = false ∧ w.frozen? ⟨b, o + i * 3 + 2, none⟩ = false)
theorem au.keep {lo hi : Nat} {w w' : World} {v : Value} {xs : List Int} (h : au lo hi w v xs) (k : iH lo hi w w') (hs : w.heap.size ≤ w'.heap.size) : au lo hi w' v xs := by
 obtain ⟨ao, cap, e, h1, h2, h3, h4⟩ := h;refine ⟨ao, cap, e, h1, h2, by omega, fun hn => ?_⟩;obtain ⟨b, o, ea, hb1, hb2, hc⟩ := h4 hn;refine ⟨b, o, ea, hb1, hb2, fun i hi => ?_⟩;obtain ⟨c1, c2⟩ := hc i hi;exact ⟨by rw [k.cell hb1 hb2]; exact c1, by rw [k.frozen hb1 hb2]; exact c2⟩
theorem bz.keep {lo hi : Nat} {w w' : World} {v : Value} {js : List J} (h : bz lo hi w v js) (k : iH lo hi w w') (hs : w.heap.size ≤ w'.heap.size) : bz lo hi w' v js := by
 obtain ⟨ao, cap, e, h1, h2, h3, h4⟩ := h;refine ⟨ao, cap, e, h1, h2, by omega, fun hn => ?_⟩;obtain ⟨b, o, ea, hb1, hb2, hc⟩ := h4 hn;refine ⟨b, o, ea, hb1, hb2, fun i hi => ?_⟩;rw [k.cell hb1 hb2, k.cell hb1 hb2, k.cell hb1 hb2, k.frozen hb1 hb2, k.frozen hb1 hb2, k.frozen hb1 hb2];exact hc i hi
theorem au.lt {lo hi : Nat} {w : World} {v : Value} {xs : List Int} (h : au lo hi w v xs) : hi ≤ w.heap.size := by
 obtain ⟨_, _, _, _, _, h3, _⟩ := h; exact h3
theorem bz.lt {lo hi : Nat} {w : World} {v : Value} {js : List J} (h : bz lo hi w v js) : hi ≤ w.heap.size := by
 obtain ⟨_, _, _, _, _, h3, _⟩ := h; exact h3
theorem au.below {lo hi : Nat} {w w' : World} {v : Value} {xs : List Int} (h : au lo hi w v xs) (k : Below w.heap.size w w') : au lo hi w' v xs :=
 h.keep (.of_below k h.lt) k.size
theorem bz.below {lo hi : Nat} {w w' : World} {v : Value} {js : List J} (h : bz lo hi w v js) (k : Below w.heap.size w w') : bz lo hi w' v js :=
 h.keep (.of_below k h.lt) k.size
theorem au.other {lo hi l m : Nat} {w w' : World} {v : Value} {xs : List Int} (h : au lo hi w v xs) (k : ai l m w w') (hd : hi ≤ l ∨ m ≤ lo) : au lo hi w' v xs :=
 h.keep (k.keeps h.lt hd) k.size
theorem bz.other {lo hi l m : Nat} {w w' : World} {v : Value} {js : List J} (h : bz lo hi w v js) (k : ai l m w w') (hd : hi ≤ l ∨ m ≤ lo) : bz lo hi w' v js :=
 h.keep (k.keeps h.lt hd) k.size
theorem au.mono {lo hi lo' hi' : Nat} {w : World} {v : Value} {xs : List Int} (h : au lo hi w v xs) (h1 : lo' ≤ lo) (h2 : hi ≤ hi') (h3 : hi' ≤ w.heap.size) : au lo' hi' w v xs := by
 obtain ⟨ao, cap, e, a1, a2, a3, a4⟩ := h;refine ⟨ao, cap, e, a1, a2, h3, fun hn => ?_⟩;obtain ⟨b, o, ea, hb1, hb2, hc⟩ := a4 hn;exact ⟨b, o, ea, by omega, by omega, hc⟩
theorem bz.mono {lo hi lo' hi' : Nat} {w : World} {v : Value} {js : List J} (h : bz lo hi w v js) (h1 : lo' ≤ lo) (h2 : hi ≤ hi') (h3 : hi' ≤ w.heap.size) : bz lo' hi' w v js := by
 obtain ⟨ao, cap, e, a1, a2, a3, a4⟩ := h;refine ⟨ao, cap, e, a1, a2, h3, fun hn => ?_⟩;obtain ⟨b, o, ea, hb1, hb2, hc⟩ := a4 hn;exact ⟨b, o, ea, by omega, by omega, hc⟩
theorem au.len {lo hi : Nat} {w : World} {v : Value} {xs : List Int} (h : au lo hi w v xs) : xs.length ≤ 9223372036854775807 := by
 obtain ⟨_, _, _, _, _, _, _⟩ := h; omega
theorem bz.len {lo hi : Nat} {w : World} {v : Value} {js : List J} (h : bz lo hi w v js) : js.length ≤ 9223372036854775807 := by
 obtain ⟨_, _, _, _, _, _, _⟩ := h; omega
theorem ofInt_i64 (a : Nat) (ha : a < 9223372036854775808) : (BitVec.ofInt 64 (a : Int)).toNat = a := by
 rw [BitVec.ofInt_natCast, BitVec.toNat_ofNat]; exact Nat.mod_eq_of_lt (by omega)
def wi (n a b : Int) : Bool := decide (a ≤ n) && decide (n ≤ b)
theorem aN {n a b : Int} : wi n a b = true ↔ a ≤ n ∧ n ≤ b := by simp [wi]
theorem all_snoc {α : Type} {l : List α} {p : α → Bool} {k : Nat} (hk : k < l.length) (h : ∀ j (_ : j < l.length), j < k → p l[j] = true) (hp : p l[k] = true) :
 ∀ j (_ : j < l.length), j < k + 1 → p l[j] = true := by
 intro j hj hlt;rcases Nat.lt_or_ge j k with h1 | h1
 ·exact h j hj h1
 ·have : j = k := by omega
  subst this; exact hp
theorem all_done {α : Type} {l : List α} {p : α → Bool} {k : Nat} (hk : l.length ≤ k) (h : ∀ j (_ : j < l.length), j < k → p l[j] = true) : l.all p = true := by
 rw [List.all_eq_true];intro x hx;obtain ⟨j, hj, rfl⟩ := List.getElem_of_mem hx;exact h j hj (by omega)
theorem all_fell {α : Type} {l : List α} {p : α → Bool} {k : Nat} (hk : k < l.length) (hp : p l[k] = false) : l.all p = false := by
 rw [List.all_eq_false];exact ⟨l[k], List.getElem_mem _, by simp [hp]⟩
theorem gN {P : Program} (t e : TypeId) (z : Value) (sz bytes : Nat) (ht : P.underlying t = some (.slice e)) (hinfo : (P.info? e).map (fun i => (i.zero, i.size, i.bytes)) = some (some z, sz, bytes))
 (kl kc : IntKind) (n : Nat) (hbytes : bytes * n ≤ 281474976710656) (h63 : n ≤ 9223372036854775807) (w : World) :
 (Instr.makeSlice t (.int kl (n : Int)) (.int kc (n : Int))).run P w = .ok (.slice (some ⟨w.heap.size, 0, none⟩) n n) (w.alloc (.cells (madeCells z.cells (n * sz)) e)) := by
 obtain ⟨i, hi, hzz⟩ := Option.map_eq_some_iff.1 hinfo;simp only [Prod.mk.injEq] at hzz;obtain ⟨hz, hs, hb⟩ := hzz;have hb' : (i.bytes : Int) * (n : Int) ≤ 281474976710656 := by
  have h : ((i.bytes * n : Nat) : Int) ≤ 281474976710656 := by rw [hb]; omega
  rwa [Int.natCast_mul] at h
 have hr := run_make (P := P) w t e i z ht hi hz kl kc n n (by omega) (Int.le_refl _) hb' (by omega);simp only [Int.toNat_natCast, hs] at hr;exact hr
theorem rowIs_madeN (w : World) (z : Array Value) (n : Nat) (t : TypeId) : ∃ f, (w.alloc (.cells (madeCells z n) t)).rowIs w.heap.size t n f := by
 refine ⟨fun i => (madeCells z n)[i]?.getD default, ?_⟩;have h := World.rowIs_alloc w (madeCells z n) t (fun i => (madeCells z n)[i]?.getD default) (fun i hi => by simp [hi])
 rwa [size_madeCells] at h
theorem au.of_row {w : World} {g T n : Nat} {f : Nat → Value} (h : w.rowIs g T n f) {xs : List Int} (hn : xs.length ≤ n) (hn' : n ≤ 9223372036854775807) (hf : ∀ i (_ : i < xs.length), f i = .int .i64 xs[i]) {lo : Nat} (hlo : lo ≤ g) :
 au lo w.heap.size w (.slice (some ⟨g, 0, none⟩) xs.length n) xs :=
 ⟨_, n, rfl, hn, hn', Nat.le_refl _, fun _ => ⟨g, 0, rfl, hlo, h.lt, fun i hi => by
  rw [Nat.zero_add];exact ⟨by rw [h.cell (by omega), hf i hi], h.frozen i⟩⟩⟩
theorem bz.of_row {w : World} {g T n m : Nat} {f : Nat → Value} (h : w.rowIs g T m f) {js : List J} (hn : js.length ≤ n) (hm : n * 3 ≤ m) (hn' : n ≤ 9223372036854775807) (hf : ∀ i (_ : i < js.length), f (i * 3) = .int .i64 js[i].s ∧ f (i * 3 + 1) = .int .i64 js[i].d ∧ f (i * 3 + 2) = .int .i64 js[i].g) {lo : Nat} (hlo : lo ≤ g) :
 bz lo w.heap.size w (.slice (some ⟨g, 0, none⟩) js.length n) js :=
 ⟨_, n, rfl, hn, hn', Nat.le_refl _, fun _ => ⟨g, 0, rfl, hlo, h.lt, fun i hi => by
  obtain ⟨f1, f2, f3⟩ := hf i hi;rw [Nat.zero_add];exact ⟨⟨by rw [h.cell (by omega), f1], by rw [h.cell (by omega), f2], by rw [h.cell (by omega), f3]⟩, h.frozen _, h.frozen _, h.frozen _⟩⟩⟩
theorem rowIs_below {w w' : World} {B g T n : Nat} {f : Nat → Value} (h : w.rowIs g T n f) (k : Below B w w') (hg : g < B) : w'.rowIs g T n f := h.of_block (k.block g hg)
theorem addr_ne_off {b i j : Nat} (h : i ≠ j) : (⟨b, i, none⟩ : Addr) ≠ ⟨b, j, none⟩ := fun e => h (by injection e)
theorem cso {w : World} {b i j : Nat} {v : Value} (h : i ≠ j) : (w.setCell ⟨b, i, none⟩ v).cell? ⟨b, j, none⟩ = w.cell? ⟨b, j, none⟩ := World.cell?_setCell_other _ _ _ _ (addr_ne_off h)
theorem au.set {lo hi b o n cap k : Nat} {w : World} {xs : List Int} (h : au lo hi w (.slice (some ⟨b, o, none⟩) n cap) xs) (hk : k < xs.length) (hn : n = xs.length) (x : Int) :
 au lo hi (w.setCell ⟨b, o + k, none⟩ (.int .i64 x)) (.slice (some ⟨b, o, none⟩) n cap) (xs.set k x) := by
 obtain ⟨ao, cap', e, h1, h2, h3, h4⟩ := h;simp only [Value.slice.injEq] at e;obtain ⟨rfl, -, rfl⟩ := e;refine ⟨some ⟨b, o, none⟩, cap, by simp [hn], by simpa using h1, h2, by simpa [World.setCell] using h3, fun _ => ?_⟩;obtain ⟨b', o', e, hb1, hb2, hc⟩ := h4 (by omega);simp only [Option.some.injEq, Addr.mk.injEq] at e;obtain ⟨rfl, rfl, -⟩ := e;refine ⟨b, o, rfl, hb1, hb2, fun i hi => ?_⟩;have hi' : i < xs.length := by simpa using hi
 obtain ⟨c1, c2⟩ := hc i hi';refine ⟨?_, by rw [World.frozen?_setCell]; exact c2⟩;by_cases e : i = k
 ·subst e
  rw [World.cell?_setCell_same _ _ _ c1];simp
 ·rw [cso (by omega)]
  rw [c1, List.getElem_set_ne (fun h => e h.symm)]
theorem bz.set {lo hi b o n cap k : Nat} {w : World} {js : List J} (h : bz lo hi w (.slice (some ⟨b, o, none⟩) n cap) js) (hk : k < js.length) (hn : n = js.length) (x y z : Int) :
 bz lo hi (((w.setCell ⟨b, o + k * 3, none⟩ (.int .i64 x)).setCell ⟨b, o + k * 3 + 1, none⟩ (.int .i64 y)).setCell ⟨b, o + k * 3 + 2, none⟩ (.int .i64 z)) (.slice (some ⟨b, o, none⟩) n cap) (js.set k ⟨x, y, z⟩) := by
 obtain ⟨ao, cap', e, h1, h2, h3, h4⟩ := h;simp only [Value.slice.injEq] at e;obtain ⟨rfl, -, rfl⟩ := e;refine ⟨some ⟨b, o, none⟩, cap, by simp [hn], by simpa using h1, h2, by simpa [World.setCell] using h3, fun _ => ?_⟩;obtain ⟨b', o', e, hb1, hb2, hc⟩ := h4 (by omega);simp only [Option.some.injEq, Addr.mk.injEq] at e;obtain ⟨rfl, rfl, -⟩ := e;refine ⟨b, o, rfl, hb1, hb2, fun i hi => ?_⟩;have hi' : i < js.length := by simpa using hi
 obtain ⟨⟨c1, c2, c3⟩, d⟩ := hc i hi';refine ⟨?_, by simp only [World.frozen?_setCell]; exact d⟩;by_cases e : i = k
 ·subst e
  refine ⟨?_, ?_, ?_⟩
  ·rw [cso (by omega), cso (by omega), World.cell?_setCell_same _ _ _ c1]
   simp
  ·rw [cso (by omega), World.cell?_setCell_same _ _ _ (by rw [cso (by omega)]; exact c2)]
   simp
  ·rw [World.cell?_setCell_same _ _ _ (by rw [cso (by omega), cso (by omega)]; exact c3)]
   simp
 ·rw [List.getElem_set_ne (fun h => e h.symm)]
  refine ⟨?_, ?_, ?_⟩
  ·rw [cso (by omega), cso (by omega), cso (by omega)]; exact c1
  ·rw [cso (by omega), cso (by omega), cso (by omega)]; exact c2
  ·rw [cso (by omega), cso (by omega), cso (by omega)]; exact c3
theorem nl {n : Nat} : n ≤ n := Nat.le_refl n
end Go.Proofs.YtkhecelpafojdaaGreatDoor
