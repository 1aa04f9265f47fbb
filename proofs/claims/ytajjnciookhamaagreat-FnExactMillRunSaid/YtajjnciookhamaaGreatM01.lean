/-
  Parts of the proof, of 3 texts: what Base, More, PlainPile show. Conditions: each theorem states its own.
-/
import Derived.WalkKit
import Derived.WalkSpells
import Derived.WalkLawsBesides
import Derived.Handy
import Derived.Deep.Draws
import Derived.Deep.OwnRows
import Derived.Laws.MakeOwn
namespace Go.Proofs.YtajjnciookhamaaGreat
open Go.RowKit
theorem hide {p : Prop} (h : p) : Hid p := h
/-- The blocks from lo up to hi are as they were. -/
def Keeps (lo hi : Nat) (w w' : World) : Prop := ∀ k, lo ≤ k → k < hi → w'.heap[k]? = w.heap[k]?
theorem Keeps.refl (lo hi : Nat) (w : World) : Keeps lo hi w w := fun _ _ _ => rfl
theorem Keeps.trans {lo hi : Nat} {a b c : World} (h : Keeps lo hi a b) (k : Keeps lo hi b c) : Keeps lo hi a c := fun i h1 h2 => (k i h1 h2).trans (h i h1 h2)
theorem Keeps.of_below {lo hi B : Nat} {w w' : World} (h : Below B w w') (hB : hi ≤ B) : Keeps lo hi w w' := fun k _ h2 => h.block k (by omega)
theorem Keeps.cell {lo hi b o : Nat} {w w' : World} (h : Keeps lo hi w w') (h1 : lo ≤ b) (h2 : b < hi) : w'.cell? ⟨b, o, none⟩ = w.cell? ⟨b, o, none⟩ :=
  World.cell?_of_block (w := w) (h b h1 h2)
theorem Keeps.frozen {lo hi b o : Nat} {w w' : World} (h : Keeps lo hi w w') (h1 : lo ≤ b) (h2 : b < hi) : w'.frozen? ⟨b, o, none⟩ = w.frozen? ⟨b, o, none⟩ :=
  World.frozen?_of_block (w := w) (h b h1 h2)
theorem below_drewN {B : Nat} {a w : World} (h : Below B a w) (n : Nat) : Below B a (w.drewN n) := ⟨h.os, h.tape, h.output, h.size, h.block⟩
/-- What a call that changed nothing leaves, as rules for the walk. -/
theorem bcell {W w1 : World} (hb : Below W.heap.size W w1) : (∀ b o, b < W.heap.size → w1.cell? ⟨b, o, none⟩ = W.cell? ⟨b, o, none⟩) ∧ (∀ b o, b < W.heap.size → w1.frozen? ⟨b, o, none⟩ = W.frozen? ⟨b, o, none⟩) :=
  ⟨fun b o h => hb.cell (p := ⟨b, o, none⟩) h, fun b o h => hb.frozen (p := ⟨b, o, none⟩) h⟩
/-- One call after another. -/
theorem Below.step {B : Nat} {a w w1 : World} (h : Below B a w) (k : Below w.heap.size w w1) (hB : B ≤ a.heap.size) : Below B a w1 :=
  h.trans (k.mono (Nat.le_trans hB h.size))
/-- All is as it was but for the blocks from lo up to hi, and new ones. -/
structure Other (lo hi : Nat) (w w' : World) : Prop where
  os : w'.os = w.os
  tape : w'.tape = w.tape
  output : w'.output = w.output
  size : w.heap.size ≤ w'.heap.size
  block : ∀ k, k < w.heap.size → (k < lo ∨ hi ≤ k) → w'.heap[k]? = w.heap[k]?
theorem Other.refl (lo hi : Nat) (w : World) : Other lo hi w w := ⟨rfl, rfl, rfl, Nat.le_refl _, fun _ _ _ => rfl⟩
theorem Other.trans {lo hi : Nat} {a b c : World} (h : Other lo hi a b) (k : Other lo hi b c) : Other lo hi a c :=
  ⟨k.os.trans h.os, k.tape.trans h.tape, k.output.trans h.output, Nat.le_trans h.size k.size, fun i hi ho => (k.block i (Nat.lt_of_lt_of_le hi h.size) ho).trans (h.block i hi ho)⟩
theorem Other.setCell {lo hi : Nat} {a w : World} (h : Other lo hi a w) {p : Addr} (h1 : lo ≤ p.block) (h2 : p.block < hi) (u : Value) : Other lo hi a (w.setCell p u) :=
  h.trans ⟨rfl, rfl, rfl, by simp [World.setCell], fun k _ hk => Below.heap_setCell _ _ _ _ (by omega)⟩
theorem Other.drew {lo hi : Nat} {a w : World} (h : Other lo hi a w) : Other lo hi a w.drew := ⟨h.os, h.tape, h.output, h.size, h.block⟩
theorem Other.of_below {lo hi : Nat} {w w' : World} (h : Below w.heap.size w w') : Other lo hi w w' := ⟨h.os, h.tape, h.output, h.size, fun k hk _ => h.block k hk⟩
theorem Other.below {lo hi B : Nat} {w w' : World} (h : Other lo hi w w') (h1 : B ≤ lo) (h2 : B ≤ w.heap.size) : Below B w w' :=
  ⟨h.os, h.tape, h.output, h.size, fun k hk => h.block k (by omega) (.inl (by omega))⟩
theorem Other.keeps {lo hi l m : Nat} {w w' : World} (h : Other lo hi w w') (hm : m ≤ w.heap.size) (hd : m ≤ lo ∨ hi ≤ l) : Keeps l m w w' :=
  fun k h1 h2 => h.block k (by omega) (by omega)
/-- v is a slice of the ints xs; its cells lie in blocks from lo up to hi, none frozen. -/
def IntsAt (lo hi : Nat) (w : World) (v : Value) (xs : List Int) : Prop :=
  ∃ (ao : Option Addr) (cap : Nat), v = .slice ao xs.length cap ∧ xs.length ≤ cap ∧ cap ≤ 9223372036854775807 ∧ hi ≤ w.heap.size ∧
    (0 < xs.length → ∃ b o, ao = some ⟨b, o, none⟩ ∧ lo ≤ b ∧ b < hi ∧
      ∀ i (h : i < xs.length), w.cell? ⟨b, o + i, none⟩ = some (.int .i64 xs[i]) ∧ w.frozen? ⟨b, o + i, none⟩ = false)
structure J where
  s : Int
  d : Int
  g : Int
  deriving DecidableEq
/-- v is a slice of the jobs js. -/
def JobsAt (lo hi : Nat) (w : World) (v : Value) (js : List J) : Prop :=
  ∃ (ao : Option Addr) (cap : Nat), v = .slice ao js.length cap ∧ js.length ≤ cap ∧ cap ≤ 9223372036854775807 ∧ hi ≤ w.heap.size ∧
    (0 < js.length → ∃ b o, ao = some ⟨b, o, none⟩ ∧ lo ≤ b ∧ b < hi ∧
      ∀ i (h : i < js.length), (w.cell? ⟨b, o + i * 3, none⟩ = some (.int .i64 js[i].s) ∧ w.cell? ⟨b, o + i * 3 + 1, none⟩ = some (.int .i64 js[i].d) ∧ w.cell? ⟨b, o + i * 3 + 2, none⟩ = some (.int .i64 js[i].g)) ∧
        w.frozen? ⟨b, o + i * 3, none⟩ = false ∧ w.frozen? ⟨b, o + i * 3 + 1, none⟩ = false ∧ w.frozen? ⟨b, o + i * 3 + 2, none⟩ = false)
theorem IntsAt.keep {lo hi : Nat} {w w' : World} {v : Value} {xs : List Int} (h : IntsAt lo hi w v xs) (k : Keeps lo hi w w') (hs : w.heap.size ≤ w'.heap.size) : IntsAt lo hi w' v xs := by
  obtain ⟨ao, cap, e, h1, h2, h3, h4⟩ := h
  refine ⟨ao, cap, e, h1, h2, by omega, fun hn => ?_⟩
  obtain ⟨b, o, ea, hb1, hb2, hc⟩ := h4 hn
  refine ⟨b, o, ea, hb1, hb2, fun i hi => ?_⟩
  obtain ⟨c1, c2⟩ := hc i hi
  exact ⟨by rw [k.cell hb1 hb2]; exact c1, by rw [k.frozen hb1 hb2]; exact c2⟩
theorem JobsAt.keep {lo hi : Nat} {w w' : World} {v : Value} {js : List J} (h : JobsAt lo hi w v js) (k : Keeps lo hi w w') (hs : w.heap.size ≤ w'.heap.size) : JobsAt lo hi w' v js := by
  obtain ⟨ao, cap, e, h1, h2, h3, h4⟩ := h
  refine ⟨ao, cap, e, h1, h2, by omega, fun hn => ?_⟩
  obtain ⟨b, o, ea, hb1, hb2, hc⟩ := h4 hn
  refine ⟨b, o, ea, hb1, hb2, fun i hi => ?_⟩
  rw [k.cell hb1 hb2, k.cell hb1 hb2, k.cell hb1 hb2, k.frozen hb1 hb2, k.frozen hb1 hb2, k.frozen hb1 hb2]
  exact hc i hi
theorem IntsAt.lt {lo hi : Nat} {w : World} {v : Value} {xs : List Int} (h : IntsAt lo hi w v xs) : hi ≤ w.heap.size := by
  obtain ⟨_, _, _, _, _, h3, _⟩ := h; exact h3
theorem JobsAt.lt {lo hi : Nat} {w : World} {v : Value} {js : List J} (h : JobsAt lo hi w v js) : hi ≤ w.heap.size := by
  obtain ⟨_, _, _, _, _, h3, _⟩ := h; exact h3
/-- A reading stays where a call changed nothing that was there. -/
theorem IntsAt.below {lo hi : Nat} {w w' : World} {v : Value} {xs : List Int} (h : IntsAt lo hi w v xs) (k : Below w.heap.size w w') : IntsAt lo hi w' v xs :=
  h.keep (.of_below k h.lt) k.size
theorem JobsAt.below {lo hi : Nat} {w w' : World} {v : Value} {js : List J} (h : JobsAt lo hi w v js) (k : Below w.heap.size w w') : JobsAt lo hi w' v js :=
  h.keep (.of_below k h.lt) k.size
theorem IntsAt.other {lo hi l m : Nat} {w w' : World} {v : Value} {xs : List Int} (h : IntsAt lo hi w v xs) (k : Other l m w w') (hd : hi ≤ l ∨ m ≤ lo) : IntsAt lo hi w' v xs :=
  h.keep (k.keeps h.lt hd) k.size
theorem JobsAt.other {lo hi l m : Nat} {w w' : World} {v : Value} {js : List J} (h : JobsAt lo hi w v js) (k : Other l m w w') (hd : hi ≤ l ∨ m ≤ lo) : JobsAt lo hi w' v js :=
  h.keep (k.keeps h.lt hd) k.size
theorem IntsAt.mono {lo hi lo' hi' : Nat} {w : World} {v : Value} {xs : List Int} (h : IntsAt lo hi w v xs) (h1 : lo' ≤ lo) (h2 : hi ≤ hi') (h3 : hi' ≤ w.heap.size) : IntsAt lo' hi' w v xs := by
  obtain ⟨ao, cap, e, a1, a2, a3, a4⟩ := h
  refine ⟨ao, cap, e, a1, a2, h3, fun hn => ?_⟩
  obtain ⟨b, o, ea, hb1, hb2, hc⟩ := a4 hn
  exact ⟨b, o, ea, by omega, by omega, hc⟩
theorem JobsAt.mono {lo hi lo' hi' : Nat} {w : World} {v : Value} {js : List J} (h : JobsAt lo hi w v js) (h1 : lo' ≤ lo) (h2 : hi ≤ hi') (h3 : hi' ≤ w.heap.size) : JobsAt lo' hi' w v js := by
  obtain ⟨ao, cap, e, a1, a2, a3, a4⟩ := h
  refine ⟨ao, cap, e, a1, a2, h3, fun hn => ?_⟩
  obtain ⟨b, o, ea, hb1, hb2, hc⟩ := a4 hn
  exact ⟨b, o, ea, by omega, by omega, hc⟩
/-- The number of elements fits. -/
theorem IntsAt.len {lo hi : Nat} {w : World} {v : Value} {xs : List Int} (h : IntsAt lo hi w v xs) : xs.length ≤ 9223372036854775807 := by
  obtain ⟨_, _, _, _, _, _, _⟩ := h; omega
theorem JobsAt.len {lo hi : Nat} {w : World} {v : Value} {js : List J} (h : JobsAt lo hi w v js) : js.length ≤ 9223372036854775807 := by
  obtain ⟨_, _, _, _, _, _, _⟩ := h; omega
/-- n lies between a and b. -/
def wi (n a b : Int) : Bool := decide (a ≤ n) && decide (n ≤ b)
theorem wi_iff {n a b : Int} : wi n a b = true ↔ a ≤ n ∧ n ≤ b := by simp [wi]
/-- All of the first k meet p; the next one does. -/
theorem all_snoc {α : Type} {l : List α} {p : α → Bool} {k : Nat} (hk : k < l.length) (h : ∀ j (_ : j < l.length), j < k → p l[j] = true) (hp : p l[k] = true) :
    ∀ j (_ : j < l.length), j < k + 1 → p l[j] = true := by
  intro j hj hlt
  rcases Nat.lt_or_ge j k with h1 | h1
  · exact h j hj h1
  · have : j = k := by omega
    subst this; exact hp
theorem all_done {α : Type} {l : List α} {p : α → Bool} {k : Nat} (hk : l.length ≤ k) (h : ∀ j (_ : j < l.length), j < k → p l[j] = true) : l.all p = true := by
  rw [List.all_eq_true]
  intro x hx
  obtain ⟨j, hj, rfl⟩ := List.getElem_of_mem hx
  exact h j hj (by omega)
theorem all_fell {α : Type} {l : List α} {p : α → Bool} {k : Nat} (hk : k < l.length) (hp : p l[k] = false) : l.all p = false := by
  rw [List.all_eq_false]
  exact ⟨l[k], List.getElem_mem _, by simp [hp]⟩
/-- make of elements of several cells: an equation for every world. -/
theorem make_rowN {P : Program} (t e : TypeId) (z : Value) (sz bytes : Nat) (ht : P.underlying t = some (.slice e)) (hinfo : (P.info? e).map (fun i => (i.zero, i.size, i.bytes)) = some (some z, sz, bytes))
    (kl kc : IntKind) (n : Nat) (hbytes : bytes * n ≤ 281474976710656) (h63 : n ≤ 9223372036854775807) (w : World) :
    (Instr.makeSlice t (.int kl (n : Int)) (.int kc (n : Int))).run P w = .ok (.slice (some ⟨w.heap.size, 0, none⟩) n n) (w.alloc (.cells (madeCells z.cells (n * sz)) e)) := by
  obtain ⟨i, hi, hzz⟩ := Option.map_eq_some_iff.1 hinfo
  simp only [Prod.mk.injEq] at hzz
  obtain ⟨hz, hs, hb⟩ := hzz
  have hb' : (i.bytes : Int) * (n : Int) ≤ 281474976710656 := by
    have h : ((i.bytes * n : Nat) : Int) ≤ 281474976710656 := by rw [hb]; omega
    rwa [Int.natCast_mul] at h
  have hr := run_make (P := P) w t e i z ht hi hz kl kc n n (by omega) (Int.le_refl _) hb' (by omega)
  simp only [Int.toNat_natCast, hs] at hr
  exact hr
/-- What make lays is a row. -/
theorem rowIs_madeN (w : World) (z : Array Value) (n : Nat) (t : TypeId) : ∃ f, (w.alloc (.cells (madeCells z n) t)).rowIs w.heap.size t n f := by
  refine ⟨fun i => (madeCells z n)[i]?.getD default, ?_⟩
  have h := World.rowIs_alloc w (madeCells z n) t (fun i => (madeCells z n)[i]?.getD default) (fun i hi => by simp [hi])
  rwa [size_madeCells] at h
/-- Two rows' worth of ints read off a row of the call's own. -/
theorem IntsAt.of_row {w : World} {g T n : Nat} {f : Nat → Value} (h : w.rowIs g T n f) {xs : List Int} (hn : xs.length ≤ n) (hn' : n ≤ 9223372036854775807) (hf : ∀ i (_ : i < xs.length), f i = .int .i64 xs[i]) {lo : Nat} (hlo : lo ≤ g) :
    IntsAt lo w.heap.size w (.slice (some ⟨g, 0, none⟩) xs.length n) xs :=
  ⟨_, n, rfl, hn, hn', Nat.le_refl _, fun _ => ⟨g, 0, rfl, hlo, h.lt, fun i hi => by
    rw [Nat.zero_add]
    exact ⟨by rw [h.cell (by omega), hf i hi], h.frozen i⟩⟩⟩
theorem JobsAt.of_row {w : World} {g T n m : Nat} {f : Nat → Value} (h : w.rowIs g T m f) {js : List J} (hn : js.length ≤ n) (hm : n * 3 ≤ m) (hn' : n ≤ 9223372036854775807) (hf : ∀ i (_ : i < js.length), f (i * 3) = .int .i64 js[i].s ∧ f (i * 3 + 1) = .int .i64 js[i].d ∧ f (i * 3 + 2) = .int .i64 js[i].g) {lo : Nat} (hlo : lo ≤ g) :
    JobsAt lo w.heap.size w (.slice (some ⟨g, 0, none⟩) js.length n) js :=
  ⟨_, n, rfl, hn, hn', Nat.le_refl _, fun _ => ⟨g, 0, rfl, hlo, h.lt, fun i hi => by
    obtain ⟨f1, f2, f3⟩ := hf i hi
    rw [Nat.zero_add]
    exact ⟨⟨by rw [h.cell (by omega), f1], by rw [h.cell (by omega), f2], by rw [h.cell (by omega), f3]⟩, h.frozen _, h.frozen _, h.frozen _⟩⟩⟩
theorem rowIs_below {w w' : World} {B g T n : Nat} {f : Nat → Value} (h : w.rowIs g T n f) (k : Below B w w') (hg : g < B) : w'.rowIs g T n f := h.of_block (k.block g hg)
theorem addr_ne_off {b i j : Nat} (h : i ≠ j) : (⟨b, i, none⟩ : Addr) ≠ ⟨b, j, none⟩ := fun e => h (by injection e)
/-- One int of the slice written. -/
theorem IntsAt.set {lo hi b o n cap k : Nat} {w : World} {xs : List Int} (h : IntsAt lo hi w (.slice (some ⟨b, o, none⟩) n cap) xs) (hk : k < xs.length) (hn : n = xs.length) (x : Int) :
    IntsAt lo hi (w.setCell ⟨b, o + k, none⟩ (.int .i64 x)) (.slice (some ⟨b, o, none⟩) n cap) (xs.set k x) := by
  obtain ⟨ao, cap', e, h1, h2, h3, h4⟩ := h
  simp only [Value.slice.injEq] at e
  obtain ⟨rfl, -, rfl⟩ := e
  refine ⟨some ⟨b, o, none⟩, cap, by simp [hn], by simpa using h1, h2, by simpa [World.setCell] using h3, fun _ => ?_⟩
  obtain ⟨b', o', e, hb1, hb2, hc⟩ := h4 (by omega)
  simp only [Option.some.injEq, Addr.mk.injEq] at e
  obtain ⟨rfl, rfl, -⟩ := e
  refine ⟨b, o, rfl, hb1, hb2, fun i hi => ?_⟩
  have hi' : i < xs.length := by simpa using hi
  obtain ⟨c1, c2⟩ := hc i hi'
  refine ⟨?_, by rw [World.frozen?_setCell]; exact c2⟩
  by_cases e : i = k
  · subst e
    rw [World.cell?_setCell_same _ _ _ c1]
    simp
  · rw [World.cell?_setCell_other _ _ _ _ (addr_ne_off (by omega))]
    rw [c1, List.getElem_set_ne (fun h => e h.symm)]
/-- One job of the slice written, field by field. -/
theorem JobsAt.set {lo hi b o n cap k : Nat} {w : World} {js : List J} (h : JobsAt lo hi w (.slice (some ⟨b, o, none⟩) n cap) js) (hk : k < js.length) (hn : n = js.length) (x y z : Int) :
    JobsAt lo hi (((w.setCell ⟨b, o + k * 3, none⟩ (.int .i64 x)).setCell ⟨b, o + k * 3 + 1, none⟩ (.int .i64 y)).setCell ⟨b, o + k * 3 + 2, none⟩ (.int .i64 z)) (.slice (some ⟨b, o, none⟩) n cap) (js.set k ⟨x, y, z⟩) := by
  obtain ⟨ao, cap', e, h1, h2, h3, h4⟩ := h
  simp only [Value.slice.injEq] at e
  obtain ⟨rfl, -, rfl⟩ := e
  refine ⟨some ⟨b, o, none⟩, cap, by simp [hn], by simpa using h1, h2, by simpa [World.setCell] using h3, fun _ => ?_⟩
  obtain ⟨b', o', e, hb1, hb2, hc⟩ := h4 (by omega)
  simp only [Option.some.injEq, Addr.mk.injEq] at e
  obtain ⟨rfl, rfl, -⟩ := e
  refine ⟨b, o, rfl, hb1, hb2, fun i hi => ?_⟩
  have hi' : i < js.length := by simpa using hi
  obtain ⟨⟨c1, c2, c3⟩, d⟩ := hc i hi'
  refine ⟨?_, by simp only [World.frozen?_setCell]; exact d⟩
  by_cases e : i = k
  · subst e
    refine ⟨?_, ?_, ?_⟩
    · rw [World.cell?_setCell_other _ _ _ _ (addr_ne_off (by omega)), World.cell?_setCell_other _ _ _ _ (addr_ne_off (by omega)), World.cell?_setCell_same _ _ _ c1]
      simp
    · rw [World.cell?_setCell_other _ _ _ _ (addr_ne_off (by omega)), World.cell?_setCell_same _ _ _ (by rw [World.cell?_setCell_other _ _ _ _ (addr_ne_off (by omega))]; exact c2)]
      simp
    · rw [World.cell?_setCell_same _ _ _ (by rw [World.cell?_setCell_other _ _ _ _ (addr_ne_off (by omega)), World.cell?_setCell_other _ _ _ _ (addr_ne_off (by omega))]; exact c3)]
      simp
  · rw [List.getElem_set_ne (fun h => e h.symm)]
    refine ⟨?_, ?_, ?_⟩
    · rw [World.cell?_setCell_other _ _ _ _ (addr_ne_off (by omega)), World.cell?_setCell_other _ _ _ _ (addr_ne_off (by omega)), World.cell?_setCell_other _ _ _ _ (addr_ne_off (by omega))]; exact c1
    · rw [World.cell?_setCell_other _ _ _ _ (addr_ne_off (by omega)), World.cell?_setCell_other _ _ _ _ (addr_ne_off (by omega)), World.cell?_setCell_other _ _ _ _ (addr_ne_off (by omega))]; exact c2
    · rw [World.cell?_setCell_other _ _ _ _ (addr_ne_off (by omega)), World.cell?_setCell_other _ _ _ _ (addr_ne_off (by omega)), World.cell?_setCell_other _ _ _ _ (addr_ne_off (by omega))]; exact c3
end Go.Proofs.YtajjnciookhamaaGreat
namespace Go.Proofs.YtajjnciookhamaaGreat
open Go.RowKit
/-- p holds of all numbers below n. -/
def upTo (n : Nat) (p : Nat → Bool) : Bool := (List.range n).all p
theorem upTo_iff {n : Nat} {p : Nat → Bool} : upTo n p = true ↔ ∀ k, k < n → p k = true := by simp [upTo]
theorem upTo_true {n : Nat} {p : Nat → Bool} (h : ∀ k, k < n → p k = true) : upTo n p = true := upTo_iff.2 h
theorem upTo_false {n k : Nat} {p : Nat → Bool} (hk : k < n) (hp : p k = false) : upTo n p = false := by
  cases h : upTo n p with
  | false => rfl
  | true => rw [upTo_iff.1 h k hk] at hp; cases hp
theorem upTo_snoc {k : Nat} {p : Nat → Bool} (h : ∀ j, j < k → p j = true) (hp : p k = true) : ∀ j, j < k + 1 → p j = true := fun j hj => by
  rcases Nat.lt_or_ge j k with h1 | h1
  · exact h j h1
  · obtain rfl : j = k := by omega
    exact hp
end Go.Proofs.YtajjnciookhamaaGreat
namespace Go.Proofs.YtajjnciookhamaaGreat
open Go.RowKit
def hasI (xs : List Int) (n : Int) : Bool := xs.any (· == n)
theorem hasI_iff {xs : List Int} {n : Int} : hasI xs n = true ↔ n ∈ xs := by simp [hasI]
theorem hasI_false {xs : List Int} {n : Int} : hasI xs n = false ↔ n ∉ xs := by
  rw [← hasI_iff]; simp
/-- The k-th id is in its range and none of those before it. -/
def idK (ids : List Int) (k : Nat) : Bool := wi (ids.getD k 0) 0 99 && (ids.getD k 0 == 0 || !hasI (ids.take k) (ids.getD k 0))
/-- Below the k-th coil of the upper row lie two. -/
def onK (lo hi : List Int) (k : Nat) : Bool := hi.getD k 0 == 0 || (lo.getD k 0 != 0 && lo.getD (k + 1) 0 != 0)
def pileB (lo hi : List Int) : Bool := wi lo.length 1 6 && (decide ((hi.length : Int) = lo.length - 1) && (upTo (lo ++ hi).length (idK (lo ++ hi)) && upTo hi.length (onK lo hi)))
/-- The coils among ids. -/
def nz (l : List Int) : List Int := l.filter (· != 0)
theorem mem_nz {l : List Int} {x : Int} : x ∈ nz l ↔ x ∈ l ∧ x ≠ 0 := by simp [nz]
structure PileV (lo hi : List Int) : Prop where
  l1 : 1 ≤ lo.length
  l6 : lo.length ≤ 6
  lh : hi.length + 1 = lo.length
  rng : ∀ x ∈ lo ++ hi, 0 ≤ x ∧ x ≤ 99
  nd : (nz (lo ++ hi)).Nodup
  on : ∀ k, k < hi.length → hi.getD k 0 ≠ 0 → lo.getD k 0 ≠ 0 ∧ lo.getD (k + 1) 0 ≠ 0
theorem nd_snoc (l : List Int) (x : Int) : (nz (l ++ [x])).Nodup ↔ (nz l).Nodup ∧ (x = 0 ∨ x ∉ l) := by
  by_cases h : x = 0
  · subst h; simp [nz]
  · have e : nz (l ++ [x]) = nz l ++ [x] := by simp [nz, h]
    rw [e, List.nodup_append]
    constructor
    · rintro ⟨h1, _, h3⟩
      exact ⟨h1, .inr fun hx => h3 x (mem_nz.2 ⟨hx, h⟩) x (by simp) rfl⟩
    · rintro ⟨h1, h2⟩
      refine ⟨h1, by simp, fun a ha b hb e => ?_⟩
      simp only [List.mem_singleton] at hb
      rw [e, hb] at ha
      rcases h2 with h2 | h2
      · exact h h2
      · exact h2 (mem_nz.1 ha).1
theorem nd_iff : ∀ (l : List Int), (∀ k, k < l.length → l.getD k 0 = 0 ∨ l.getD k 0 ∉ l.take k) ↔ (nz l).Nodup := by
  intro l
  induction hn : l.length generalizing l with
  | zero => obtain rfl := List.length_eq_zero_iff.1 hn; simp [nz]
  | succ n ih =>
    obtain ⟨a, x, rfl⟩ : ∃ a x, l = a ++ [x] := by
      rcases List.eq_nil_or_concat l with h | ⟨a, x, h⟩
      · subst h; cases hn
      · exact ⟨a, x, by rw [h]; simp⟩
    have ha : a.length = n := by simpa using hn
    rw [nd_snoc, ← ih a ha]
    constructor
    · intro h
      refine ⟨fun k hk => ?_, ?_⟩
      · have := h k (by omega)
        rw [List.take_append_of_le_length (by omega)] at this
        simpa [List.getD, List.getElem?_append_left (show k < a.length by omega)] using this
      · have := h n (by omega)
        rw [← ha] at this
        simpa [List.getD] using this
    · rintro ⟨h1, h2⟩ k hk
      rcases Nat.lt_or_ge k n with hlt | hge
      · have := h1 k hlt
        rw [List.take_append_of_le_length (by omega)]
        simpa [List.getD, List.getElem?_append_left (show k < a.length by omega)] using this
      · have e : k = a.length := by omega
        subst e
        simpa [List.getD] using h2
theorem getD_mem {l : List Int} {k : Nat} (h : k < l.length) : l.getD k 0 ∈ l := by
  rw [List.getD_eq_getElem?_getD, List.getElem?_eq_getElem h]; exact List.getElem_mem _
theorem mem_getD {l : List Int} {x : Int} (h : x ∈ l) : ∃ k, k < l.length ∧ l.getD k 0 = x := by
  obtain ⟨k, hk, e⟩ := List.getElem_of_mem h
  exact ⟨k, hk, by rw [List.getD_eq_getElem?_getD, List.getElem?_eq_getElem hk]; exact e⟩
theorem pileB_iff {lo hi : List Int} : pileB lo hi = true ↔ PileV lo hi := by
  unfold pileB
  rw [Bool.and_eq_true, Bool.and_eq_true, Bool.and_eq_true, wi_iff, decide_eq_true_iff, upTo_iff, upTo_iff]
  constructor
  · rintro ⟨⟨h1, h2⟩, h3, h4, h5⟩
    have h4' : ∀ k, k < (lo ++ hi).length → (0 ≤ (lo ++ hi).getD k 0 ∧ (lo ++ hi).getD k 0 ≤ 99) ∧ ((lo ++ hi).getD k 0 = 0 ∨ (lo ++ hi).getD k 0 ∉ (lo ++ hi).take k) := fun k hk => by
      have := h4 k hk
      unfold idK at this
      rw [Bool.and_eq_true, wi_iff, Bool.or_eq_true, Bool.not_eq_true', hasI_false, beq_iff_eq] at this
      exact this
    refine ⟨by omega, by omega, by omega, fun x hx => ?_, (nd_iff _).1 fun k hk => (h4' k hk).2, fun k hk hne => ?_⟩
    · obtain ⟨k, hk, rfl⟩ := mem_getD hx
      exact (h4' k hk).1
    · have := h5 k hk
      unfold onK at this
      rw [Bool.or_eq_true, Bool.and_eq_true, beq_iff_eq, bne_iff_ne, bne_iff_ne] at this
      rcases this with h | h
      · exact absurd h hne
      · exact h
  · rintro ⟨h1, h2, h3, h4, h5, h6⟩
    refine ⟨⟨by omega, by omega⟩, by omega, fun k hk => ?_, fun k hk => ?_⟩
    · unfold idK
      rw [Bool.and_eq_true, wi_iff, Bool.or_eq_true, Bool.not_eq_true', hasI_false, beq_iff_eq]
      exact ⟨h4 _ (getD_mem hk), (nd_iff _).2 h5 k hk⟩
    · unfold onK
      rw [Bool.or_eq_true, Bool.and_eq_true, beq_iff_eq, bne_iff_ne, bne_iff_ne]
      by_cases h : hi.getD k 0 = 0
      · exact .inl h
      · exact .inr (h6 k hk h)
/-- All ids there may be. -/
def ids99 : List Int := (List.range 99).map fun (k : Nat) => (k : Int) + 1
/-- The ids of the coils, ascending. -/
def coilR (lo hi : List Int) : List Int := if pileB lo hi then ids99.filter (fun x => hasI (lo ++ hi) x) else []
theorem ids99_lt : ids99.Pairwise (· < ·) := by
  unfold ids99
  rw [List.pairwise_map]
  exact List.Pairwise.imp (fun {a b} (h : a < b) => by omega) List.pairwise_lt_range
theorem mem_ids99 {x : Int} : x ∈ ids99 ↔ 1 ≤ x ∧ x ≤ 99 := by
  unfold ids99
  simp only [List.mem_map, List.mem_range]
  constructor
  · rintro ⟨k, hk, rfl⟩; omega
  · rintro ⟨h1, h2⟩; exact ⟨(x - 1).toNat, by omega, by omega⟩
theorem coil_lt (lo hi : List Int) : (coilR lo hi).Pairwise (· < ·) := by
  unfold coilR
  split
  · exact ids99_lt.filter _
  · exact List.Pairwise.nil
theorem mem_coil {lo hi : List Int} (h : PileV lo hi) {x : Int} : x ∈ coilR lo hi ↔ x ∈ nz (lo ++ hi) := by
  rw [coilR, if_pos (pileB_iff.2 h), List.mem_filter, mem_ids99, hasI_iff, mem_nz]
  constructor
  · rintro ⟨h1, h2⟩; exact ⟨h2, by omega⟩
  · rintro ⟨h1, h2⟩; have := h.rng x h1; exact ⟨by omega, h1⟩
theorem lt_unique {l l' : List Int} (h : l.Pairwise (· < ·)) (h' : l'.Pairwise (· < ·)) (hm : ∀ x, x ∈ l ↔ x ∈ l') : l = l' := by
  have nd : ∀ {l : List Int}, l.Pairwise (· < ·) → l.Nodup := fun h => List.nodup_iff_pairwise_ne.2 (h.imp fun {a b} (h : a < b) => by omega)
  exact List.Perm.eq_of_pairwise (fun a b _ _ (h1 : a < b) (h2 : b < a) => by omega) h h' ((List.perm_ext_iff_of_nodup (nd h) (nd h')).2 hm)
/-- A sorted rearrangement of the coils is the list of ids. -/
theorem coil_sorted {lo hi l : List Int} (h : PileV lo hi) (hp : l.Perm (nz (lo ++ hi))) (hs : l.Pairwise (· ≤ ·)) : l = coilR lo hi := by
  have hn : l.Nodup := hp.nodup_iff.2 h.nd
  have hlt : l.Pairwise (· < ·) := by
    have h2 := List.nodup_iff_pairwise_ne.1 hn
    exact (hs.and h2).imp fun {a b} ⟨h1, h2⟩ => by omega
  exact lt_unique hlt (coil_lt lo hi) fun x => by rw [mem_coil h]; exact hp.mem_iff
/-- The row of a spot. -/
def rowR (t : Bool) (lo hi : List Int) : List Int := if t then hi else lo
def atR (lo hi : List Int) (t : Bool) (p : Int) : Int := if pileB lo hi && wi p 0 ((rowR t lo hi).length - 1) then (rowR t lo hi).getD p.toNat 0 else -1
/-- What lies on a coil. -/
def onR (lo hi : List Int) (t : Bool) (p : Int) : List Int := if decide (atR lo hi t p < 1) || t then [] else [atR lo hi true (p - 1), atR lo hi true p].filter (fun x => decide (0 < x))
def findR (lo hi : List Int) (id : Int) : Option (Bool × Int) :=
  if pileB lo hi && decide (1 ≤ id) then (if hasI lo id then some (false, (lo.idxOf id : Nat)) else if hasI hi id then some (true, (hi.idxOf id : Nat)) else none) else none
def setR (t : Bool) (lo hi : List Int) (p x : Int) : List Int × List Int := if t then (lo, hi.set p.toNat x) else (lo.set p.toNat x, hi)
def putR (lo hi : List Int) (t : Bool) (p id : Int) : (List Int × List Int) × Bool :=
  if pileB lo hi then (if decide (id < 1) || atR lo hi t p != 0 then ((lo, hi), false) else if pileB (setR t lo hi p id).1 (setR t lo hi p id).2 then (setR t lo hi p id, true) else ((lo, hi), false)) else (([], []), false)
def takeR (lo hi : List Int) (t : Bool) (p : Int) : (List Int × List Int) × Int :=
  if pileB lo hi then (if decide (atR lo hi t p < 1) || decide (0 < (onR lo hi t p).length) then ((lo, hi), 0) else (setR t lo hi p 0, atR lo hi t p)) else (([], []), 0)
def liftR (lo hi : List Int) (t : Bool) (p : Int) (t' : Bool) (p' : Int) : (List Int × List Int) × Bool :=
  if pileB lo hi then (if t == t' && p == p' then ((lo, hi), false) else if (takeR lo hi t p).2 == 0 then ((lo, hi), false) else
    if (putR (takeR lo hi t p).1.1 (takeR lo hi t p).1.2 t' p' (takeR lo hi t p).2).2 then ((putR (takeR lo hi t p).1.1 (takeR lo hi t p).1.2 t' p' (takeR lo hi t p).2).1, true) else ((lo, hi), false)) else (([], []), false)
theorem row_mem {t : Bool} {lo hi : List Int} {x : Int} (h : x ∈ rowR t lo hi) : x ∈ lo ++ hi := by
  cases t <;> simp [rowR] at h <;> simp [h]
/-- A spot with a coil or none. -/
theorem at_row {lo hi : List Int} {t : Bool} {p : Int} (h : 0 ≤ atR lo hi t p) : PileV lo hi ∧ ∃ k : Nat, p = k ∧ k < (rowR t lo hi).length ∧ atR lo hi t p = (rowR t lo hi).getD k 0 := by
  unfold atR at h ⊢
  split at h
  · rename_i hc
    rw [Bool.and_eq_true, wi_iff] at hc
    obtain ⟨h1, h2, h3⟩ := hc
    refine ⟨pileB_iff.1 h1, p.toNat, by omega, by omega, ?_⟩
    rw [if_pos (by rw [Bool.and_eq_true, wi_iff]; exact ⟨h1, h2, h3⟩)]
  · omega
end Go.Proofs.YtajjnciookhamaaGreat
