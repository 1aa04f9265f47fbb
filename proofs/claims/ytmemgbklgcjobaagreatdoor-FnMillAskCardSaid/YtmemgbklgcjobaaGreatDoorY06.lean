/-
  Parts of the proofs over mills, of: RowL, PlainClear, DeedOwn, Lists, OwnE. Conditions: each theorem states its own.
-/
import Derived.Test.YtmemgbklgcjobaaGreatDoorY05
set_option linter.unusedSimpArgs false
set_option linter.unusedVariables false
set_option maxRecDepth 10000
set_option maxHeartbeats 64000000
namespace Go.Proofs.YtmemgbklgcjobaaGreatDoor
open Go.RowKit
def RowL (w : World) (b T : Nat) (vs : List Value) : Prop := w.rowIs b T vs.length (fun i => vs.getD i default)
theorem RowL.cell {w : World} {b T : Nat} {vs : List Value} (h : RowL w b T vs) (i : Nat) (hi : i < vs.length) : w.cell? ⟨b, i, none⟩ = some (vs.getD i default) := World.rowIs.cell h hi
theorem RowL.c {w : World} {b T : Nat} {vs : List Value} (h : RowL w b T vs) (i : Nat) {v : Value} (hv : vs[i]? = some v) : w.cell? ⟨b, i, none⟩ = some v := by
 obtain ⟨hi, e⟩ := List.getElem?_eq_some_iff.1 hv;rw [h.cell i hi, List.getD_eq_getElem?_getD, hv]; rfl
theorem RowL.frozen {w : World} {b T : Nat} {vs : List Value} (h : RowL w b T vs) (i : Nat) : w.frozen? ⟨b, i, none⟩ = false := World.rowIs.frozen h i
theorem RowL.lt {w : World} {b T : Nat} {vs : List Value} (h : RowL w b T vs) : b < w.heap.size := World.rowIs.lt h
theorem RowL.below {w w' : World} {B b T : Nat} {vs : List Value} (h : RowL w b T vs) (k : Below B w w') (hB : b < B) : RowL w' b T vs := rowIs_below h k hB
theorem RowL.other {w w' : World} {lo hi b T : Nat} {vs : List Value} (h : RowL w b T vs) (k : Other lo hi w w') (hB : b < lo ∨ hi ≤ b) : RowL w' b T vs :=
 World.rowIs.of_block h (k.block b h.lt hB)
theorem RowL.new (w : World) (T : Nat) (vs : List Value) : RowL (w.alloc (.cells vs.toArray T)) w.heap.size T vs := by
 have h := World.rowIs_alloc w vs.toArray T (fun i => vs.getD i default) (fun i hi => by
  have hi' : i < vs.length := by simpa using hi
  simp [List.getElem?_eq_getElem hi'])
 unfold RowL;simpa using h
theorem RowL.alloc {w : World} {b T : Nat} {vs : List Value} (h : RowL w b T vs) (o : Obj) : RowL (w.alloc o) b T vs :=
 h.below ((Below.refl w.heap.size w).alloc (Nat.le_refl _) o) h.lt
theorem RowL.drew {w : World} {b T : Nat} {vs : List Value} (h : RowL w b T vs) : RowL w.drew b T vs := h
theorem RowL.drewN {w : World} {b T : Nat} {vs : List Value} (h : RowL w b T vs) (n : Nat) : RowL (w.drewN n) b T vs := h
theorem RowL.set {w : World} {b T : Nat} {vs : List Value} (h : RowL w b T vs) (i : Nat) (x : Value) (hi : i < vs.length) : RowL (w.setCell ⟨b, i, none⟩ x) b T (vs.set i x) := by
 unfold RowL;rw [List.length_set];refine (World.rowIs.set h i x).congr fun j hj => ?_;simp only [List.getD_eq_getElem?_getD, List.getElem?_set];by_cases e : j = i
 ·subst e; simp [hi]
 ·rw [if_neg e, if_neg (fun h => e h.symm)]
theorem RowL.far {w : World} {b T : Nat} {vs : List Value} (h : RowL w b T vs) {p : Addr} (hp : p.block ≠ b) (x : Value) : RowL (w.setCell p x) b T vs :=
 World.rowIs.of_block h (Below.heap_setCell _ _ _ _ hp.symm)
theorem calls_at {P : Program} {f : FuncId} {args : Array Value} {W : World} {Q : Ending → World → Prop} (h : ∀ wx, wx = W → Calls P f args wx Q) : Calls P f args W Q := h _ rfl
theorem row12_c {w : World} {b T : Nat} {v0 v1 v2 v3 v4 v5 v6 v7 v8 v9 v10 v11 : Value} (h : RowL w b T [v0, v1, v2, v3, v4, v5, v6, v7, v8, v9, v10, v11]) :
 w.cell? ⟨b, 0, none⟩ = some v0 ∧ w.cell? ⟨b, 1, none⟩ = some v1 ∧ w.cell? ⟨b, 2, none⟩ = some v2 ∧ w.cell? ⟨b, 3, none⟩ = some v3 ∧ w.cell? ⟨b, 4, none⟩ = some v4 ∧ w.cell? ⟨b, 5, none⟩ = some v5 ∧ w.cell? ⟨b, 6, none⟩ = some v6 ∧ w.cell? ⟨b, 7, none⟩ = some v7 ∧ w.cell? ⟨b, 8, none⟩ = some v8 ∧ w.cell? ⟨b, 9, none⟩ = some v9 ∧ w.cell? ⟨b, 10, none⟩ = some v10 ∧ w.cell? ⟨b, 11, none⟩ = some v11 :=
 ⟨h.c 0 rfl, h.c 1 rfl, h.c 2 rfl, h.c 3 rfl, h.c 4 rfl, h.c 5 rfl, h.c 6 rfl, h.c 7 rfl, h.c 8 rfl, h.c 9 rfl, h.c 10 rfl, h.c 11 rfl⟩
theorem row12_f {w : World} {b T : Nat} {vs : List Value} (h : RowL w b T vs) :
 w.frozen? ⟨b, 0, none⟩ = false ∧ w.frozen? ⟨b, 1, none⟩ = false ∧ w.frozen? ⟨b, 2, none⟩ = false ∧ w.frozen? ⟨b, 3, none⟩ = false ∧ w.frozen? ⟨b, 4, none⟩ = false ∧ w.frozen? ⟨b, 5, none⟩ = false ∧ w.frozen? ⟨b, 6, none⟩ = false ∧ w.frozen? ⟨b, 7, none⟩ = false ∧ w.frozen? ⟨b, 8, none⟩ = false ∧ w.frozen? ⟨b, 9, none⟩ = false ∧ w.frozen? ⟨b, 10, none⟩ = false ∧ w.frozen? ⟨b, 11, none⟩ = false :=
 ⟨h.frozen 0, h.frozen 1, h.frozen 2, h.frozen 3, h.frozen 4, h.frozen 5, h.frozen 6, h.frozen 7, h.frozen 8, h.frozen 9, h.frozen 10, h.frozen 11⟩
theorem nz_app (a b : List Int) : nz (a ++ b) = nz a ++ nz b := by simp [nz]
theorem at_hi {lo hi : List Int} (hv : PileV lo hi) {k : Nat} (hk : k < hi.length) : atR lo hi true k = hi.getD k 0 := by
 unfold atR;rw [if_pos (by rw [Bool.and_eq_true, wi_iff]; exact ⟨pileB_iff.2 hv, by omega, by show (k : Int) ≤ (hi.length : Int) - 1; omega⟩)];show hi.getD (k : Int).toNat 0 = _
 rw [Int.toNat_natCast]
theorem idx_get {l : List Int} {id : Int} (h : id ∈ l) : l.idxOf id < l.length ∧ l.getD (l.idxOf id) 0 = id := by
 have hl := List.idxOf_lt_length_of_mem h;refine ⟨hl, ?_⟩;rw [List.getD_eq_getElem?_getD, List.getElem?_eq_getElem hl];exact List.getElem_idxOf hl
theorem take_hi {lo hi : List Int} (hv : PileV lo hi) {id : Int} (h : id ∈ nz hi) :
 findR lo hi id = some (true, ((hi.idxOf id : Nat) : Int)) ∧ takeR lo hi true (hi.idxOf id : Nat) = ((lo, hi.set (hi.idxOf id) 0), id) := by
 obtain ⟨h1, h2⟩ := mem_nz.1 h;have hr := hv.rng id (List.mem_append_right _ h1);obtain ⟨i1, i2⟩ := idx_get h1;have hnl : id ∉ lo := fun hl => by
  have := hv.nd;rw [nz_app, List.nodup_append] at this;exact this.2.2 id (mem_nz.2 ⟨hl, h2⟩) id h rfl
 constructor
 ·unfold findR
  rw [if_pos (by rw [Bool.and_eq_true, decide_eq_true_iff]; exact ⟨pileB_iff.2 hv, by omega⟩), if_neg (by rw [hasI_iff]; exact hnl), if_pos (hasI_iff.2 h1)]
 ·unfold takeR
  have e := at_hi hv i1;rw [i2] at e;rw [if_pos (pileB_iff.2 hv), e, if_neg (by simp [onR]; omega)];simp [setR]
def Goes (m : Mi) (l : List J) (x : Mi) : Prop := ∀ n : Int, l.foldl runS (m, n) = (x, n + l.length)
theorem Goes.nil (m : Mi) : Goes m [] m := fun n => by simp
theorem Goes.cons {m y x : Mi} {d : J} {l : List J} (h : doR m d = (y, true)) (k : Goes y l x) : Goes m (d :: l) x := fun n => by
 rw [List.foldl_cons, show runS (m, n) d = (y, n + 1) by unfold runS; simp only [h, if_true], k (n + 1), List.length_cons];simp only [Prod.mk.injEq, true_and]; omega
theorem Goes.append {m y x : Mi} {a b : List J} (h : Goes m a y) (k : Goes y b x) : Goes m (a ++ b) x := fun n => by
 rw [List.foldl_append, h n, k, List.length_append];simp only [Prod.mk.injEq, true_and]; omega
structure Keep (m x : Mi) : Prop where
 v : MillV x
 st : x.strand = m.strand
 sc : x.scrap = m.scrap
 len : x.pieces.length = m.pieces.length
theorem Keep.trans {a b c : Mi} (h : Keep a b) (k : Keep b c) : Keep a c := ⟨k.v, k.st.trans h.st, k.sc.trans h.sc, k.len.trans h.len⟩
theorem JobsAt.nil (lo hi : Nat) (w : World) (ao : Option Addr) (cap : Nat) (hc : cap ≤ 9223372036854775807) (h : hi ≤ w.heap.size) : JobsAt lo hi w (.slice ao 0 cap) [] :=
 ⟨ao, cap, rfl, Nat.zero_le _, hc, h, fun h => absurd h (Nat.not_lt_zero _)⟩
theorem Apart.grow {u u' v : Value} {w : World} {base T sz n : Nat} {cs : List Value} (h : Apart u v) (hv : w.ownsRow base T sz v n cs) (h4 : u'.ownBlock = u.ownBlock ∨ u'.ownBlock = some w.heap.size) : Apart u' v := fun k h1 h2 => by
 rcases h4 with e | e
 ·exact h k (e ▸ h1) h2
 ·rw [e] at h1
  have := (hv.lt k h2).2;have := Option.some.inj h1;omega
theorem st_at {lo hi : Nat} {w : World} {v : Value} {xs : List St} (h : StAt lo hi w v xs) {k : Nat} (hk : k < xs.length) :
 ∃ b o cap, v = .slice (some ⟨b, o, none⟩) xs.length cap ∧ lo ≤ b ∧ b < hi ∧
  (w.cell? ⟨b, o + k * 5, none⟩ = some (.int .i64 (xs.getD k st0).c) ∧ w.cell? ⟨b, o + k * 5 + 1, none⟩ = some (.int .i64 (xs.getD k st0).m) ∧ w.cell? ⟨b, o + k * 5 + 2, none⟩ = some (.int .i64 (xs.getD k st0).s) ∧ w.cell? ⟨b, o + k * 5 + 3, none⟩ = some (.int .i64 (xs.getD k st0).p) ∧ w.cell? ⟨b, o + k * 5 + 4, none⟩ = some (.int .i64 (xs.getD k st0).k)) := by
 obtain ⟨ao, cap, rfl, h1, h2, h3, h4⟩ := h;obtain ⟨b, o, rfl, b1, b2, hc⟩ := h4 (by omega);have hg : xs.getD k st0 = xs[k] := by simp [hk]
 rw [hg];exact ⟨b, o, cap, rfl, b1, b2, (hc k hk).1⟩
theorem pc_at {lo hi : Nat} {w : World} {v : Value} {xs : List Pc} (h : PcAt lo hi w v xs) {k : Nat} (hk : k < xs.length) :
 ∃ b o cap, v = .slice (some ⟨b, o, none⟩) xs.length cap ∧ lo ≤ b ∧ b < hi ∧
  (w.cell? ⟨b, o + k * 2, none⟩ = some (.int .i64 (xs.getD k pc0).l) ∧ w.cell? ⟨b, o + k * 2 + 1, none⟩ = some (.int .i64 (xs.getD k pc0).s)) := by
 obtain ⟨ao, cap, rfl, h1, h2, h3, h4⟩ := h;obtain ⟨b, o, rfl, b1, b2, hc⟩ := h4 (by omega);have hg : xs.getD k pc0 = xs[k] := by simp [hk]
 rw [hg];exact ⟨b, o, cap, rfl, b1, b2, (hc k hk).1⟩
def Lists (lo : Nat) (w : World) (v : Value) (us : List Value) (xss : List (List Int)) : Prop :=
 us.length = xss.length ∧ ∀ i (_ : i < xss.length), ∃ u a z, us[i]? = some u ∧ lo ≤ a ∧ IntsAt a z w u xss[i] ∧ ∀ g, v.ownBlock = some g → g < a ∨ z ≤ g
theorem Lists.none (lo : Nat) (w : World) (v : Value) : Lists lo w v [] [] := ⟨rfl, fun _ h => absurd h (Nat.not_lt_zero _)⟩
theorem Lists.below {lo : Nat} {w w' : World} {v : Value} {us : List Value} {xss : List (List Int)} (h : Lists lo w v us xss) (k : Below w.heap.size w w') : Lists lo w' v us xss :=
 ⟨h.1, fun i hi => by
  obtain ⟨u, a, z, h1, h2, h3, h4⟩ := h.2 i hi;exact ⟨u, a, z, h1, h2, h3.below k, h4⟩⟩
theorem Lists.mono {lo lo' : Nat} {w : World} {v : Value} {us : List Value} {xss : List (List Int)} (h : Lists lo w v us xss) (k : lo' ≤ lo) : Lists lo' w v us xss :=
 ⟨h.1, fun i hi => by
  obtain ⟨u, a, z, h1, h2, h3, h4⟩ := h.2 i hi;exact ⟨u, a, z, h1, Nat.le_trans k h2, h3, h4⟩⟩
theorem Lists.off {lo lo' : Nat} {w : World} {v v' : Value} {us : List Value} {xss : List (List Int)} (h : Lists lo w v us xss) (k : lo' ≤ lo) (hv : ∀ g, v'.ownBlock = some g → g < lo) : Lists lo' w v' us xss :=
 ⟨h.1, fun i hi => by
  obtain ⟨u, a, z, h1, h2, h3, h4⟩ := h.2 i hi;exact ⟨u, a, z, h1, Nat.le_trans k h2, h3, fun g hg => .inl (Nat.lt_of_lt_of_le (hv g hg) h2)⟩⟩
theorem Lists.grow {lo : Nat} {w w' : World} {v v' : Value} {us : List Value} {xss : List (List Int)} (h : Lists lo w v us xss) (hg : w.grownBy w' v.ownBlock) (hv : v'.ownBlock = v.ownBlock ∨ v'.ownBlock = some w.heap.size) : Lists lo w' v' us xss :=
 ⟨h.1, fun i hi => by
  obtain ⟨u, a, z, h1, h2, h3, h4⟩ := h.2 i hi;refine ⟨u, a, z, h1, h2, h3.keep (fun k k1 k2 => hg.block k (Nat.lt_of_lt_of_le k2 h3.lt) fun e => ?_) hg.size, fun g e => ?_⟩
  ·have := h4 k e.symm
   omega
  ·rcases hv with hv | hv
   ·exact h4 g (by rw [← hv]; exact e)
   ·rw [hv] at e
    have := Option.some.inj e;exact .inr (by have := h3.lt; omega)⟩
theorem Lists.append {lo : Nat} {w : World} {v : Value} {us us' : List Value} {xss xss' : List (List Int)} (h : Lists lo w v us xss) (h' : Lists lo w v us' xss') : Lists lo w v (us ++ us') (xss ++ xss') := by
 refine ⟨by rw [List.length_append, List.length_append, h.1, h'.1], fun i hi => ?_⟩;rw [List.length_append] at hi;rcases Nat.lt_or_ge i xss.length with hlt | hge
 ·obtain ⟨u, a, z, h1, h2, h3, h4⟩ := h.2 i hlt
  refine ⟨u, a, z, by rw [List.getElem?_append_left (by rw [h.1]; exact hlt)]; exact h1, h2, ?_, h4⟩;rw [List.getElem_append_left hlt]; exact h3
 ·obtain ⟨u, a, z, h1, h2, h3, h4⟩ := h'.2 (i - xss.length) (by omega)
  refine ⟨u, a, z, by rw [List.getElem?_append_right (by rw [h.1]; exact hge), h.1]; exact h1, h2, ?_, h4⟩;rw [List.getElem_append_right hge]; exact h3
theorem Lists.one {lo a z : Nat} {w : World} {v u : Value} {xs : List Int} (h : IntsAt a z w u xs) (hlo : lo ≤ a) (hv : ∀ g, v.ownBlock = some g → g < a ∨ z ≤ g) : Lists lo w v [u] [xs] :=
 ⟨rfl, fun i hi => by
  obtain rfl : i = 0 := by simpa using hi
  exact ⟨u, a, z, rfl, hlo, h, hv⟩⟩
theorem own_put {w : World} {base T sz n : Nat} {v : Value} {cs : List Value} (h : w.ownsRow base T sz v n cs) {g j : Nat} (hg : v.ownBlock = some g) (u : Value) :
 (w.setCell ⟨g, j, none⟩ u).ownsRow base T sz v n (cs.set j u) ∧ Other g (g + 1) w (w.setCell ⟨g, j, none⟩ u) := by
 refine ⟨?_, Other.setCell (p := ⟨g, j, none⟩) (Other.refl _ _ _) nl (Nat.lt_succ_self _) u⟩;rcases id h.2 with ⟨rfl, -⟩ | ⟨g', cap, cur, rfl, -⟩
 ·cases hg
 ·obtain rfl : g' = g := Option.some.inj hg
  exact (h.stored j u).1
theorem flatI_set (xs : List Int) (k : Nat) (x : Int) : flatI (xs.set k x) = (flatI xs).set k (.int .i64 x) := by simp [flatI, List.map_set]
theorem own_ne_row {w : World} {base T T' sz n G : Nat} {v : Value} {cs vs : List Value} (h : w.ownsRow base T sz v n cs) (hr : RowL w G T' vs) (hT : T ≠ T') : ∀ g, v.ownBlock = some g → g ≠ G := by
 intro g hg e;subst e;rcases h.2 with ⟨rfl, -⟩ | ⟨g', cap, cur, rfl, -, hb, -⟩
 ·cases hg
 ·obtain rfl : g' = g := Option.some.inj hg
  obtain ⟨c, hb', -, -⟩ := hr;rw [hb] at hb';injection Option.some.inj hb' with _ e2 _;exact hT e2
def OwnE (base T sz : Nat) (w : World) (v : Value) (n : Nat) (cs : List Value) : Prop :=
 w.ownsRow base T sz v n cs ∨ (∃ g, v = .slice (some ⟨g, 0, none⟩) 0 0 ∧ base ≤ g ∧ g < w.heap.size ∧ n = 0 ∧ cs = [])
theorem OwnE.own {base T sz n : Nat} {w : World} {v : Value} {cs : List Value} (h : w.ownsRow base T sz v n cs) : OwnE base T sz w v n cs := Or.inl h
theorem OwnE.below {base T sz B n : Nat} {w w' : World} {v : Value} {cs : List Value} (h : OwnE base T sz w v n cs) (k : Below B w w') (hB : w.heap.size ≤ B) : OwnE base T sz w' v n cs := by
 rcases h with h | ⟨g, h1, h2, h3, h4, h5⟩
 ·exact .inl (ownsRow_below h k hB)
 ·exact .inr ⟨g, h1, h2, Nat.lt_of_lt_of_le h3 k.size, h4, h5⟩
theorem OwnE.other {base T sz lo hi n : Nat} {w w' : World} {v : Value} {cs : List Value} (h : OwnE base T sz w v n cs) (k : Other lo hi w w') (hd : ∀ g, v.ownBlock = some g → g < lo ∨ hi ≤ g) : OwnE base T sz w' v n cs := by
 rcases h with h | ⟨g, h1, h2, h3, h4, h5⟩
 ·exact .inl (ownsRow_other h k hd)
 ·exact .inr ⟨g, h1, h2, Nat.lt_of_lt_of_le h3 k.size, h4, h5⟩
theorem OwnE.grown {base T sz n : Nat} {w w' : World} {row : Option Nat} {v : Value} {cs : List Value} (h : OwnE base T sz w v n cs) (k : w.grownBy w' row) (hd : ∀ g, v.ownBlock = some g → some g ≠ row) : OwnE base T sz w' v n cs := by
 rcases h with h | ⟨g, h1, h2, h3, h4, h5⟩
 ·exact .inl (ownsRow_grown h k hd)
 ·exact .inr ⟨g, h1, h2, Nat.lt_of_lt_of_le h3 k.size, h4, h5⟩
theorem OwnE.alloc {base T sz n : Nat} {w : World} {v : Value} {cs : List Value} (h : OwnE base T sz w v n cs) (o : Obj) : OwnE base T sz (w.alloc o) v n cs :=
 h.below ((Below.refl w.heap.size w).alloc nl o) nl
theorem OwnE.drew {base T sz n : Nat} {w : World} {v : Value} {cs : List Value} (h : OwnE base T sz w v n cs) : OwnE base T sz w.drew v n cs := h
theorem OwnE.mono {base base' T sz n : Nat} {w : World} {v : Value} {cs : List Value} (h : OwnE base T sz w v n cs) (hb : base' ≤ base) : OwnE base' T sz w v n cs := by
 rcases h with h | ⟨g, h1, h2, h3⟩
 ·exact .inl (ownsRow_mono h hb)
 ·exact .inr ⟨g, h1, by omega, h3⟩
theorem OwnE.lt {base T sz n : Nat} {w : World} {v : Value} {cs : List Value} (h : OwnE base T sz w v n cs) : ∀ g, v.ownBlock = some g → base ≤ g ∧ g < w.heap.size := by
 rcases h with h | ⟨g, rfl, h2, h3, -⟩
 ·exact h.lt
 ·intro k hk
  obtain rfl : g = k := Option.some.inj hk;exact ⟨h2, h3⟩
theorem OwnE.form {base T sz n : Nat} {w : World} {v : Value} {cs : List Value} (h : OwnE base T sz w v n cs) : ∃ ao cap, v = .slice ao n cap ∧ n ≤ cap ∧ cap ≤ 9223372036854775807 := by
 rcases h with h | ⟨g, rfl, -, -, rfl, -⟩
 ·exact own_slice h
 ·exact ⟨_, _, rfl, Nat.le_refl _, by omega⟩
theorem OwnE.apart {base B T sz T' sz' n n' : Nat} {w w' : World} {v v' : Value} {cs cs' : List Value} (h : OwnE base T sz w v n cs) (h' : OwnE B T' sz' w' v' n' cs') (hB : w.heap.size ≤ B) : Apart v v' := fun k h1 h2 => by
 have := (h.lt k h1).2;have := (h'.lt k h2).1;omega
theorem ownE_I {w : World} {base n : Nat} {v : Value} {xs : List Int} (h : OwnE base 3 1 w v n (flatI xs)) (hn : n = xs.length) (hb : base ≤ w.heap.size) :
 ∃ a z, base ≤ a ∧ a ≤ z ∧ z ≤ w.heap.size ∧ IntsAt a z w v xs ∧ z ≤ a + 1 ∧ ∀ k, a ≤ k → k < z → v.ownBlock = some k := by
 rcases h with h | ⟨g, rfl, h2, h3, h4, h5⟩
 ·exact ownI_one h hn hb
 ·have : xs = [] := List.eq_nil_of_length_eq_zero (by omega)
  subst this;exact ⟨base, base, Nat.le_refl _, Nat.le_refl _, hb, IntsAt.none _ _ _ _ _ (by omega) hb, by omega, fun k h1 h2 => by omega⟩
theorem ownE_P {w : World} {base n : Nat} {v : Value} {xs : List Pc} (h : OwnE base 73 2 w v n (flatP xs)) (hn : n = xs.length) (hb : base ≤ w.heap.size) :
 ∃ a z, base ≤ a ∧ a ≤ z ∧ z ≤ w.heap.size ∧ PcAt a z w v xs ∧ z ≤ a + 1 ∧ ∀ k, a ≤ k → k < z → v.ownBlock = some k := by
 rcases h with h | ⟨g, rfl, h2, h3, h4, h5⟩
 ·exact ownPc_one h hn hb
 ·have : xs = [] := List.eq_nil_of_length_eq_zero (by omega)
  subst this;exact ⟨base, base, Nat.le_refl _, Nat.le_refl _, hb, PcAt.nil _ _ _ _ _ (by omega) hb, by omega, fun k h1 h2 => by omega⟩
theorem ownE_S {w : World} {base n : Nat} {v : Value} {xs : List St} (h : OwnE base 65 5 w v n (flatS xs)) (hn : n = xs.length) (hb : base ≤ w.heap.size) :
 ∃ a z, base ≤ a ∧ a ≤ z ∧ z ≤ w.heap.size ∧ StAt a z w v xs ∧ z ≤ a + 1 ∧ ∀ k, a ≤ k → k < z → v.ownBlock = some k := by
 rcases h with h | ⟨g, rfl, h2, h3, h4, h5⟩
 ·exact ownSt_one h hn hb
 ·have : xs = [] := List.eq_nil_of_length_eq_zero (by omega)
  subst this;exact ⟨base, base, Nat.le_refl _, Nat.le_refl _, hb, StAt.nil _ _ _ _ _ (by omega) hb, by omega, fun k h1 h2 => by omega⟩
theorem ownE_ints {w : World} {base n : Nat} {v : Value} {xs : List Int} (h : OwnE base 3 1 w v n (flatI xs)) (hn : n = xs.length) (hb : base ≤ w.heap.size) : IntsAt base w.heap.size w v xs := by
 obtain ⟨a, z, h1, h2, h3, h4, -⟩ := ownE_I h hn hb;exact h4.mono h1 h3 nl
theorem OwnE.put {base T sz n : Nat} {w : World} {v : Value} {cs : List Value} (h : OwnE base T sz w v n cs) (hn : 0 < n) {g j : Nat} (hg : v.ownBlock = some g) (u : Value) :
 OwnE base T sz (w.setCell ⟨g, j, none⟩ u) v n (cs.set j u) ∧ Other g (g + 1) w (w.setCell ⟨g, j, none⟩ u) := by
 rcases h with h | ⟨g', h1, h2, h3, h4, h5⟩
 ·obtain ⟨a, b⟩ := own_put h hg (j := j) u
  exact ⟨.inl a, b⟩
 ·omega
theorem OwnE.lit {base T sz g : Nat} {w : World} (h1 : base ≤ g) (h2 : g < w.heap.size) : OwnE base T sz w (.slice (some ⟨g, 0, none⟩) 0 0) 0 [] := .inr ⟨g, rfl, h1, h2, rfl, rfl⟩
theorem Below.growE {base T sz n B : Nat} {w w' : World} {v : Value} {cs : List Value} (hg : w.grownBy w' v.ownBlock) (ho : OwnE base T sz w v n cs) (hb : B ≤ base) (hB : B ≤ w.heap.size) : Below B w w' :=
 (Below.refl _ _).grown hg hB fun k hk => Nat.le_trans hb (ho.lt k hk).1
end Go.Proofs.YtmemgbklgcjobaaGreatDoor
namespace Go.Proofs.YtmemgbklgcjobaaGreatDoor
open Go.RowKit
section
variable {P : Program} {w : World}
theorem run_append_E (base : Nat) (t ty e : TypeId) (i : TypeInfo) (z : Value) (size bytes : Nat) (ht : P.underlying t = some (.slice e)) (hi : P.info? e = some i) (hz : i.zero = some z)
 (hsize : i.size = size) (hby : i.bytes = bytes) (hzs : z.cells.size = size) (hsz : 0 < size)
 (v : Value) (n : Nat) (xs : List Value) (hown : OwnE base e size w v n xs) (x : Value) (m : Nat) (news : List Value) (hx : Source w size x m news)
 (h63 : n + m ≤ maxLen) (hbytes : (n + m) * bytes ≤ 140737488355328) (hbase : base ≤ w.heap.size) :
 ∃ v' w', (Builtin.append_ #[t, t] ty #[v, x]).run P w = .ok v' w' ∧ OwnE base e size w' v' (n + m) (xs ++ news) ∧ w.grownBy w' v.ownBlock ∧
  (∀ g, v'.ownBlock = some g → v.ownBlock = some g ∨ w.heap.size ≤ g) := by
 rcases hown with hown | ⟨g, rfl, h2, h3, rfl, rfl⟩
 ·obtain ⟨v', w', hr, a1, a2, a3⟩ := run_append_view (P := P) (w := w) base t ty e i z size bytes ht hi hz hsize hby hzs hsz v n xs hown x m news hx h63 hbytes hbase
  refine ⟨v', w', hr, .inl a1, a2, fun g hg => ?_⟩;rcases a3 with a3 | a3
  ·exact .inl (by rw [← a3]; exact hg)
  ·rw [a3] at hg
   exact .inr (by have := Option.some.inj hg; omega)
 ·obtain ⟨⟨ao, c, rfl, g1, g2⟩, hl, ho⟩ := hx
  rcases Nat.eq_zero_or_pos m with rfl | hm
  ·obtain rfl : news = [] := List.eq_nil_of_length_eq_zero (by omega)
   refine ⟨_, w, ?_, .inr ⟨g, rfl, h2, h3, rfl, rfl⟩, ⟨rfl, rfl, rfl, Nat.le_refl _, fun _ _ _ => rfl⟩, fun g hg => .inl hg⟩;cases ao <;> simp [Builtin.append_, run_underlying ht, sizeOf, typeInfo, hi, Builtin.lenOf, Builtin.firstCells, loadCells, loadCellsFrom, storeCells]
  ·cases ao with
   | none => have := g1 rfl; omega
   | some ad =>
    obtain ⟨v', w', hr, a1, a2⟩ := run_append_arg_grows (P := P) w t ty e i z size bytes ht hi hz hsize hby hzs hsz ⟨g, 0, none⟩ 0 0 [] (by simp) (fun j u h => by simp at h) ad m c news hl (g2 ad rfl) (by omega) h63 hbytes;exact ⟨v', w', hr, .inl (ownsRow_mono a1 hbase), ⟨a2.os, a2.tape, a2.output, a2.size, fun k hk _ => a2.block k hk (by simp)⟩, fun g hg => .inr (a1.lt g hg).1⟩
theorem wp_append_E {o : Oper} {a : Act} {K : Act → World → Prop} {Q : Exit → Act → World → Prop} (s x : Operand) (t : TypeId)
 (ho : o.op = .call { callee := .builtin .append, args := #[s, x], argTypes := #[t, t] })
 (base : Nat) (e : TypeId) (i : TypeInfo) (z : Value) (size bytes : Nat) (ht : P.underlying t = some (.slice e)) (hi : P.info? e = some i) (hz : i.zero = some z)
 (hsize : i.size = size) (hby : i.bytes = bytes) (hzs : z.cells.size = size) (hsz : 0 < size)
 (v : Value) (n : Nat) (xs : List Value) (hs : a.eval s = v) (hown : OwnE base e size w v n xs) (y : Value) (m : Nat) (news : List Value) (hx : a.eval x = y) (hy : Source w size y m news)
 (h63 : n + m ≤ maxLen) (hbytes : (n + m) * bytes ≤ 140737488355328) (hbase : base ≤ w.heap.size)
 (h : ∀ v' w', OwnE base e size w' v' (n + m) (xs ++ news) → w.grownBy w' v.ownBlock → (∀ g, v'.ownBlock = some g → v.ownBlock = some g ∨ w.heap.size ≤ g) → K (a.put o.dst v') w') : o.wp P a w K Q := by
 obtain ⟨v', w', hr, h2, h3, h4⟩ := run_append_E (P := P) (w := w) base t o.type e i z size bytes ht hi hz hsize hby hzs hsz v n xs hown y m news hy h63 hbytes hbase;unfold Oper.wp execOp;simp only [ho, resolve, invoke, builtin, Sem.run_bind, Sem.run_pure, Result.andThen_ok, List.map_toArray, List.map_cons, List.map_nil, hs, hx, hr];exact h v' w' h2 h3 h4
theorem wpList_append_E {ops : Array Oper} {rest : List Oper} {o : Oper} {a : Act} {Q : Exit → Act → World → Prop} (hgd : o.guard = none) (s x : Operand) (t : TypeId)
 (ho : o.op = .call { callee := .builtin .append, args := #[s, x], argTypes := #[t, t] })
 (base : Nat) (e : TypeId) (i : TypeInfo) (z : Value) (size bytes : Nat) (ht : P.underlying t = some (.slice e)) (hi : P.info? e = some i) (hz : i.zero = some z)
 (hsize : i.size = size) (hby : i.bytes = bytes) (hzs : z.cells.size = size) (hsz : 0 < size)
 (v : Value) (n : Nat) (xs : List Value) (hs : a.eval s = v) (hown : OwnE base e size w v n xs) (y : Value) (m : Nat) (news : List Value) (hx : a.eval x = y) (hy : Source w size y m news)
 (h63 : n + m ≤ maxLen) (hbytes : (n + m) * bytes ≤ 140737488355328) (hbase : base ≤ w.heap.size)
 (h : ∀ v' w', OwnE base e size w' v' (n + m) (xs ++ news) → w.grownBy w' v.ownBlock → (∀ g, v'.ownBlock = some g → v.ownBlock = some g ∨ w.heap.size ≤ g) → wpList P ops Q rest (a.put o.dst v') w') : wpList P ops Q (o :: rest) a w :=
 wpList_plain hgd fun _ hK => wp_append_E s x t ho base e i z size bytes ht hi hz hsize hby hzs hsz v n xs hs hown y m news hx hy h63 hbytes hbase fun v' w' h2 h3 h4 => hK _ _ (h v' w' h2 h3 h4)
theorem step_append_E {ops : Array Oper} {o : Oper} {a : Act} {K : Act → World → Prop} {Q : Exit → Act → World → Prop} {E : Prop} (hgd : o.guard = none) (s x : Operand) (t : TypeId)
 (ho : o.op = .call { callee := .builtin .append, args := #[s, x], argTypes := #[t, t] })
 (base : Nat) (e : TypeId) (i : TypeInfo) (z : Value) (size bytes : Nat) (ht : P.underlying t = some (.slice e)) (hi : P.info? e = some i) (hz : i.zero = some z)
 (hsize : i.size = size) (hby : i.bytes = bytes) (hzs : z.cells.size = size) (hsz : 0 < size)
 (v : Value) (n : Nat) (xs : List Value) (hs : a.eval s = v) (hown : OwnE base e size w v n xs) (y : Value) (m : Nat) (news : List Value) (hx : a.eval x = y) (hy : Source w size y m news)
 (h63 : n + m ≤ maxLen) (hbytes : (n + m) * bytes ≤ 140737488355328) (hbase : base ≤ w.heap.size)
 (h : ∀ v' w', OwnE base e size w' v' (n + m) (xs ++ news) → w.grownBy w' v.ownBlock → (∀ g, v'.ownBlock = some g → v.ownBlock = some g ∨ w.heap.size ≤ g) → K (a.put o.dst v') w') :
 if Region.wanted o (yielded ops a.tmps) = true then Oper.wp P o a w K Q else E := by
 have hw : Region.wanted o (yielded ops a.tmps) = true := by simp [Region.wanted, hgd]
 rw [if_pos hw];exact wp_append_E s x t ho base e i z size bytes ht hi hz hsize hby hzs hsz v n xs hs hown y m news hx hy h63 hbytes hbase h
end
end Go.Proofs.YtmemgbklgcjobaaGreatDoor
