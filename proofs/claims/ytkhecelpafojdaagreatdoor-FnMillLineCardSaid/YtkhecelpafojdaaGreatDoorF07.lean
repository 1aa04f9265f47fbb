/-
  Parts of the proofs over mills, of: App, RowL, PlainClear. Conditions: each theorem states its own.
-/
import Derived.Test.YtkhecelpafojdaaGreatDoorF06
set_option linter.unusedSimpArgs false
set_option linter.unusedVariables false
set_option maxRecDepth 10000
set_option maxHeartbeats 64000000
namespace Go.Proofs.YtkhecelpafojdaaGreatDoor
open Go.RowKit
structure Source (w : World) (size : Nat) (x : Value) (m : Nat) (news : List Value) : Prop where
 val : ∃ ao c, x = .slice ao m c ∧ (ao = none → m = 0) ∧ ∀ ad, ao = some ad → ∀ j u, news[j]? = some u → w.cell? (ad.add j) = some u
 len : news.length = m * size
 one : ∀ u ∈ news, u.oneCell' = true
theorem addo (b o i : Nat) : (⟨b, o, none⟩ : Addr).add i = ⟨b, o + i, none⟩ := by
 unfold Addr.add;split
 ·next h => subst h; rfl
 ·rfl
theorem Source.below {w w' : World} {size m B : Nat} {x : Value} {news : List Value} (h : Source w size x m news) (k : Below B w w') (hB : w.heap.size ≤ B) : Source w' size x m news := by
 obtain ⟨⟨ao, c, rfl, h1, h2⟩, h3, h4⟩ := h;refine ⟨⟨ao, c, rfl, h1, fun ad ha j u hu => ?_⟩, h3, h4⟩;have hc := h2 ad ha j u hu;have hlt := (cell_spot hc).2;rw [World.cell?_of_block (w := w) (k.block _ (by omega))];exact hc
theorem au.source {lo hi : Nat} {w : World} {v : Value} {xs : List Int} (h : au lo hi w v xs) : Source w 1 v xs.length (aC xs) := by
 obtain ⟨ao, cap, rfl, h1, h2, h3, h4⟩ := h;refine ⟨⟨ao, cap, rfl, fun e => ?_, fun ad ha j u hu => ?_⟩, by simp [aC], flatI_one xs⟩
 ·apply Classical.byContradiction
  intro hn;obtain ⟨b, o, e', _⟩ := h4 (by omega);rw [e] at e'; cases e'
 ·have hj : j < xs.length := by
   have := (List.getElem?_eq_some_iff.1 hu).1;simpa [aC] using this
  obtain ⟨b, o, e', _, _, hc⟩ := h4 (by omega);rw [ha] at e';obtain rfl := Option.some.inj e';rw [addo, (hc j hj).1];simp only [aC, List.getElem?_map, List.getElem?_eq_getElem hj, Option.map_some, Option.some.injEq] at hu;rw [hu]
theorem bW.source {lo hi : Nat} {w : World} {v : Value} {xs : List St} (h : bW lo hi w v xs) : Source w 5 v xs.length (bB xs) := by
 obtain ⟨ao, cap, rfl, h1, h2, h3, h4⟩ := h;refine ⟨⟨ao, cap, rfl, fun e => ?_, fun ad ha j u hu => ?_⟩, flatS_len xs, flatS_one xs⟩
 ·apply Classical.byContradiction
  intro hn;obtain ⟨b, o, e', _⟩ := h4 (by omega);rw [e] at e'; cases e'
 ·have hj : j < xs.length * 5 := by
   have := (List.getElem?_eq_some_iff.1 hu).1
   rwa [flatS_len] at this
  obtain ⟨b, o, e', _, _, hc⟩ := h4 (by omega);rw [ha] at e';obtain rfl := Option.some.inj e';have hi : j / 5 < xs.length := by omega
  obtain ⟨⟨c0, c1, c2, c3, c4⟩, -⟩ := hc (j / 5) hi;obtain ⟨f0, f1, f2, f3, f4⟩ := flatS_at xs (j / 5) hi;rw [addo];have hr : j = j / 5 * 5 ∨ j = j / 5 * 5 + 1 ∨ j = j / 5 * 5 + 2 ∨ j = j / 5 * 5 + 3 ∨ j = j / 5 * 5 + 4 := by omega
  generalize j / 5 = i at *;rcases hr with rfl | rfl | rfl | rfl | rfl
  ·rw [c0, ← f0, hu]
  ·rw [← Nat.add_assoc, c1, ← f1, hu]
  ·rw [← Nat.add_assoc, c2, ← f2, hu]
  ·rw [← Nat.add_assoc, c3, ← f3, hu]
  ·rw [← Nat.add_assoc, c4, ← f4, hu]
theorem fo.source {lo hi : Nat} {w : World} {v : Value} {xs : List Pc} (h : fo lo hi w v xs) : Source w 2 v xs.length (bO xs) := by
 obtain ⟨ao, cap, rfl, h1, h2, h3, h4⟩ := h;refine ⟨⟨ao, cap, rfl, fun e => ?_, fun ad ha j u hu => ?_⟩, flatP_len xs, flatP_one xs⟩
 ·apply Classical.byContradiction
  intro hn;obtain ⟨b, o, e', _⟩ := h4 (by omega);rw [e] at e'; cases e'
 ·have hj : j < xs.length * 2 := by
   have := (List.getElem?_eq_some_iff.1 hu).1
   rwa [flatP_len] at this
  obtain ⟨b, o, e', _, _, hc⟩ := h4 (by omega);rw [ha] at e';obtain rfl := Option.some.inj e';have hi : j / 2 < xs.length := by omega
  obtain ⟨⟨c0, c1⟩, -⟩ := hc (j / 2) hi;obtain ⟨f0, f1⟩ := flatP_at xs (j / 2) hi;rw [addo];have hr : j = j / 2 * 2 ∨ j = j / 2 * 2 + 1 := by omega
  generalize j / 2 = i at *;rcases hr with rfl | rfl
  ·rw [c0, ← f0, hu]
  ·rw [← Nat.add_assoc, c1, ← f1, hu]
theorem Source.lit (w : World) (cs : List Value) (size T m : Nat) (hl : cs.length = m * size) (h1 : ∀ u ∈ cs, u.oneCell' = true) (c : Nat) : Source (w.alloc (.cells cs.toArray T)) size (.slice (some ⟨w.heap.size, 0, none⟩) m c) m cs :=
 ⟨⟨_, c, rfl, (fun e => by cases e), (fun ad ha j u hu => by
  obtain rfl := Option.some.inj ha;exact jF w cs T j u hu)⟩, hl, h1⟩
end Go.Proofs.YtkhecelpafojdaaGreatDoor
namespace Go.Proofs.YtkhecelpafojdaaGreatDoor
open Go.RowKit
section
variable {P : Program} {w : World}
theorem run_append_view (base : Nat) (t ty e : TypeId) (i : TypeInfo) (z : Value) (size bytes : Nat) (ht : P.underlying t = some (.slice e)) (hi : P.info? e = some i) (hz : i.zero = some z)
 (hsize : i.size = size) (hby : i.bytes = bytes) (hzs : z.cells.size = size) (hsz : 0 < size)
 (v : Value) (n : Nat) (xs : List Value) (hown : w.ownsRow base e size v n xs) (x : Value) (m : Nat) (news : List Value) (hx : Source w size x m news)
 (h63 : n + m ≤ maxLen) (hbytes : (n + m) * bytes ≤ 140737488355328) (hbase : base ≤ w.heap.size) :
 ∃ v' w', (Builtin.append_ #[t, t] ty #[v, x]).run P w = .ok v' w' ∧ w'.ownsRow base e size v' (n + m) (xs ++ news) ∧ w.grownBy w' v.ownBlock ∧
  (v'.ownBlock = v.ownBlock ∨ v'.ownBlock = some w.heap.size) := by
 obtain ⟨⟨ao, c, rfl, h1, h2⟩, hl, ho⟩ := hx;cases ao with
 | some ad =>
  obtain ⟨v', w', hr, a1, a2, -, a4⟩ := run_append_own_at (P := P) w base t ty e i z size bytes ht hi hz hsize hby hzs hsz v n xs hown ad m c news hl (h2 ad rfl) ho h63 hbytes hbase;exact ⟨v', w', hr, a1, a2, a4⟩
 | none =>
  obtain rfl := h1 rfl;obtain rfl : news = [] := List.eq_nil_of_length_eq_zero (by omega);refine ⟨v, w, ?_, by simpa using hown, ⟨rfl, rfl, rfl, Nat.le_refl _, fun _ _ _ => rfl⟩, .inl rfl⟩;rcases hown.2 with ⟨rfl, rfl⟩ | ⟨g, cap, cur, rfl, _, _, hnc, _⟩
  ·simp [Builtin.append_, run_underlying ht, sizeOf, typeInfo, hi, Builtin.lenOf, Builtin.firstCells]
  ·simp [Builtin.append_, run_underlying ht, sizeOf, typeInfo, hi, Builtin.lenOf, Builtin.firstCells, hnc, storeCells]
theorem wp_append_view {o : Oper} {a : Act} {K : Act → World → Prop} {Q : Exit → Act → World → Prop} (s x : Operand) (t : TypeId)
 (ho : o.op = .call { callee := .builtin .append, args := #[s, x], argTypes := #[t, t] })
 (base : Nat) (e : TypeId) (i : TypeInfo) (z : Value) (size bytes : Nat) (ht : P.underlying t = some (.slice e)) (hi : P.info? e = some i) (hz : i.zero = some z)
 (hsize : i.size = size) (hby : i.bytes = bytes) (hzs : z.cells.size = size) (hsz : 0 < size)
 (v : Value) (n : Nat) (xs : List Value) (hs : a.eval s = v) (hown : w.ownsRow base e size v n xs) (y : Value) (m : Nat) (news : List Value) (hx : a.eval x = y) (hy : Source w size y m news)
 (h63 : n + m ≤ maxLen) (hbytes : (n + m) * bytes ≤ 140737488355328) (hbase : base ≤ w.heap.size)
 (h : ∀ v' w', w'.ownsRow base e size v' (n + m) (xs ++ news) → w.grownBy w' v.ownBlock → (v'.ownBlock = v.ownBlock ∨ v'.ownBlock = some w.heap.size) → K (a.put o.dst v') w') : o.wp P a w K Q := by
 obtain ⟨v', w', hr, h2, h3, h4⟩ := run_append_view (P := P) (w := w) base t o.type e i z size bytes ht hi hz hsize hby hzs hsz v n xs hown y m news hy h63 hbytes hbase;unfold Oper.wp execOp;simp only [ho, resolve, invoke, builtin, Sem.run_bind, Sem.run_pure, Result.andThen_ok, List.map_toArray, List.map_cons, List.map_nil, hs, hx, hr];exact h v' w' h2 h3 h4
theorem aA {ops : Array Oper} {rest : List Oper} {o : Oper} {a : Act} {Q : Exit → Act → World → Prop} (hgd : o.guard = none) (s x : Operand) (t : TypeId)
 (ho : o.op = .call { callee := .builtin .append, args := #[s, x], argTypes := #[t, t] })
 (base : Nat) (e : TypeId) (i : TypeInfo) (z : Value) (size bytes : Nat) (ht : P.underlying t = some (.slice e)) (hi : P.info? e = some i) (hz : i.zero = some z)
 (hsize : i.size = size) (hby : i.bytes = bytes) (hzs : z.cells.size = size) (hsz : 0 < size)
 (v : Value) (n : Nat) (xs : List Value) (hs : a.eval s = v) (hown : w.ownsRow base e size v n xs) (y : Value) (m : Nat) (news : List Value) (hx : a.eval x = y) (hy : Source w size y m news)
 (h63 : n + m ≤ maxLen) (hbytes : (n + m) * bytes ≤ 140737488355328) (hbase : base ≤ w.heap.size)
 (h : ∀ v' w', w'.ownsRow base e size v' (n + m) (xs ++ news) → w.grownBy w' v.ownBlock → (v'.ownBlock = v.ownBlock ∨ v'.ownBlock = some w.heap.size) → wpList P ops Q rest (a.put o.dst v') w') : wpList P ops Q (o :: rest) a w :=
 wpList_plain hgd fun _ hK => wp_append_view s x t ho base e i z size bytes ht hi hz hsize hby hzs hsz v n xs hs hown y m news hx hy h63 hbytes hbase fun v' w' h2 h3 h4 => hK _ _ (h v' w' h2 h3 h4)
theorem ed {ops : Array Oper} {o : Oper} {a : Act} {K : Act → World → Prop} {Q : Exit → Act → World → Prop} {E : Prop} (hgd : o.guard = none) (s x : Operand) (t : TypeId)
 (ho : o.op = .call { callee := .builtin .append, args := #[s, x], argTypes := #[t, t] })
 (base : Nat) (e : TypeId) (i : TypeInfo) (z : Value) (size bytes : Nat) (ht : P.underlying t = some (.slice e)) (hi : P.info? e = some i) (hz : i.zero = some z)
 (hsize : i.size = size) (hby : i.bytes = bytes) (hzs : z.cells.size = size) (hsz : 0 < size)
 (v : Value) (n : Nat) (xs : List Value) (hs : a.eval s = v) (hown : w.ownsRow base e size v n xs) (y : Value) (m : Nat) (news : List Value) (hx : a.eval x = y) (hy : Source w size y m news)
 (h63 : n + m ≤ maxLen) (hbytes : (n + m) * bytes ≤ 140737488355328) (hbase : base ≤ w.heap.size)
 (h : ∀ v' w', w'.ownsRow base e size v' (n + m) (xs ++ news) → w.grownBy w' v.ownBlock → (v'.ownBlock = v.ownBlock ∨ v'.ownBlock = some w.heap.size) → K (a.put o.dst v') w') :
 if Region.wanted o (yielded ops a.tmps) = true then Oper.wp P o a w K Q else E := by
 have hw : Region.wanted o (yielded ops a.tmps) = true := by simp [Region.wanted, hgd]
 rw [if_pos hw];exact wp_append_view s x t ho base e i z size bytes ht hi hz hsize hby hzs hsz v n xs hs hown y m news hx hy h63 hbytes hbase h
end
end Go.Proofs.YtkhecelpafojdaaGreatDoor
namespace Go.Proofs.YtkhecelpafojdaaGreatDoor
open Go.RowKit
abbrev z12 : List Value := [.slice none 0 0, .int .i64 0, .int .i64 0, .int .i64 0, .int .i64 0, .int .i64 0, .int .i64 0, .int .i64 0, .slice none 0 0, .slice none 0 0, .slice none 0 0, .int .i64 0]
def ae (w : World) (b T : Nat) (vs : List Value) : Prop := w.rowIs b T vs.length (fun i => vs.getD i default)
theorem ae.cell {w : World} {b T : Nat} {vs : List Value} (h : ae w b T vs) (i : Nat) (hi : i < vs.length) : w.cell? ⟨b, i, none⟩ = some (vs.getD i default) := World.rowIs.cell h hi
theorem ae.c {w : World} {b T : Nat} {vs : List Value} (h : ae w b T vs) (i : Nat) {v : Value} (hv : vs[i]? = some v) : w.cell? ⟨b, i, none⟩ = some v := by
 obtain ⟨hi, e⟩ := List.getElem?_eq_some_iff.1 hv;rw [h.cell i hi, List.getD_eq_getElem?_getD, hv]; rfl
theorem ae.frozen {w : World} {b T : Nat} {vs : List Value} (h : ae w b T vs) (i : Nat) : w.frozen? ⟨b, i, none⟩ = false := World.rowIs.frozen h i
theorem ae.lt {w : World} {b T : Nat} {vs : List Value} (h : ae w b T vs) : b < w.heap.size := World.rowIs.lt h
theorem ae.below {w w' : World} {B b T : Nat} {vs : List Value} (h : ae w b T vs) (k : Below B w w') (hB : b < B) : ae w' b T vs := rowIs_below h k hB
theorem ae.other {w w' : World} {lo hi b T : Nat} {vs : List Value} (h : ae w b T vs) (k : ai lo hi w w') (hB : b < lo ∨ hi ≤ b) : ae w' b T vs :=
 World.rowIs.of_block h (k.block b h.lt hB)
theorem ae.new (w : World) (T : Nat) (vs : List Value) : ae (w.alloc (.cells vs.toArray T)) w.heap.size T vs := by
 have h := World.rowIs_alloc w vs.toArray T (fun i => vs.getD i default) (fun i hi => by
  have hi' : i < vs.length := by simpa using hi
  simp [List.getElem?_eq_getElem hi'])
 unfold ae;simpa using h
theorem ae.alloc {w : World} {b T : Nat} {vs : List Value} (h : ae w b T vs) (o : Obj) : ae (w.alloc o) b T vs :=
 h.below ((Below.refl w.heap.size w).alloc (Nat.le_refl _) o) h.lt
theorem ae.drew {w : World} {b T : Nat} {vs : List Value} (h : ae w b T vs) : ae w.drew b T vs := h
theorem ae.drewN {w : World} {b T : Nat} {vs : List Value} (h : ae w b T vs) (n : Nat) : ae (w.drewN n) b T vs := h
theorem ae.set {w : World} {b T : Nat} {vs : List Value} (h : ae w b T vs) (i : Nat) (x : Value) (hi : i < vs.length) : ae (w.setCell ⟨b, i, none⟩ x) b T (vs.set i x) := by
 unfold ae;rw [List.length_set];refine (World.rowIs.set h i x).congr fun j hj => ?_;simp only [List.getD_eq_getElem?_getD, List.getElem?_set];by_cases e : j = i
 ·subst e; simp [hi]
 ·rw [if_neg e, if_neg (fun h => e h.symm)]
theorem ae.far {w : World} {b T : Nat} {vs : List Value} (h : ae w b T vs) {p : Addr} (hp : p.block ≠ b) (x : Value) : ae (w.setCell p x) b T vs :=
 World.rowIs.of_block h (Below.heap_setCell _ _ _ _ hp.symm)
theorem aj {P : Program} {f : FuncId} {args : Array Value} {W : World} {Q : Ending → World → Prop} (h : ∀ wx, wx = W → Calls P f args wx Q) : Calls P f args W Q := h _ rfl
theorem af {w : World} {b T : Nat} {v0 v1 v2 v3 v4 v5 v6 v7 v8 v9 v10 v11 : Value} (h : ae w b T [v0, v1, v2, v3, v4, v5, v6, v7, v8, v9, v10, v11]) :
 w.cell? ⟨b, 0, none⟩ = some v0 ∧ w.cell? ⟨b, 1, none⟩ = some v1 ∧ w.cell? ⟨b, 2, none⟩ = some v2 ∧ w.cell? ⟨b, 3, none⟩ = some v3 ∧ w.cell? ⟨b, 4, none⟩ = some v4 ∧ w.cell? ⟨b, 5, none⟩ = some v5 ∧ w.cell? ⟨b, 6, none⟩ = some v6 ∧ w.cell? ⟨b, 7, none⟩ = some v7 ∧ w.cell? ⟨b, 8, none⟩ = some v8 ∧ w.cell? ⟨b, 9, none⟩ = some v9 ∧ w.cell? ⟨b, 10, none⟩ = some v10 ∧ w.cell? ⟨b, 11, none⟩ = some v11 :=
 ⟨h.c 0 rfl, h.c 1 rfl, h.c 2 rfl, h.c 3 rfl, h.c 4 rfl, h.c 5 rfl, h.c 6 rfl, h.c 7 rfl, h.c 8 rfl, h.c 9 rfl, h.c 10 rfl, h.c 11 rfl⟩
theorem ay {w : World} {b T : Nat} {vs : List Value} (h : ae w b T vs) :
 w.frozen? ⟨b, 0, none⟩ = false ∧ w.frozen? ⟨b, 1, none⟩ = false ∧ w.frozen? ⟨b, 2, none⟩ = false ∧ w.frozen? ⟨b, 3, none⟩ = false ∧ w.frozen? ⟨b, 4, none⟩ = false ∧ w.frozen? ⟨b, 5, none⟩ = false ∧ w.frozen? ⟨b, 6, none⟩ = false ∧ w.frozen? ⟨b, 7, none⟩ = false ∧ w.frozen? ⟨b, 8, none⟩ = false ∧ w.frozen? ⟨b, 9, none⟩ = false ∧ w.frozen? ⟨b, 10, none⟩ = false ∧ w.frozen? ⟨b, 11, none⟩ = false :=
 ⟨h.frozen 0, h.frozen 1, h.frozen 2, h.frozen 3, h.frozen 4, h.frozen 5, h.frozen 6, h.frozen 7, h.frozen 8, h.frozen 9, h.frozen 10, h.frozen 11⟩
def dK (id : Int) : J := ⟨4, id, 0⟩
def eG (id : Int) : List J := [⟨2, id, 0⟩, ⟨4, id, 0⟩]
def bM (m : Mi) : List J := if aF m then (nz (m.high ++ m.low)).map dK ++ (dA m.pieces 0).flatMap eG else []
theorem nz_head : ∀ {l : List Int} {id : Int} {r : List Int}, nz l = id :: r → id ≠ 0 ∧ id ∈ l ∧ nz (l.set (l.idxOf id) 0) = r
 | [], id, r, h => by cases h
 | a :: l, id, r, h => by
  by_cases ha : a = 0
  ·subst ha
   have h' : nz l = id :: r := by simpa [nz] using h
   obtain ⟨h1, h2, h3⟩ := nz_head h';refine ⟨h1, by simp [h2], ?_⟩;have h0 : ((0 : Int) == id) = false := by simp; exact fun e => h1 e.symm
   rw [List.idxOf_cons, h0, cond_false, List.set_cons_succ];simpa [nz] using h3
  ·have h' : a = id ∧ nz l = r := by simpa [nz, ha] using h
   obtain ⟨rfl, rfl⟩ := h';refine ⟨ha, by simp, ?_⟩;rw [List.idxOf_cons_self, List.set_cons_zero];simp [nz]
theorem nz_app (a b : List Int) : nz (a ++ b) = nz a ++ nz b := by simp [nz]
theorem nz_none {l : List Int} : nz l = [] ↔ ∀ k, l.getD k 0 = 0 := by
 constructor
 ·intro h k
  rcases Nat.lt_or_ge k l.length with hk | hk
  ·apply Classical.byContradiction
   intro hne;have : l.getD k 0 ∈ nz l := eD.2 ⟨gY hk, hne⟩;rw [h] at this; cases this
  ·rw [List.getD_eq_getElem?_getD, List.getElem?_eq_none hk]; rfl
 ·intro h
  rw [List.eq_nil_iff_forall_not_mem];intro x hx;obtain ⟨h1, h2⟩ := eD.1 hx;obtain ⟨k, _, rfl⟩ := jh h1;exact h2 (h k)
theorem at_hi {lo hi : List Int} (hv : gZ lo hi) {k : Nat} (hk : k < hi.length) : atR lo hi true k = hi.getD k 0 := by
 unfold atR;rw [if_pos (by rw [Bool.and_eq_true, aN]; exact ⟨aZ.2 hv, by omega, by show (k : Int) ≤ (hi.length : Int) - 1; omega⟩)];show hi.getD (k : Int).toNat 0 = _
 rw [Int.toNat_natCast]
theorem at_lo {lo hi : List Int} (hv : gZ lo hi) {k : Nat} (hk : k < lo.length) : atR lo hi false k = lo.getD k 0 := by
 unfold atR;rw [if_pos (by rw [Bool.and_eq_true, aN]; exact ⟨aZ.2 hv, by omega, by show (k : Int) ≤ (lo.length : Int) - 1; omega⟩)];show lo.getD (k : Int).toNat 0 = _
 rw [Int.toNat_natCast]
theorem idx_get {l : List Int} {id : Int} (h : id ∈ l) : l.idxOf id < l.length ∧ l.getD (l.idxOf id) 0 = id := by
 have hl := List.idxOf_lt_length_of_mem h;refine ⟨hl, ?_⟩;rw [List.getD_eq_getElem?_getD, List.getElem?_eq_getElem hl];exact List.getElem_idxOf hl
theorem take_hi {lo hi : List Int} (hv : gZ lo hi) {id : Int} (h : id ∈ nz hi) :
 cK lo hi id = some (true, ((hi.idxOf id : Nat) : Int)) ∧ bE lo hi true (hi.idxOf id : Nat) = ((lo, hi.set (hi.idxOf id) 0), id) := by
 obtain ⟨h1, h2⟩ := eD.1 h;have hr := hv.rng id (List.mem_append_right _ h1);obtain ⟨i1, i2⟩ := idx_get h1;have hnl : id ∉ lo := fun hl => by
  have := hv.nd;rw [nz_app, List.nodup_append] at this;exact this.2.2 id (eD.2 ⟨hl, h2⟩) id h rfl
 constructor
 ·unfold cK
  rw [if_pos (by rw [Bool.and_eq_true, decide_eq_true_iff]; exact ⟨aZ.2 hv, by omega⟩), if_neg (by rw [dE]; exact hnl), if_pos (dE.2 h1)]
 ·unfold bE
  have e := at_hi hv i1;rw [i2] at e;rw [if_pos (aZ.2 hv), e, if_neg (by simp [onR]; omega)];simp [bZ]
theorem take_lo {lo hi : List Int} (hv : gZ lo hi) (hh : nz hi = []) {id : Int} (h : id ∈ nz lo) :
 cK lo hi id = some (false, ((lo.idxOf id : Nat) : Int)) ∧ bE lo hi false (lo.idxOf id : Nat) = ((lo.set (lo.idxOf id) 0, hi), id) := by
 obtain ⟨h1, h2⟩ := eD.1 h;have hr := hv.rng id (List.mem_append_left _ h1);obtain ⟨i1, i2⟩ := idx_get h1;have hz := nz_none.1 hh;constructor
 ·unfold cK
  rw [if_pos (by rw [Bool.and_eq_true, decide_eq_true_iff]; exact ⟨aZ.2 hv, by omega⟩), if_pos (dE.2 h1)]
 ·unfold bE
  have e := at_lo hv i1;rw [i2] at e;have hle : ∀ p : Int, ¬ 0 < atR lo hi true p := fun p hp => by
   obtain ⟨_, k, rfl, hk, e⟩ := jX (lo := lo) (hi := hi) (t := true) (p := p) (by omega);rw [e] at hp;simp only [cZ, if_true] at hp;rw [hz] at hp; omega
  have hon : onR lo hi false (lo.idxOf id : Nat) = [] := by
   unfold onR;rw [e, if_neg (by simp; omega), List.filter_eq_nil_iff];intro x hx;simp only [List.mem_cons, List.not_mem_nil, or_false] at hx;rcases hx with rfl | rfl <;> simp only [decide_eq_true_eq] <;> exact hle _
  rw [if_pos (aZ.2 hv), e, hon, if_neg (by simp; omega)];simp [bZ]
def Goes (m : Mi) (l : List J) (x : Mi) : Prop := ∀ n : Int, l.foldl iJ (m, n) = (x, n + l.length)
theorem Goes.nil (m : Mi) : Goes m [] m := fun n => by simp
theorem Goes.cons {m y x : Mi} {d : J} {l : List J} (h : doR m d = (y, true)) (k : Goes y l x) : Goes m (d :: l) x := fun n => by
 rw [List.foldl_cons, show iJ (m, n) d = (y, n + 1) by unfold iJ; simp only [h, if_true], k (n + 1), List.length_cons];simp only [Prod.mk.injEq, true_and]; omega
theorem Goes.append {m y x : Mi} {a b : List J} (h : Goes m a y) (k : Goes y b x) : Goes m (a ++ b) x := fun n => by
 rw [List.foldl_append, h n, k, List.length_append];simp only [Prod.mk.injEq, true_and]; omega
structure Keep (m x : Mi) : Prop where
 v : dO x
 st : x.strand = m.strand
 sc : x.scrap = m.scrap
 len : x.pieces.length = m.pieces.length
theorem Keep.trans {a b c : Mi} (h : Keep a b) (k : Keep b c) : Keep a c := ⟨k.v, k.st.trans h.st, k.sc.trans h.sc, k.len.trans h.len⟩
theorem ids_set {l : List Pc} {k : Nat} (hk : k < l.length) {s : Int} (h1 : (l.getD k pc0).s ≠ 0) (h2 : s ≠ 0) : dA (gp l ((k : Int) + 1) s) 0 = dA l 0 := by
 refine jH (ids_lt _ _) (ids_lt _ _) fun x => ?_;rw [eY, eY, dC];constructor
 ·rintro ⟨j, a1, a2, a3⟩
  rw [bV hk] at a3;split at a3
  ·exact absurd a3 h2
  ·exact ⟨j, a1, a2, a3⟩
 ·rintro ⟨j, a1, a2, a3⟩
  refine ⟨j, a1, a2, ?_⟩;rw [bV hk, if_neg (fun e => by subst e; exact h1 a3)];exact a3
theorem ship_go {m : Mi} (hv : dO m) {id : Int} {t : Bool} {p : Int} {q : List Int × List Int} (h1 : cK m.low m.high id = some (t, p)) (h2 : bE m.low m.high t p = (q, id)) (h0 : id ≠ 0) :
 doR m (dK id) = ({ m with low := q.1, high := q.2, pieces := gp m.pieces id 2 }, true) ∧ Keep m { m with low := q.1, high := q.2, pieces := gp m.pieces id 2 } ∧ dA (gp m.pieces id 2) 0 = dA m.pieces 0 := by
 have hs : iT m id = some { m with low := q.1, high := q.2, pieces := gp m.pieces id 2 } := by
  unfold iT;rw [h1];simp only [h2];rw [if_neg (by simpa using h0)]
 have hd : doR m (dK id) = ({ m with low := q.1, high := q.2, pieces := gp m.pieces id 2 }, true) := by
  unfold doR;rw [if_pos (aQ.2 hv)];have : jE m (dK id).s (dK id).d (dK id).g = iT m id := rfl;rw [this, hs]
 obtain ⟨hD, k, rfl, hk, hst⟩ := ship_ok hv hs;exact ⟨hd, ⟨hD.v, rfl, rfl, dC _ _ _⟩, ids_set hk (by omega) (by omega)⟩
theorem clear_hi : ∀ (r : List Int) (m : Mi), dO m → nz m.high = r → ∃ x, Goes m (r.map dK) x ∧ Keep m x ∧ nz x.high = [] ∧ x.low = m.low ∧ dA x.pieces 0 = dA m.pieces 0
 | [], m, hv, h => ⟨m, Goes.nil m, ⟨hv, rfl, rfl, rfl⟩, h, rfl, rfl⟩
 | id :: r, m, hv, h => by
  obtain ⟨h0, _, hr⟩ := nz_head h;obtain ⟨t1, t2⟩ := take_hi hv.pile (id := id) (by rw [h]; simp);obtain ⟨g1, g2, g3⟩ := ship_go hv t1 t2 h0;obtain ⟨x, a1, a2, a3, a4, a5⟩ := clear_hi r _ g2.v hr;exact ⟨x, a1.cons g1, g2.trans a2, a3, a4, a5.trans g3⟩
theorem clear_lo : ∀ (r : List Int) (m : Mi), dO m → nz m.high = [] → nz m.low = r → ∃ x, Goes m (r.map dK) x ∧ Keep m x ∧ nz x.high = [] ∧ nz x.low = [] ∧ dA x.pieces 0 = dA m.pieces 0
 | [], m, hv, hh, h => ⟨m, Goes.nil m, ⟨hv, rfl, rfl, rfl⟩, hh, h, rfl⟩
 | id :: r, m, hv, hh, h => by
  obtain ⟨h0, _, hr⟩ := nz_head h;obtain ⟨t1, t2⟩ := take_lo hv.pile hh (id := id) (by rw [h]; simp);obtain ⟨g1, g2, g3⟩ := ship_go hv t1 t2 h0;obtain ⟨x, a1, a2, a3, a4, a5⟩ := clear_lo r _ g2.v hh hr;exact ⟨x, a1.cons g1, g2.trans a2, a3, a4, a5.trans g3⟩
theorem slab_go {m : Mi} (hv : dO m) (hh : nz m.high = []) (hl : nz m.low = []) {id : Int} {r : List Int} (h : dA m.pieces 0 = id :: r) :
 ∃ x, Goes m (eG id) x ∧ Keep m x ∧ nz x.high = [] ∧ nz x.low = [] ∧ dA x.pieces 0 = r := by
 have hin : id ∈ dA m.pieces 0 := by rw [h]; simp
 obtain ⟨k, hk, rfl, hs⟩ := eY.1 hin;have hlen := hv.len;have hz := nz_none.1 hl;have hzh := nz_none.1 hh;have hp := hv.pile;have hl1 := hp.l1;have hset : nz (m.low.set 0 ((k : Int) + 1)) = [(k : Int) + 1] := by
  cases hlo : m.low with
  | nil => rw [hlo] at hl1; simp at hl1
  | cons a l =>
   rw [hlo] at hl;rw [List.set_cons_zero];have ha : a = 0 := by have := hz 0; rw [hlo] at this; simpa using this
   subst ha;have : nz l = [] := by simpa [nz] using hl
   have e : nz (((k : Int) + 1) :: l) = ((k : Int) + 1) :: nz l := by
    unfold nz;rw [List.filter_cons_of_pos (by simp; omega)]
   rw [e, this]
 have hpv : gZ (m.low.set 0 ((k : Int) + 1)) m.high := by
  refine ⟨by simpa using hp.l1, by simpa using hp.l6, by simpa using hp.lh, fun x hx => ?_, ?_, fun j _ hne => absurd (hzh j) hne⟩
  ·rcases List.mem_append.1 hx with hx | hx
   ·rcases List.mem_or_eq_of_mem_set hx with hx | hx
    ·exact hp.rng x (List.mem_append_left _ hx)
    ·omega
   ·exact hp.rng x (List.mem_append_right _ hx)
  ·rw [nz_app, hset, hh]; simp
 have hat : atR m.low m.high false 0 = 0 := by
  have := at_lo hp (k := 0) hl1;rw [hz] at this;exact this
 have hput : fE m.low m.high false 0 ((k : Int) + 1) = ((m.low.set 0 ((k : Int) + 1), m.high), true) := by
  unfold fE;rw [if_pos (aZ.2 hp), hat, if_neg (by simp; omega)];simp only [bZ, Bool.false_eq_true, if_false, Int.toNat_zero];rw [if_pos (aZ.2 hpv)]
 have hr : iI m ((k : Int) + 1) 0 = some { m with low := m.low.set 0 ((k : Int) + 1), high := m.high, pieces := gp m.pieces ((k : Int) + 1) 1 } := by
  unfold iI;have e1 : aP 0 = false := by decide
  have e2 : aG 0 = 0 := by decide
  rw [e1, e2, hput, if_pos (by rw [Bool.and_eq_true, Bool.and_eq_true]; exact ⟨⟨by simp, hasB_iff.2 ⟨k, rfl, hk, hs⟩⟩, rfl⟩)]
 have hd : doR m ⟨2, (k : Int) + 1, 0⟩ = ({ m with low := m.low.set 0 ((k : Int) + 1), high := m.high, pieces := gp m.pieces ((k : Int) + 1) 1 }, true) := by
  unfold doR;rw [if_pos (aQ.2 hv)];have : jE m (⟨2, (k : Int) + 1, 0⟩ : J).s (⟨2, (k : Int) + 1, 0⟩ : J).d (⟨2, (k : Int) + 1, 0⟩ : J).g = iI m ((k : Int) + 1) 0 := rfl;rw [this, hr]
 have hD := roll_ok hv hr;obtain ⟨y, hy⟩ : ∃ y, ({ m with low := m.low.set 0 ((k : Int) + 1), high := m.high, pieces := gp m.pieces ((k : Int) + 1) 1 } : Mi) = y := ⟨_, rfl⟩;have yl : y.low = m.low.set 0 ((k : Int) + 1) := by rw [← hy]
 have yh : y.high = m.high := by rw [← hy]
 have yp : y.pieces = gp m.pieces ((k : Int) + 1) 1 := by rw [← hy]
 have ys : y.strand = m.strand := by rw [← hy]
 have yc : y.scrap = m.scrap := by rw [← hy]
 rw [hy] at hd hD;clear hy hr;have yv := hD.v;have ynl : nz y.low = [(k : Int) + 1] := by rw [yl, hset]
 obtain ⟨t1, t2⟩ := take_lo yv.pile (by rw [yh]; exact hh) (id := (k : Int) + 1) (by rw [ynl]; simp);obtain ⟨g1, g2, g3⟩ := ship_go yv t1 t2 (by omega);obtain ⟨h0, _, hre⟩ := nz_head ynl;refine ⟨_, (Goes.cons hd (Goes.cons g1 (Goes.nil _))), ⟨g2.v, g2.st.trans ys, g2.sc.trans yc, g2.len.trans (by rw [yp, dC])⟩, by rw [← yh] at hh; exact hh, hre, ?_⟩;have hkl : k < (gp m.pieces ((k : Int) + 1) 1).length := by rw [dC]; exact hk
 have hp0 := ids_lt m.pieces 0;rw [h, List.pairwise_cons] at hp0;refine jH (ids_lt _ _) hp0.2 fun z => ?_;have hzz : z ∈ dA (gp y.pieces ((k : Int) + 1) 2) 0 ↔ z ∈ dA m.pieces 0 ∧ z ≠ (k : Int) + 1 := by
  rw [g3, yp, eY, eY, dC];constructor
  ·rintro ⟨j, a1, a2, a3⟩
   rw [bV hk] at a3;split at a3
   ·simp at a3
   ·exact ⟨⟨j, a1, a2, a3⟩, by omega⟩
  ·rintro ⟨⟨j, a1, a2, a3⟩, a4⟩
   refine ⟨j, a1, a2, ?_⟩;rw [bV hk, if_neg (by omega)]; exact a3
 rw [hzz, h, List.mem_cons];constructor
 ·rintro ⟨a | a, b⟩
  ·exact absurd a b
  ·exact a
 ·intro a
  have := hp0.1 z a;exact ⟨.inr a, by omega⟩
theorem clear_slabs : ∀ (r : List Int) (m : Mi), dO m → nz m.high = [] → nz m.low = [] → dA m.pieces 0 = r → ∃ x, Goes m (r.flatMap eG) x ∧ Keep m x ∧ nz x.high = [] ∧ nz x.low = [] ∧ dA x.pieces 0 = []
 | [], m, hv, hh, hl, h => ⟨m, Goes.nil m, ⟨hv, rfl, rfl, rfl⟩, hh, hl, h⟩
 | id :: r, m, hv, hh, hl, h => by
  obtain ⟨y, b1, b2, b3, b4, b5⟩ := slab_go hv hh hl h;obtain ⟨x, a1, a2, a3, a4, a5⟩ := clear_slabs r y b2.v b3 b4 b5;rw [List.flatMap_cons];exact ⟨x, b1.append a1, b2.trans a2, a3, a4, a5⟩
theorem idsTo_full {l : List Pc} {s : Int} : ∀ {k : Nat}, (∀ j, j < k → (l.getD j pc0).s = s) → (bg l s k).length = k
 | 0, _ => rfl
 | k + 1, h => by
  unfold bg;rw [if_pos (by simpa using h k (by omega)), List.length_append, idsTo_full (fun j hj => h j (by omega))]; rfl
theorem clear_ok {m : Mi} (hv : dO m) : ∃ x, dX m (bM m) = (x, ((bM m).length : Int)) ∧ Keep m x ∧ (dA x.pieces 2).length = m.pieces.length ∧ ib x.low x.high = [] := by
 obtain ⟨a, a1, a2, a3, a4, a5⟩ := clear_hi _ m hv rfl;obtain ⟨b, b1, b2, b3, b4, b5⟩ := clear_lo _ a a2.v a3 rfl;obtain ⟨x, c1, c2, c3, c4, c5⟩ := clear_slabs _ b b2.v b3 b4 rfl;have hK := (a2.trans b2).trans c2;have hG := (a1.append b1).append c1;have e : bM m = (nz m.high).map dK ++ (nz a.low).map dK ++ (dA b.pieces 0).flatMap eG := by
  unfold bM;rw [if_pos (aQ.2 hv), nz_app, List.map_append, a4, b5, a5]
 have hno : nz (x.low ++ x.high) = [] := by rw [nz_app, c3, c4]; rfl
 refine ⟨x, ?_, hK, ?_, ?_⟩
 ·have := hG 0
  rw [e];unfold dX;rw [this];simp
 ·rw [← hK.len]
  refine idsTo_full fun j hj => ?_;have h1 := pcB_iff.1 (hK.v.pcs j hj);have h2 : (x.pieces.getD j pc0).s ≠ 0 := fun h => by
   have : ((j : Int) + 1) ∈ dA x.pieces 0 := eY.2 ⟨j, hj, rfl, h⟩;rw [c5] at this; cases this
  have h3 : (x.pieces.getD j pc0).s ≠ 1 := fun h => by
   have : ((j : Int) + 1) ∈ nz (x.low ++ x.high) := (hK.v.ids _).2 ⟨j, hj, rfl, h⟩;rw [hno] at this; cases this
  omega
 ·rw [List.eq_nil_iff_forall_not_mem]
  intro z hz;rw [mem_coil hK.v.pile, hno] at hz; cases hz
theorem flat_len (l : List Int) : (l.flatMap eG).length = 2 * l.length := by
 induction l with
 | nil => rfl
 | cons a l ih => rw [List.flatMap_cons, List.length_append, ih]; simp [eG]; omega
theorem clear_len (m : Mi) : (bM m).length ≤ 99 := by
 unfold bM;split
 ·rename_i h
  have hv := aQ.1 h;have h1 : (nz (m.high ++ m.low)).length ≤ (m.high ++ m.low).length := List.length_filter_le _ _;have h2 := gK m.pieces 0 m.pieces.length;have h3 := hv.len;have h4 := hv.pile.l6;have h5 := hv.pile.lh;rw [List.length_append, List.length_map, flat_len];rw [List.length_append] at h1;unfold dA;omega
 ·simp
end Go.Proofs.YtkhecelpafojdaaGreatDoor
