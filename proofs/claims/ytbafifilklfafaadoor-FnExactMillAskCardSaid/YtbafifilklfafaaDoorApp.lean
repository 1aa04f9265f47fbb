/-
  append to a slice of the call's own, of all elements of a slice that is read: one law for nil and others. No program in sight.
-/
import Derived.Test.YtbafifilklfafaaDoorMillOwn
import Derived.Test.YtbafifilklfafaaDoorFrame
import Derived.Maps.AppendAt
import Derived.Deep.RegionLaw
namespace Go.Proofs.YtbafifilklfafaaDoor
open Go.RowKit

/-- x is a slice of m elements, whose cells are news. -/
structure Source (w : World) (size : Nat) (x : Value) (m : Nat) (news : List Value) : Prop where
  val : ∃ ao c, x = .slice ao m c ∧ (ao = none → m = 0) ∧ ∀ ad, ao = some ad → ∀ j u, news[j]? = some u → w.cell? (ad.add j) = some u
  len : news.length = m * size
  one : ∀ u ∈ news, u.oneCell' = true
theorem addo (b o i : Nat) : (⟨b, o, none⟩ : Addr).add i = ⟨b, o + i, none⟩ := by
  unfold Addr.add
  split
  · next h => subst h; rfl
  · rfl
theorem Source.below {w w' : World} {size m B : Nat} {x : Value} {news : List Value} (h : Source w size x m news) (k : Below B w w') (hB : w.heap.size ≤ B) : Source w' size x m news := by
  obtain ⟨⟨ao, c, rfl, h1, h2⟩, h3, h4⟩ := h
  refine ⟨⟨ao, c, rfl, h1, fun ad ha j u hu => ?_⟩, h3, h4⟩
  have hc := h2 ad ha j u hu
  have hlt := (cell_spot hc).2
  rw [World.cell?_of_block (w := w) (k.block _ (by omega))]
  exact hc
theorem IntsAt.source {lo hi : Nat} {w : World} {v : Value} {xs : List Int} (h : IntsAt lo hi w v xs) : Source w 1 v xs.length (flatI xs) := by
  obtain ⟨ao, cap, rfl, h1, h2, h3, h4⟩ := h
  refine ⟨⟨ao, cap, rfl, fun e => ?_, fun ad ha j u hu => ?_⟩, by simp [flatI], flatI_one xs⟩
  · apply Classical.byContradiction
    intro hn
    obtain ⟨b, o, e', _⟩ := h4 (by omega)
    rw [e] at e'; cases e'
  · have hj : j < xs.length := by
      have := (List.getElem?_eq_some_iff.1 hu).1
      simpa [flatI] using this
    obtain ⟨b, o, e', _, _, hc⟩ := h4 (by omega)
    rw [ha] at e'
    obtain rfl := Option.some.inj e'
    rw [addo, (hc j hj).1]
    simp only [flatI, List.getElem?_map, List.getElem?_eq_getElem hj, Option.map_some, Option.some.injEq] at hu
    rw [hu]
theorem StAt.source {lo hi : Nat} {w : World} {v : Value} {xs : List St} (h : StAt lo hi w v xs) : Source w 5 v xs.length (flatS xs) := by
  obtain ⟨ao, cap, rfl, h1, h2, h3, h4⟩ := h
  refine ⟨⟨ao, cap, rfl, fun e => ?_, fun ad ha j u hu => ?_⟩, flatS_len xs, flatS_one xs⟩
  · apply Classical.byContradiction
    intro hn
    obtain ⟨b, o, e', _⟩ := h4 (by omega)
    rw [e] at e'; cases e'
  · have hj : j < xs.length * 5 := by
      have := (List.getElem?_eq_some_iff.1 hu).1
      rwa [flatS_len] at this
    obtain ⟨b, o, e', _, _, hc⟩ := h4 (by omega)
    rw [ha] at e'
    obtain rfl := Option.some.inj e'
    have hi : j / 5 < xs.length := by omega
    obtain ⟨⟨c0, c1, c2, c3, c4⟩, -⟩ := hc (j / 5) hi
    obtain ⟨f0, f1, f2, f3, f4⟩ := flatS_at xs (j / 5) hi
    rw [addo]
    have hr : j = j / 5 * 5 ∨ j = j / 5 * 5 + 1 ∨ j = j / 5 * 5 + 2 ∨ j = j / 5 * 5 + 3 ∨ j = j / 5 * 5 + 4 := by omega
    generalize j / 5 = i at *
    rcases hr with rfl | rfl | rfl | rfl | rfl
    · rw [c0, ← f0, hu]
    · rw [← Nat.add_assoc, c1, ← f1, hu]
    · rw [← Nat.add_assoc, c2, ← f2, hu]
    · rw [← Nat.add_assoc, c3, ← f3, hu]
    · rw [← Nat.add_assoc, c4, ← f4, hu]
theorem PcAt.source {lo hi : Nat} {w : World} {v : Value} {xs : List Pc} (h : PcAt lo hi w v xs) : Source w 2 v xs.length (flatP xs) := by
  obtain ⟨ao, cap, rfl, h1, h2, h3, h4⟩ := h
  refine ⟨⟨ao, cap, rfl, fun e => ?_, fun ad ha j u hu => ?_⟩, flatP_len xs, flatP_one xs⟩
  · apply Classical.byContradiction
    intro hn
    obtain ⟨b, o, e', _⟩ := h4 (by omega)
    rw [e] at e'; cases e'
  · have hj : j < xs.length * 2 := by
      have := (List.getElem?_eq_some_iff.1 hu).1
      rwa [flatP_len] at this
    obtain ⟨b, o, e', _, _, hc⟩ := h4 (by omega)
    rw [ha] at e'
    obtain rfl := Option.some.inj e'
    have hi : j / 2 < xs.length := by omega
    obtain ⟨⟨c0, c1⟩, -⟩ := hc (j / 2) hi
    obtain ⟨f0, f1⟩ := flatP_at xs (j / 2) hi
    rw [addo]
    have hr : j = j / 2 * 2 ∨ j = j / 2 * 2 + 1 := by omega
    generalize j / 2 = i at *
    rcases hr with rfl | rfl
    · rw [c0, ← f0, hu]
    · rw [← Nat.add_assoc, c1, ← f1, hu]
/-- One new element. -/
theorem Source.lit (w : World) (cs : List Value) (size T m : Nat) (hl : cs.length = m * size) (h1 : ∀ u ∈ cs, u.oneCell' = true) (c : Nat) : Source (w.alloc (.cells cs.toArray T)) size (.slice (some ⟨w.heap.size, 0, none⟩) m c) m cs :=
  ⟨⟨_, c, rfl, (fun e => by cases e), (fun ad ha j u hu => by
    obtain rfl := Option.some.inj ha
    exact lit_cells w cs T j u hu)⟩, hl, h1⟩

section
variable {P : Program} {w : World}
theorem run_append_view (base : Nat) (t ty e : TypeId) (i : TypeInfo) (z : Value) (size bytes : Nat) (ht : P.underlying t = some (.slice e)) (hi : P.info? e = some i) (hz : i.zero = some z)
    (hsize : i.size = size) (hby : i.bytes = bytes) (hzs : z.cells.size = size) (hsz : 0 < size)
    (v : Value) (n : Nat) (xs : List Value) (hown : w.ownsRow base e size v n xs) (x : Value) (m : Nat) (news : List Value) (hx : Source w size x m news)
    (h63 : n + m ≤ maxLen) (hbytes : (n + m) * bytes ≤ 140737488355328) (hbase : base ≤ w.heap.size) :
    ∃ v' w', (Builtin.append_ #[t, t] ty #[v, x]).run P w = .ok v' w' ∧ w'.ownsRow base e size v' (n + m) (xs ++ news) ∧ w.grownBy w' v.ownBlock ∧
      (v'.ownBlock = v.ownBlock ∨ v'.ownBlock = some w.heap.size) := by
  obtain ⟨⟨ao, c, rfl, h1, h2⟩, hl, ho⟩ := hx
  cases ao with
  | some ad =>
    obtain ⟨v', w', hr, a1, a2, -, a4⟩ := run_append_own_at (P := P) w base t ty e i z size bytes ht hi hz hsize hby hzs hsz v n xs hown ad m c news hl (h2 ad rfl) ho h63 hbytes hbase
    exact ⟨v', w', hr, a1, a2, a4⟩
  | none =>
    obtain rfl := h1 rfl
    obtain rfl : news = [] := List.eq_nil_of_length_eq_zero (by omega)
    refine ⟨v, w, ?_, by simpa using hown, ⟨rfl, rfl, rfl, Nat.le_refl _, fun _ _ _ => rfl⟩, .inl rfl⟩
    rcases hown.2 with ⟨rfl, rfl⟩ | ⟨g, cap, cur, rfl, _, _, hnc, _⟩
    · simp [Builtin.append_, run_underlying ht, sizeOf, typeInfo, hi, Builtin.lenOf, Builtin.firstCells]
    · simp [Builtin.append_, run_underlying ht, sizeOf, typeInfo, hi, Builtin.lenOf, Builtin.firstCells, hnc, storeCells]
theorem wp_append_view {o : Oper} {a : Act} {K : Act → World → Prop} {Q : Exit → Act → World → Prop} (s x : Operand) (t : TypeId)
    (ho : o.op = .call { callee := .builtin .append, args := #[s, x], argTypes := #[t, t] })
    (base : Nat) (e : TypeId) (i : TypeInfo) (z : Value) (size bytes : Nat) (ht : P.underlying t = some (.slice e)) (hi : P.info? e = some i) (hz : i.zero = some z)
    (hsize : i.size = size) (hby : i.bytes = bytes) (hzs : z.cells.size = size) (hsz : 0 < size)
    (v : Value) (n : Nat) (xs : List Value) (hs : a.eval s = v) (hown : w.ownsRow base e size v n xs) (y : Value) (m : Nat) (news : List Value) (hx : a.eval x = y) (hy : Source w size y m news)
    (h63 : n + m ≤ maxLen) (hbytes : (n + m) * bytes ≤ 140737488355328) (hbase : base ≤ w.heap.size)
    (h : ∀ v' w', w'.ownsRow base e size v' (n + m) (xs ++ news) → w.grownBy w' v.ownBlock → (v'.ownBlock = v.ownBlock ∨ v'.ownBlock = some w.heap.size) → K (a.put o.dst v') w') : o.wp P a w K Q := by
  obtain ⟨v', w', hr, h2, h3, h4⟩ := run_append_view (P := P) (w := w) base t o.type e i z size bytes ht hi hz hsize hby hzs hsz v n xs hown y m news hy h63 hbytes hbase
  unfold Oper.wp execOp
  simp only [ho, resolve, invoke, builtin, Sem.run_bind, Sem.run_pure, Result.andThen_ok, List.map_toArray, List.map_cons, List.map_nil, hs, hx, hr]
  exact h v' w' h2 h3 h4
theorem wpList_append_view {ops : Array Oper} {rest : List Oper} {o : Oper} {a : Act} {Q : Exit → Act → World → Prop} (hgd : o.guard = none) (s x : Operand) (t : TypeId)
    (ho : o.op = .call { callee := .builtin .append, args := #[s, x], argTypes := #[t, t] })
    (base : Nat) (e : TypeId) (i : TypeInfo) (z : Value) (size bytes : Nat) (ht : P.underlying t = some (.slice e)) (hi : P.info? e = some i) (hz : i.zero = some z)
    (hsize : i.size = size) (hby : i.bytes = bytes) (hzs : z.cells.size = size) (hsz : 0 < size)
    (v : Value) (n : Nat) (xs : List Value) (hs : a.eval s = v) (hown : w.ownsRow base e size v n xs) (y : Value) (m : Nat) (news : List Value) (hx : a.eval x = y) (hy : Source w size y m news)
    (h63 : n + m ≤ maxLen) (hbytes : (n + m) * bytes ≤ 140737488355328) (hbase : base ≤ w.heap.size)
    (h : ∀ v' w', w'.ownsRow base e size v' (n + m) (xs ++ news) → w.grownBy w' v.ownBlock → (v'.ownBlock = v.ownBlock ∨ v'.ownBlock = some w.heap.size) → wpList P ops Q rest (a.put o.dst v') w') : wpList P ops Q (o :: rest) a w :=
  wpList_plain hgd fun _ hK => wp_append_view s x t ho base e i z size bytes ht hi hz hsize hby hzs hsz v n xs hs hown y m news hx hy h63 hbytes hbase fun v' w' h2 h3 h4 => hK _ _ (h v' w' h2 h3 h4)
theorem step_append_view {ops : Array Oper} {o : Oper} {a : Act} {K : Act → World → Prop} {Q : Exit → Act → World → Prop} {E : Prop} (hgd : o.guard = none) (s x : Operand) (t : TypeId)
    (ho : o.op = .call { callee := .builtin .append, args := #[s, x], argTypes := #[t, t] })
    (base : Nat) (e : TypeId) (i : TypeInfo) (z : Value) (size bytes : Nat) (ht : P.underlying t = some (.slice e)) (hi : P.info? e = some i) (hz : i.zero = some z)
    (hsize : i.size = size) (hby : i.bytes = bytes) (hzs : z.cells.size = size) (hsz : 0 < size)
    (v : Value) (n : Nat) (xs : List Value) (hs : a.eval s = v) (hown : w.ownsRow base e size v n xs) (y : Value) (m : Nat) (news : List Value) (hx : a.eval x = y) (hy : Source w size y m news)
    (h63 : n + m ≤ maxLen) (hbytes : (n + m) * bytes ≤ 140737488355328) (hbase : base ≤ w.heap.size)
    (h : ∀ v' w', w'.ownsRow base e size v' (n + m) (xs ++ news) → w.grownBy w' v.ownBlock → (v'.ownBlock = v.ownBlock ∨ v'.ownBlock = some w.heap.size) → K (a.put o.dst v') w') :
    if Region.wanted o (yielded ops a.tmps) = true then Oper.wp P o a w K Q else E := by
  have hw : Region.wanted o (yielded ops a.tmps) = true := by simp [Region.wanted, hgd]
  rw [if_pos hw]
  exact wp_append_view s x t ho base e i z size bytes ht hi hz hsize hby hzs hsz v n xs hs hown y m news hx hy h63 hbytes hbase h
end
end Go.Proofs.YtbafifilklfafaaDoor
