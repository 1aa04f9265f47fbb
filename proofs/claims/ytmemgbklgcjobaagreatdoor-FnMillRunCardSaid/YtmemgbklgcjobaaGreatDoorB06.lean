/-
  Parts of the proofs over mills, of: WalkA, WalkB, PlainAll, OwnE, HelpSt, Shelf, HelpPc, PlainLaw, BestMI, SameM. Conditions: each theorem states its own.
-/
import Derived.Shelf.Strings.OnBuilder
import Derived.Shelf.Strings.BuilderK
import Derived.Shelf.Strconv.Itoa3
import Derived.Shelf.Strings.Shaped
import Derived.Shelf.Sort.Plain
import Derived.Shelf.Strings.SplitShaped
import Derived.Shelf.Unicode.DecodeSlow
import Derived.Shelf.Slices.Turned
import Derived.Shelf.Slices.Clone
import Derived.Shelf.Slices.In.SortNone
import Derived.Shelf.Slices.Empties2
import Derived.Lib.AppendZeros
import Derived.Deep.RegionHeldLaw
import Derived.Test.YtmemgbklgcjobaaGreatDoorB05
set_option linter.unusedSimpArgs false
set_option linter.unusedVariables false
set_option maxRecDepth 10000
namespace Go.Proofs.YtmemgbklgcjobaaGreatDoor
open Go.RowKit
theorem within_any (n a b : Int) (w : World) :
    Calls Tryz.prog 79 #[.int .i64 n, .int .i64 a, .int .i64 b] w fun e w' => e = .returned (.bool (wi n a b)) ∧ w = w' := by
  by_cases h1 : a ≤ n
  · go_enter Tryz.func79, Tryz.ntmps79
    go_wp2
    go_ret
    simp [h1, wi]
  · have h2 : decide (a ≤ n) = false := by simp [h1]
    go_enter Tryz.func79, Tryz.ntmps79
    go_wp2
    go_ret
    simp [wi, h2]
theorem l1In_any (n a b : Int) (w : World) :
    Calls Tryz.prog 68 #[.int .i64 n, .int .i64 a, .int .i64 b] w fun e w' => e = .returned (.bool (wi n a b)) ∧ w = w' := by
  by_cases h1 : a ≤ n
  · go_enter Tryz.func68, Tryz.ntmps68
    go_wp2
    go_ret
    simp [h1, wi]
  · have h2 : decide (a ≤ n) = false := by simp [h1]
    go_enter Tryz.func68, Tryz.ntmps68
    go_wp2
    go_ret
    simp [wi, h2]
theorem info_int : (Tryz.prog.info? 3).map (fun i => (i.zero, i.size, i.bytes)) = some (some (.int .i64 0), 1, 8) := by kernel_rfl
def withP (pre : List Int) (l : List (List Int)) : List (List Int) := l.map (pre ++ ·)
theorem withP_app (pre : List Int) (a b : List (List Int)) : withP pre (a ++ b) = withP pre a ++ withP pre b := by simp [withP]
theorem withP_none (l : List (List Int)) : withP [] l = l := by simp [withP]
def part (ss : List Int) (t : Int) (n : Nat) : List (List Int) := (ups n).flatMap fun n => (allM ss (t - n)).map (n :: ·)
theorem part_zero (ss : List Int) (t : Int) : part ss t 0 = [] := rfl
theorem part_succ (ss : List Int) (t : Int) (n : Nat) : part ss t (n + 1) = part ss t n ++ (allM ss (t - n)).map ((n : Int) :: ·) := by
  simp [part, ups_succ]
theorem allM_cons (s : Int) (ss : List Int) (t : Int) : allM (s :: ss) t = part ss t (min t s + 1).toNat := rfl
theorem withP_succ (pre ss : List Int) (t : Int) (n : Nat) : withP pre (part ss t (n + 1)) = withP pre (part ss t n) ++ withP (pre ++ [(n : Int)]) (allM ss (t - n)) := by
  rw [part_succ, withP_app]
  simp [withP]
theorem allM_end (t : Int) (pre : List Int) : withP pre (allM [] t) = if t = 0 then [pre] else [] := by
  unfold allM withP
  split <;> simp
def stocks (sts : List St) (k : Nat) : List Int := (sts.map St.k).drop k
theorem stocks_zero (sts : List St) : stocks sts 0 = sts.map St.k := rfl
theorem stocks_end (sts : List St) : stocks sts sts.length = [] := by simp [stocks]
theorem stocks_cons {sts : List St} {k : Nat} (hk : k < sts.length) : stocks sts k = (sts.getD k st0).k :: stocks sts (k + 1) := by
  unfold stocks
  rw [List.drop_eq_getElem_cons (by simpa using hk)]
  simp [hk]
theorem allM_at {sts : List St} {k : Nat} (hk : k < sts.length) (t : Int) : allM (stocks sts k) t = part (stocks sts (k + 1)) t (min t (sts.getD k st0).k + 1).toNat := by
  rw [stocks_cons hk, allM_cons]
theorem foldM_snoc (sts : List St) (g : Gr) (b : Option (List Int × Int)) (l : List (List Int)) (x : List Int) : foldM sts g b (l ++ [x]) = stepM sts g (foldM sts g b l) x := by
  rw [foldM_append]; rfl
theorem withP_len (pre : List Int) (l : List (List Int)) : (withP pre l).length = l.length := by simp [withP]
theorem part_len (ss : List Int) (t : Int) (B : Nat) (h : ∀ t, (allM ss t).length ≤ B) : ∀ n, (part ss t n).length ≤ n * B
  | 0 => by simp [part_zero]
  | n + 1 => by
    have h1 := part_len ss t B h n
    have h2 := h (t - n)
    rw [part_succ, List.length_append, List.length_map, Nat.succ_mul]; omega
theorem allM_len : ∀ (ss : List Int), (∀ s ∈ ss, s ≤ 9) → ∀ t, (allM ss t).length ≤ 10 ^ ss.length
  | [], _, t => by unfold allM; split <;> simp
  | s :: ss, h, t => by
    have ih := allM_len ss fun x hx => h x (by simp [hx])
    have hs := h s (by simp)
    have := part_len ss t _ ih (min t s + 1).toNat
    rw [allM_cons, List.length_cons, Nat.pow_succ, Nat.mul_comm]
    exact Nat.le_trans this (Nat.mul_le_mul_right _ (by omega))
def OwnE (base T sz : Nat) (w : World) (v : Value) (n : Nat) (cs : List Value) : Prop :=
  w.ownsRow base T sz v n cs ∨ (∃ g, v = .slice (some ⟨g, 0, none⟩) 0 0 ∧ base ≤ g ∧ g < w.heap.size ∧ n = 0 ∧ cs = [])
theorem OwnE.own {base T sz n : Nat} {w : World} {v : Value} {cs : List Value} (h : w.ownsRow base T sz v n cs) : OwnE base T sz w v n cs := Or.inl h
theorem OwnE.below {base T sz B n : Nat} {w w' : World} {v : Value} {cs : List Value} (h : OwnE base T sz w v n cs) (k : Below B w w') (hB : w.heap.size ≤ B) : OwnE base T sz w' v n cs := by
  rcases h with h | ⟨g, h1, h2, h3, h4, h5⟩
  · exact .inl (ownsRow_below h k hB)
  · exact .inr ⟨g, h1, h2, Nat.lt_of_lt_of_le h3 k.size, h4, h5⟩
theorem OwnE.other {base T sz lo hi n : Nat} {w w' : World} {v : Value} {cs : List Value} (h : OwnE base T sz w v n cs) (k : Other lo hi w w') (hd : ∀ g, v.ownBlock = some g → g < lo ∨ hi ≤ g) : OwnE base T sz w' v n cs := by
  rcases h with h | ⟨g, h1, h2, h3, h4, h5⟩
  · exact .inl (ownsRow_other h k hd)
  · exact .inr ⟨g, h1, h2, Nat.lt_of_lt_of_le h3 k.size, h4, h5⟩
theorem OwnE.grown {base T sz n : Nat} {w w' : World} {row : Option Nat} {v : Value} {cs : List Value} (h : OwnE base T sz w v n cs) (k : w.grownBy w' row) (hd : ∀ g, v.ownBlock = some g → some g ≠ row) : OwnE base T sz w' v n cs := by
  rcases h with h | ⟨g, h1, h2, h3, h4, h5⟩
  · exact .inl (ownsRow_grown h k hd)
  · exact .inr ⟨g, h1, h2, Nat.lt_of_lt_of_le h3 k.size, h4, h5⟩
theorem OwnE.alloc {base T sz n : Nat} {w : World} {v : Value} {cs : List Value} (h : OwnE base T sz w v n cs) (o : Obj) : OwnE base T sz (w.alloc o) v n cs :=
  h.below ((Below.refl w.heap.size w).alloc (Nat.le_refl _) o) (Nat.le_refl _)
theorem OwnE.drew {base T sz n : Nat} {w : World} {v : Value} {cs : List Value} (h : OwnE base T sz w v n cs) : OwnE base T sz w.drew v n cs := h
theorem OwnE.mono {base base' T sz n : Nat} {w : World} {v : Value} {cs : List Value} (h : OwnE base T sz w v n cs) (hb : base' ≤ base) : OwnE base' T sz w v n cs := by
  rcases h with h | ⟨g, h1, h2, h3⟩
  · exact .inl (ownsRow_mono h hb)
  · exact .inr ⟨g, h1, by omega, h3⟩
theorem OwnE.lt {base T sz n : Nat} {w : World} {v : Value} {cs : List Value} (h : OwnE base T sz w v n cs) : ∀ g, v.ownBlock = some g → base ≤ g ∧ g < w.heap.size := by
  rcases h with h | ⟨g, rfl, h2, h3, -⟩
  · exact h.lt
  · intro k hk
    obtain rfl : g = k := Option.some.inj hk
    exact ⟨h2, h3⟩
theorem OwnE.form {base T sz n : Nat} {w : World} {v : Value} {cs : List Value} (h : OwnE base T sz w v n cs) : ∃ ao cap, v = .slice ao n cap ∧ n ≤ cap ∧ cap ≤ 9223372036854775807 := by
  rcases h with h | ⟨g, rfl, -, -, rfl, -⟩
  · exact own_slice h
  · exact ⟨_, _, rfl, Nat.le_refl _, by omega⟩
theorem OwnE.apart {base B T sz T' sz' n n' : Nat} {w w' : World} {v v' : Value} {cs cs' : List Value} (h : OwnE base T sz w v n cs) (h' : OwnE B T' sz' w' v' n' cs') (hB : w.heap.size ≤ B) : Apart v v' := fun k h1 h2 => by
  have := (h.lt k h1).2
  have := (h'.lt k h2).1
  omega
theorem ownE_I {w : World} {base n : Nat} {v : Value} {xs : List Int} (h : OwnE base 3 1 w v n (flatI xs)) (hn : n = xs.length) (hb : base ≤ w.heap.size) :
    ∃ a z, base ≤ a ∧ a ≤ z ∧ z ≤ w.heap.size ∧ IntsAt a z w v xs ∧ z ≤ a + 1 ∧ ∀ k, a ≤ k → k < z → v.ownBlock = some k := by
  rcases h with h | ⟨g, rfl, h2, h3, h4, h5⟩
  · exact ownI_one h hn hb
  · have : xs = [] := List.eq_nil_of_length_eq_zero (by omega)
    subst this
    exact ⟨base, base, Nat.le_refl _, Nat.le_refl _, hb, IntsAt.none _ _ _ _ _ (by omega) hb, by omega, fun k h1 h2 => by omega⟩
theorem ownE_P {w : World} {base n : Nat} {v : Value} {xs : List Pc} (h : OwnE base 73 2 w v n (flatP xs)) (hn : n = xs.length) (hb : base ≤ w.heap.size) :
    ∃ a z, base ≤ a ∧ a ≤ z ∧ z ≤ w.heap.size ∧ PcAt a z w v xs ∧ z ≤ a + 1 ∧ ∀ k, a ≤ k → k < z → v.ownBlock = some k := by
  rcases h with h | ⟨g, rfl, h2, h3, h4, h5⟩
  · exact ownPc_one h hn hb
  · have : xs = [] := List.eq_nil_of_length_eq_zero (by omega)
    subst this
    exact ⟨base, base, Nat.le_refl _, Nat.le_refl _, hb, PcAt.nil _ _ _ _ _ (by omega) hb, by omega, fun k h1 h2 => by omega⟩
theorem ownE_S {w : World} {base n : Nat} {v : Value} {xs : List St} (h : OwnE base 65 5 w v n (flatS xs)) (hn : n = xs.length) (hb : base ≤ w.heap.size) :
    ∃ a z, base ≤ a ∧ a ≤ z ∧ z ≤ w.heap.size ∧ StAt a z w v xs ∧ z ≤ a + 1 ∧ ∀ k, a ≤ k → k < z → v.ownBlock = some k := by
  rcases h with h | ⟨g, rfl, h2, h3, h4, h5⟩
  · exact ownSt_one h hn hb
  · have : xs = [] := List.eq_nil_of_length_eq_zero (by omega)
    subst this
    exact ⟨base, base, Nat.le_refl _, Nat.le_refl _, hb, StAt.nil _ _ _ _ _ (by omega) hb, by omega, fun k h1 h2 => by omega⟩
theorem ownE_ints {w : World} {base n : Nat} {v : Value} {xs : List Int} (h : OwnE base 3 1 w v n (flatI xs)) (hn : n = xs.length) (hb : base ≤ w.heap.size) : IntsAt base w.heap.size w v xs := by
  obtain ⟨a, z, h1, h2, h3, h4, -⟩ := ownE_I h hn hb
  exact h4.mono h1 h3 (Nat.le_refl _)
theorem OwnE.put {base T sz n : Nat} {w : World} {v : Value} {cs : List Value} (h : OwnE base T sz w v n cs) (hn : 0 < n) {g j : Nat} (hg : v.ownBlock = some g) (u : Value) :
    OwnE base T sz (w.setCell ⟨g, j, none⟩ u) v n (cs.set j u) ∧ Other g (g + 1) w (w.setCell ⟨g, j, none⟩ u) := by
  rcases h with h | ⟨g', h1, h2, h3, h4, h5⟩
  · obtain ⟨a, b⟩ := own_put h hg (j := j) u
    exact ⟨.inl a, b⟩
  · omega
theorem OwnE.lit {base T sz g : Nat} {w : World} (h1 : base ≤ g) (h2 : g < w.heap.size) : OwnE base T sz w (.slice (some ⟨g, 0, none⟩) 0 0) 0 [] := .inr ⟨g, rfl, h1, h2, rfl, rfl⟩
theorem Below.growE {base T sz n B : Nat} {w w' : World} {v : Value} {cs : List Value} (hg : w.grownBy w' v.ownBlock) (ho : OwnE base T sz w v n cs) (hb : B ≤ base) (hB : B ≤ w.heap.size) : Below B w w' :=
  (Below.refl _ _).grown hg hB fun k hk => Nat.le_trans hb (ho.lt k hk).1
end Go.Proofs.YtmemgbklgcjobaaGreatDoor
namespace Go.Proofs.YtmemgbklgcjobaaGreatDoor
open Go.RowKit
section
variable {P : Program} {w : World}
theorem run_append_E (base : Nat) (t ty e : TypeId) (i : TypeInfo) (z : Value) (size bytes : Nat) (ht : P.underlying t = some (.slice e)) (hi : P.info? e = some i) (hz : i.zero = some z)
    (hsize : i.size = size) (hby : i.bytes = bytes) (hzs : z.cells.size = size) (hsz : 0 < size)
    (v : Value) (n : Nat) (xs : List Value) (hown : OwnE base e size w v n xs) (x : Value) (m : Nat) (news : List Value) (hx : Source w size x m news)
    (h63 : n + m ≤ maxLen) (hbytes : (n + m) * bytes ≤ 140737488355328) (hbase : base ≤ w.heap.size) :
    ∃ v' w', (Builtin.append_ #[t, t] ty #[v, x]).run P w = .ok v' w' ∧ OwnE base e size w' v' (n + m) (xs ++ news) ∧ w.grownBy w' v.ownBlock ∧
      (∀ g, v'.ownBlock = some g → v.ownBlock = some g ∨ w.heap.size ≤ g) := by
  rcases hown with hown | ⟨g, rfl, h2, h3, rfl, rfl⟩
  · obtain ⟨v', w', hr, a1, a2, a3⟩ := run_append_view (P := P) (w := w) base t ty e i z size bytes ht hi hz hsize hby hzs hsz v n xs hown x m news hx h63 hbytes hbase
    refine ⟨v', w', hr, .inl a1, a2, fun g hg => ?_⟩
    rcases a3 with a3 | a3
    · exact .inl (by rw [← a3]; exact hg)
    · rw [a3] at hg
      exact .inr (by have := Option.some.inj hg; omega)
  · obtain ⟨⟨ao, c, rfl, g1, g2⟩, hl, ho⟩ := hx
    rcases Nat.eq_zero_or_pos m with rfl | hm
    · obtain rfl : news = [] := List.eq_nil_of_length_eq_zero (by omega)
      refine ⟨_, w, ?_, .inr ⟨g, rfl, h2, h3, rfl, rfl⟩, ⟨rfl, rfl, rfl, Nat.le_refl _, fun _ _ _ => rfl⟩, fun g hg => .inl hg⟩
      cases ao <;> simp [Builtin.append_, run_underlying ht, sizeOf, typeInfo, hi, Builtin.lenOf, Builtin.firstCells, loadCells, loadCellsFrom, storeCells]
    · cases ao with
      | none => have := g1 rfl; omega
      | some ad =>
        obtain ⟨v', w', hr, a1, a2⟩ := run_append_arg_grows (P := P) w t ty e i z size bytes ht hi hz hsize hby hzs hsz ⟨g, 0, none⟩ 0 0 [] (by simp) (fun j u h => by simp at h) ad m c news hl (g2 ad rfl) (by omega) h63 hbytes
        exact ⟨v', w', hr, .inl (ownsRow_mono a1 hbase), ⟨a2.os, a2.tape, a2.output, a2.size, fun k hk _ => a2.block k hk (by simp)⟩, fun g hg => .inr (a1.lt g hg).1⟩
theorem wp_append_E {o : Oper} {a : Act} {K : Act → World → Prop} {Q : Exit → Act → World → Prop} (s x : Operand) (t : TypeId)
    (ho : o.op = .call { callee := .builtin .append, args := #[s, x], argTypes := #[t, t] })
    (base : Nat) (e : TypeId) (i : TypeInfo) (z : Value) (size bytes : Nat) (ht : P.underlying t = some (.slice e)) (hi : P.info? e = some i) (hz : i.zero = some z)
    (hsize : i.size = size) (hby : i.bytes = bytes) (hzs : z.cells.size = size) (hsz : 0 < size)
    (v : Value) (n : Nat) (xs : List Value) (hs : a.eval s = v) (hown : OwnE base e size w v n xs) (y : Value) (m : Nat) (news : List Value) (hx : a.eval x = y) (hy : Source w size y m news)
    (h63 : n + m ≤ maxLen) (hbytes : (n + m) * bytes ≤ 140737488355328) (hbase : base ≤ w.heap.size)
    (h : ∀ v' w', OwnE base e size w' v' (n + m) (xs ++ news) → w.grownBy w' v.ownBlock → (∀ g, v'.ownBlock = some g → v.ownBlock = some g ∨ w.heap.size ≤ g) → K (a.put o.dst v') w') : o.wp P a w K Q := by
  obtain ⟨v', w', hr, h2, h3, h4⟩ := run_append_E (P := P) (w := w) base t o.type e i z size bytes ht hi hz hsize hby hzs hsz v n xs hown y m news hy h63 hbytes hbase
  unfold Oper.wp execOp
  simp only [ho, resolve, invoke, builtin, Sem.run_bind, Sem.run_pure, Result.andThen_ok, List.map_toArray, List.map_cons, List.map_nil, hs, hx, hr]
  exact h v' w' h2 h3 h4
theorem wpList_append_E {ops : Array Oper} {rest : List Oper} {o : Oper} {a : Act} {Q : Exit → Act → World → Prop} (hgd : o.guard = none) (s x : Operand) (t : TypeId)
    (ho : o.op = .call { callee := .builtin .append, args := #[s, x], argTypes := #[t, t] })
    (base : Nat) (e : TypeId) (i : TypeInfo) (z : Value) (size bytes : Nat) (ht : P.underlying t = some (.slice e)) (hi : P.info? e = some i) (hz : i.zero = some z)
    (hsize : i.size = size) (hby : i.bytes = bytes) (hzs : z.cells.size = size) (hsz : 0 < size)
    (v : Value) (n : Nat) (xs : List Value) (hs : a.eval s = v) (hown : OwnE base e size w v n xs) (y : Value) (m : Nat) (news : List Value) (hx : a.eval x = y) (hy : Source w size y m news)
    (h63 : n + m ≤ maxLen) (hbytes : (n + m) * bytes ≤ 140737488355328) (hbase : base ≤ w.heap.size)
    (h : ∀ v' w', OwnE base e size w' v' (n + m) (xs ++ news) → w.grownBy w' v.ownBlock → (∀ g, v'.ownBlock = some g → v.ownBlock = some g ∨ w.heap.size ≤ g) → wpList P ops Q rest (a.put o.dst v') w') : wpList P ops Q (o :: rest) a w :=
  wpList_plain hgd fun _ hK => wp_append_E s x t ho base e i z size bytes ht hi hz hsize hby hzs hsz v n xs hs hown y m news hx hy h63 hbytes hbase fun v' w' h2 h3 h4 => hK _ _ (h v' w' h2 h3 h4)
theorem step_append_E {ops : Array Oper} {o : Oper} {a : Act} {K : Act → World → Prop} {Q : Exit → Act → World → Prop} {E : Prop} (hgd : o.guard = none) (s x : Operand) (t : TypeId)
    (ho : o.op = .call { callee := .builtin .append, args := #[s, x], argTypes := #[t, t] })
    (base : Nat) (e : TypeId) (i : TypeInfo) (z : Value) (size bytes : Nat) (ht : P.underlying t = some (.slice e)) (hi : P.info? e = some i) (hz : i.zero = some z)
    (hsize : i.size = size) (hby : i.bytes = bytes) (hzs : z.cells.size = size) (hsz : 0 < size)
    (v : Value) (n : Nat) (xs : List Value) (hs : a.eval s = v) (hown : OwnE base e size w v n xs) (y : Value) (m : Nat) (news : List Value) (hx : a.eval x = y) (hy : Source w size y m news)
    (h63 : n + m ≤ maxLen) (hbytes : (n + m) * bytes ≤ 140737488355328) (hbase : base ≤ w.heap.size)
    (h : ∀ v' w', OwnE base e size w' v' (n + m) (xs ++ news) → w.grownBy w' v.ownBlock → (∀ g, v'.ownBlock = some g → v.ownBlock = some g ∨ w.heap.size ≤ g) → K (a.put o.dst v') w') :
    if Region.wanted o (yielded ops a.tmps) = true then Oper.wp P o a w K Q else E := by
  have hw : Region.wanted o (yielded ops a.tmps) = true := by simp [Region.wanted, hgd]
  rw [if_pos hw]
  exact wp_append_E s x t ho base e i z size bytes ht hi hz hsize hby hzs hsz v n xs hs hown y m news hx hy h63 hbytes hbase h
end
end Go.Proofs.YtmemgbklgcjobaaGreatDoor
namespace Go.Proofs.YtmemgbklgcjobaaGreatDoor
open Go.RowKit
theorem info_St : (Tryz.prog.info? 65).map (fun i => (i.zero, i.size, i.bytes)) = some (some (.agg #[.int .i64 0, .int .i64 0, .int .i64 0, .int .i64 0, .int .i64 0]), 5, 40) := by kernel_rfl
end Go.Proofs.YtmemgbklgcjobaaGreatDoor
namespace Go.Proofs
open Go.Shelf
def Tryz.lays189_ren : Go.Shelf.Ren := ⟨fun | 189 => 105 | 125 => 158 | 257 => 157 | 128 => 195 | 129 => 196 | 294 => 186 | 295 => 187 | 296 => 188 | 297 => 189 | 298 => 190 | 299 => 191 | 216 => 192 | 300 => 193 | 301 => 194 | 328 => 226 | 329 => 227 | 330 => 228 | 331 => 229 | 332 => 230 | 215 => 231 | 343 => 245 | n => n, fun | 28 => 27 | 3 => 3 | 46 => 169 | 0 => 0 | 51 => 195 | 53 => 197 | 4 => 4 | 183 => 189 | 182 => 188 | 131 => 141 | 5 => 5 | 9 => 9 | 218 => 222 | 222 => 226 | 228 => 237 | 229 => 238 | n => n, fun | n => n⟩
theorem Tryz.lays189 : Go.Proofs.Lays.n189 Tryz.prog Tryz.lays189_ren := {
  mixed := by kernel_rfl
  f125 := Tryz.func158.trans (congrArg some (by kernel_rfl))
  f128 := Tryz.func195.trans (congrArg some (by kernel_rfl))
  f129 := Tryz.func196.trans (congrArg some (by kernel_rfl))
  f189 := Tryz.func105.trans (congrArg some (by kernel_rfl))
  f215 := Tryz.func231.trans (congrArg some (by kernel_rfl))
  f216 := Tryz.func192.trans (congrArg some (by kernel_rfl))
  f257 := Tryz.func157.trans (congrArg some (by kernel_rfl))
  f294 := Tryz.func186.trans (congrArg some (by kernel_rfl))
  f295 := Tryz.func187.trans (congrArg some (by kernel_rfl))
  f296 := Tryz.func188.trans (congrArg some (by kernel_rfl))
  f297 := Tryz.func189.trans (congrArg some (by kernel_rfl))
  f298 := Tryz.func190.trans (congrArg some (by kernel_rfl))
  f299 := Tryz.func191.trans (congrArg some (by kernel_rfl))
  f300 := Tryz.func193.trans (congrArg some (by kernel_rfl))
  f301 := Tryz.func194.trans (congrArg some (by kernel_rfl))
  f328 := Tryz.func226.trans (congrArg some (by kernel_rfl))
  f329 := Tryz.func227.trans (congrArg some (by kernel_rfl))
  f330 := Tryz.func228.trans (congrArg some (by kernel_rfl))
  f331 := Tryz.func229.trans (congrArg some (by kernel_rfl))
  f332 := Tryz.func230.trans (congrArg some (by kernel_rfl))
  f343 := Tryz.func245.trans (congrArg some (by kernel_rfl))
  t0 := Tryz.underlying0
  a0 := Tryz.isAgg0
  z0 := Tryz.sizeOf0
  v0 := Tryz.zeroValue0
  t3 := Tryz.underlying3
  a3 := Tryz.isAgg3
  z3 := Tryz.sizeOf3
  v3 := Tryz.zeroValue3
  t4 := Tryz.underlying4
  a4 := Tryz.isAgg4
  z4 := Tryz.sizeOf4
  v4 := Tryz.zeroValue4
  t5 := Tryz.underlying5
  a5 := Tryz.isAgg5
  z5 := Tryz.sizeOf5
  v5 := Tryz.zeroValue5
  t9 := Tryz.underlying9
  a9 := Tryz.isAgg9
  z9 := Tryz.sizeOf9
  v9 := Tryz.zeroValue9
  t28 := Tryz.underlying27
  a28 := Tryz.isAgg27
  z28 := Tryz.sizeOf27
  v28 := Tryz.zeroValue27
  t46 := Tryz.underlying169
  a46 := Tryz.isAgg169
  z46 := Tryz.sizeOf169
  v46 := Tryz.zeroValue169
  t51 := Tryz.underlying195
  a51 := Tryz.isAgg195
  z51 := Tryz.sizeOf195
  v51 := Tryz.zeroValue195
  t53 := Tryz.underlying197
  a53 := Tryz.isAgg197
  z53 := Tryz.sizeOf197
  v53 := Tryz.zeroValue197
  t131 := Tryz.underlying141
  a131 := Tryz.isAgg141
  z131 := Tryz.sizeOf141
  v131 := Tryz.zeroValue141
  t182 := Tryz.underlying188
  a182 := Tryz.isAgg188
  z182 := Tryz.sizeOf188
  v182 := Tryz.zeroValue188
  t183 := Tryz.underlying189
  a183 := Tryz.isAgg189
  z183 := Tryz.sizeOf189
  v183 := Tryz.zeroValue189
  t218 := Tryz.underlying222
  a218 := Tryz.isAgg222
  z218 := Tryz.sizeOf222
  v218 := Tryz.zeroValue222
  t222 := Tryz.underlying226
  a222 := Tryz.isAgg226
  z222 := Tryz.sizeOf226
  v222 := Tryz.zeroValue226
  t228 := Tryz.underlying237
  a228 := Tryz.isAgg237
  z228 := Tryz.sizeOf237
  v228 := Tryz.zeroValue237
  t229 := Tryz.underlying238
  a229 := Tryz.isAgg238
  z229 := Tryz.sizeOf238
  v229 := Tryz.zeroValue238 }
open Go.Sort Go.RowKit in
theorem Tryz.slices_Sort_int (blk off cap : Nat) (zs : List Int) (w : World) (hH : Holds (Value.int .i64) w blk off zs.toArray) (hblk : blk < w.heap.size) (hsz : zs.length < 4611686018427387904) :
    Calls Tryz.prog 105 #[.slice (some ⟨blk, off, none⟩) zs.length cap] w fun e w' =>
      e = .returned (.tuple #[]) ∧ ∃ n os, w' = grow (putRow (Value.int .i64) (Sort.ahead w n) blk off (zs.mergeSort fun x y => decide (x ≤ y)).toArray) os := Any.slices_Sort_int Tryz.lays189 blk off cap zs w hH hblk hsz
def Tryz.lays107_ren : Go.Shelf.Ren := ⟨fun | 107 => 146 | 108 => 185 | n => n, fun | 28 => 27 | 3 => 3 | 4 => 4 | 0 => 0 | n => n, fun | n => n⟩
theorem Tryz.lays107 : Go.Proofs.Lays.n107 Tryz.prog Tryz.lays107_ren := {
  mixed := by kernel_rfl
  f107 := Tryz.func146.trans (congrArg some (by kernel_rfl))
  f108 := Tryz.func185.trans (congrArg some (by kernel_rfl))
  t0 := Tryz.underlying0
  a0 := Tryz.isAgg0
  z0 := Tryz.sizeOf0
  v0 := Tryz.zeroValue0
  t3 := Tryz.underlying3
  a3 := Tryz.isAgg3
  z3 := Tryz.sizeOf3
  v3 := Tryz.zeroValue3
  t4 := Tryz.underlying4
  a4 := Tryz.isAgg4
  z4 := Tryz.sizeOf4
  v4 := Tryz.zeroValue4
  t28 := Tryz.underlying27
  a28 := Tryz.isAgg27
  z28 := Tryz.sizeOf27
  v28 := Tryz.zeroValue27 }
open Go.Lib in
theorem Tryz.slices_Contains_int (b off n c : Nat) (zs : List Int) (x : Int) (w : World) (hz : n ≤ zs.length) (hbig : n ≤ 9223372036854775807) (hc : ∀ j, j < zs.length → w.cell? ⟨b, off + j, none⟩ = some (.int .i64 (zs.getD j 0))) :
    Calls Tryz.prog 146 #[.slice (some ⟨b, off, none⟩) n c, .int .i64 x] w fun e w' => e = .returned (.bool ((zs.take n).contains x)) ∧ w' = w := Any.slices_Contains_int Tryz.lays107 b off n c zs x w hz hbig hc
open Go.Lib in
theorem Tryz.slices_Contains_int_empty (a : Option Addr) (c : Nat) (x : Int) (w : World) :
    Calls Tryz.prog 146 #[.slice a 0 c, .int .i64 x] w fun e w' => e = .returned (.bool false) ∧ w' = w := Any.slices_Contains_int_empty Tryz.lays107 a c x w
def Tryz.lays111_ren : Go.Shelf.Ren := ⟨fun | 111 => 85 | n => n, fun | 28 => 27 | 3 => 3 | 4 => 4 | 0 => 0 | n => n, fun | n => n⟩
theorem Tryz.lays111 : Go.Proofs.Lays.n111 Tryz.prog Tryz.lays111_ren := {
  mixed := by kernel_rfl
  f111 := Tryz.func85.trans (congrArg some (by kernel_rfl))
  t0 := Tryz.underlying0
  a0 := Tryz.isAgg0
  z0 := Tryz.sizeOf0
  v0 := Tryz.zeroValue0
  t3 := Tryz.underlying3
  a3 := Tryz.isAgg3
  z3 := Tryz.sizeOf3
  v3 := Tryz.zeroValue3
  t4 := Tryz.underlying4
  a4 := Tryz.isAgg4
  z4 := Tryz.sizeOf4
  v4 := Tryz.zeroValue4
  t28 := Tryz.underlying27
  a28 := Tryz.isAgg27
  z28 := Tryz.sizeOf27
  v28 := Tryz.zeroValue27 }
open Go.RowKit Go.Lib in
theorem Tryz.slices_Equal_int (b1 o1 n c b2 o2 m d : Nat) (xs ys : List Int) (w : World) (hx : n ≤ xs.length) (hy : m ≤ ys.length) (hbig : n ≤ 9223372036854775807) (hbig2 : m ≤ 9223372036854775807) (hc1 : ∀ j, j < xs.length → w.cell? ⟨b1, o1 + j, none⟩ = some (.int .i64 (xs.getD j 0))) (hc2 : ∀ j, j < ys.length → w.cell? ⟨b2, o2 + j, none⟩ = some (.int .i64 (ys.getD j 0))) :
    Calls Tryz.prog 85 #[.slice (some ⟨b1, o1, none⟩) n c, .slice (some ⟨b2, o2, none⟩) m d] w fun e w' => e = .returned (.bool (xs.take n == ys.take m)) ∧ ∃ q, w' = w.drewN q := Any.slices_Equal_int Tryz.lays111 b1 o1 n c b2 o2 m d xs ys w hx hy hbig hbig2 hc1 hc2
open Go.RowKit Go.Lib in
theorem Tryz.slices_Equal_int_empty (a1 a2 : Option Addr) (c m d : Nat) (w : World) (hbig2 : m ≤ 9223372036854775807) :
    Calls Tryz.prog 85 #[.slice a1 0 c, .slice a2 m d] w fun e w' => e = .returned (.bool (decide (m = 0))) ∧ w' = w := Any.slices_Equal_int_empty Tryz.lays111 a1 a2 c m d w hbig2
open Go.RowKit Go.Sort in
theorem Tryz.slices_Sort_int_none (p : Option Addr) (cap : Nat) (w : World) :
    Calls Tryz.prog 105 #[.slice p 0 cap] w fun e w' => e = .returned (.tuple #[]) ∧ w' = w := Any.slices_Sort_int_none Tryz.lays189 p cap w
open Go.RowKit Go.Lib in
theorem Tryz.slices_Equal_int_lens (a1 a2 : Option Addr) (n c m d : Nat) (w : World) (hnm : n ≠ m) :
    Calls Tryz.prog 85 #[.slice a1 n c, .slice a2 m d] w fun e w' => e = .returned (.bool false) ∧ w' = w := Any.slices_Equal_int_lens Tryz.lays111 a1 a2 n c m d w hnm
end Go.Proofs
namespace Go.Proofs.YtmemgbklgcjobaaGreatDoor
open Go.RowKit
theorem info_Pc : (Tryz.prog.info? 73).map (fun i => (i.zero, i.size, i.bytes)) = some (some (.agg #[.int .i64 0, .int .i64 0]), 2, 16) := by kernel_rfl
theorem do_law {m : Mi} (hv : millB m = true) {d : J} (h : (doR m d).2 = true) :
    Done m (doR m d).1 ∧ millB (doR m d).1 = true ∧ massR (doR m d).1 = massR m := by
  have hd := do_ok (millB_iff.1 hv) (show doR m d = ((doR m d).1, true) by rw [← h])
  have h2 := millB_iff.2 hd.v
  refine ⟨hd, h2, ?_⟩
  unfold massR
  rw [if_pos h2, if_pos hv, hd.mass]
theorem do_bad {m : Mi} (hv : millB m = false) (d : J) : doR m d = (mi0, false) := by
  unfold doR
  rw [if_neg (by simp [hv])]
def BestGot (base : Nat) (r : Option (List Int)) (w : World) (e : Ending) (w' : World) : Prop :=
  ∃ ao n cap, e = .returned (.tuple #[.slice ao n cap, .bool r.isSome]) ∧ (∀ mix, r = some mix → IntsAt base w'.heap.size w' (.slice ao n cap) mix) ∧ Below base w w'
theorem best_no1 {sts : List St} {g : Gr} {t : Int} (h : stsB sts = false) : mixBest sts g t = none := by simp [mixBest, h]
theorem best_no2 {sts : List St} {g : Gr} {t : Int} (h : grB g = false) : mixBest sts g t = none := by simp [mixBest, h]
theorem best_no3 {sts : List St} {g : Gr} {t : Int} (h : wi t 1 12 = false) : mixBest sts g t = none := by simp [mixBest, h]
theorem best_yes {sts : List St} {g : Gr} {t : Int} (h1 : stsB sts = true) (h2 : grB g = true) (h3 : wi t 1 12 = true) : mixBest sts g t = (foldM sts g none (withP [] (allM (stocks sts 0) t))).map (·.1) := by
  simp [mixBest, h1, h2, h3, withP_none, stocks_zero]
theorem row12_all {w : World} {b T : Nat} {v0 v1 v2 v3 v4 v5 v6 v7 v8 v9 v10 v11 : Value} (h : RowL w b T [v0, v1, v2, v3, v4, v5, v6, v7, v8, v9, v10, v11]) :
    w.cell? ⟨b, 0, none⟩ = some v0 ∧ w.cell? ⟨b, 1, none⟩ = some v1 ∧ w.cell? ⟨b, 2, none⟩ = some v2 ∧ w.cell? ⟨b, 3, none⟩ = some v3 ∧ w.cell? ⟨b, 4, none⟩ = some v4 ∧ w.cell? ⟨b, 5, none⟩ = some v5 ∧ w.cell? ⟨b, 6, none⟩ = some v6 ∧ w.cell? ⟨b, 7, none⟩ = some v7 ∧ w.cell? ⟨b, 8, none⟩ = some v8 ∧ w.cell? ⟨b, 9, none⟩ = some v9 ∧ w.cell? ⟨b, 10, none⟩ = some v10 ∧ w.cell? ⟨b, 11, none⟩ = some v11 :=
  ⟨h.c 0 rfl, h.c 1 rfl, h.c 2 rfl, h.c 3 rfl, h.c 4 rfl, h.c 5 rfl, h.c 6 rfl, h.c 7 rfl, h.c 8 rfl, h.c 9 rfl, h.c 10 rfl, h.c 11 rfl⟩
end Go.Proofs.YtmemgbklgcjobaaGreatDoor
