/-
  Parts of the proofs over mills, of: WalkA, WalkB, PlainMill, MillV, PlainAll, HelpPc, Spot. Conditions: each theorem states its own.
-/
import Derived.Test.YtmemgbklgcjobaaGreatDoorY02
import Derived.Test.YtmemgbklgcjobaaGreatDoorY03
set_option linter.unusedSimpArgs false
set_option linter.unusedVariables false
set_option maxRecDepth 10000
set_option maxHeartbeats 64000000
namespace Go.Proofs.YtmemgbklgcjobaaGreatDoor
open Go.RowKit
theorem within_any (n a b : Int) (w : World) :
 Calls Tryz.prog 79 #[.int .i64 n, .int .i64 a, .int .i64 b] w fun e w' => e = .returned (.bool (wi n a b)) ∧ w = w' := by
 by_cases h1 : a ≤ n
 ·go_enter Tryz.func79, Tryz.ntmps79
  go_wp2
  go_ret;simp [h1, wi]
 ·have h2 : decide (a ≤ n) = false := by simp [h1]
  go_enter Tryz.func79, Tryz.ntmps79
  go_wp2
  go_ret;simp [wi, h2]
theorem l1In_any (n a b : Int) (w : World) :
 Calls Tryz.prog 68 #[.int .i64 n, .int .i64 a, .int .i64 b] w fun e w' => e = .returned (.bool (wi n a b)) ∧ w = w' := by
 by_cases h1 : a ≤ n
 ·go_enter Tryz.func68, Tryz.ntmps68
  go_wp2
  go_ret;simp [h1, wi]
 ·have h2 : decide (a ≤ n) = false := by simp [h1]
  go_enter Tryz.func68, Tryz.ntmps68
  go_wp2
  go_ret;simp [wi, h2]
theorem info_int : (Tryz.prog.info? 3).map (fun i => (i.zero, i.size, i.bytes)) = some (some (.int .i64 0), 1, 8) := by kernel_rfl
structure Pc where
 l : Int
 s : Int
 deriving DecidableEq
def pc0 : Pc := ⟨0, 0⟩
structure Mi where
 store : List St
 rule : Gr
 strand : Int
 pieces : List Pc
 low : List Int
 high : List Int
 scrap : Int
 deriving DecidableEq
def gr0 : Gr := ⟨0, 0, 0, 0, 0, 0⟩
def mi0 : Mi := ⟨[], gr0, 0, [], [], [], 0⟩
def pcB (p : Pc) : Bool := wi p.l 1 60 && wi p.s 0 2
def pcsB (l : List Pc) : Bool := l.all pcB
def idsTo (l : List Pc) (s : Int) : Nat → List Int
 | 0 => []
 | k + 1 => if (l.getD k pc0).s == s then idsTo l s k ++ [(k : Int) + 1] else idsTo l s k
def idsIn (l : List Pc) (s : Int) : List Int := idsTo l s l.length
def millB (m : Mi) : Bool :=
 stsB m.store && (grB m.rule && (wi m.strand 0 48 && (decide (m.pieces.length ≤ 30) && (pileB m.low m.high && (wi m.scrap 0 999 && (pcsB m.pieces && decide (idsIn m.pieces 1 = coilR m.low m.high)))))))
def longTo (l : List Pc) : Nat → Int
 | 0 => 0
 | k + 1 => longTo l k + (l.getD k pc0).l
def massI (m : Mi) : Int := m.strand + m.scrap + stockTo m.store m.store.length + longTo m.pieces m.pieces.length
def massR (m : Mi) : Int := if millB m then massI m else -1
theorem mem_idsTo {l : List Pc} {s : Int} : ∀ {k : Nat} {x : Int}, x ∈ idsTo l s k ↔ ∃ j : Nat, j < k ∧ x = j + 1 ∧ (l.getD j pc0).s = s
 | 0, x => by simp [idsTo]
 | k + 1, x => by
  unfold idsTo;split
  ·rename_i h
   rw [List.mem_append, mem_idsTo, List.mem_singleton];constructor
   ·rintro (⟨j, h1, h2, h3⟩ | rfl)
    ·exact ⟨j, by omega, h2, h3⟩
    ·exact ⟨k, by omega, rfl, by simpa using h⟩
   ·rintro ⟨j, h1, h2, h3⟩
    rcases Nat.lt_or_ge j k with h4 | h4
    ·exact .inl ⟨j, h4, h2, h3⟩
    ·obtain rfl : j = k := by omega
     exact .inr h2
  ·rename_i h
   rw [mem_idsTo];constructor
   ·rintro ⟨j, h1, h2, h3⟩; exact ⟨j, by omega, h2, h3⟩
   ·rintro ⟨j, h1, h2, h3⟩
    rcases Nat.lt_or_ge j k with h4 | h4
    ·exact ⟨j, h4, h2, h3⟩
    ·obtain rfl : j = k := by omega
     exact absurd (by simpa using h3) h
theorem mem_idsIn {l : List Pc} {s x : Int} : x ∈ idsIn l s ↔ ∃ j : Nat, j < l.length ∧ x = j + 1 ∧ (l.getD j pc0).s = s := mem_idsTo
theorem idsTo_lt (l : List Pc) (s : Int) : ∀ k, (idsTo l s k).Pairwise (· < ·)
 | 0 => List.Pairwise.nil
 | k + 1 => by
  unfold idsTo;split
  ·rw [List.pairwise_append]
   refine ⟨idsTo_lt l s k, by simp, fun a ha b hb => ?_⟩;obtain ⟨j, h1, rfl, _⟩ := mem_idsTo.1 ha;simp only [List.mem_singleton] at hb;omega
  ·exact idsTo_lt l s k
theorem ids_lt (l : List Pc) (s : Int) : (idsIn l s).Pairwise (· < ·) := idsTo_lt l s _
theorem idsTo_len (l : List Pc) (s : Int) : ∀ k, (idsTo l s k).length ≤ k
 | 0 => Nat.le_refl _
 | k + 1 => by
  have := idsTo_len l s k;unfold idsTo;split
  ·simp; omega
  ·omega
theorem pcB_iff {p : Pc} : pcB p = true ↔ (1 ≤ p.l ∧ p.l ≤ 60) ∧ (0 ≤ p.s ∧ p.s ≤ 2) := by simp [pcB, wi_iff]
theorem pcsB_iff {l : List Pc} : pcsB l = true ↔ ∀ k, k < l.length → pcB (l.getD k pc0) = true := by
 unfold pcsB;rw [List.all_eq_true];constructor
 ·intro h k hk
  rw [List.getD_eq_getElem?_getD, List.getElem?_eq_getElem hk]; exact h _ (List.getElem_mem _)
 ·intro h x hx
  obtain ⟨k, hk, rfl⟩ := List.getElem_of_mem hx;have := h k hk
  rwa [List.getD_eq_getElem?_getD, List.getElem?_eq_getElem hk] at this
structure MillV (m : Mi) : Prop where
 store : stsB m.store = true
 rule : grB m.rule = true
 st0 : 0 ≤ m.strand
 st1 : m.strand ≤ 48
 len : m.pieces.length ≤ 30
 pile : PileV m.low m.high
 sc0 : 0 ≤ m.scrap
 sc1 : m.scrap ≤ 999
 pcs : ∀ k, k < m.pieces.length → pcB (m.pieces.getD k pc0) = true
 ids : ∀ x, x ∈ nz (m.low ++ m.high) ↔ ∃ j : Nat, j < m.pieces.length ∧ x = j + 1 ∧ (m.pieces.getD j pc0).s = 1
theorem millB_iff {m : Mi} : millB m = true ↔ MillV m := by
 unfold millB;simp only [Bool.and_eq_true, wi_iff, decide_eq_true_iff, pcsB_iff, pileB_iff];constructor
 ·rintro ⟨h1, h2, ⟨h3, h4⟩, h5, h6, ⟨h7, h8⟩, h9, h10⟩
  exact ⟨h1, h2, h3, h4, h5, h6, h7, h8, h9, fun x => by rw [← mem_coil h6, ← h10]; exact mem_idsIn⟩
 ·rintro ⟨h1, h2, h3, h4, h5, h6, h7, h8, h9, h10⟩
  exact ⟨h1, h2, ⟨h3, h4⟩, h5, h6, ⟨h7, h8⟩, h9, lt_unique (ids_lt _ _) (coil_lt _ _) fun x => by rw [mem_coil h6, h10]; exact mem_idsIn⟩
theorem getD_app {l l' : List Pc} {k : Nat} : (l ++ l').getD k pc0 = if k < l.length then l.getD k pc0 else l'.getD (k - l.length) pc0 := by
 simp only [List.getD_eq_getElem?_getD, List.getElem?_append];split <;> rfl
theorem getD_setP {l : List Pc} {k j : Nat} {x : Pc} (hk : k < l.length) : (l.set k x).getD j pc0 = if j = k then x else l.getD j pc0 := by
 simp only [List.getD_eq_getElem?_getD, List.getElem?_set];by_cases h : k = j
 ·subst h; simp [hk]
 ·rw [if_neg h, if_neg (fun e => h e.symm)]
theorem getD_rep {n k : Nat} {x : Pc} (h : k < n) : (List.replicate n x).getD k pc0 = x := by
 simp [List.getD_eq_getElem?_getD, h]
theorem longTo_congr {l l' : List Pc} : ∀ {n : Nat}, (∀ k, k < n → (l.getD k pc0).l = (l'.getD k pc0).l) → longTo l n = longTo l' n
 | 0, _ => rfl
 | n + 1, h => by rw [longTo, longTo, longTo_congr (fun k hk => h k (by omega)), h n (by omega)]
theorem longTo_app (l l' : List Pc) : ∀ n, longTo (l ++ l') (l.length + n) = longTo l l.length + longTo l' n
 | 0 => by
  rw [Nat.add_zero, longTo, Int.add_zero];exact longTo_congr fun k hk => by rw [getD_app, if_pos hk]
 | n + 1 => by
  rw [← Nat.add_assoc, longTo, longTo_app l l' n, longTo, getD_app, if_neg (by omega), Nat.add_sub_cancel_left]; omega
theorem longTo_rep (x : Pc) (n : Nat) : ∀ k, k ≤ n → longTo (List.replicate n x) k = k * x.l
 | 0, _ => by simp [longTo]
 | k + 1, h => by
  rw [longTo, longTo_rep x n k (by omega), getD_rep (by omega), Int.natCast_add, Int.add_mul]; omega
def setS (l : List Pc) (id s : Int) : List Pc := l.set (id - 1).toNat ⟨(l.getD (id - 1).toNat pc0).l, s⟩
theorem setS_len (l : List Pc) (id s : Int) : (setS l id s).length = l.length := by simp [setS]
theorem setS_getD {l : List Pc} {j k : Nat} {s : Int} (hk : k < l.length) : (setS l ((k : Int) + 1) s).getD j pc0 = if j = k then ⟨(l.getD k pc0).l, s⟩ else l.getD j pc0 := by
 unfold setS;rw [show ((k : Int) + 1 - 1).toNat = k by omega, getD_setP hk]
theorem setS_long {l : List Pc} {k : Nat} {s : Int} (hk : k < l.length) (n : Nat) : longTo (setS l ((k : Int) + 1) s) n = longTo l n :=
 longTo_congr fun j _ => by rw [setS_getD hk]; split <;> simp_all
def spotTop (n : Int) : Bool := if n < 0 then false else n % 2 == 1
def spotPlace (n : Int) : Int := if n < 0 then 0 else n / 2
def meltD (m : Mi) (tons : Int) : Option Mi :=
 if m.strand == 0 then (mixBest m.store m.rule tons).map fun mix => { m with store := takeM m.store mix, strand := 4 * tons } else none
def newPcs (L a b : Int) : List Pc := List.replicate (many1 L a b) ⟨b, 0⟩ ++ List.replicate (many0 L a b) ⟨a, 0⟩
def cutD (m : Mi) (a b : Int) : Option Mi :=
 if (m.strand != 0 && lensB a b) && (decide (m.pieces.length + many0 m.strand a b + many1 m.strand a b ≤ 30) && decide (m.scrap + wasteR m.strand a b ≤ 999)) then
  some { m with pieces := m.pieces ++ newPcs m.strand a b, strand := 0, scrap := m.scrap + wasteR m.strand a b } else none
def hasB (m : Mi) (id s : Int) : Bool := wi id 1 m.pieces.length && (m.pieces.getD (id - 1).toNat pc0).s == s
def rollD (m : Mi) (id n : Int) : Option Mi :=
 if decide (0 ≤ n) && hasB m id 0 && (putR m.low m.high (spotTop n) (spotPlace n) id).2 then
  some { m with low := (putR m.low m.high (spotTop n) (spotPlace n) id).1.1, high := (putR m.low m.high (spotTop n) (spotPlace n) id).1.2, pieces := setS m.pieces id 1 } else none
def liftD (m : Mi) (a b : Int) : Option Mi :=
 if decide (0 ≤ a) && decide (0 ≤ b) && (liftR m.low m.high (spotTop a) (spotPlace a) (spotTop b) (spotPlace b)).2 then
  some { m with low := (liftR m.low m.high (spotTop a) (spotPlace a) (spotTop b) (spotPlace b)).1.1, high := (liftR m.low m.high (spotTop a) (spotPlace a) (spotTop b) (spotPlace b)).1.2 } else none
def shipD (m : Mi) (id : Int) : Option Mi :=
 match findR m.low m.high id with
 | none => none
 | some (t, p) => if (takeR m.low m.high t p).2 == 0 then none else
  some { m with low := (takeR m.low m.high t p).1.1, high := (takeR m.low m.high t p).1.2, pieces := setS m.pieces id 2 }
def stepD (m : Mi) (k o t : Int) : Option Mi :=
 if k == 0 then meltD m o else if k == 1 then cutD m o t else if k == 2 then rollD m o t else if k == 3 then liftD m o t else if k == 4 then shipD m o else none
def doR (m : Mi) (d : J) : Mi × Bool := if millB m then (match stepD m d.s d.d d.g with | none => (m, false) | some x => (x, true)) else (mi0, false)
structure Done (m x : Mi) : Prop where
 v : MillV x
 rule : x.rule = m.rule
 mass : massI x = massI m
 len : m.pieces.length ≤ x.pieces.length
 pcs : ∀ k, k < m.pieces.length → (x.pieces.getD k pc0).l = (m.pieces.getD k pc0).l ∧ (m.pieces.getD k pc0).s ≤ (x.pieces.getD k pc0).s
 ne : x ≠ m
theorem melt_ok {m x : Mi} (hv : MillV m) {tons : Int} (h : meltD m tons = some x) : Done m x := by
 unfold meltD at h;split at h
 ·rename_i h0
  rw [beq_iff_eq] at h0;rw [Option.map_eq_some_iff] at h;obtain ⟨mix, hb, rfl⟩ := h;obtain ⟨b1, b2, b3, b4⟩ := best_ok hb;obtain ⟨p1, p2, _⟩ := mixB_parts b1;have ht := stock_take b1 m.store.length nl;refine ⟨⟨takeM_ok b1, hv.rule, by simp only; omega, by simp only; omega, hv.len, hv.pile, hv.sc0, hv.sc1, hv.pcs, hv.ids⟩, rfl, ?_, Nat.le_refl _, fun k hk => ⟨rfl, Int.le_refl _⟩, fun e => ?_⟩
  ·unfold massI
   simp only [takeM_len];rw [ht, ← p2];have : sumTo mix mix.length = tons := b2;rw [this]; omega
  ·have := congrArg Mi.strand e
   simp only at this;omega
 ·cases h
theorem newPcs_len (L a b : Int) : (newPcs L a b).length = many0 L a b + many1 L a b := by simp [newPcs]; omega
theorem newPcs_at (L a b : Int) {k : Nat} (h : k < (newPcs L a b).length) : (newPcs L a b).getD k pc0 = ⟨b, 0⟩ ∨ (newPcs L a b).getD k pc0 = ⟨a, 0⟩ := by
 rw [newPcs_len] at h;unfold newPcs;rw [getD_app, List.length_replicate];split
 ·exact .inl (getD_rep (by assumption))
 ·exact .inr (getD_rep (by omega))
theorem newPcs_long (L a b : Int) : longTo (newPcs L a b) (newPcs L a b).length = many1 L a b * b + many0 L a b * a := by
 have e : (newPcs L a b).length = (List.replicate (many1 L a b) (⟨b, 0⟩ : Pc)).length + many0 L a b := by rw [newPcs_len]; simp; omega
 rw [e];unfold newPcs;rw [longTo_app, longTo_rep _ _ _ (by simp), longTo_rep _ _ _ nl, List.length_replicate]
theorem cut_ok {m x : Mi} (hv : MillV m) {a b : Int} (h : cutD m a b = some x) : Done m x := by
 unfold cutD at h;split at h
 ·rename_i hc
  rw [Bool.and_eq_true, Bool.and_eq_true, Bool.and_eq_true, bne_iff_ne, decide_eq_true_iff, decide_eq_true_iff] at hc;obtain ⟨⟨c1, c2⟩, c3, c4⟩ := hc;simp only [Option.some.injEq] at h;subst h;obtain ⟨⟨a1, a2⟩, b1, b2⟩ := lensB_iff.1 c2;obtain ⟨m1, m0⟩ := many_le c2 hv.st0;have hl := newPcs_len m.strand a b;have hg := newPcs_long m.strand a b;have hat := fun k => newPcs_at m.strand a b (k := k);unfold wasteR at *;generalize newPcs m.strand a b = N at *;refine ⟨⟨hv.store, hv.rule, Int.le_refl _, by simp only; omega, by simp only [List.length_append]; omega, hv.pile, ?_, by simp only; omega, fun k hk => ?_, fun z => ?_⟩, rfl, ?_, by simp, fun k hk => ?_, fun e => ?_⟩
  ·have := hv.sc0; simp only; omega
  ·simp only [List.length_append] at hk
   simp only [getD_app];split
   ·exact hv.pcs k (by assumption)
   ·rcases hat (k - m.pieces.length) (by omega) with e | e <;> rw [e, pcB_iff] <;> simp only <;> omega
  ·rw [hv.ids z]
   simp only [List.length_append];constructor
   ·rintro ⟨j, h1, h2, h3⟩
    exact ⟨j, by omega, h2, by rw [getD_app, if_pos h1]; exact h3⟩
   ·rintro ⟨j, h1, h2, h3⟩
    rw [getD_app] at h3;split at h3
    ·exact ⟨j, by assumption, h2, h3⟩
    ·rcases hat (j - m.pieces.length) (by omega) with e | e <;> rw [e] at h3 <;> simp at h3
  ·unfold massI
   simp only [List.length_append];rw [longTo_app, hg]; omega
  ·simp only [getD_app]
   rw [if_pos hk]; exact ⟨rfl, Int.le_refl _⟩
  ·have := congrArg Mi.strand e
   simp only at this;omega
 ·cases h
theorem hasB_iff {m : Mi} {id s : Int} : hasB m id s = true ↔ ∃ k : Nat, id = k + 1 ∧ k < m.pieces.length ∧ (m.pieces.getD k pc0).s = s := by
 unfold hasB;rw [Bool.and_eq_true, wi_iff, beq_iff_eq];constructor
 ·rintro ⟨⟨h1, h2⟩, h3⟩; exact ⟨(id - 1).toNat, by omega, by omega, h3⟩
 ·rintro ⟨k, rfl, h2, h3⟩
  refine ⟨by omega, ?_⟩;rw [show ((k : Int) + 1 - 1).toNat = k by omega]; exact h3
theorem roll_ok {m x : Mi} (hv : MillV m) {id n : Int} (h : rollD m id n = some x) : Done m x := by
 unfold rollD at h;split at h
 ·rename_i hc
  rw [Bool.and_eq_true, Bool.and_eq_true, decide_eq_true_iff, hasB_iff] at hc;obtain ⟨⟨c1, k, rfl, hk, hs⟩, c3⟩ := hc;simp only [Option.some.injEq] at h;obtain ⟨p1, p2, p3, p4, -, -⟩ := put_ok (q := (putR m.low m.high (spotTop n) (spotPlace n) (k + 1)).1) (by rw [← c3]);generalize (putR m.low m.high (spotTop n) (spotPlace n) (k + 1)).1 = q at *;subst h;refine ⟨⟨hv.store, hv.rule, hv.st0, hv.st1, by simp only [setS_len]; exact hv.len, p2, hv.sc0, hv.sc1, fun j hj => ?_, fun z => ?_⟩, rfl, ?_, by simp only [setS_len]; exact Nat.le_refl _, fun j hj => ?_, fun e => ?_⟩
  ·simp only [setS_len] at hj
   have h1 := hv.pcs j hj;simp only [setS_getD hk];split
   ·subst j
    rw [pcB_iff] at h1 ⊢;simp only; omega
   ·exact h1
  ·simp only [setS_len]
   rw [p4, hv.ids];constructor
   ·rintro (rfl | ⟨j, h1, h2, h3⟩)
    ·exact ⟨k, hk, rfl, by rw [setS_getD hk, if_pos rfl]⟩
    ·refine ⟨j, h1, h2, ?_⟩
     rw [setS_getD hk];split
     ·rfl
     ·exact h3
   ·rintro ⟨j, h1, h2, h3⟩
    rw [setS_getD hk] at h3;split at h3
    ·subst j; exact .inl h2
    ·exact .inr ⟨j, h1, h2, h3⟩
  ·unfold massI
   simp only [setS_len];rw [setS_long hk]
  ·simp only [setS_getD hk]
   split
   ·subst j; refine ⟨rfl, ?_⟩; show (m.pieces.getD k pc0).s ≤ 1; omega
   ·exact ⟨rfl, Int.le_refl _⟩
  ·have h2 : (setS m.pieces ((k : Int) + 1) 1).getD k pc0 = m.pieces.getD k pc0 := congrArg (fun m => (Mi.pieces m).getD k pc0) e
   rw [setS_getD hk, if_pos rfl] at h2;have h3 := congrArg Pc.s h2;rw [hs] at h3;simp at h3
 ·cases h
theorem liftD_ok {m x : Mi} (hv : MillV m) {a b : Int} (h : liftD m a b = some x) : Done m x := by
 unfold liftD at h;split at h
 ·rename_i hc
  rw [Bool.and_eq_true, Bool.and_eq_true] at hc;obtain ⟨-, c3⟩ := hc;simp only [Option.some.injEq] at h;obtain ⟨p1, p2, p3, p4⟩ := lift_ok (q := (liftR m.low m.high (spotTop a) (spotPlace a) (spotTop b) (spotPlace b)).1) (by rw [← c3]);generalize (liftR m.low m.high (spotTop a) (spotPlace a) (spotTop b) (spotPlace b)).1 = q at *;subst h;refine ⟨⟨hv.store, hv.rule, hv.st0, hv.st1, hv.len, p2, hv.sc0, hv.sc1, hv.pcs, fun z => by rw [p3]; exact hv.ids z⟩, rfl, rfl, Nat.le_refl _, fun _ _ => ⟨rfl, Int.le_refl _⟩, fun e => p4 ?_⟩;have e1 := congrArg Mi.low e;have e2 := congrArg Mi.high e;simp only at e1 e2;rw [← e1, ← e2]
 ·cases h
theorem ship_ok {m x : Mi} (hv : MillV m) {id : Int} (h : shipD m id = some x) : Done m x ∧ ∃ k : Nat, id = k + 1 ∧ k < m.pieces.length ∧ (m.pieces.getD k pc0).s = 1 := by
 unfold shipD at h;split at h
 ·cases h
 ·rename_i t p hf
  split at h
  ·cases h
  ·rename_i h0
   rw [beq_iff_eq] at h0;simp only [Option.some.injEq] at h;obtain ⟨f1, f2, kk, rfl, f3, f4⟩ := find_at hf;obtain ⟨p1, p2, p3, p4, p5, -, k', e', p6, p7⟩ := take_ok (q := (takeR m.low m.high t kk).1) (id := (takeR m.low m.high t kk).2) rfl h0;have hkk : kk = k' := by omega
   subst hkk;have hid : (takeR m.low m.high t kk).2 = id := by rw [← p7, f4]
   rw [hid] at p3 p4 p5;clear hid;generalize (takeR m.low m.high t kk).1 = q at *;obtain ⟨k, hk, rfl, hs⟩ := (hv.ids id).1 p5;refine ⟨?_, k, rfl, hk, hs⟩;subst h;refine ⟨⟨hv.store, hv.rule, hv.st0, hv.st1, by simp only [setS_len]; exact hv.len, p2, hv.sc0, hv.sc1, fun j hj => ?_, fun z => ?_⟩, rfl, ?_, by simp only [setS_len]; exact Nat.le_refl _, fun j hj => ?_, fun e => ?_⟩
   ·simp only [setS_len] at hj
    have h1 := hv.pcs j hj;simp only [setS_getD hk];split
    ·subst j
     rw [pcB_iff] at h1 ⊢;simp only; omega
    ·exact h1
   ·simp only [setS_len]
    rw [p4, hv.ids];constructor
    ·rintro ⟨⟨j, h1, h2, h3⟩, h4⟩
     refine ⟨j, h1, h2, ?_⟩;rw [setS_getD hk, if_neg (by omega)];exact h3
    ·rintro ⟨j, h1, h2, h3⟩
     rw [setS_getD hk] at h3;split at h3
     ·simp at h3
     ·exact ⟨⟨j, h1, h2, h3⟩, by omega⟩
   ·unfold massI
    simp only [setS_len];rw [setS_long hk]
   ·simp only [setS_getD hk]
    split
    ·subst j; refine ⟨rfl, ?_⟩; show (m.pieces.getD k pc0).s ≤ 2; omega
    ·exact ⟨rfl, Int.le_refl _⟩
   ·have h2 : (setS m.pieces ((k : Int) + 1) 2).getD k pc0 = m.pieces.getD k pc0 := congrArg (fun m => (Mi.pieces m).getD k pc0) e
    rw [setS_getD hk, if_pos rfl] at h2;have h3 := congrArg Pc.s h2;rw [hs] at h3;simp at h3
theorem step_ok {m x : Mi} (hv : MillV m) {k o t : Int} (h : stepD m k o t = some x) : Done m x := by
 unfold stepD at h;split at h
 ·exact melt_ok hv h
 ·split at h
  ·exact cut_ok hv h
  ·split at h
   ·exact roll_ok hv h
   ·split at h
    ·exact liftD_ok hv h
    ·split at h
     ·exact (ship_ok hv h).1
     ·cases h
theorem do_ok {m x : Mi} {d : J} (hv : MillV m) (h : doR m d = (x, true)) : Done m x := by
 unfold doR at h;rw [if_pos (millB_iff.2 hv)] at h;split at h
 ·simp at h
 ·rename_i y e
  simp only [Prod.mk.injEq, and_true] at h;subst h;exact step_ok hv e
def runS (s : Mi × Int) (d : J) : Mi × Int := if (doR s.1 d).2 then ((doR s.1 d).1, s.2 + 1) else s
def StAt (lo hi : Nat) (w : World) (v : Value) (xs : List St) : Prop :=
 ∃ (ao : Option Addr) (cap : Nat), v = .slice ao xs.length cap ∧ xs.length ≤ cap ∧ cap ≤ 9223372036854775807 ∧ hi ≤ w.heap.size ∧
  (0 < xs.length → ∃ b o, ao = some ⟨b, o, none⟩ ∧ lo ≤ b ∧ b < hi ∧
    ∀ i (h : i < xs.length), (w.cell? ⟨b, o + i * 5, none⟩ = some (.int .i64 xs[i].c) ∧ w.cell? ⟨b, o + i * 5 + 1, none⟩ = some (.int .i64 xs[i].m) ∧ w.cell? ⟨b, o + i * 5 + 2, none⟩ = some (.int .i64 xs[i].s) ∧ w.cell? ⟨b, o + i * 5 + 3, none⟩ = some (.int .i64 xs[i].p) ∧ w.cell? ⟨b, o + i * 5 + 4, none⟩ = some (.int .i64 xs[i].k)) ∧
     w.frozen? ⟨b, o + i * 5, none⟩ = false ∧ w.frozen? ⟨b, o + i * 5 + 1, none⟩ = false ∧ w.frozen? ⟨b, o + i * 5 + 2, none⟩ = false ∧ w.frozen? ⟨b, o + i * 5 + 3, none⟩ = false ∧ w.frozen? ⟨b, o + i * 5 + 4, none⟩ = false)
theorem StAt.keep {lo hi : Nat} {w w' : World} {v : Value} {xs : List St} (h : StAt lo hi w v xs) (k : Keeps lo hi w w') (hs : w.heap.size ≤ w'.heap.size) : StAt lo hi w' v xs := by
 obtain ⟨ao, cap, e, h1, h2, h3, h4⟩ := h;refine ⟨ao, cap, e, h1, h2, by omega, fun hn => ?_⟩;obtain ⟨b, o, ea, hb1, hb2, hc⟩ := h4 hn;refine ⟨b, o, ea, hb1, hb2, fun i hi => ?_⟩;rw [k.cell hb1 hb2, k.cell hb1 hb2, k.cell hb1 hb2, k.cell hb1 hb2, k.cell hb1 hb2, k.frozen hb1 hb2, k.frozen hb1 hb2, k.frozen hb1 hb2, k.frozen hb1 hb2, k.frozen hb1 hb2];exact hc i hi
theorem StAt.lt {lo hi : Nat} {w : World} {v : Value} {xs : List St} (h : StAt lo hi w v xs) : hi ≤ w.heap.size := by
 obtain ⟨_, _, _, _, _, h3, _⟩ := h; exact h3
theorem StAt.below {lo hi : Nat} {w w' : World} {v : Value} {xs : List St} (h : StAt lo hi w v xs) (k : Below w.heap.size w w') : StAt lo hi w' v xs :=
 h.keep (.of_below k h.lt) k.size
theorem StAt.other {lo hi l m : Nat} {w w' : World} {v : Value} {xs : List St} (h : StAt lo hi w v xs) (k : Other l m w w') (hd : hi ≤ l ∨ m ≤ lo) : StAt lo hi w' v xs :=
 h.keep (k.keeps h.lt hd) k.size
theorem StAt.mono {lo hi lo' hi' : Nat} {w : World} {v : Value} {xs : List St} (h : StAt lo hi w v xs) (h1 : lo' ≤ lo) (h2 : hi ≤ hi') (h3 : hi' ≤ w.heap.size) : StAt lo' hi' w v xs := by
 obtain ⟨ao, cap, e, a1, a2, a3, a4⟩ := h;refine ⟨ao, cap, e, a1, a2, h3, fun hn => ?_⟩;obtain ⟨b, o, ea, hb1, hb2, hc⟩ := a4 hn;exact ⟨b, o, ea, by omega, by omega, hc⟩
theorem StAt.len {lo hi : Nat} {w : World} {v : Value} {xs : List St} (h : StAt lo hi w v xs) : xs.length ≤ 9223372036854775807 := by
 obtain ⟨_, _, _, _, _, _, _⟩ := h; omega
theorem StAt.nil (lo hi : Nat) (w : World) (ao : Option Addr) (cap : Nat) (hc : cap ≤ 9223372036854775807) (h : hi ≤ w.heap.size) : StAt lo hi w (.slice ao 0 cap) [] :=
 ⟨ao, cap, rfl, Nat.zero_le _, hc, h, fun h => absurd h (Nat.not_lt_zero _)⟩
theorem StAt.of_row {w : World} {g T n m : Nat} {f : Nat → Value} (h : w.rowIs g T m f) {xs : List St} (hn : xs.length ≤ n) (hm : n * 5 ≤ m) (hn' : n ≤ 9223372036854775807) (hf : ∀ i (_ : i < xs.length), f (i * 5) = .int .i64 xs[i].c ∧ f (i * 5 + 1) = .int .i64 xs[i].m ∧ f (i * 5 + 2) = .int .i64 xs[i].s ∧ f (i * 5 + 3) = .int .i64 xs[i].p ∧ f (i * 5 + 4) = .int .i64 xs[i].k) {lo : Nat} (hlo : lo ≤ g) :
 StAt lo w.heap.size w (.slice (some ⟨g, 0, none⟩) xs.length n) xs :=
 ⟨_, n, rfl, hn, hn', Nat.le_refl _, fun _ => ⟨g, 0, rfl, hlo, h.lt, fun i hi => by
  obtain ⟨f0, f1, f2, f3, f4⟩ := hf i hi;rw [Nat.zero_add];exact ⟨⟨by rw [h.cell (by omega), f0], by rw [h.cell (by omega), f1], by rw [h.cell (by omega), f2], by rw [h.cell (by omega), f3], by rw [h.cell (by omega), f4]⟩, h.frozen _, h.frozen _, h.frozen _, h.frozen _, h.frozen _⟩⟩⟩
theorem StAt.set {lo hi b o n cap k : Nat} {w : World} {xs : List St} (h : StAt lo hi w (.slice (some ⟨b, o, none⟩) n cap) xs) (hk : k < xs.length) (hn : n = xs.length) (x0 x1 x2 x3 x4 : Int) :
 StAt lo hi (((((w.setCell ⟨b, o + k * 5, none⟩ (.int .i64 x0)).setCell ⟨b, o + k * 5 + 1, none⟩ (.int .i64 x1)).setCell ⟨b, o + k * 5 + 2, none⟩ (.int .i64 x2)).setCell ⟨b, o + k * 5 + 3, none⟩ (.int .i64 x3)).setCell ⟨b, o + k * 5 + 4, none⟩ (.int .i64 x4)) (.slice (some ⟨b, o, none⟩) n cap) (xs.set k ⟨x0, x1, x2, x3, x4⟩) := by
 obtain ⟨ao, cap', e, h1, h2, h3, h4⟩ := h;simp only [Value.slice.injEq] at e;obtain ⟨rfl, -, rfl⟩ := e;refine ⟨some ⟨b, o, none⟩, cap, by simp [hn], by simpa using h1, h2, by simpa [World.setCell] using h3, fun _ => ?_⟩;obtain ⟨b', o', e, hb1, hb2, hc⟩ := h4 (by omega);simp only [Option.some.injEq, Addr.mk.injEq] at e;obtain ⟨rfl, rfl, -⟩ := e;refine ⟨b, o, rfl, hb1, hb2, fun i hi => ?_⟩;have hi' : i < xs.length := by simpa using hi
 obtain ⟨⟨c0, c1, c2, c3, c4⟩, d⟩ := hc i hi';refine ⟨?_, by simp only [World.frozen?_setCell]; exact d⟩;by_cases e : i = k
 ·subst e
  refine ⟨?_, ?_, ?_, ?_, ?_⟩
  ·rw [World.cell?_setCell_other _ _ _ _ (addr_ne_off (by omega)), World.cell?_setCell_other _ _ _ _ (addr_ne_off (by omega)), World.cell?_setCell_other _ _ _ _ (addr_ne_off (by omega)), World.cell?_setCell_other _ _ _ _ (addr_ne_off (by omega)), World.cell?_setCell_same _ _ _ (c0)]
   simp
  ·rw [World.cell?_setCell_other _ _ _ _ (addr_ne_off (by omega)), World.cell?_setCell_other _ _ _ _ (addr_ne_off (by omega)), World.cell?_setCell_other _ _ _ _ (addr_ne_off (by omega)), World.cell?_setCell_same _ _ _ (by rw [World.cell?_setCell_other _ _ _ _ (addr_ne_off (by omega))]; exact c1)]
   simp
  ·rw [World.cell?_setCell_other _ _ _ _ (addr_ne_off (by omega)), World.cell?_setCell_other _ _ _ _ (addr_ne_off (by omega)), World.cell?_setCell_same _ _ _ (by rw [World.cell?_setCell_other _ _ _ _ (addr_ne_off (by omega)), World.cell?_setCell_other _ _ _ _ (addr_ne_off (by omega))]; exact c2)]
   simp
  ·rw [World.cell?_setCell_other _ _ _ _ (addr_ne_off (by omega)), World.cell?_setCell_same _ _ _ (by rw [World.cell?_setCell_other _ _ _ _ (addr_ne_off (by omega)), World.cell?_setCell_other _ _ _ _ (addr_ne_off (by omega)), World.cell?_setCell_other _ _ _ _ (addr_ne_off (by omega))]; exact c3)]
   simp
  ·rw [World.cell?_setCell_same _ _ _ (by rw [World.cell?_setCell_other _ _ _ _ (addr_ne_off (by omega)), World.cell?_setCell_other _ _ _ _ (addr_ne_off (by omega)), World.cell?_setCell_other _ _ _ _ (addr_ne_off (by omega)), World.cell?_setCell_other _ _ _ _ (addr_ne_off (by omega))]; exact c4)]
   simp
 ·rw [List.getElem_set_ne (fun h => e h.symm)]
  refine ⟨?_, ?_, ?_, ?_, ?_⟩
  ·rw [World.cell?_setCell_other _ _ _ _ (addr_ne_off (by omega)), World.cell?_setCell_other _ _ _ _ (addr_ne_off (by omega)), World.cell?_setCell_other _ _ _ _ (addr_ne_off (by omega)), World.cell?_setCell_other _ _ _ _ (addr_ne_off (by omega)), World.cell?_setCell_other _ _ _ _ (addr_ne_off (by omega))]; exact c0
  ·rw [World.cell?_setCell_other _ _ _ _ (addr_ne_off (by omega)), World.cell?_setCell_other _ _ _ _ (addr_ne_off (by omega)), World.cell?_setCell_other _ _ _ _ (addr_ne_off (by omega)), World.cell?_setCell_other _ _ _ _ (addr_ne_off (by omega)), World.cell?_setCell_other _ _ _ _ (addr_ne_off (by omega))]; exact c1
  ·rw [World.cell?_setCell_other _ _ _ _ (addr_ne_off (by omega)), World.cell?_setCell_other _ _ _ _ (addr_ne_off (by omega)), World.cell?_setCell_other _ _ _ _ (addr_ne_off (by omega)), World.cell?_setCell_other _ _ _ _ (addr_ne_off (by omega)), World.cell?_setCell_other _ _ _ _ (addr_ne_off (by omega))]; exact c2
  ·rw [World.cell?_setCell_other _ _ _ _ (addr_ne_off (by omega)), World.cell?_setCell_other _ _ _ _ (addr_ne_off (by omega)), World.cell?_setCell_other _ _ _ _ (addr_ne_off (by omega)), World.cell?_setCell_other _ _ _ _ (addr_ne_off (by omega)), World.cell?_setCell_other _ _ _ _ (addr_ne_off (by omega))]; exact c3
  ·rw [World.cell?_setCell_other _ _ _ _ (addr_ne_off (by omega)), World.cell?_setCell_other _ _ _ _ (addr_ne_off (by omega)), World.cell?_setCell_other _ _ _ _ (addr_ne_off (by omega)), World.cell?_setCell_other _ _ _ _ (addr_ne_off (by omega)), World.cell?_setCell_other _ _ _ _ (addr_ne_off (by omega))]; exact c4
def PcAt (lo hi : Nat) (w : World) (v : Value) (xs : List Pc) : Prop :=
 ∃ (ao : Option Addr) (cap : Nat), v = .slice ao xs.length cap ∧ xs.length ≤ cap ∧ cap ≤ 9223372036854775807 ∧ hi ≤ w.heap.size ∧
  (0 < xs.length → ∃ b o, ao = some ⟨b, o, none⟩ ∧ lo ≤ b ∧ b < hi ∧
    ∀ i (h : i < xs.length), (w.cell? ⟨b, o + i * 2, none⟩ = some (.int .i64 xs[i].l) ∧ w.cell? ⟨b, o + i * 2 + 1, none⟩ = some (.int .i64 xs[i].s)) ∧
     w.frozen? ⟨b, o + i * 2, none⟩ = false ∧ w.frozen? ⟨b, o + i * 2 + 1, none⟩ = false)
theorem PcAt.keep {lo hi : Nat} {w w' : World} {v : Value} {xs : List Pc} (h : PcAt lo hi w v xs) (k : Keeps lo hi w w') (hs : w.heap.size ≤ w'.heap.size) : PcAt lo hi w' v xs := by
 obtain ⟨ao, cap, e, h1, h2, h3, h4⟩ := h;refine ⟨ao, cap, e, h1, h2, by omega, fun hn => ?_⟩;obtain ⟨b, o, ea, hb1, hb2, hc⟩ := h4 hn;refine ⟨b, o, ea, hb1, hb2, fun i hi => ?_⟩;rw [k.cell hb1 hb2, k.cell hb1 hb2, k.frozen hb1 hb2, k.frozen hb1 hb2];exact hc i hi
theorem PcAt.lt {lo hi : Nat} {w : World} {v : Value} {xs : List Pc} (h : PcAt lo hi w v xs) : hi ≤ w.heap.size := by
 obtain ⟨_, _, _, _, _, h3, _⟩ := h; exact h3
theorem PcAt.below {lo hi : Nat} {w w' : World} {v : Value} {xs : List Pc} (h : PcAt lo hi w v xs) (k : Below w.heap.size w w') : PcAt lo hi w' v xs :=
 h.keep (.of_below k h.lt) k.size
theorem PcAt.other {lo hi l m : Nat} {w w' : World} {v : Value} {xs : List Pc} (h : PcAt lo hi w v xs) (k : Other l m w w') (hd : hi ≤ l ∨ m ≤ lo) : PcAt lo hi w' v xs :=
 h.keep (k.keeps h.lt hd) k.size
theorem PcAt.mono {lo hi lo' hi' : Nat} {w : World} {v : Value} {xs : List Pc} (h : PcAt lo hi w v xs) (h1 : lo' ≤ lo) (h2 : hi ≤ hi') (h3 : hi' ≤ w.heap.size) : PcAt lo' hi' w v xs := by
 obtain ⟨ao, cap, e, a1, a2, a3, a4⟩ := h;refine ⟨ao, cap, e, a1, a2, h3, fun hn => ?_⟩;obtain ⟨b, o, ea, hb1, hb2, hc⟩ := a4 hn;exact ⟨b, o, ea, by omega, by omega, hc⟩
theorem PcAt.len {lo hi : Nat} {w : World} {v : Value} {xs : List Pc} (h : PcAt lo hi w v xs) : xs.length ≤ 9223372036854775807 := by
 obtain ⟨_, _, _, _, _, _, _⟩ := h; omega
theorem PcAt.nil (lo hi : Nat) (w : World) (ao : Option Addr) (cap : Nat) (hc : cap ≤ 9223372036854775807) (h : hi ≤ w.heap.size) : PcAt lo hi w (.slice ao 0 cap) [] :=
 ⟨ao, cap, rfl, Nat.zero_le _, hc, h, fun h => absurd h (Nat.not_lt_zero _)⟩
theorem PcAt.of_row {w : World} {g T n m : Nat} {f : Nat → Value} (h : w.rowIs g T m f) {xs : List Pc} (hn : xs.length ≤ n) (hm : n * 2 ≤ m) (hn' : n ≤ 9223372036854775807) (hf : ∀ i (_ : i < xs.length), f (i * 2) = .int .i64 xs[i].l ∧ f (i * 2 + 1) = .int .i64 xs[i].s) {lo : Nat} (hlo : lo ≤ g) :
 PcAt lo w.heap.size w (.slice (some ⟨g, 0, none⟩) xs.length n) xs :=
 ⟨_, n, rfl, hn, hn', Nat.le_refl _, fun _ => ⟨g, 0, rfl, hlo, h.lt, fun i hi => by
  obtain ⟨f0, f1⟩ := hf i hi;rw [Nat.zero_add];exact ⟨⟨by rw [h.cell (by omega), f0], by rw [h.cell (by omega), f1]⟩, h.frozen _, h.frozen _⟩⟩⟩
theorem PcAt.set {lo hi b o n cap k : Nat} {w : World} {xs : List Pc} (h : PcAt lo hi w (.slice (some ⟨b, o, none⟩) n cap) xs) (hk : k < xs.length) (hn : n = xs.length) (x0 x1 : Int) :
 PcAt lo hi ((w.setCell ⟨b, o + k * 2, none⟩ (.int .i64 x0)).setCell ⟨b, o + k * 2 + 1, none⟩ (.int .i64 x1)) (.slice (some ⟨b, o, none⟩) n cap) (xs.set k ⟨x0, x1⟩) := by
 obtain ⟨ao, cap', e, h1, h2, h3, h4⟩ := h;simp only [Value.slice.injEq] at e;obtain ⟨rfl, -, rfl⟩ := e;refine ⟨some ⟨b, o, none⟩, cap, by simp [hn], by simpa using h1, h2, by simpa [World.setCell] using h3, fun _ => ?_⟩;obtain ⟨b', o', e, hb1, hb2, hc⟩ := h4 (by omega);simp only [Option.some.injEq, Addr.mk.injEq] at e;obtain ⟨rfl, rfl, -⟩ := e;refine ⟨b, o, rfl, hb1, hb2, fun i hi => ?_⟩;have hi' : i < xs.length := by simpa using hi
 obtain ⟨⟨c0, c1⟩, d⟩ := hc i hi';refine ⟨?_, by simp only [World.frozen?_setCell]; exact d⟩;by_cases e : i = k
 ·subst e
  refine ⟨?_, ?_⟩
  ·rw [World.cell?_setCell_other _ _ _ _ (addr_ne_off (by omega)), World.cell?_setCell_same _ _ _ (c0)]
   simp
  ·rw [World.cell?_setCell_same _ _ _ (by rw [World.cell?_setCell_other _ _ _ _ (addr_ne_off (by omega))]; exact c1)]
   simp
 ·rw [List.getElem_set_ne (fun h => e h.symm)]
  refine ⟨?_, ?_⟩
  ·rw [World.cell?_setCell_other _ _ _ _ (addr_ne_off (by omega)), World.cell?_setCell_other _ _ _ _ (addr_ne_off (by omega))]; exact c0
  ·rw [World.cell?_setCell_other _ _ _ _ (addr_ne_off (by omega)), World.cell?_setCell_other _ _ _ _ (addr_ne_off (by omega))]; exact c1
def withP (pre : List Int) (l : List (List Int)) : List (List Int) := l.map (pre ++ ·)
theorem withP_app (pre : List Int) (a b : List (List Int)) : withP pre (a ++ b) = withP pre a ++ withP pre b := by simp [withP]
theorem withP_none (l : List (List Int)) : withP [] l = l := by simp [withP]
def part (ss : List Int) (t : Int) (n : Nat) : List (List Int) := (ups n).flatMap fun n => (allM ss (t - n)).map (n :: ·)
theorem part_zero (ss : List Int) (t : Int) : part ss t 0 = [] := rfl
theorem part_succ (ss : List Int) (t : Int) (n : Nat) : part ss t (n + 1) = part ss t n ++ (allM ss (t - n)).map ((n : Int) :: ·) := by
 simp [part, ups_succ]
theorem allM_cons (s : Int) (ss : List Int) (t : Int) : allM (s :: ss) t = part ss t (min t s + 1).toNat := rfl
theorem withP_succ (pre ss : List Int) (t : Int) (n : Nat) : withP pre (part ss t (n + 1)) = withP pre (part ss t n) ++ withP (pre ++ [(n : Int)]) (allM ss (t - n)) := by
 rw [part_succ, withP_app];simp [withP]
theorem allM_end (t : Int) (pre : List Int) : withP pre (allM [] t) = if t = 0 then [pre] else [] := by
 unfold allM withP;split <;> simp
def stocks (sts : List St) (k : Nat) : List Int := (sts.map St.k).drop k
theorem stocks_zero (sts : List St) : stocks sts 0 = sts.map St.k := rfl
theorem stocks_end (sts : List St) : stocks sts sts.length = [] := by simp [stocks]
theorem stocks_cons {sts : List St} {k : Nat} (hk : k < sts.length) : stocks sts k = (sts.getD k st0).k :: stocks sts (k + 1) := by
 unfold stocks;rw [List.drop_eq_getElem_cons (by simpa using hk)];simp [hk]
theorem allM_at {sts : List St} {k : Nat} (hk : k < sts.length) (t : Int) : allM (stocks sts k) t = part (stocks sts (k + 1)) t (min t (sts.getD k st0).k + 1).toNat := by
 rw [stocks_cons hk, allM_cons]
theorem foldM_snoc (sts : List St) (g : Gr) (b : Option (List Int × Int)) (l : List (List Int)) (x : List Int) : foldM sts g b (l ++ [x]) = stepM sts g (foldM sts g b l) x := by
 rw [foldM_append]; rfl
theorem withP_len (pre : List Int) (l : List (List Int)) : (withP pre l).length = l.length := by simp [withP]
theorem part_len (ss : List Int) (t : Int) (B : Nat) (h : ∀ t, (allM ss t).length ≤ B) : ∀ n, (part ss t n).length ≤ n * B
 | 0 => by simp [part_zero]
 | n + 1 => by
  have h1 := part_len ss t B h n;have h2 := h (t - n);rw [part_succ, List.length_append, List.length_map, Nat.succ_mul]; omega
theorem allM_len : ∀ (ss : List Int), (∀ s ∈ ss, s ≤ 9) → ∀ t, (allM ss t).length ≤ 10 ^ ss.length
 | [], _, t => by unfold allM; split <;> simp
 | s :: ss, h, t => by
  have ih := allM_len ss fun x hx => h x (by simp [hx]);have hs := h s (by simp);have := part_len ss t _ ih (min t s + 1).toNat;rw [allM_cons, List.length_cons, Nat.pow_succ, Nat.mul_comm];exact Nat.le_trans this (Nat.mul_le_mul_right _ (by omega))
theorem info_Pc : (Tryz.prog.info? 73).map (fun i => (i.zero, i.size, i.bytes)) = some (some (.agg #[.int .i64 0, .int .i64 0]), 2, 16) := by kernel_rfl
theorem spotN_spec (n : Int) (w : World) (h1 : 0 ≤ n) (h2 : n ≤ 9223372036854775807) :
 Calls Tryz.prog 116 #[.int .i64 n] w fun e w' => e = .returned (.agg #[.bool (spotTop n), .int .i64 (spotPlace n)]) ∧ Below w.heap.size w w' := by
 have hneg : ¬ n < 0 := by omega
 go_enter Tryz.func116, Tryz.ntmps116
 go_wp2
 go_returns
 exact ⟨by simp [spotTop, spotPlace, hneg] <;> omega, by go_grown⟩
end Go.Proofs.YtmemgbklgcjobaaGreatDoor
