/-
  Parts of the proofs over mills, of: PlainMill. Conditions: each theorem states its own.
-/
import Derived.Test.YtkhecelpafojdaaGreatDoorF02
import Derived.Test.YtkhecelpafojdaaGreatDoorF03
set_option linter.unusedSimpArgs false
set_option linter.unusedVariables false
set_option maxRecDepth 10000
set_option maxHeartbeats 64000000
namespace Go.Proofs.YtkhecelpafojdaaGreatDoor
open Go.RowKit
structure Pc where
 l : Int
 s : Int
 deriving DecidableEq
def pc0 : Pc := ⟨0, 0⟩
structure Mi where
 store : List St
 rule : Gr
 strand : Int
 pieces : List Pc
 low : List Int
 high : List Int
 scrap : Int
 deriving DecidableEq
def gr0 : Gr := ⟨0, 0, 0, 0, 0, 0⟩
def mi0 : Mi := ⟨[], gr0, 0, [], [], [], 0⟩
def pcB (p : Pc) : Bool := wi p.l 1 60 && wi p.s 0 2
def pcsB (l : List Pc) : Bool := l.all pcB
def bg (l : List Pc) (s : Int) : Nat → List Int
 | 0 => []
 | k + 1 => if (l.getD k pc0).s == s then bg l s k ++ [(k : Int) + 1] else bg l s k
def dA (l : List Pc) (s : Int) : List Int := bg l s l.length
def aF (m : Mi) : Bool :=
 dY m.store && (grB m.rule && (wi m.strand 0 48 && (decide (m.pieces.length ≤ 30) && (aO m.low m.high && (wi m.scrap 0 999 && (pcsB m.pieces && decide (dA m.pieces 1 = ib m.low m.high)))))))
def bi (l : List Pc) : Nat → Int
 | 0 => 0
 | k + 1 => bi l k + (l.getD k pc0).l
def fZ (m : Mi) : Int := m.strand + m.scrap + bq m.store m.store.length + bi m.pieces m.pieces.length
def fw (m : Mi) : Int := if aF m then fZ m else -1
def bf (m : Mi) (s : Int) : List Int := if aF m then dA m.pieces s else []
theorem mem_idsTo {l : List Pc} {s : Int} : ∀ {k : Nat} {x : Int}, x ∈ bg l s k ↔ ∃ j : Nat, j < k ∧ x = j + 1 ∧ (l.getD j pc0).s = s
 | 0, x => by simp [bg]
 | k + 1, x => by
  unfold bg;split
  ·rename_i h
   rw [List.mem_append, mem_idsTo, List.mem_singleton];constructor
   ·rintro (⟨j, h1, h2, h3⟩ | rfl)
    ·exact ⟨j, by omega, h2, h3⟩
    ·exact ⟨k, by omega, rfl, by simpa using h⟩
   ·rintro ⟨j, h1, h2, h3⟩
    rcases Nat.lt_or_ge j k with h4 | h4
    ·exact .inl ⟨j, h4, h2, h3⟩
    ·obtain rfl : j = k := by omega
     exact .inr h2
  ·rename_i h
   rw [mem_idsTo];constructor
   ·rintro ⟨j, h1, h2, h3⟩; exact ⟨j, by omega, h2, h3⟩
   ·rintro ⟨j, h1, h2, h3⟩
    rcases Nat.lt_or_ge j k with h4 | h4
    ·exact ⟨j, h4, h2, h3⟩
    ·obtain rfl : j = k := by omega
     exact absurd (by simpa using h3) h
theorem eY {l : List Pc} {s x : Int} : x ∈ dA l s ↔ ∃ j : Nat, j < l.length ∧ x = j + 1 ∧ (l.getD j pc0).s = s := mem_idsTo
theorem idsTo_lt (l : List Pc) (s : Int) : ∀ k, (bg l s k).Pairwise (· < ·)
 | 0 => List.Pairwise.nil
 | k + 1 => by
  unfold bg;split
  ·rw [List.pairwise_append]
   refine ⟨idsTo_lt l s k, by simp, fun a ha b hb => ?_⟩;obtain ⟨j, h1, rfl, _⟩ := mem_idsTo.1 ha;simp only [List.mem_singleton] at hb;omega
  ·exact idsTo_lt l s k
theorem ids_lt (l : List Pc) (s : Int) : (dA l s).Pairwise (· < ·) := idsTo_lt l s _
theorem gK (l : List Pc) (s : Int) : ∀ k, (bg l s k).length ≤ k
 | 0 => Nat.le_refl _
 | k + 1 => by
  have := gK l s k;unfold bg;split
  ·simp; omega
  ·omega
theorem pcB_iff {p : Pc} : pcB p = true ↔ (1 ≤ p.l ∧ p.l ≤ 60) ∧ (0 ≤ p.s ∧ p.s ≤ 2) := by simp [pcB, aN]
theorem pcsB_iff {l : List Pc} : pcsB l = true ↔ ∀ k, k < l.length → pcB (l.getD k pc0) = true := by
 unfold pcsB;rw [List.all_eq_true];constructor
 ·intro h k hk
  rw [List.getD_eq_getElem?_getD, List.getElem?_eq_getElem hk]; exact h _ (List.getElem_mem _)
 ·intro h x hx
  obtain ⟨k, hk, rfl⟩ := List.getElem_of_mem hx;have := h k hk
  rwa [List.getD_eq_getElem?_getD, List.getElem?_eq_getElem hk] at this
structure dO (m : Mi) : Prop where
 store : dY m.store = true
 rule : grB m.rule = true
 st0 : 0 ≤ m.strand
 st1 : m.strand ≤ 48
 len : m.pieces.length ≤ 30
 pile : gZ m.low m.high
 sc0 : 0 ≤ m.scrap
 sc1 : m.scrap ≤ 999
 pcs : ∀ k, k < m.pieces.length → pcB (m.pieces.getD k pc0) = true
 ids : ∀ x, x ∈ nz (m.low ++ m.high) ↔ ∃ j : Nat, j < m.pieces.length ∧ x = j + 1 ∧ (m.pieces.getD j pc0).s = 1
theorem aQ {m : Mi} : aF m = true ↔ dO m := by
 unfold aF;simp only [Bool.and_eq_true, aN, decide_eq_true_iff, pcsB_iff, aZ];constructor
 ·rintro ⟨h1, h2, ⟨h3, h4⟩, h5, h6, ⟨h7, h8⟩, h9, h10⟩
  exact ⟨h1, h2, h3, h4, h5, h6, h7, h8, h9, fun x => by rw [← mem_coil h6, ← h10]; exact eY⟩
 ·rintro ⟨h1, h2, h3, h4, h5, h6, h7, h8, h9, h10⟩
  exact ⟨h1, h2, ⟨h3, h4⟩, h5, h6, ⟨h7, h8⟩, h9, jH (ids_lt _ _) (coil_lt _ _) fun x => by rw [mem_coil h6, h10]; exact eY⟩
theorem jf {l l' : List Pc} {k : Nat} : (l ++ l').getD k pc0 = if k < l.length then l.getD k pc0 else l'.getD (k - l.length) pc0 := by
 simp only [List.getD_eq_getElem?_getD, List.getElem?_append];split <;> rfl
theorem getD_setP {l : List Pc} {k j : Nat} {x : Pc} (hk : k < l.length) : (l.set k x).getD j pc0 = if j = k then x else l.getD j pc0 := by
 simp only [List.getD_eq_getElem?_getD, List.getElem?_set];by_cases h : k = j
 ·subst h; simp [hk]
 ·rw [if_neg h, if_neg (fun e => h e.symm)]
theorem getD_rep {n k : Nat} {x : Pc} (h : k < n) : (List.replicate n x).getD k pc0 = x := by
 simp [List.getD_eq_getElem?_getD, h]
theorem jV {l l' : List Pc} : ∀ {n : Nat}, (∀ k, k < n → (l.getD k pc0).l = (l'.getD k pc0).l) → bi l n = bi l' n
 | 0, _ => rfl
 | n + 1, h => by rw [bi, bi, jV (fun k hk => h k (by omega)), h n (by omega)]
theorem longTo_app (l l' : List Pc) : ∀ n, bi (l ++ l') (l.length + n) = bi l l.length + bi l' n
 | 0 => by
  rw [Nat.add_zero, bi, Int.add_zero];exact jV fun k hk => by rw [jf, if_pos hk]
 | n + 1 => by
  rw [← Nat.add_assoc, bi, longTo_app l l' n, bi, jf, if_neg (by omega), Nat.add_sub_cancel_left]; omega
theorem longTo_rep (x : Pc) (n : Nat) : ∀ k, k ≤ n → bi (List.replicate n x) k = k * x.l
 | 0, _ => by simp [bi]
 | k + 1, h => by
  rw [bi, longTo_rep x n k (by omega), getD_rep (by omega), Int.natCast_add, Int.add_mul]; omega
def gp (l : List Pc) (id s : Int) : List Pc := l.set (id - 1).toNat ⟨(l.getD (id - 1).toNat pc0).l, s⟩
theorem dC (l : List Pc) (id s : Int) : (gp l id s).length = l.length := by simp [gp]
theorem bV {l : List Pc} {j k : Nat} {s : Int} (hk : k < l.length) : (gp l ((k : Int) + 1) s).getD j pc0 = if j = k then ⟨(l.getD k pc0).l, s⟩ else l.getD j pc0 := by
 unfold gp;rw [show ((k : Int) + 1 - 1).toNat = k by omega, getD_setP hk]
theorem setS_long {l : List Pc} {k : Nat} {s : Int} (hk : k < l.length) (n : Nat) : bi (gp l ((k : Int) + 1) s) n = bi l n :=
 jV fun j _ => by rw [bV hk]; split <;> simp_all
def aP (n : Int) : Bool := if n < 0 then false else n % 2 == 1
def aG (n : Int) : Int := if n < 0 then 0 else n / 2
def jv (m : Mi) (tons : Int) : Option Mi :=
 if m.strand == 0 then (dM m.store m.rule tons).map fun mix => { m with store := ig m.store mix, strand := 4 * tons } else none
def eO (L a b : Int) : List Pc := List.replicate (bA L a b) ⟨b, 0⟩ ++ List.replicate (dx L a b) ⟨a, 0⟩
def cutD (m : Mi) (a b : Int) : Option Mi :=
 if (m.strand != 0 && dB a b) && (decide (m.pieces.length + dx m.strand a b + bA m.strand a b ≤ 30) && decide (m.scrap + dJ m.strand a b ≤ 999)) then
  some { m with pieces := m.pieces ++ eO m.strand a b, strand := 0, scrap := m.scrap + dJ m.strand a b } else none
def hasB (m : Mi) (id s : Int) : Bool := wi id 1 m.pieces.length && (m.pieces.getD (id - 1).toNat pc0).s == s
def iI (m : Mi) (id n : Int) : Option Mi :=
 if decide (0 ≤ n) && hasB m id 0 && (fE m.low m.high (aP n) (aG n) id).2 then
  some { m with low := (fE m.low m.high (aP n) (aG n) id).1.1, high := (fE m.low m.high (aP n) (aG n) id).1.2, pieces := gp m.pieces id 1 } else none
def liftD (m : Mi) (a b : Int) : Option Mi :=
 if decide (0 ≤ a) && decide (0 ≤ b) && (eX m.low m.high (aP a) (aG a) (aP b) (aG b)).2 then
  some { m with low := (eX m.low m.high (aP a) (aG a) (aP b) (aG b)).1.1, high := (eX m.low m.high (aP a) (aG a) (aP b) (aG b)).1.2 } else none
def iT (m : Mi) (id : Int) : Option Mi :=
 match cK m.low m.high id with
 | none => none
 | some (t, p) => if (bE m.low m.high t p).2 == 0 then none else
  some { m with low := (bE m.low m.high t p).1.1, high := (bE m.low m.high t p).1.2, pieces := gp m.pieces id 2 }
def jE (m : Mi) (k o t : Int) : Option Mi :=
 if k == 0 then jv m o else if k == 1 then cutD m o t else if k == 2 then iI m o t else if k == 3 then liftD m o t else if k == 4 then iT m o else none
def doR (m : Mi) (d : J) : Mi × Bool := if aF m then (match jE m d.s d.d d.g with | none => (m, false) | some x => (x, true)) else (mi0, false)
structure Done (m x : Mi) : Prop where
 v : dO x
 rule : x.rule = m.rule
 mass : fZ x = fZ m
 len : m.pieces.length ≤ x.pieces.length
 pcs : ∀ k, k < m.pieces.length → (x.pieces.getD k pc0).l = (m.pieces.getD k pc0).l ∧ (m.pieces.getD k pc0).s ≤ (x.pieces.getD k pc0).s
 ne : x ≠ m
theorem melt_ok {m x : Mi} (hv : dO m) {tons : Int} (h : jv m tons = some x) : Done m x := by
 unfold jv at h;split at h
 ·rename_i h0
  rw [beq_iff_eq] at h0;rw [Option.map_eq_some_iff] at h;obtain ⟨mix, hb, rfl⟩ := h;obtain ⟨b1, b2, b3, b4⟩ := best_ok hb;obtain ⟨p1, p2, _⟩ := dF b1;have ht := stock_take b1 m.store.length nl;refine ⟨⟨takeM_ok b1, hv.rule, by simp only; omega, by simp only; omega, hv.len, hv.pile, hv.sc0, hv.sc1, hv.pcs, hv.ids⟩, rfl, ?_, Nat.le_refl _, fun k hk => ⟨rfl, Int.le_refl _⟩, fun e => ?_⟩
  ·unfold fZ
   simp only [gM];rw [ht, ← p2];have : sumTo mix mix.length = tons := b2;rw [this]; omega
  ·have := congrArg Mi.strand e
   simp only at this;omega
 ·cases h
theorem newPcs_len (L a b : Int) : (eO L a b).length = dx L a b + bA L a b := by simp [eO]; omega
theorem newPcs_at (L a b : Int) {k : Nat} (h : k < (eO L a b).length) : (eO L a b).getD k pc0 = ⟨b, 0⟩ ∨ (eO L a b).getD k pc0 = ⟨a, 0⟩ := by
 rw [newPcs_len] at h;unfold eO;rw [jf, List.length_replicate];split
 ·exact .inl (getD_rep (by assumption))
 ·exact .inr (getD_rep (by omega))
theorem newPcs_long (L a b : Int) : bi (eO L a b) (eO L a b).length = bA L a b * b + dx L a b * a := by
 have e : (eO L a b).length = (List.replicate (bA L a b) (⟨b, 0⟩ : Pc)).length + dx L a b := by rw [newPcs_len]; simp; omega
 rw [e];unfold eO;rw [longTo_app, longTo_rep _ _ _ (by simp), longTo_rep _ _ _ nl, List.length_replicate]
theorem cut_ok {m x : Mi} (hv : dO m) {a b : Int} (h : cutD m a b = some x) : Done m x := by
 unfold cutD at h;split at h
 ·rename_i hc
  rw [Bool.and_eq_true, Bool.and_eq_true, Bool.and_eq_true, bne_iff_ne, decide_eq_true_iff, decide_eq_true_iff] at hc;obtain ⟨⟨c1, c2⟩, c3, c4⟩ := hc;simp only [Option.some.injEq] at h;subst h;obtain ⟨⟨a1, a2⟩, b1, b2⟩ := di.1 c2;obtain ⟨m1, m0⟩ := many_le c2 hv.st0;have hl := newPcs_len m.strand a b;have hg := newPcs_long m.strand a b;have hat := fun k => newPcs_at m.strand a b (k := k);unfold dJ at *;generalize eO m.strand a b = N at *;refine ⟨⟨hv.store, hv.rule, Int.le_refl _, by simp only; omega, by simp only [List.length_append]; omega, hv.pile, ?_, by simp only; omega, fun k hk => ?_, fun z => ?_⟩, rfl, ?_, by simp, fun k hk => ?_, fun e => ?_⟩
  ·have := hv.sc0; simp only; omega
  ·simp only [List.length_append] at hk
   simp only [jf];split
   ·exact hv.pcs k (by assumption)
   ·rcases hat (k - m.pieces.length) (by omega) with e | e <;> rw [e, pcB_iff] <;> simp only <;> omega
  ·rw [hv.ids z]
   simp only [List.length_append];constructor
   ·rintro ⟨j, h1, h2, h3⟩
    exact ⟨j, by omega, h2, by rw [jf, if_pos h1]; exact h3⟩
   ·rintro ⟨j, h1, h2, h3⟩
    rw [jf] at h3;split at h3
    ·exact ⟨j, by assumption, h2, h3⟩
    ·rcases hat (j - m.pieces.length) (by omega) with e | e <;> rw [e] at h3 <;> simp at h3
  ·unfold fZ
   simp only [List.length_append];rw [longTo_app, hg]; omega
  ·simp only [jf]
   rw [if_pos hk]; exact ⟨rfl, Int.le_refl _⟩
  ·have := congrArg Mi.strand e
   simp only at this;omega
 ·cases h
theorem hasB_iff {m : Mi} {id s : Int} : hasB m id s = true ↔ ∃ k : Nat, id = k + 1 ∧ k < m.pieces.length ∧ (m.pieces.getD k pc0).s = s := by
 unfold hasB;rw [Bool.and_eq_true, aN, beq_iff_eq];constructor
 ·rintro ⟨⟨h1, h2⟩, h3⟩; exact ⟨(id - 1).toNat, by omega, by omega, h3⟩
 ·rintro ⟨k, rfl, h2, h3⟩
  refine ⟨by omega, ?_⟩;rw [show ((k : Int) + 1 - 1).toNat = k by omega]; exact h3
theorem roll_ok {m x : Mi} (hv : dO m) {id n : Int} (h : iI m id n = some x) : Done m x := by
 unfold iI at h;split at h
 ·rename_i hc
  rw [Bool.and_eq_true, Bool.and_eq_true, decide_eq_true_iff, hasB_iff] at hc;obtain ⟨⟨c1, k, rfl, hk, hs⟩, c3⟩ := hc;simp only [Option.some.injEq] at h;obtain ⟨p1, p2, p3, p4, -, -⟩ := put_ok (q := (fE m.low m.high (aP n) (aG n) (k + 1)).1) (by rw [← c3]);generalize (fE m.low m.high (aP n) (aG n) (k + 1)).1 = q at *;subst h;refine ⟨⟨hv.store, hv.rule, hv.st0, hv.st1, by simp only [dC]; exact hv.len, p2, hv.sc0, hv.sc1, fun j hj => ?_, fun z => ?_⟩, rfl, ?_, by simp only [dC]; exact Nat.le_refl _, fun j hj => ?_, fun e => ?_⟩
  ·simp only [dC] at hj
   have h1 := hv.pcs j hj;simp only [bV hk];split
   ·subst j
    rw [pcB_iff] at h1 ⊢;simp only; omega
   ·exact h1
  ·simp only [dC]
   rw [p4, hv.ids];constructor
   ·rintro (rfl | ⟨j, h1, h2, h3⟩)
    ·exact ⟨k, hk, rfl, by rw [bV hk, if_pos rfl]⟩
    ·refine ⟨j, h1, h2, ?_⟩
     rw [bV hk];split
     ·rfl
     ·exact h3
   ·rintro ⟨j, h1, h2, h3⟩
    rw [bV hk] at h3;split at h3
    ·subst j; exact .inl h2
    ·exact .inr ⟨j, h1, h2, h3⟩
  ·unfold fZ
   simp only [dC];rw [setS_long hk]
  ·simp only [bV hk]
   split
   ·subst j; refine ⟨rfl, ?_⟩; show (m.pieces.getD k pc0).s ≤ 1; omega
   ·exact ⟨rfl, Int.le_refl _⟩
  ·have h2 : (gp m.pieces ((k : Int) + 1) 1).getD k pc0 = m.pieces.getD k pc0 := congrArg (fun m => (Mi.pieces m).getD k pc0) e
   rw [bV hk, if_pos rfl] at h2;have h3 := congrArg Pc.s h2;rw [hs] at h3;simp at h3
 ·cases h
theorem liftD_ok {m x : Mi} (hv : dO m) {a b : Int} (h : liftD m a b = some x) : Done m x := by
 unfold liftD at h;split at h
 ·rename_i hc
  rw [Bool.and_eq_true, Bool.and_eq_true] at hc;obtain ⟨-, c3⟩ := hc;simp only [Option.some.injEq] at h;obtain ⟨p1, p2, p3, p4⟩ := lift_ok (q := (eX m.low m.high (aP a) (aG a) (aP b) (aG b)).1) (by rw [← c3]);generalize (eX m.low m.high (aP a) (aG a) (aP b) (aG b)).1 = q at *;subst h;refine ⟨⟨hv.store, hv.rule, hv.st0, hv.st1, hv.len, p2, hv.sc0, hv.sc1, hv.pcs, fun z => by rw [p3]; exact hv.ids z⟩, rfl, rfl, Nat.le_refl _, fun _ _ => ⟨rfl, Int.le_refl _⟩, fun e => p4 ?_⟩;have e1 := congrArg Mi.low e;have e2 := congrArg Mi.high e;simp only at e1 e2;rw [← e1, ← e2]
 ·cases h
theorem ship_ok {m x : Mi} (hv : dO m) {id : Int} (h : iT m id = some x) : Done m x ∧ ∃ k : Nat, id = k + 1 ∧ k < m.pieces.length ∧ (m.pieces.getD k pc0).s = 1 := by
 unfold iT at h;split at h
 ·cases h
 ·rename_i t p hf
  split at h
  ·cases h
  ·rename_i h0
   rw [beq_iff_eq] at h0;simp only [Option.some.injEq] at h;obtain ⟨f1, f2, kk, rfl, f3, f4⟩ := find_at hf;obtain ⟨p1, p2, p3, p4, p5, -, k', e', p6, p7⟩ := take_ok (q := (bE m.low m.high t kk).1) (id := (bE m.low m.high t kk).2) rfl h0;have hkk : kk = k' := by omega
   subst hkk;have hid : (bE m.low m.high t kk).2 = id := by rw [← p7, f4]
   rw [hid] at p3 p4 p5;clear hid;generalize (bE m.low m.high t kk).1 = q at *;obtain ⟨k, hk, rfl, hs⟩ := (hv.ids id).1 p5;refine ⟨?_, k, rfl, hk, hs⟩;subst h;refine ⟨⟨hv.store, hv.rule, hv.st0, hv.st1, by simp only [dC]; exact hv.len, p2, hv.sc0, hv.sc1, fun j hj => ?_, fun z => ?_⟩, rfl, ?_, by simp only [dC]; exact Nat.le_refl _, fun j hj => ?_, fun e => ?_⟩
   ·simp only [dC] at hj
    have h1 := hv.pcs j hj;simp only [bV hk];split
    ·subst j
     rw [pcB_iff] at h1 ⊢;simp only; omega
    ·exact h1
   ·simp only [dC]
    rw [p4, hv.ids];constructor
    ·rintro ⟨⟨j, h1, h2, h3⟩, h4⟩
     refine ⟨j, h1, h2, ?_⟩;rw [bV hk, if_neg (by omega)];exact h3
    ·rintro ⟨j, h1, h2, h3⟩
     rw [bV hk] at h3;split at h3
     ·simp at h3
     ·exact ⟨⟨j, h1, h2, h3⟩, by omega⟩
   ·unfold fZ
    simp only [dC];rw [setS_long hk]
   ·simp only [bV hk]
    split
    ·subst j; refine ⟨rfl, ?_⟩; show (m.pieces.getD k pc0).s ≤ 2; omega
    ·exact ⟨rfl, Int.le_refl _⟩
   ·have h2 : (gp m.pieces ((k : Int) + 1) 2).getD k pc0 = m.pieces.getD k pc0 := congrArg (fun m => (Mi.pieces m).getD k pc0) e
    rw [bV hk, if_pos rfl] at h2;have h3 := congrArg Pc.s h2;rw [hs] at h3;simp at h3
theorem step_ok {m x : Mi} (hv : dO m) {k o t : Int} (h : jE m k o t = some x) : Done m x := by
 unfold jE at h;split at h
 ·exact melt_ok hv h
 ·split at h
  ·exact cut_ok hv h
  ·split at h
   ·exact roll_ok hv h
   ·split at h
    ·exact liftD_ok hv h
    ·split at h
     ·exact (ship_ok hv h).1
     ·cases h
theorem do_ok {m x : Mi} {d : J} (hv : dO m) (h : doR m d = (x, true)) : Done m x := by
 unfold doR at h;rw [if_pos (aQ.2 hv)] at h;split at h
 ·simp at h
 ·rename_i y e
  simp only [Prod.mk.injEq, and_true] at h;subst h;exact step_ok hv e
theorem do_no {m x : Mi} {d : J} (hv : dO m) (h : doR m d = (x, false)) : x = m := by
 unfold doR at h;rw [if_pos (aQ.2 hv)] at h;split at h
 ·simp at h; exact h.symm
 ·simp at h
theorem do_v {m : Mi} (d : J) (hv : dO m) : dO (doR m d).1 ∧ fZ (doR m d).1 = fZ m ∧ (doR m d).1.rule = m.rule := by
 rcases h : doR m d with ⟨x, b⟩;cases b
 ·have := do_no hv h
  subst this;exact ⟨hv, rfl, rfl⟩
 ·have := do_ok hv h
  exact ⟨this.v, this.mass, this.rule⟩
def iJ (s : Mi × Int) (d : J) : Mi × Int := if (doR s.1 d).2 then ((doR s.1 d).1, s.2 + 1) else s
def dX (m : Mi) (l : List J) : Mi × Int := l.foldl iJ (m, 0)
def iX (m : Mi) (l : List J) : Mi × Int := if aF m && decide (l.length ≤ 99) then dX m l else (mi0, 0)
theorem runS_eq {s : Mi × Int} (hv : dO s.1) (d : J) : (iJ s d).1 = (doR s.1 d).1 := by
 unfold iJ;split
 ·rfl
 ·rename_i h
  exact (do_no hv (x := (doR s.1 d).1) (by rcases hd : doR s.1 d with ⟨x, b⟩; cases b <;> simp_all)).symm
theorem runS_v {s : Mi × Int} (hv : dO s.1) (d : J) : dO (iJ s d).1 ∧ fZ (iJ s d).1 = fZ s.1 ∧ (iJ s d).1.rule = s.1.rule := by
 rw [runS_eq hv]; exact do_v d hv
theorem run_v : ∀ (l : List J) (s : Mi × Int), dO s.1 → dO (l.foldl iJ s).1 ∧ fZ (l.foldl iJ s).1 = fZ s.1 ∧ (l.foldl iJ s).1.rule = s.1.rule
 | [], s, h => ⟨h, rfl, rfl⟩
 | d :: l, s, h => by
  obtain ⟨h1, h2, h3⟩ := runS_v h d;obtain ⟨k1, k2, k3⟩ := run_v l (iJ s d) h1;rw [List.foldl_cons];exact ⟨k1, k2.trans h2, k3.trans h3⟩
theorem run_bd : ∀ (l : List J) (s : Mi × Int), s.2 ≤ (l.foldl iJ s).2 ∧ (l.foldl iJ s).2 ≤ s.2 + l.length
 | [], s => by simp
 | d :: l, s => by
  have h := run_bd l (iJ s d);have : s.2 ≤ (iJ s d).2 ∧ (iJ s d).2 ≤ s.2 + 1 := by unfold iJ; split <;> simp <;> omega
  rw [List.foldl_cons, List.length_cons]; omega
end Go.Proofs.YtkhecelpafojdaaGreatDoor
