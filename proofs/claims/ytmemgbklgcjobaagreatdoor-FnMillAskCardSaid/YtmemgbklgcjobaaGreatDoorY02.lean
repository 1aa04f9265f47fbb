/-
  Parts of the proofs over mills, of: PlainPile, PlainPile2. Conditions: each theorem states its own.
-/
import Derived.Test.YtmemgbklgcjobaaGreatDoorY01
set_option linter.unusedSimpArgs false
set_option linter.unusedVariables false
set_option maxRecDepth 10000
set_option maxHeartbeats 64000000
namespace Go.Proofs.YtmemgbklgcjobaaGreatDoor
open Go.RowKit
def hasI (xs : List Int) (n : Int) : Bool := xs.any (· == n)
theorem hasI_iff {xs : List Int} {n : Int} : hasI xs n = true ↔ n ∈ xs := by simp [hasI]
theorem hasI_false {xs : List Int} {n : Int} : hasI xs n = false ↔ n ∉ xs := by
 rw [← hasI_iff]; simp
def idK (ids : List Int) (k : Nat) : Bool := wi (ids.getD k 0) 0 99 && (ids.getD k 0 == 0 || !hasI (ids.take k) (ids.getD k 0))
def onK (lo hi : List Int) (k : Nat) : Bool := hi.getD k 0 == 0 || (lo.getD k 0 != 0 && lo.getD (k + 1) 0 != 0)
def pileB (lo hi : List Int) : Bool := wi lo.length 1 6 && (decide ((hi.length : Int) = lo.length - 1) && (upTo (lo ++ hi).length (idK (lo ++ hi)) && upTo hi.length (onK lo hi)))
def nz (l : List Int) : List Int := l.filter (· != 0)
theorem mem_nz {l : List Int} {x : Int} : x ∈ nz l ↔ x ∈ l ∧ x ≠ 0 := by simp [nz]
structure PileV (lo hi : List Int) : Prop where
 l1 : 1 ≤ lo.length
 l6 : lo.length ≤ 6
 lh : hi.length + 1 = lo.length
 rng : ∀ x ∈ lo ++ hi, 0 ≤ x ∧ x ≤ 99
 nd : (nz (lo ++ hi)).Nodup
 on : ∀ k, k < hi.length → hi.getD k 0 ≠ 0 → lo.getD k 0 ≠ 0 ∧ lo.getD (k + 1) 0 ≠ 0
theorem nd_snoc (l : List Int) (x : Int) : (nz (l ++ [x])).Nodup ↔ (nz l).Nodup ∧ (x = 0 ∨ x ∉ l) := by
 by_cases h : x = 0
 ·subst h; simp [nz]
 ·have e : nz (l ++ [x]) = nz l ++ [x] := by simp [nz, h]
  rw [e, List.nodup_append];constructor
  ·rintro ⟨h1, _, h3⟩
   exact ⟨h1, .inr fun hx => h3 x (mem_nz.2 ⟨hx, h⟩) x (by simp) rfl⟩
  ·rintro ⟨h1, h2⟩
   refine ⟨h1, by simp, fun a ha b hb e => ?_⟩;simp only [List.mem_singleton] at hb;rw [e, hb] at ha;rcases h2 with h2 | h2
   ·exact h h2
   ·exact h2 (mem_nz.1 ha).1
theorem nd_iff : ∀ (l : List Int), (∀ k, k < l.length → l.getD k 0 = 0 ∨ l.getD k 0 ∉ l.take k) ↔ (nz l).Nodup := by
 intro l
 induction hn : l.length generalizing l with
 | zero => obtain rfl := List.length_eq_zero_iff.1 hn; simp [nz]
 | succ n ih =>
  obtain ⟨a, x, rfl⟩ : ∃ a x, l = a ++ [x] := by
   rcases List.eq_nil_or_concat l with h | ⟨a, x, h⟩
   ·subst h; cases hn
   ·exact ⟨a, x, by rw [h]; simp⟩
  have ha : a.length = n := by simpa using hn
  rw [nd_snoc, ← ih a ha];constructor
  ·intro h
   refine ⟨fun k hk => ?_, ?_⟩
   ·have := h k (by omega)
    rw [List.take_append_of_le_length (by omega)] at this;simpa [List.getD, List.getElem?_append_left (show k < a.length by omega)] using this
   ·have := h n (by omega)
    rw [← ha] at this;simpa [List.getD] using this
  ·rintro ⟨h1, h2⟩ k hk
   rcases Nat.lt_or_ge k n with hlt | hge
   ·have := h1 k hlt
    rw [List.take_append_of_le_length (by omega)];simpa [List.getD, List.getElem?_append_left (show k < a.length by omega)] using this
   ·have e : k = a.length := by omega
    subst e;simpa [List.getD] using h2
theorem getD_mem {l : List Int} {k : Nat} (h : k < l.length) : l.getD k 0 ∈ l := by
 rw [List.getD_eq_getElem?_getD, List.getElem?_eq_getElem h]; exact List.getElem_mem _
theorem mem_getD {l : List Int} {x : Int} (h : x ∈ l) : ∃ k, k < l.length ∧ l.getD k 0 = x := by
 obtain ⟨k, hk, e⟩ := List.getElem_of_mem h;exact ⟨k, hk, by rw [List.getD_eq_getElem?_getD, List.getElem?_eq_getElem hk]; exact e⟩
theorem pileB_iff {lo hi : List Int} : pileB lo hi = true ↔ PileV lo hi := by
 unfold pileB;rw [Bool.and_eq_true, Bool.and_eq_true, Bool.and_eq_true, wi_iff, decide_eq_true_iff, upTo_iff, upTo_iff];constructor
 ·rintro ⟨⟨h1, h2⟩, h3, h4, h5⟩
  have h4' : ∀ k, k < (lo ++ hi).length → (0 ≤ (lo ++ hi).getD k 0 ∧ (lo ++ hi).getD k 0 ≤ 99) ∧ ((lo ++ hi).getD k 0 = 0 ∨ (lo ++ hi).getD k 0 ∉ (lo ++ hi).take k) := fun k hk => by
   have := h4 k hk;unfold idK at this;rw [Bool.and_eq_true, wi_iff, Bool.or_eq_true, Bool.not_eq_true', hasI_false, beq_iff_eq] at this;exact this
  refine ⟨by omega, by omega, by omega, fun x hx => ?_, (nd_iff _).1 fun k hk => (h4' k hk).2, fun k hk hne => ?_⟩
  ·obtain ⟨k, hk, rfl⟩ := mem_getD hx
   exact (h4' k hk).1
  ·have := h5 k hk
   unfold onK at this;rw [Bool.or_eq_true, Bool.and_eq_true, beq_iff_eq, bne_iff_ne, bne_iff_ne] at this;rcases this with h | h
   ·exact absurd h hne
   ·exact h
 ·rintro ⟨h1, h2, h3, h4, h5, h6⟩
  refine ⟨⟨by omega, by omega⟩, by omega, fun k hk => ?_, fun k hk => ?_⟩
  ·unfold idK
   rw [Bool.and_eq_true, wi_iff, Bool.or_eq_true, Bool.not_eq_true', hasI_false, beq_iff_eq];exact ⟨h4 _ (getD_mem hk), (nd_iff _).2 h5 k hk⟩
  ·unfold onK
   rw [Bool.or_eq_true, Bool.and_eq_true, beq_iff_eq, bne_iff_ne, bne_iff_ne];by_cases h : hi.getD k 0 = 0
   ·exact .inl h
   ·exact .inr (h6 k hk h)
def ids99 : List Int := (List.range 99).map fun (k : Nat) => (k : Int) + 1
def coilR (lo hi : List Int) : List Int := if pileB lo hi then ids99.filter (fun x => hasI (lo ++ hi) x) else []
theorem ids99_lt : ids99.Pairwise (· < ·) := by
 unfold ids99;rw [List.pairwise_map];exact List.Pairwise.imp (fun {a b} (h : a < b) => by omega) List.pairwise_lt_range
theorem mem_ids99 {x : Int} : x ∈ ids99 ↔ 1 ≤ x ∧ x ≤ 99 := by
 unfold ids99;simp only [List.mem_map, List.mem_range];constructor
 ·rintro ⟨k, hk, rfl⟩; omega
 ·rintro ⟨h1, h2⟩; exact ⟨(x - 1).toNat, by omega, by omega⟩
theorem coil_lt (lo hi : List Int) : (coilR lo hi).Pairwise (· < ·) := by
 unfold coilR;split
 ·exact ids99_lt.filter _
 ·exact List.Pairwise.nil
theorem mem_coil {lo hi : List Int} (h : PileV lo hi) {x : Int} : x ∈ coilR lo hi ↔ x ∈ nz (lo ++ hi) := by
 rw [coilR, if_pos (pileB_iff.2 h), List.mem_filter, mem_ids99, hasI_iff, mem_nz];constructor
 ·rintro ⟨h1, h2⟩; exact ⟨h2, by omega⟩
 ·rintro ⟨h1, h2⟩; have := h.rng x h1; exact ⟨by omega, h1⟩
theorem lt_unique {l l' : List Int} (h : l.Pairwise (· < ·)) (h' : l'.Pairwise (· < ·)) (hm : ∀ x, x ∈ l ↔ x ∈ l') : l = l' := by
 have nd : ∀ {l : List Int}, l.Pairwise (· < ·) → l.Nodup := fun h => List.nodup_iff_pairwise_ne.2 (h.imp fun {a b} (h : a < b) => by omega)
 exact List.Perm.eq_of_pairwise (fun a b _ _ (h1 : a < b) (h2 : b < a) => by omega) h h' ((List.perm_ext_iff_of_nodup (nd h) (nd h')).2 hm)
theorem coil_sorted {lo hi l : List Int} (h : PileV lo hi) (hp : l.Perm (nz (lo ++ hi))) (hs : l.Pairwise (· ≤ ·)) : l = coilR lo hi := by
 have hn : l.Nodup := hp.nodup_iff.2 h.nd;have hlt : l.Pairwise (· < ·) := by
  have h2 := List.nodup_iff_pairwise_ne.1 hn;exact (hs.and h2).imp fun {a b} ⟨h1, h2⟩ => by omega
 exact lt_unique hlt (coil_lt lo hi) fun x => by rw [mem_coil h]; exact hp.mem_iff
def rowR (t : Bool) (lo hi : List Int) : List Int := if t then hi else lo
def atR (lo hi : List Int) (t : Bool) (p : Int) : Int := if pileB lo hi && wi p 0 ((rowR t lo hi).length - 1) then (rowR t lo hi).getD p.toNat 0 else -1
def onR (lo hi : List Int) (t : Bool) (p : Int) : List Int := if decide (atR lo hi t p < 1) || t then [] else [atR lo hi true (p - 1), atR lo hi true p].filter (fun x => decide (0 < x))
def findR (lo hi : List Int) (id : Int) : Option (Bool × Int) :=
 if pileB lo hi && decide (1 ≤ id) then (if hasI lo id then some (false, (lo.idxOf id : Nat)) else if hasI hi id then some (true, (hi.idxOf id : Nat)) else none) else none
def setR (t : Bool) (lo hi : List Int) (p x : Int) : List Int × List Int := if t then (lo, hi.set p.toNat x) else (lo.set p.toNat x, hi)
def putR (lo hi : List Int) (t : Bool) (p id : Int) : (List Int × List Int) × Bool :=
 if pileB lo hi then (if decide (id < 1) || atR lo hi t p != 0 then ((lo, hi), false) else if pileB (setR t lo hi p id).1 (setR t lo hi p id).2 then (setR t lo hi p id, true) else ((lo, hi), false)) else (([], []), false)
def takeR (lo hi : List Int) (t : Bool) (p : Int) : (List Int × List Int) × Int :=
 if pileB lo hi then (if decide (atR lo hi t p < 1) || decide (0 < (onR lo hi t p).length) then ((lo, hi), 0) else (setR t lo hi p 0, atR lo hi t p)) else (([], []), 0)
def liftR (lo hi : List Int) (t : Bool) (p : Int) (t' : Bool) (p' : Int) : (List Int × List Int) × Bool :=
 if pileB lo hi then (if t == t' && p == p' then ((lo, hi), false) else if (takeR lo hi t p).2 == 0 then ((lo, hi), false) else
  if (putR (takeR lo hi t p).1.1 (takeR lo hi t p).1.2 t' p' (takeR lo hi t p).2).2 then ((putR (takeR lo hi t p).1.1 (takeR lo hi t p).1.2 t' p' (takeR lo hi t p).2).1, true) else ((lo, hi), false)) else (([], []), false)
theorem row_mem {t : Bool} {lo hi : List Int} {x : Int} (h : x ∈ rowR t lo hi) : x ∈ lo ++ hi := by
 cases t <;> simp [rowR] at h <;> simp [h]
theorem at_row {lo hi : List Int} {t : Bool} {p : Int} (h : 0 ≤ atR lo hi t p) : PileV lo hi ∧ ∃ k : Nat, p = k ∧ k < (rowR t lo hi).length ∧ atR lo hi t p = (rowR t lo hi).getD k 0 := by
 unfold atR at h ⊢;split at h
 ·rename_i hc
  rw [Bool.and_eq_true, wi_iff] at hc;obtain ⟨h1, h2, h3⟩ := hc;refine ⟨pileB_iff.1 h1, p.toNat, by omega, by omega, ?_⟩;rw [if_pos (by rw [Bool.and_eq_true, wi_iff]; exact ⟨h1, h2, h3⟩)]
 ·omega
def spotIx (t : Bool) (lo : List Int) (k : Nat) : Nat := if t then lo.length + k else k
theorem set_both (t : Bool) (lo hi : List Int) (k : Nat) (x : Int) (hk : k < (rowR t lo hi).length) :
 (setR t lo hi k x).1 ++ (setR t lo hi k x).2 = (lo ++ hi).set (spotIx t lo k) x := by
 cases t
 ·simp only [rowR, Bool.false_eq_true, if_false] at hk
  simp only [setR, spotIx, Bool.false_eq_true, if_false, Int.toNat_natCast];rw [List.set_append_left _ _ hk]
 ·simp only [setR, spotIx, if_true, Int.toNat_natCast]
  rw [List.set_append_right _ _ (by omega), Nat.add_sub_cancel_left]
theorem get_both (t : Bool) (lo hi : List Int) (k : Nat) (hk : k < (rowR t lo hi).length) : (lo ++ hi).getD (spotIx t lo k) 0 = (rowR t lo hi).getD k 0 ∧ spotIx t lo k < (lo ++ hi).length := by
 cases t
 ·simp only [rowR, Bool.false_eq_true, if_false] at hk ⊢
  simp only [spotIx, Bool.false_eq_true, if_false, List.length_append];refine ⟨?_, by omega⟩;simp [List.getD, List.getElem?_append_left hk]
 ·simp only [rowR, if_true] at hk ⊢
  simp only [spotIx, if_true, List.length_append];refine ⟨?_, by omega⟩;simp [List.getD, List.getElem?_append_right]
theorem set_len (t : Bool) (lo hi : List Int) (p x : Int) : (setR t lo hi p x).1.length = lo.length ∧ (setR t lo hi p x).2.length = hi.length := by
 cases t <;> simp [setR]
theorem getD_set (l : List Int) (k j : Nat) (x : Int) (hk : k < l.length) : (l.set k x).getD j 0 = if j = k then x else l.getD j 0 := by
 simp only [List.getD_eq_getElem?_getD, List.getElem?_set];by_cases h : k = j
 ·subst h; simp [hk]
 ·rw [if_neg h, if_neg (fun e => h e.symm)]
theorem mem_put {l : List Int} {k : Nat} {x : Int} (hk : k < l.length) (h0 : l.getD k 0 = 0) (hx : x ≠ 0) (z : Int) : z ∈ nz (l.set k x) ↔ z = x ∨ z ∈ nz l := by
 rw [mem_nz, mem_nz];constructor
 ·rintro ⟨h1, h2⟩
  obtain ⟨j, hj, e⟩ := mem_getD h1;rw [getD_set _ _ _ _ hk] at e;split at e
  ·exact .inl e.symm
  ·exact .inr ⟨by rw [← e]; exact getD_mem (by simpa using hj), h2⟩
 ·rintro (rfl | ⟨h1, h2⟩)
  ·exact ⟨List.mem_set hk _, hx⟩
  ·refine ⟨?_, h2⟩
   obtain ⟨j, hj, e⟩ := mem_getD h1;have hne : j ≠ k := fun e' => h2 (by rw [← e, e', h0]);rw [← e, ← (by rw [getD_set _ _ _ _ hk, if_neg hne] : (l.set k x).getD j 0 = l.getD j 0)];exact getD_mem (by simpa using hj)
theorem mem_take {l : List Int} {k : Nat} {x : Int} (hk : k < l.length) (h0 : l.getD k 0 = x) (hx : x ≠ 0) (hn : (nz l).Nodup) (z : Int) : z ∈ nz (l.set k 0) ↔ z ∈ nz l ∧ z ≠ x := by
 have hd := (nd_iff l).2 hn;rw [mem_nz, mem_nz];constructor
 ·rintro ⟨h1, h2⟩
  obtain ⟨j, hj, e⟩ := mem_getD h1;have hj' : j < l.length := by simpa using hj
  rw [getD_set _ _ _ _ hk] at e;split at e
  ·exact absurd e.symm h2
  ·rename_i hne
   refine ⟨⟨by rw [← e]; exact getD_mem hj', h2⟩, fun ez => ?_⟩;have hin : ∀ {a b : Nat}, a < b → b < l.length → l.getD a 0 ∈ l.take b := fun {a b} hab hb => by
    rw [List.mem_take_iff_getElem];exact ⟨a, by omega, by simp [List.getD, List.getElem?_eq_getElem (show a < l.length by omega)]⟩
   rcases Nat.lt_or_gt_of_ne hne with h | h
   ·rcases hd k hk with h3 | h3
    ·exact hx (by rw [← h0, h3])
    ·refine h3 ?_
     rw [h0, ← ez, ← e];exact hin h hk
   ·rcases hd j hj' with h3 | h3
    ·exact h2 (by rw [← e, h3])
    ·refine h3 ?_
     rw [e, ez, ← h0];exact hin h hj'
 ·rintro ⟨⟨h1, h2⟩, h3⟩
  refine ⟨?_, h2⟩;obtain ⟨j, hj, e⟩ := mem_getD h1;have hne : j ≠ k := fun e' => h3 (by rw [← e, e', h0]);rw [← e, ← (by rw [getD_set _ _ _ _ hk, if_neg hne] : (l.set k 0).getD j 0 = l.getD j 0)];exact getD_mem (by simpa using hj)
theorem put_ok {lo hi : List Int} {t : Bool} {p id : Int} {q : List Int × List Int} (h : putR lo hi t p id = (q, true)) :
 PileV lo hi ∧ PileV q.1 q.2 ∧ 1 ≤ id ∧ (∀ z, z ∈ nz (q.1 ++ q.2) ↔ z = id ∨ z ∈ nz (lo ++ hi)) ∧ q = setR t lo hi p id ∧ (∃ k : Nat, p = k ∧ k < (rowR t lo hi).length ∧ (rowR t lo hi).getD k 0 = 0) := by
 unfold putR at h;split at h
 ·rename_i hv
  split at h
  ·simp at h
  ·rename_i hc
   rw [Bool.or_eq_true, decide_eq_true_iff, bne_iff_ne, not_or, Decidable.not_not] at hc;obtain ⟨h1, h2⟩ := hc;split at h
   ·rename_i hq
    simp only [Prod.mk.injEq, and_true] at h;subst h;obtain ⟨-, k, rfl, hk, e⟩ := at_row (lo := lo) (hi := hi) (t := t) (p := p) (by omega);have e0 : (rowR t lo hi).getD k 0 = 0 := by rw [← e]; exact h2
    obtain ⟨g1, g2⟩ := get_both t lo hi k hk;refine ⟨pileB_iff.1 hv, pileB_iff.1 hq, by omega, fun z => ?_, rfl, k, rfl, hk, e0⟩;rw [set_both t lo hi k id hk];exact mem_put g2 (by rw [g1, e0]) (by omega) z
   ·simp at h
 ·simp at h
theorem on_none {lo hi : List Int} {p : Nat} (h : onR lo hi false p = []) (hv : PileV lo hi) (hk : p < lo.length) (hat : 1 ≤ lo.getD p 0) : (∀ j, j < hi.length → (j = p ∨ j + 1 = p) → hi.getD j 0 = 0) := by
 intro j hj hjp;have hat1 : ¬ atR lo hi false p < 1 := by
  unfold atR;rw [if_pos (by rw [Bool.and_eq_true, wi_iff]; exact ⟨pileB_iff.2 hv, by omega, by show (p : Int) ≤ (lo.length : Int) - 1; omega⟩)];show ¬ lo.getD (p : Int).toNat 0 < 1
  rw [Int.toNat_natCast]; omega
 unfold onR at h;rw [if_neg (by simp; omega)] at h;have hj2 : atR lo hi true j = hi.getD j 0 := by
  unfold atR;rw [if_pos (by rw [Bool.and_eq_true, wi_iff]; exact ⟨pileB_iff.2 hv, by omega, by show (j : Int) ≤ (hi.length : Int) - 1; omega⟩)];show hi.getD (j : Int).toNat 0 = _
  rw [Int.toNat_natCast]
 have hnn := (hv.rng _ (List.mem_append_right _ (getD_mem hj))).1;rw [List.filter_eq_nil_iff] at h;have : atR lo hi true j ∈ [atR lo hi true ((p : Int) - 1), atR lo hi true p] := by
  rcases hjp with rfl | rfl
  ·simp
  ·rw [show ((j + 1 : Nat) : Int) - 1 = (j : Int) by omega]; simp
 have := h _ this;rw [hj2, decide_eq_true_iff] at this;omega
theorem take_ok {lo hi : List Int} {t : Bool} {p id : Int} {q : List Int × List Int} (h : takeR lo hi t p = (q, id)) (hid : id ≠ 0) :
 PileV lo hi ∧ PileV q.1 q.2 ∧ 1 ≤ id ∧ (∀ z, z ∈ nz (q.1 ++ q.2) ↔ z ∈ nz (lo ++ hi) ∧ z ≠ id) ∧ id ∈ nz (lo ++ hi) ∧ q = setR t lo hi p 0 ∧ (∃ k : Nat, p = k ∧ k < (rowR t lo hi).length ∧ (rowR t lo hi).getD k 0 = id) := by
 unfold takeR at h;split at h
 ·rename_i hv
  have hv := pileB_iff.1 hv;split at h
  ·simp only [Prod.mk.injEq] at h; exact absurd h.2.symm hid
  ·rename_i hc
   rw [Bool.or_eq_true, decide_eq_true_iff, decide_eq_true_iff, not_or] at hc;obtain ⟨h1, h2⟩ := hc;simp only [Prod.mk.injEq] at h;obtain ⟨rfl, h3⟩ := h;obtain ⟨-, k, rfl, hk, e⟩ := at_row (lo := lo) (hi := hi) (t := t) (p := p) (by omega);have e0 : (rowR t lo hi).getD k 0 = id := by rw [← e]; exact h3
   obtain ⟨g1, g2⟩ := get_both t lo hi k hk;have hin : id ∈ nz (lo ++ hi) := mem_nz.2 ⟨by rw [← e0]; exact row_mem (getD_mem hk), hid⟩;have hon0 : onR lo hi t k = [] := List.length_eq_zero_iff.1 (by omega);have hmt := mem_take g2 (by rw [g1, e0]) hid hv.nd;obtain ⟨l1, l2⟩ := set_len t lo hi k 0;refine ⟨hv, ⟨by rw [l1]; exact hv.l1, by rw [l1]; exact hv.l6, by rw [l1, l2]; exact hv.lh, fun x hx => ?_, ?_, fun j hj hne => ?_⟩, by omega, fun z => ?_, hin, rfl, k, rfl, hk, e0⟩
   ·rw [set_both t lo hi k 0 hk] at hx
    rcases List.mem_or_eq_of_mem_set hx with h | h
    ·exact hv.rng x h
    ·subst h; omega
   ·rw [set_both t lo hi k 0 hk]
    rw [← nd_iff];intro j hj;rw [getD_set _ _ _ _ g2];split
    ·exact .inl rfl
    ·rename_i hne
     rcases (nd_iff _).2 hv.nd j (by simpa using hj) with h | h
     ·exact .inl h
     ·by_cases h0 : (lo ++ hi).getD j 0 = 0
      ·exact .inl h0
      ·refine .inr fun hmem => h ?_
       rw [List.take_set] at hmem;rcases List.mem_or_eq_of_mem_set hmem with h' | h'
       ·exact h'
       ·exact absurd h' h0
   ·rw [l2] at hj
    cases t
    ·simp only [setR, Bool.false_eq_true, if_false, Int.toNat_natCast] at hne ⊢
     simp only [rowR, Bool.false_eq_true, if_false] at hk e0;have hz := on_none hon0 hv hk (by omega);have ho := hv.on j hj hne;rw [getD_set _ _ _ _ hk, getD_set _ _ _ _ hk];rw [if_neg (fun e => hne (hz j hj (.inl e))), if_neg (fun e => hne (hz j hj (.inr e)))];exact ho
    ·simp only [setR, if_true, Int.toNat_natCast] at hne ⊢
     simp only [rowR, if_true] at hk;rw [getD_set _ _ _ _ hk] at hne;split at hne
     ·exact absurd rfl hne
     ·exact hv.on j hj hne
   ·rw [set_both t lo hi k 0 hk]; exact hmt z
 ·simp only [Prod.mk.injEq] at h; exact absurd h.2.symm hid
theorem find_at {lo hi : List Int} {id : Int} {t : Bool} {p : Int} (h : findR lo hi id = some (t, p)) : PileV lo hi ∧ 1 ≤ id ∧ ∃ k : Nat, p = k ∧ k < (rowR t lo hi).length ∧ (rowR t lo hi).getD k 0 = id := by
 have ix : ∀ {l : List Int}, hasI l id = true → l.idxOf id < l.length ∧ l.getD (l.idxOf id) 0 = id := fun {l} h => by
  have hl := List.idxOf_lt_length_of_mem (hasI_iff.1 h);refine ⟨hl, ?_⟩;rw [List.getD_eq_getElem?_getD, List.getElem?_eq_getElem hl];exact List.getElem_idxOf hl
 unfold findR at h;split at h
 ·rename_i hc
  rw [Bool.and_eq_true, decide_eq_true_iff] at hc;refine ⟨pileB_iff.1 hc.1, hc.2, ?_⟩;split at h
  ·rename_i hm
   simp only [Option.some.injEq, Prod.mk.injEq] at h;obtain ⟨rfl, rfl⟩ := h;exact ⟨_, rfl, (ix hm).1, (ix hm).2⟩
  ·split at h
   ·rename_i hm
    simp only [Option.some.injEq, Prod.mk.injEq] at h;obtain ⟨rfl, rfl⟩ := h;exact ⟨_, rfl, (ix hm).1, (ix hm).2⟩
   ·cases h
 ·cases h
theorem find_some {lo hi : List Int} {id : Int} (hv : PileV lo hi) (h : id ∈ nz (lo ++ hi)) : ∃ t p, findR lo hi id = some (t, p) := by
 have h1 := (mem_nz.1 h).1;have h2 := hv.rng id h1;have h3 := (mem_nz.1 h).2;unfold findR;rw [if_pos (by rw [Bool.and_eq_true, decide_eq_true_iff]; exact ⟨pileB_iff.2 hv, by omega⟩)];rcases List.mem_append.1 h1 with h | h
 ·rw [if_pos (hasI_iff.2 h)]; exact ⟨_, _, rfl⟩
 ·split
  ·exact ⟨_, _, rfl⟩
  ·rw [if_pos (hasI_iff.2 h)]; exact ⟨_, _, rfl⟩
theorem lift_ok {lo hi : List Int} {t t' : Bool} {p p' : Int} {q : List Int × List Int} (h : liftR lo hi t p t' p' = (q, true)) :
 PileV lo hi ∧ PileV q.1 q.2 ∧ (∀ z, z ∈ nz (q.1 ++ q.2) ↔ z ∈ nz (lo ++ hi)) ∧ q ≠ (lo, hi) := by
 unfold liftR at h;split at h
 ·split at h
  ·simp at h
  ·rename_i hne
   split at h
   ·simp at h
   ·rename_i h0
    split at h
    ·rename_i hp
     simp only [Prod.mk.injEq, and_true] at h;have h0' : (takeR lo hi t p).2 ≠ 0 := by simpa using h0
     obtain ⟨a1, a2, a3, a4, a5, a6, k, rfl, hk, ek⟩ := take_ok (q := (takeR lo hi t p).1) (id := (takeR lo hi t p).2) rfl h0';generalize (takeR lo hi t ↑k).1 = r at *;generalize (takeR lo hi t ↑k).2 = id at *;obtain ⟨b1, b2, b3, b4, b5, k', rfl, hk', ek'⟩ := put_ok (q := q) (by rw [← h, ← hp]);refine ⟨a1, b2, fun z => ?_, fun e => ?_⟩
     ·rw [b4, a4]
      constructor
      ·rintro (rfl | ⟨h1, _⟩)
       ·exact a5
       ·exact h1
      ·intro h1
       by_cases hz : z = id
       ·exact .inl hz
       ·exact .inr ⟨h1, hz⟩
     ·have hne' : ¬ (t = t' ∧ k = k') := by
       rintro ⟨rfl, rfl⟩;apply hne; simp
      have e1 : (rowR t q.1 q.2).getD k 0 = id := by rw [e]; exact ek
      rw [b5, a6] at e1;have : (rowR t (setR t' (setR t lo hi k 0).1 (setR t lo hi k 0).2 k' id).1 (setR t' (setR t lo hi k 0).1 (setR t lo hi k 0).2 k' id).2).getD k 0 = 0 := by
       cases t <;> cases t'
       ·simp only [rowR, setR, Bool.false_eq_true, if_false, Int.toNat_natCast] at hk hk' ⊢
        rw [a6] at hk';simp only [setR, Bool.false_eq_true, if_false, Int.toNat_natCast] at hk';rw [getD_set _ _ _ _ hk', if_neg (fun e => hne' ⟨rfl, e⟩), getD_set _ _ _ _ hk, if_pos rfl]
       ·simp only [rowR, setR, Bool.false_eq_true, if_false, if_true, Int.toNat_natCast] at hk hk' ⊢
        rw [getD_set _ _ _ _ hk, if_pos rfl]
       ·simp only [rowR, setR, Bool.false_eq_true, if_false, if_true, Int.toNat_natCast] at hk hk' ⊢
        rw [getD_set _ _ _ _ hk, if_pos rfl]
       ·simp only [rowR, setR, if_true, Int.toNat_natCast] at hk hk' ⊢
        rw [a6] at hk';simp only [setR, if_true, Int.toNat_natCast] at hk';rw [getD_set _ _ _ _ hk', if_neg (fun e => hne' ⟨rfl, e⟩), getD_set _ _ _ _ hk, if_pos rfl]
      rw [this] at e1;exact h0' e1.symm
    ·simp at h
 ·simp at h
end Go.Proofs.YtmemgbklgcjobaaGreatDoor
