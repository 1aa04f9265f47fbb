/-
  Piles of coils, in plain lists: validity, ids, spots; a coil put, taken, lifted. No program in sight.
-/
import Derived.Test.YtbafifilklfafaaDoorMore
namespace Go.Proofs.YtbafifilklfafaaDoor
open Go.RowKit

def hasI (xs : List Int) (n : Int) : Bool := xs.any (· == n)
theorem hasI_iff {xs : List Int} {n : Int} : hasI xs n = true ↔ n ∈ xs := by simp [hasI]
theorem hasI_false {xs : List Int} {n : Int} : hasI xs n = false ↔ n ∉ xs := by
  rw [← hasI_iff]; simp
theorem hasI_snoc {xs : List Int} {k : Nat} (hk : k < xs.length) (n : Int) : hasI (xs.take (k + 1)) n = (hasI (xs.take k) n || xs[k] == n) := by
  unfold hasI
  rw [List.take_succ_eq_append_getElem hk, List.any_append]; simp

/-- The k-th id is in its range and none of those before it. -/
def idK (ids : List Int) (k : Nat) : Bool := wi (ids.getD k 0) 0 99 && (ids.getD k 0 == 0 || !hasI (ids.take k) (ids.getD k 0))
/-- Below the k-th coil of the upper row lie two. -/
def onK (lo hi : List Int) (k : Nat) : Bool := hi.getD k 0 == 0 || (lo.getD k 0 != 0 && lo.getD (k + 1) 0 != 0)
def pileB (lo hi : List Int) : Bool := wi lo.length 1 6 && (decide ((hi.length : Int) = lo.length - 1) && (upTo (lo ++ hi).length (idK (lo ++ hi)) && upTo hi.length (onK lo hi)))
/-- The coils among ids. -/
def nz (l : List Int) : List Int := l.filter (· != 0)
theorem mem_nz {l : List Int} {x : Int} : x ∈ nz l ↔ x ∈ l ∧ x ≠ 0 := by simp [nz]

structure PileV (lo hi : List Int) : Prop where
  l1 : 1 ≤ lo.length
  l6 : lo.length ≤ 6
  lh : hi.length + 1 = lo.length
  rng : ∀ x ∈ lo ++ hi, 0 ≤ x ∧ x ≤ 99
  nd : (nz (lo ++ hi)).Nodup
  on : ∀ k, k < hi.length → hi.getD k 0 ≠ 0 → lo.getD k 0 ≠ 0 ∧ lo.getD (k + 1) 0 ≠ 0

theorem nd_snoc (l : List Int) (x : Int) : (nz (l ++ [x])).Nodup ↔ (nz l).Nodup ∧ (x = 0 ∨ x ∉ l) := by
  by_cases h : x = 0
  · subst h; simp [nz]
  · have e : nz (l ++ [x]) = nz l ++ [x] := by simp [nz, h]
    rw [e, List.nodup_append]
    constructor
    · rintro ⟨h1, _, h3⟩
      exact ⟨h1, .inr fun hx => h3 x (mem_nz.2 ⟨hx, h⟩) x (by simp) rfl⟩
    · rintro ⟨h1, h2⟩
      refine ⟨h1, by simp, fun a ha b hb e => ?_⟩
      simp only [List.mem_singleton] at hb
      rw [e, hb] at ha
      rcases h2 with h2 | h2
      · exact h h2
      · exact h2 (mem_nz.1 ha).1
theorem nd_iff : ∀ (l : List Int), (∀ k, k < l.length → l.getD k 0 = 0 ∨ l.getD k 0 ∉ l.take k) ↔ (nz l).Nodup := by
  intro l
  induction hn : l.length generalizing l with
  | zero => obtain rfl := List.length_eq_zero_iff.1 hn; simp [nz]
  | succ n ih =>
    obtain ⟨a, x, rfl⟩ : ∃ a x, l = a ++ [x] := by
      rcases List.eq_nil_or_concat l with h | ⟨a, x, h⟩
      · subst h; cases hn
      · exact ⟨a, x, by rw [h]; simp⟩
    have ha : a.length = n := by simpa using hn
    rw [nd_snoc, ← ih a ha]
    constructor
    · intro h
      refine ⟨fun k hk => ?_, ?_⟩
      · have := h k (by omega)
        rw [List.take_append_of_le_length (by omega)] at this
        simpa [List.getD, List.getElem?_append_left (show k < a.length by omega)] using this
      · have := h n (by omega)
        rw [← ha] at this
        simpa [List.getD] using this
    · rintro ⟨h1, h2⟩ k hk
      rcases Nat.lt_or_ge k n with hlt | hge
      · have := h1 k hlt
        rw [List.take_append_of_le_length (by omega)]
        simpa [List.getD, List.getElem?_append_left (show k < a.length by omega)] using this
      · have e : k = a.length := by omega
        subst e
        simpa [List.getD] using h2

theorem getD_mem {l : List Int} {k : Nat} (h : k < l.length) : l.getD k 0 ∈ l := by
  rw [List.getD_eq_getElem?_getD, List.getElem?_eq_getElem h]; exact List.getElem_mem _
theorem mem_getD {l : List Int} {x : Int} (h : x ∈ l) : ∃ k, k < l.length ∧ l.getD k 0 = x := by
  obtain ⟨k, hk, e⟩ := List.getElem_of_mem h
  exact ⟨k, hk, by rw [List.getD_eq_getElem?_getD, List.getElem?_eq_getElem hk]; exact e⟩

theorem pileB_iff {lo hi : List Int} : pileB lo hi = true ↔ PileV lo hi := by
  unfold pileB
  rw [Bool.and_eq_true, Bool.and_eq_true, Bool.and_eq_true, wi_iff, decide_eq_true_iff, upTo_iff, upTo_iff]
  constructor
  · rintro ⟨⟨h1, h2⟩, h3, h4, h5⟩
    have h4' : ∀ k, k < (lo ++ hi).length → (0 ≤ (lo ++ hi).getD k 0 ∧ (lo ++ hi).getD k 0 ≤ 99) ∧ ((lo ++ hi).getD k 0 = 0 ∨ (lo ++ hi).getD k 0 ∉ (lo ++ hi).take k) := fun k hk => by
      have := h4 k hk
      unfold idK at this
      rw [Bool.and_eq_true, wi_iff, Bool.or_eq_true, Bool.not_eq_true', hasI_false, beq_iff_eq] at this
      exact this
    refine ⟨by omega, by omega, by omega, fun x hx => ?_, (nd_iff _).1 fun k hk => (h4' k hk).2, fun k hk hne => ?_⟩
    · obtain ⟨k, hk, rfl⟩ := mem_getD hx
      exact (h4' k hk).1
    · have := h5 k hk
      unfold onK at this
      rw [Bool.or_eq_true, Bool.and_eq_true, beq_iff_eq, bne_iff_ne, bne_iff_ne] at this
      rcases this with h | h
      · exact absurd h hne
      · exact h
  · rintro ⟨h1, h2, h3, h4, h5, h6⟩
    refine ⟨⟨by omega, by omega⟩, by omega, fun k hk => ?_, fun k hk => ?_⟩
    · unfold idK
      rw [Bool.and_eq_true, wi_iff, Bool.or_eq_true, Bool.not_eq_true', hasI_false, beq_iff_eq]
      exact ⟨h4 _ (getD_mem hk), (nd_iff _).2 h5 k hk⟩
    · unfold onK
      rw [Bool.or_eq_true, Bool.and_eq_true, beq_iff_eq, bne_iff_ne, bne_iff_ne]
      by_cases h : hi.getD k 0 = 0
      · exact .inl h
      · exact .inr (h6 k hk h)

/-- All ids there may be. -/
def ids99 : List Int := (List.range 99).map fun (k : Nat) => (k : Int) + 1
/-- The ids of the coils, ascending. -/
def coilR (lo hi : List Int) : List Int := if pileB lo hi then ids99.filter (fun x => hasI (lo ++ hi) x) else []
theorem ids99_lt : ids99.Pairwise (· < ·) := by
  unfold ids99
  rw [List.pairwise_map]
  exact List.Pairwise.imp (fun {a b} (h : a < b) => by omega) List.pairwise_lt_range
theorem mem_ids99 {x : Int} : x ∈ ids99 ↔ 1 ≤ x ∧ x ≤ 99 := by
  unfold ids99
  simp only [List.mem_map, List.mem_range]
  constructor
  · rintro ⟨k, hk, rfl⟩; omega
  · rintro ⟨h1, h2⟩; exact ⟨(x - 1).toNat, by omega, by omega⟩
theorem coil_lt (lo hi : List Int) : (coilR lo hi).Pairwise (· < ·) := by
  unfold coilR
  split
  · exact ids99_lt.filter _
  · exact List.Pairwise.nil
theorem mem_coil {lo hi : List Int} (h : PileV lo hi) {x : Int} : x ∈ coilR lo hi ↔ x ∈ nz (lo ++ hi) := by
  rw [coilR, if_pos (pileB_iff.2 h), List.mem_filter, mem_ids99, hasI_iff, mem_nz]
  constructor
  · rintro ⟨h1, h2⟩; exact ⟨h2, by omega⟩
  · rintro ⟨h1, h2⟩; have := h.rng x h1; exact ⟨by omega, h1⟩
theorem lt_unique {l l' : List Int} (h : l.Pairwise (· < ·)) (h' : l'.Pairwise (· < ·)) (hm : ∀ x, x ∈ l ↔ x ∈ l') : l = l' := by
  have nd : ∀ {l : List Int}, l.Pairwise (· < ·) → l.Nodup := fun h => List.nodup_iff_pairwise_ne.2 (h.imp fun {a b} (h : a < b) => by omega)
  exact List.Perm.eq_of_pairwise (fun a b _ _ (h1 : a < b) (h2 : b < a) => by omega) h h' ((List.perm_ext_iff_of_nodup (nd h) (nd h')).2 hm)
/-- A sorted rearrangement of the coils is the list of ids. -/
theorem coil_sorted {lo hi l : List Int} (h : PileV lo hi) (hp : l.Perm (nz (lo ++ hi))) (hs : l.Pairwise (· ≤ ·)) : l = coilR lo hi := by
  have hn : l.Nodup := hp.nodup_iff.2 h.nd
  have hlt : l.Pairwise (· < ·) := by
    have h2 := List.nodup_iff_pairwise_ne.1 hn
    exact (hs.and h2).imp fun {a b} ⟨h1, h2⟩ => by omega
  exact lt_unique hlt (coil_lt lo hi) fun x => by rw [mem_coil h]; exact hp.mem_iff

/-- The row of a spot. -/
def rowR (t : Bool) (lo hi : List Int) : List Int := if t then hi else lo
def atR (lo hi : List Int) (t : Bool) (p : Int) : Int := if pileB lo hi && wi p 0 ((rowR t lo hi).length - 1) then (rowR t lo hi).getD p.toNat 0 else -1
/-- What lies on a coil. -/
def onR (lo hi : List Int) (t : Bool) (p : Int) : List Int := if decide (atR lo hi t p < 1) || t then [] else [atR lo hi true (p - 1), atR lo hi true p].filter (fun x => decide (0 < x))
def findR (lo hi : List Int) (id : Int) : Option (Bool × Int) :=
  if pileB lo hi && decide (1 ≤ id) then (if hasI lo id then some (false, (lo.idxOf id : Nat)) else if hasI hi id then some (true, (hi.idxOf id : Nat)) else none) else none
def setR (t : Bool) (lo hi : List Int) (p x : Int) : List Int × List Int := if t then (lo, hi.set p.toNat x) else (lo.set p.toNat x, hi)
def putR (lo hi : List Int) (t : Bool) (p id : Int) : (List Int × List Int) × Bool :=
  if pileB lo hi then (if decide (id < 1) || atR lo hi t p != 0 then ((lo, hi), false) else if pileB (setR t lo hi p id).1 (setR t lo hi p id).2 then (setR t lo hi p id, true) else ((lo, hi), false)) else (([], []), false)
def takeR (lo hi : List Int) (t : Bool) (p : Int) : (List Int × List Int) × Int :=
  if pileB lo hi then (if decide (atR lo hi t p < 1) || decide (0 < (onR lo hi t p).length) then ((lo, hi), 0) else (setR t lo hi p 0, atR lo hi t p)) else (([], []), 0)
def liftR (lo hi : List Int) (t : Bool) (p : Int) (t' : Bool) (p' : Int) : (List Int × List Int) × Bool :=
  if pileB lo hi then (if t == t' && p == p' then ((lo, hi), false) else if (takeR lo hi t p).2 == 0 then ((lo, hi), false) else
    if (putR (takeR lo hi t p).1.1 (takeR lo hi t p).1.2 t' p' (takeR lo hi t p).2).2 then ((putR (takeR lo hi t p).1.1 (takeR lo hi t p).1.2 t' p' (takeR lo hi t p).2).1, true) else ((lo, hi), false)) else (([], []), false)

theorem row_mem {t : Bool} {lo hi : List Int} {x : Int} (h : x ∈ rowR t lo hi) : x ∈ lo ++ hi := by
  cases t <;> simp [rowR] at h <;> simp [h]
/-- A spot with a coil or none. -/
theorem at_row {lo hi : List Int} {t : Bool} {p : Int} (h : 0 ≤ atR lo hi t p) : PileV lo hi ∧ ∃ k : Nat, p = k ∧ k < (rowR t lo hi).length ∧ atR lo hi t p = (rowR t lo hi).getD k 0 := by
  unfold atR at h ⊢
  split at h
  · rename_i hc
    rw [Bool.and_eq_true, wi_iff] at hc
    obtain ⟨h1, h2, h3⟩ := hc
    refine ⟨pileB_iff.1 h1, p.toNat, by omega, by omega, ?_⟩
    rw [if_pos (by rw [Bool.and_eq_true, wi_iff]; exact ⟨h1, h2, h3⟩)]
  · omega
theorem at_le {lo hi : List Int} (t : Bool) (p : Int) : -1 ≤ atR lo hi t p ∧ atR lo hi t p ≤ 99 := by
  rcases Int.lt_or_le (atR lo hi t p) 0 with h | h
  · unfold atR at h ⊢
    split at h
    · rename_i hc
      rw [Bool.and_eq_true, wi_iff] at hc
      have := (pileB_iff.1 hc.1).rng _ (row_mem (getD_mem (show p.toNat < (rowR t lo hi).length by omega)))
      omega
    · rw [if_neg (by assumption)]; omega
  · obtain ⟨hv, k, rfl, hk, e⟩ := at_row h
    rw [e]
    have := hv.rng _ (row_mem (getD_mem hk))
    omega
end Go.Proofs.YtbafifilklfafaaDoor
