/-
  What put, take and lift do to a valid pile, in plain lists. No program in sight.
-/
import Derived.Test.YtbafifilklfafaaDoorPlainPile
namespace Go.Proofs.YtbafifilklfafaaDoor
open Go.RowKit

/-- Where a spot stands in both rows together. -/
def spotIx (t : Bool) (lo : List Int) (k : Nat) : Nat := if t then lo.length + k else k
theorem set_both (t : Bool) (lo hi : List Int) (k : Nat) (x : Int) (hk : k < (rowR t lo hi).length) :
    (setR t lo hi k x).1 ++ (setR t lo hi k x).2 = (lo ++ hi).set (spotIx t lo k) x := by
  cases t
  · simp only [rowR, Bool.false_eq_true, if_false] at hk
    simp only [setR, spotIx, Bool.false_eq_true, if_false, Int.toNat_natCast]
    rw [List.set_append_left _ _ hk]
  · simp only [setR, spotIx, if_true, Int.toNat_natCast]
    rw [List.set_append_right _ _ (by omega), Nat.add_sub_cancel_left]
theorem get_both (t : Bool) (lo hi : List Int) (k : Nat) (hk : k < (rowR t lo hi).length) : (lo ++ hi).getD (spotIx t lo k) 0 = (rowR t lo hi).getD k 0 ∧ spotIx t lo k < (lo ++ hi).length := by
  cases t
  · simp only [rowR, Bool.false_eq_true, if_false] at hk ⊢
    simp only [spotIx, Bool.false_eq_true, if_false, List.length_append]
    refine ⟨?_, by omega⟩
    simp [List.getD, List.getElem?_append_left hk]
  · simp only [rowR, if_true] at hk ⊢
    simp only [spotIx, if_true, List.length_append]
    refine ⟨?_, by omega⟩
    simp [List.getD, List.getElem?_append_right]
theorem set_len (t : Bool) (lo hi : List Int) (p x : Int) : (setR t lo hi p x).1.length = lo.length ∧ (setR t lo hi p x).2.length = hi.length := by
  cases t <;> simp [setR]

theorem getD_set (l : List Int) (k j : Nat) (x : Int) (hk : k < l.length) : (l.set k x).getD j 0 = if j = k then x else l.getD j 0 := by
  simp only [List.getD_eq_getElem?_getD, List.getElem?_set]
  by_cases h : k = j
  · subst h; simp [hk]
  · rw [if_neg h, if_neg (fun e => h e.symm)]
/-- A coil put where none was. -/
theorem mem_put {l : List Int} {k : Nat} {x : Int} (hk : k < l.length) (h0 : l.getD k 0 = 0) (hx : x ≠ 0) (z : Int) : z ∈ nz (l.set k x) ↔ z = x ∨ z ∈ nz l := by
  rw [mem_nz, mem_nz]
  constructor
  · rintro ⟨h1, h2⟩
    obtain ⟨j, hj, e⟩ := mem_getD h1
    rw [getD_set _ _ _ _ hk] at e
    split at e
    · exact .inl e.symm
    · exact .inr ⟨by rw [← e]; exact getD_mem (by simpa using hj), h2⟩
  · rintro (rfl | ⟨h1, h2⟩)
    · exact ⟨List.mem_set hk _, hx⟩
    · refine ⟨?_, h2⟩
      obtain ⟨j, hj, e⟩ := mem_getD h1
      have hne : j ≠ k := fun e' => h2 (by rw [← e, e', h0])
      rw [← e, ← (by rw [getD_set _ _ _ _ hk, if_neg hne] : (l.set k x).getD j 0 = l.getD j 0)]
      exact getD_mem (by simpa using hj)
/-- A coil taken. -/
theorem mem_take {l : List Int} {k : Nat} {x : Int} (hk : k < l.length) (h0 : l.getD k 0 = x) (hx : x ≠ 0) (hn : (nz l).Nodup) (z : Int) : z ∈ nz (l.set k 0) ↔ z ∈ nz l ∧ z ≠ x := by
  have hd := (nd_iff l).2 hn
  rw [mem_nz, mem_nz]
  constructor
  · rintro ⟨h1, h2⟩
    obtain ⟨j, hj, e⟩ := mem_getD h1
    have hj' : j < l.length := by simpa using hj
    rw [getD_set _ _ _ _ hk] at e
    split at e
    · exact absurd e.symm h2
    · rename_i hne
      refine ⟨⟨by rw [← e]; exact getD_mem hj', h2⟩, fun ez => ?_⟩
      have hin : ∀ {a b : Nat}, a < b → b < l.length → l.getD a 0 ∈ l.take b := fun {a b} hab hb => by
        rw [List.mem_take_iff_getElem]
        exact ⟨a, by omega, by simp [List.getD, List.getElem?_eq_getElem (show a < l.length by omega)]⟩
      rcases Nat.lt_or_gt_of_ne hne with h | h
      · rcases hd k hk with h3 | h3
        · exact hx (by rw [← h0, h3])
        · refine h3 ?_
          rw [h0, ← ez, ← e]
          exact hin h hk
      · rcases hd j hj' with h3 | h3
        · exact h2 (by rw [← e, h3])
        · refine h3 ?_
          rw [e, ez, ← h0]
          exact hin h hj'
  · rintro ⟨⟨h1, h2⟩, h3⟩
    refine ⟨?_, h2⟩
    obtain ⟨j, hj, e⟩ := mem_getD h1
    have hne : j ≠ k := fun e' => h3 (by rw [← e, e', h0])
    rw [← e, ← (by rw [getD_set _ _ _ _ hk, if_neg hne] : (l.set k 0).getD j 0 = l.getD j 0)]
    exact getD_mem (by simpa using hj)

theorem put_ok {lo hi : List Int} {t : Bool} {p id : Int} {q : List Int × List Int} (h : putR lo hi t p id = (q, true)) :
    PileV lo hi ∧ PileV q.1 q.2 ∧ 1 ≤ id ∧ (∀ z, z ∈ nz (q.1 ++ q.2) ↔ z = id ∨ z ∈ nz (lo ++ hi)) ∧ q = setR t lo hi p id ∧ (∃ k : Nat, p = k ∧ k < (rowR t lo hi).length ∧ (rowR t lo hi).getD k 0 = 0) := by
  unfold putR at h
  split at h
  · rename_i hv
    split at h
    · simp at h
    · rename_i hc
      rw [Bool.or_eq_true, decide_eq_true_iff, bne_iff_ne, not_or, Decidable.not_not] at hc
      obtain ⟨h1, h2⟩ := hc
      split at h
      · rename_i hq
        simp only [Prod.mk.injEq, and_true] at h
        subst h
        obtain ⟨-, k, rfl, hk, e⟩ := at_row (lo := lo) (hi := hi) (t := t) (p := p) (by omega)
        have e0 : (rowR t lo hi).getD k 0 = 0 := by rw [← e]; exact h2
        obtain ⟨g1, g2⟩ := get_both t lo hi k hk
        refine ⟨pileB_iff.1 hv, pileB_iff.1 hq, by omega, fun z => ?_, rfl, k, rfl, hk, e0⟩
        rw [set_both t lo hi k id hk]
        exact mem_put g2 (by rw [g1, e0]) (by omega) z
      · simp at h
  · simp at h

theorem on_none {lo hi : List Int} {p : Nat} (h : onR lo hi false p = []) (hv : PileV lo hi) (hk : p < lo.length) (hat : 1 ≤ lo.getD p 0) : (∀ j, j < hi.length → (j = p ∨ j + 1 = p) → hi.getD j 0 = 0) := by
  intro j hj hjp
  have hat1 : ¬ atR lo hi false p < 1 := by
    unfold atR
    rw [if_pos (by rw [Bool.and_eq_true, wi_iff]; exact ⟨pileB_iff.2 hv, by omega, by show (p : Int) ≤ (lo.length : Int) - 1; omega⟩)]
    show ¬ lo.getD (p : Int).toNat 0 < 1
    rw [Int.toNat_natCast]; omega
  unfold onR at h
  rw [if_neg (by simp; omega)] at h
  have hj2 : atR lo hi true j = hi.getD j 0 := by
    unfold atR
    rw [if_pos (by rw [Bool.and_eq_true, wi_iff]; exact ⟨pileB_iff.2 hv, by omega, by show (j : Int) ≤ (hi.length : Int) - 1; omega⟩)]
    show hi.getD (j : Int).toNat 0 = _
    rw [Int.toNat_natCast]
  have hnn := (hv.rng _ (List.mem_append_right _ (getD_mem hj))).1
  rw [List.filter_eq_nil_iff] at h
  have : atR lo hi true j ∈ [atR lo hi true ((p : Int) - 1), atR lo hi true p] := by
    rcases hjp with rfl | rfl
    · simp
    · rw [show ((j + 1 : Nat) : Int) - 1 = (j : Int) by omega]; simp
  have := h _ this
  rw [hj2, decide_eq_true_iff] at this
  omega

theorem take_ok {lo hi : List Int} {t : Bool} {p id : Int} {q : List Int × List Int} (h : takeR lo hi t p = (q, id)) (hid : id ≠ 0) :
    PileV lo hi ∧ PileV q.1 q.2 ∧ 1 ≤ id ∧ (∀ z, z ∈ nz (q.1 ++ q.2) ↔ z ∈ nz (lo ++ hi) ∧ z ≠ id) ∧ id ∈ nz (lo ++ hi) ∧ q = setR t lo hi p 0 ∧ (∃ k : Nat, p = k ∧ k < (rowR t lo hi).length ∧ (rowR t lo hi).getD k 0 = id) := by
  unfold takeR at h
  split at h
  · rename_i hv
    have hv := pileB_iff.1 hv
    split at h
    · simp only [Prod.mk.injEq] at h; exact absurd h.2.symm hid
    · rename_i hc
      rw [Bool.or_eq_true, decide_eq_true_iff, decide_eq_true_iff, not_or] at hc
      obtain ⟨h1, h2⟩ := hc
      simp only [Prod.mk.injEq] at h
      obtain ⟨rfl, h3⟩ := h
      obtain ⟨-, k, rfl, hk, e⟩ := at_row (lo := lo) (hi := hi) (t := t) (p := p) (by omega)
      have e0 : (rowR t lo hi).getD k 0 = id := by rw [← e]; exact h3
      obtain ⟨g1, g2⟩ := get_both t lo hi k hk
      have hin : id ∈ nz (lo ++ hi) := mem_nz.2 ⟨by rw [← e0]; exact row_mem (getD_mem hk), hid⟩
      have hon0 : onR lo hi t k = [] := List.length_eq_zero_iff.1 (by omega)
      have hmt := mem_take g2 (by rw [g1, e0]) hid hv.nd
      obtain ⟨l1, l2⟩ := set_len t lo hi k 0
      refine ⟨hv, ⟨by rw [l1]; exact hv.l1, by rw [l1]; exact hv.l6, by rw [l1, l2]; exact hv.lh, fun x hx => ?_, ?_, fun j hj hne => ?_⟩, by omega, fun z => ?_, hin, rfl, k, rfl, hk, e0⟩
      · rw [set_both t lo hi k 0 hk] at hx
        rcases List.mem_or_eq_of_mem_set hx with h | h
        · exact hv.rng x h
        · subst h; omega
      · rw [set_both t lo hi k 0 hk]
        rw [← nd_iff]
        intro j hj
        rw [getD_set _ _ _ _ g2]
        split
        · exact .inl rfl
        · rename_i hne
          rcases (nd_iff _).2 hv.nd j (by simpa using hj) with h | h
          · exact .inl h
          · by_cases h0 : (lo ++ hi).getD j 0 = 0
            · exact .inl h0
            · refine .inr fun hmem => h ?_
              rw [List.take_set] at hmem
              rcases List.mem_or_eq_of_mem_set hmem with h' | h'
              · exact h'
              · exact absurd h' h0
      · rw [l2] at hj
        cases t
        · simp only [setR, Bool.false_eq_true, if_false, Int.toNat_natCast] at hne ⊢
          simp only [rowR, Bool.false_eq_true, if_false] at hk e0
          have hz := on_none hon0 hv hk (by omega)
          have ho := hv.on j hj hne
          rw [getD_set _ _ _ _ hk, getD_set _ _ _ _ hk]
          rw [if_neg (fun e => hne (hz j hj (.inl e))), if_neg (fun e => hne (hz j hj (.inr e)))]
          exact ho
        · simp only [setR, if_true, Int.toNat_natCast] at hne ⊢
          simp only [rowR, if_true] at hk
          rw [getD_set _ _ _ _ hk] at hne
          split at hne
          · exact absurd rfl hne
          · exact hv.on j hj hne
      · rw [set_both t lo hi k 0 hk]; exact hmt z
  · simp only [Prod.mk.injEq] at h; exact absurd h.2.symm hid

theorem find_at {lo hi : List Int} {id : Int} {t : Bool} {p : Int} (h : findR lo hi id = some (t, p)) : PileV lo hi ∧ 1 ≤ id ∧ ∃ k : Nat, p = k ∧ k < (rowR t lo hi).length ∧ (rowR t lo hi).getD k 0 = id := by
  have ix : ∀ {l : List Int}, hasI l id = true → l.idxOf id < l.length ∧ l.getD (l.idxOf id) 0 = id := fun {l} h => by
    have hl := List.idxOf_lt_length_of_mem (hasI_iff.1 h)
    refine ⟨hl, ?_⟩
    rw [List.getD_eq_getElem?_getD, List.getElem?_eq_getElem hl]
    exact List.getElem_idxOf hl
  unfold findR at h
  split at h
  · rename_i hc
    rw [Bool.and_eq_true, decide_eq_true_iff] at hc
    refine ⟨pileB_iff.1 hc.1, hc.2, ?_⟩
    split at h
    · rename_i hm
      simp only [Option.some.injEq, Prod.mk.injEq] at h
      obtain ⟨rfl, rfl⟩ := h
      exact ⟨_, rfl, (ix hm).1, (ix hm).2⟩
    · split at h
      · rename_i hm
        simp only [Option.some.injEq, Prod.mk.injEq] at h
        obtain ⟨rfl, rfl⟩ := h
        exact ⟨_, rfl, (ix hm).1, (ix hm).2⟩
      · cases h
  · cases h
theorem find_some {lo hi : List Int} {id : Int} (hv : PileV lo hi) (h : id ∈ nz (lo ++ hi)) : ∃ t p, findR lo hi id = some (t, p) := by
  have h1 := (mem_nz.1 h).1
  have h2 := hv.rng id h1
  have h3 := (mem_nz.1 h).2
  unfold findR
  rw [if_pos (by rw [Bool.and_eq_true, decide_eq_true_iff]; exact ⟨pileB_iff.2 hv, by omega⟩)]
  rcases List.mem_append.1 h1 with h | h
  · rw [if_pos (hasI_iff.2 h)]; exact ⟨_, _, rfl⟩
  · split
    · exact ⟨_, _, rfl⟩
    · rw [if_pos (hasI_iff.2 h)]; exact ⟨_, _, rfl⟩
theorem find_none {lo hi : List Int} {id : Int} (hv : PileV lo hi) (h : findR lo hi id = none) : id ∉ nz (lo ++ hi) := fun hm => by
  obtain ⟨t, p, e⟩ := find_some hv hm
  rw [h] at e; cases e

theorem lift_ok {lo hi : List Int} {t t' : Bool} {p p' : Int} {q : List Int × List Int} (h : liftR lo hi t p t' p' = (q, true)) :
    PileV lo hi ∧ PileV q.1 q.2 ∧ (∀ z, z ∈ nz (q.1 ++ q.2) ↔ z ∈ nz (lo ++ hi)) ∧ q ≠ (lo, hi) := by
  unfold liftR at h
  split at h
  · split at h
    · simp at h
    · rename_i hne
      split at h
      · simp at h
      · rename_i h0
        split at h
        · rename_i hp
          simp only [Prod.mk.injEq, and_true] at h
          have h0' : (takeR lo hi t p).2 ≠ 0 := by simpa using h0
          obtain ⟨a1, a2, a3, a4, a5, a6, k, rfl, hk, ek⟩ := take_ok (q := (takeR lo hi t p).1) (id := (takeR lo hi t p).2) rfl h0'
          generalize (takeR lo hi t ↑k).1 = r at *
          generalize (takeR lo hi t ↑k).2 = id at *
          obtain ⟨b1, b2, b3, b4, b5, k', rfl, hk', ek'⟩ := put_ok (q := q) (by rw [← h, ← hp])
          refine ⟨a1, b2, fun z => ?_, fun e => ?_⟩
          · rw [b4, a4]
            constructor
            · rintro (rfl | ⟨h1, _⟩)
              · exact a5
              · exact h1
            · intro h1
              by_cases hz : z = id
              · exact .inl hz
              · exact .inr ⟨h1, hz⟩
          · have hne' : ¬ (t = t' ∧ k = k') := by
              rintro ⟨rfl, rfl⟩
              apply hne; simp
            have e1 : (rowR t q.1 q.2).getD k 0 = id := by rw [e]; exact ek
            rw [b5, a6] at e1
            have : (rowR t (setR t' (setR t lo hi k 0).1 (setR t lo hi k 0).2 k' id).1 (setR t' (setR t lo hi k 0).1 (setR t lo hi k 0).2 k' id).2).getD k 0 = 0 := by
              cases t <;> cases t'
              · simp only [rowR, setR, Bool.false_eq_true, if_false, Int.toNat_natCast] at hk hk' ⊢
                rw [a6] at hk'
                simp only [setR, Bool.false_eq_true, if_false, Int.toNat_natCast] at hk'
                rw [getD_set _ _ _ _ hk', if_neg (fun e => hne' ⟨rfl, e⟩), getD_set _ _ _ _ hk, if_pos rfl]
              · simp only [rowR, setR, Bool.false_eq_true, if_false, if_true, Int.toNat_natCast] at hk hk' ⊢
                rw [getD_set _ _ _ _ hk, if_pos rfl]
              · simp only [rowR, setR, Bool.false_eq_true, if_false, if_true, Int.toNat_natCast] at hk hk' ⊢
                rw [getD_set _ _ _ _ hk, if_pos rfl]
              · simp only [rowR, setR, if_true, Int.toNat_natCast] at hk hk' ⊢
                rw [a6] at hk'
                simp only [setR, if_true, Int.toNat_natCast] at hk'
                rw [getD_set _ _ _ _ hk', if_neg (fun e => hne' ⟨rfl, e⟩), getD_set _ _ _ _ hk, if_pos rfl]
            rw [this] at e1
            exact h0' e1.symm
        · simp at h
  · simp at h
end Go.Proofs.YtbafifilklfafaaDoor
