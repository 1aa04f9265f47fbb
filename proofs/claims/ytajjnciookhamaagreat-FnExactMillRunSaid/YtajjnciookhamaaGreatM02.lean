/-
  Parts of the proof, of 2 texts: what PlainPile2, PlainMix show. Conditions: each theorem states its own.
-/
import Derived.Test.YtajjnciookhamaaGreatM01
namespace Go.Proofs.YtajjnciookhamaaGreat
open Go.RowKit
/-- Where a spot stands in both rows together. -/
def spotIx (t : Bool) (lo : List Int) (k : Nat) : Nat := if t then lo.length + k else k
theorem set_both (t : Bool) (lo hi : List Int) (k : Nat) (x : Int) (hk : k < (rowR t lo hi).length) :
    (setR t lo hi k x).1 ++ (setR t lo hi k x).2 = (lo ++ hi).set (spotIx t lo k) x := by
  cases t
  · simp only [rowR, Bool.false_eq_true, if_false] at hk
    simp only [setR, spotIx, Bool.false_eq_true, if_false, Int.toNat_natCast]
    rw [List.set_append_left _ _ hk]
  · simp only [setR, spotIx, if_true, Int.toNat_natCast]
    rw [List.set_append_right _ _ (by omega), Nat.add_sub_cancel_left]
theorem get_both (t : Bool) (lo hi : List Int) (k : Nat) (hk : k < (rowR t lo hi).length) : (lo ++ hi).getD (spotIx t lo k) 0 = (rowR t lo hi).getD k 0 ∧ spotIx t lo k < (lo ++ hi).length := by
  cases t
  · simp only [rowR, Bool.false_eq_true, if_false] at hk ⊢
    simp only [spotIx, Bool.false_eq_true, if_false, List.length_append]
    refine ⟨?_, by omega⟩
    simp [List.getD, List.getElem?_append_left hk]
  · simp only [rowR, if_true] at hk ⊢
    simp only [spotIx, if_true, List.length_append]
    refine ⟨?_, by omega⟩
    simp [List.getD, List.getElem?_append_right]
theorem set_len (t : Bool) (lo hi : List Int) (p x : Int) : (setR t lo hi p x).1.length = lo.length ∧ (setR t lo hi p x).2.length = hi.length := by
  cases t <;> simp [setR]
theorem getD_set (l : List Int) (k j : Nat) (x : Int) (hk : k < l.length) : (l.set k x).getD j 0 = if j = k then x else l.getD j 0 := by
  simp only [List.getD_eq_getElem?_getD, List.getElem?_set]
  by_cases h : k = j
  · subst h; simp [hk]
  · rw [if_neg h, if_neg (fun e => h e.symm)]
/-- A coil put where none was. -/
theorem mem_put {l : List Int} {k : Nat} {x : Int} (hk : k < l.length) (h0 : l.getD k 0 = 0) (hx : x ≠ 0) (z : Int) : z ∈ nz (l.set k x) ↔ z = x ∨ z ∈ nz l := by
  rw [mem_nz, mem_nz]
  constructor
  · rintro ⟨h1, h2⟩
    obtain ⟨j, hj, e⟩ := mem_getD h1
    rw [getD_set _ _ _ _ hk] at e
    split at e
    · exact .inl e.symm
    · exact .inr ⟨by rw [← e]; exact getD_mem (by simpa using hj), h2⟩
  · rintro (rfl | ⟨h1, h2⟩)
    · exact ⟨List.mem_set hk _, hx⟩
    · refine ⟨?_, h2⟩
      obtain ⟨j, hj, e⟩ := mem_getD h1
      have hne : j ≠ k := fun e' => h2 (by rw [← e, e', h0])
      rw [← e, ← (by rw [getD_set _ _ _ _ hk, if_neg hne] : (l.set k x).getD j 0 = l.getD j 0)]
      exact getD_mem (by simpa using hj)
/-- A coil taken. -/
theorem mem_take {l : List Int} {k : Nat} {x : Int} (hk : k < l.length) (h0 : l.getD k 0 = x) (hx : x ≠ 0) (hn : (nz l).Nodup) (z : Int) : z ∈ nz (l.set k 0) ↔ z ∈ nz l ∧ z ≠ x := by
  have hd := (nd_iff l).2 hn
  rw [mem_nz, mem_nz]
  constructor
  · rintro ⟨h1, h2⟩
    obtain ⟨j, hj, e⟩ := mem_getD h1
    have hj' : j < l.length := by simpa using hj
    rw [getD_set _ _ _ _ hk] at e
    split at e
    · exact absurd e.symm h2
    · rename_i hne
      refine ⟨⟨by rw [← e]; exact getD_mem hj', h2⟩, fun ez => ?_⟩
      have hin : ∀ {a b : Nat}, a < b → b < l.length → l.getD a 0 ∈ l.take b := fun {a b} hab hb => by
        rw [List.mem_take_iff_getElem]
        exact ⟨a, by omega, by simp [List.getD, List.getElem?_eq_getElem (show a < l.length by omega)]⟩
      rcases Nat.lt_or_gt_of_ne hne with h | h
      · rcases hd k hk with h3 | h3
        · exact hx (by rw [← h0, h3])
        · refine h3 ?_
          rw [h0, ← ez, ← e]
          exact hin h hk
      · rcases hd j hj' with h3 | h3
        · exact h2 (by rw [← e, h3])
        · refine h3 ?_
          rw [e, ez, ← h0]
          exact hin h hj'
  · rintro ⟨⟨h1, h2⟩, h3⟩
    refine ⟨?_, h2⟩
    obtain ⟨j, hj, e⟩ := mem_getD h1
    have hne : j ≠ k := fun e' => h3 (by rw [← e, e', h0])
    rw [← e, ← (by rw [getD_set _ _ _ _ hk, if_neg hne] : (l.set k 0).getD j 0 = l.getD j 0)]
    exact getD_mem (by simpa using hj)
theorem put_ok {lo hi : List Int} {t : Bool} {p id : Int} {q : List Int × List Int} (h : putR lo hi t p id = (q, true)) :
    PileV lo hi ∧ PileV q.1 q.2 ∧ 1 ≤ id ∧ (∀ z, z ∈ nz (q.1 ++ q.2) ↔ z = id ∨ z ∈ nz (lo ++ hi)) ∧ q = setR t lo hi p id ∧ (∃ k : Nat, p = k ∧ k < (rowR t lo hi).length ∧ (rowR t lo hi).getD k 0 = 0) := by
  unfold putR at h
  split at h
  · rename_i hv
    split at h
    · simp at h
    · rename_i hc
      rw [Bool.or_eq_true, decide_eq_true_iff, bne_iff_ne, not_or, Decidable.not_not] at hc
      obtain ⟨h1, h2⟩ := hc
      split at h
      · rename_i hq
        simp only [Prod.mk.injEq, and_true] at h
        subst h
        obtain ⟨-, k, rfl, hk, e⟩ := at_row (lo := lo) (hi := hi) (t := t) (p := p) (by omega)
        have e0 : (rowR t lo hi).getD k 0 = 0 := by rw [← e]; exact h2
        obtain ⟨g1, g2⟩ := get_both t lo hi k hk
        refine ⟨pileB_iff.1 hv, pileB_iff.1 hq, by omega, fun z => ?_, rfl, k, rfl, hk, e0⟩
        rw [set_both t lo hi k id hk]
        exact mem_put g2 (by rw [g1, e0]) (by omega) z
      · simp at h
  · simp at h
theorem on_none {lo hi : List Int} {p : Nat} (h : onR lo hi false p = []) (hv : PileV lo hi) (hk : p < lo.length) (hat : 1 ≤ lo.getD p 0) : (∀ j, j < hi.length → (j = p ∨ j + 1 = p) → hi.getD j 0 = 0) := by
  intro j hj hjp
  have hat1 : ¬ atR lo hi false p < 1 := by
    unfold atR
    rw [if_pos (by rw [Bool.and_eq_true, wi_iff]; exact ⟨pileB_iff.2 hv, by omega, by show (p : Int) ≤ (lo.length : Int) - 1; omega⟩)]
    show ¬ lo.getD (p : Int).toNat 0 < 1
    rw [Int.toNat_natCast]; omega
  unfold onR at h
  rw [if_neg (by simp; omega)] at h
  have hj2 : atR lo hi true j = hi.getD j 0 := by
    unfold atR
    rw [if_pos (by rw [Bool.and_eq_true, wi_iff]; exact ⟨pileB_iff.2 hv, by omega, by show (j : Int) ≤ (hi.length : Int) - 1; omega⟩)]
    show hi.getD (j : Int).toNat 0 = _
    rw [Int.toNat_natCast]
  have hnn := (hv.rng _ (List.mem_append_right _ (getD_mem hj))).1
  rw [List.filter_eq_nil_iff] at h
  have : atR lo hi true j ∈ [atR lo hi true ((p : Int) - 1), atR lo hi true p] := by
    rcases hjp with rfl | rfl
    · simp
    · rw [show ((j + 1 : Nat) : Int) - 1 = (j : Int) by omega]; simp
  have := h _ this
  rw [hj2, decide_eq_true_iff] at this
  omega
theorem take_ok {lo hi : List Int} {t : Bool} {p id : Int} {q : List Int × List Int} (h : takeR lo hi t p = (q, id)) (hid : id ≠ 0) :
    PileV lo hi ∧ PileV q.1 q.2 ∧ 1 ≤ id ∧ (∀ z, z ∈ nz (q.1 ++ q.2) ↔ z ∈ nz (lo ++ hi) ∧ z ≠ id) ∧ id ∈ nz (lo ++ hi) ∧ q = setR t lo hi p 0 ∧ (∃ k : Nat, p = k ∧ k < (rowR t lo hi).length ∧ (rowR t lo hi).getD k 0 = id) := by
  unfold takeR at h
  split at h
  · rename_i hv
    have hv := pileB_iff.1 hv
    split at h
    · simp only [Prod.mk.injEq] at h; exact absurd h.2.symm hid
    · rename_i hc
      rw [Bool.or_eq_true, decide_eq_true_iff, decide_eq_true_iff, not_or] at hc
      obtain ⟨h1, h2⟩ := hc
      simp only [Prod.mk.injEq] at h
      obtain ⟨rfl, h3⟩ := h
      obtain ⟨-, k, rfl, hk, e⟩ := at_row (lo := lo) (hi := hi) (t := t) (p := p) (by omega)
      have e0 : (rowR t lo hi).getD k 0 = id := by rw [← e]; exact h3
      obtain ⟨g1, g2⟩ := get_both t lo hi k hk
      have hin : id ∈ nz (lo ++ hi) := mem_nz.2 ⟨by rw [← e0]; exact row_mem (getD_mem hk), hid⟩
      have hon0 : onR lo hi t k = [] := List.length_eq_zero_iff.1 (by omega)
      have hmt := mem_take g2 (by rw [g1, e0]) hid hv.nd
      obtain ⟨l1, l2⟩ := set_len t lo hi k 0
      refine ⟨hv, ⟨by rw [l1]; exact hv.l1, by rw [l1]; exact hv.l6, by rw [l1, l2]; exact hv.lh, fun x hx => ?_, ?_, fun j hj hne => ?_⟩, by omega, fun z => ?_, hin, rfl, k, rfl, hk, e0⟩
      · rw [set_both t lo hi k 0 hk] at hx
        rcases List.mem_or_eq_of_mem_set hx with h | h
        · exact hv.rng x h
        · subst h; omega
      · rw [set_both t lo hi k 0 hk]
        rw [← nd_iff]
        intro j hj
        rw [getD_set _ _ _ _ g2]
        split
        · exact .inl rfl
        · rename_i hne
          rcases (nd_iff _).2 hv.nd j (by simpa using hj) with h | h
          · exact .inl h
          · by_cases h0 : (lo ++ hi).getD j 0 = 0
            · exact .inl h0
            · refine .inr fun hmem => h ?_
              rw [List.take_set] at hmem
              rcases List.mem_or_eq_of_mem_set hmem with h' | h'
              · exact h'
              · exact absurd h' h0
      · rw [l2] at hj
        cases t
        · simp only [setR, Bool.false_eq_true, if_false, Int.toNat_natCast] at hne ⊢
          simp only [rowR, Bool.false_eq_true, if_false] at hk e0
          have hz := on_none hon0 hv hk (by omega)
          have ho := hv.on j hj hne
          rw [getD_set _ _ _ _ hk, getD_set _ _ _ _ hk]
          rw [if_neg (fun e => hne (hz j hj (.inl e))), if_neg (fun e => hne (hz j hj (.inr e)))]
          exact ho
        · simp only [setR, if_true, Int.toNat_natCast] at hne ⊢
          simp only [rowR, if_true] at hk
          rw [getD_set _ _ _ _ hk] at hne
          split at hne
          · exact absurd rfl hne
          · exact hv.on j hj hne
      · rw [set_both t lo hi k 0 hk]; exact hmt z
  · simp only [Prod.mk.injEq] at h; exact absurd h.2.symm hid
theorem find_at {lo hi : List Int} {id : Int} {t : Bool} {p : Int} (h : findR lo hi id = some (t, p)) : PileV lo hi ∧ 1 ≤ id ∧ ∃ k : Nat, p = k ∧ k < (rowR t lo hi).length ∧ (rowR t lo hi).getD k 0 = id := by
  have ix : ∀ {l : List Int}, hasI l id = true → l.idxOf id < l.length ∧ l.getD (l.idxOf id) 0 = id := fun {l} h => by
    have hl := List.idxOf_lt_length_of_mem (hasI_iff.1 h)
    refine ⟨hl, ?_⟩
    rw [List.getD_eq_getElem?_getD, List.getElem?_eq_getElem hl]
    exact List.getElem_idxOf hl
  unfold findR at h
  split at h
  · rename_i hc
    rw [Bool.and_eq_true, decide_eq_true_iff] at hc
    refine ⟨pileB_iff.1 hc.1, hc.2, ?_⟩
    split at h
    · rename_i hm
      simp only [Option.some.injEq, Prod.mk.injEq] at h
      obtain ⟨rfl, rfl⟩ := h
      exact ⟨_, rfl, (ix hm).1, (ix hm).2⟩
    · split at h
      · rename_i hm
        simp only [Option.some.injEq, Prod.mk.injEq] at h
        obtain ⟨rfl, rfl⟩ := h
        exact ⟨_, rfl, (ix hm).1, (ix hm).2⟩
      · cases h
  · cases h
theorem find_some {lo hi : List Int} {id : Int} (hv : PileV lo hi) (h : id ∈ nz (lo ++ hi)) : ∃ t p, findR lo hi id = some (t, p) := by
  have h1 := (mem_nz.1 h).1
  have h2 := hv.rng id h1
  have h3 := (mem_nz.1 h).2
  unfold findR
  rw [if_pos (by rw [Bool.and_eq_true, decide_eq_true_iff]; exact ⟨pileB_iff.2 hv, by omega⟩)]
  rcases List.mem_append.1 h1 with h | h
  · rw [if_pos (hasI_iff.2 h)]; exact ⟨_, _, rfl⟩
  · split
    · exact ⟨_, _, rfl⟩
    · rw [if_pos (hasI_iff.2 h)]; exact ⟨_, _, rfl⟩
theorem lift_ok {lo hi : List Int} {t t' : Bool} {p p' : Int} {q : List Int × List Int} (h : liftR lo hi t p t' p' = (q, true)) :
    PileV lo hi ∧ PileV q.1 q.2 ∧ (∀ z, z ∈ nz (q.1 ++ q.2) ↔ z ∈ nz (lo ++ hi)) ∧ q ≠ (lo, hi) := by
  unfold liftR at h
  split at h
  · split at h
    · simp at h
    · rename_i hne
      split at h
      · simp at h
      · rename_i h0
        split at h
        · rename_i hp
          simp only [Prod.mk.injEq, and_true] at h
          have h0' : (takeR lo hi t p).2 ≠ 0 := by simpa using h0
          obtain ⟨a1, a2, a3, a4, a5, a6, k, rfl, hk, ek⟩ := take_ok (q := (takeR lo hi t p).1) (id := (takeR lo hi t p).2) rfl h0'
          generalize (takeR lo hi t ↑k).1 = r at *
          generalize (takeR lo hi t ↑k).2 = id at *
          obtain ⟨b1, b2, b3, b4, b5, k', rfl, hk', ek'⟩ := put_ok (q := q) (by rw [← h, ← hp])
          refine ⟨a1, b2, fun z => ?_, fun e => ?_⟩
          · rw [b4, a4]
            constructor
            · rintro (rfl | ⟨h1, _⟩)
              · exact a5
              · exact h1
            · intro h1
              by_cases hz : z = id
              · exact .inl hz
              · exact .inr ⟨h1, hz⟩
          · have hne' : ¬ (t = t' ∧ k = k') := by
              rintro ⟨rfl, rfl⟩
              apply hne; simp
            have e1 : (rowR t q.1 q.2).getD k 0 = id := by rw [e]; exact ek
            rw [b5, a6] at e1
            have : (rowR t (setR t' (setR t lo hi k 0).1 (setR t lo hi k 0).2 k' id).1 (setR t' (setR t lo hi k 0).1 (setR t lo hi k 0).2 k' id).2).getD k 0 = 0 := by
              cases t <;> cases t'
              · simp only [rowR, setR, Bool.false_eq_true, if_false, Int.toNat_natCast] at hk hk' ⊢
                rw [a6] at hk'
                simp only [setR, Bool.false_eq_true, if_false, Int.toNat_natCast] at hk'
                rw [getD_set _ _ _ _ hk', if_neg (fun e => hne' ⟨rfl, e⟩), getD_set _ _ _ _ hk, if_pos rfl]
              · simp only [rowR, setR, Bool.false_eq_true, if_false, if_true, Int.toNat_natCast] at hk hk' ⊢
                rw [getD_set _ _ _ _ hk, if_pos rfl]
              · simp only [rowR, setR, Bool.false_eq_true, if_false, if_true, Int.toNat_natCast] at hk hk' ⊢
                rw [getD_set _ _ _ _ hk, if_pos rfl]
              · simp only [rowR, setR, if_true, Int.toNat_natCast] at hk hk' ⊢
                rw [a6] at hk'
                simp only [setR, if_true, Int.toNat_natCast] at hk'
                rw [getD_set _ _ _ _ hk', if_neg (fun e => hne' ⟨rfl, e⟩), getD_set _ _ _ _ hk, if_pos rfl]
            rw [this] at e1
            exact h0' e1.symm
        · simp at h
  · simp at h
end Go.Proofs.YtajjnciookhamaaGreat
namespace Go.Proofs.YtajjnciookhamaaGreat
open Go.RowKit
structure St where
  c : Int
  m : Int
  s : Int
  p : Int
  k : Int
  deriving DecidableEq
structure Gr where
  lc : Int
  hc : Int
  lm : Int
  hm : Int
  ls : Int
  hs : Int
  deriving DecidableEq
def st0 : St := ⟨0, 0, 0, 0, 0⟩
def stB (s : St) : Bool := wi s.c 0 999 && (wi s.m 0 999 && (wi s.s 0 999 && (wi s.p 0 99 && wi s.k 0 9)))
def stsB (l : List St) : Bool := decide (l.length ≤ 4) && l.all stB
def grB (g : Gr) : Bool := wi g.lc 0 999 && (wi g.hc g.lc 999 && (wi g.lm 0 999 && (wi g.hm g.lm 999 && (wi g.ls 0 999 && wi g.hs g.ls 999))))
theorem stsB_len {l : List St} (h : stsB l = true) : l.length ≤ 4 := by simp [stsB] at h; exact h.1
theorem stsB_at {l : List St} (h : stsB l = true) {k : Nat} (hk : k < l.length) : stB l[k] = true := by
  simp [stsB] at h; exact h.2 _ (List.getElem_mem _)
theorem stsB_getD {l : List St} (h : stsB l = true) {k : Nat} (hk : k < l.length) : stB (l.getD k st0) = true := by
  rw [List.getD_eq_getElem?_getD, List.getElem?_eq_getElem hk]; exact stsB_at h hk
theorem stB_iff {s : St} : stB s = true ↔ (0 ≤ s.c ∧ s.c ≤ 999) ∧ (0 ≤ s.m ∧ s.m ≤ 999) ∧ (0 ≤ s.s ∧ s.s ≤ 999) ∧ (0 ≤ s.p ∧ s.p ≤ 99) ∧ (0 ≤ s.k ∧ s.k ≤ 9) := by
  simp [stB, wi_iff]
theorem grB_iff {g : Gr} : grB g = true ↔ (0 ≤ g.lc ∧ g.lc ≤ 999) ∧ (g.lc ≤ g.hc ∧ g.hc ≤ 999) ∧ (0 ≤ g.lm ∧ g.lm ≤ 999) ∧ (g.lm ≤ g.hm ∧ g.hm ≤ 999) ∧ (0 ≤ g.ls ∧ g.ls ≤ 999) ∧ (g.ls ≤ g.hs ∧ g.hs ≤ 999) := by
  simp [grB, wi_iff]
/-- The sum of the first ones. -/
def sumTo (l : List Int) : Nat → Int
  | 0 => 0
  | k + 1 => sumTo l k + l.getD k 0
/-- A mixture's k-th tons are there. -/
def mixK (sts : List St) (mix : List Int) (k : Nat) : Bool := wi (mix.getD k 0) 0 (sts.getD k st0).k
def mixB (sts : List St) (mix : List Int) : Bool := stsB sts && (decide (mix.length = sts.length) && upTo mix.length (mixK sts mix))
/-- The tons times what f tells of their stuff. -/
def dotTo (f : St → Int) (sts : List St) (mix : List Int) : Nat → Int
  | 0 => 0
  | k + 1 => dotTo f sts mix k + mix.getD k 0 * f (sts.getD k st0)
def costR (sts : List St) (mix : List Int) : Int := if mixB sts mix then dotTo St.p sts mix mix.length else -1
def sumsR (f : St → Int) (sts : List St) (mix : List Int) : Int := if mixB sts mix then dotTo f sts mix mix.length else -1
def tonsR (mix : List Int) : Int := sumTo mix mix.length
def meetR (sts : List St) (mix : List Int) (g : Gr) : Bool :=
  mixB sts mix && (grB g && (decide (0 < tonsR mix) && (wi (sumsR St.c sts mix) (g.lc * tonsR mix) (g.hc * tonsR mix) && (wi (sumsR St.m sts mix) (g.lm * tonsR mix) (g.hm * tonsR mix) && wi (sumsR St.s sts mix) (g.ls * tonsR mix) (g.hs * tonsR mix)))))
theorem mixB_parts {sts : List St} {mix : List Int} (h : mixB sts mix = true) : stsB sts = true ∧ mix.length = sts.length ∧ ∀ k, k < mix.length → 0 ≤ mix.getD k 0 ∧ mix.getD k 0 ≤ (sts.getD k st0).k := by
  unfold mixB at h
  rw [Bool.and_eq_true, Bool.and_eq_true, decide_eq_true_iff, upTo_iff] at h
  exact ⟨h.1, h.2.1, fun k hk => wi_iff.1 (h.2.2 k hk)⟩
theorem mix_bd {sts : List St} {mix : List Int} (h : mixB sts mix = true) {k : Nat} (hk : k < mix.length) : 0 ≤ mix.getD k 0 ∧ mix.getD k 0 ≤ 9 := by
  obtain ⟨h1, h2, h3⟩ := mixB_parts h
  have := h3 k hk
  have := (stB_iff.1 (stsB_getD h1 (show k < sts.length by omega))).2.2.2.2
  omega
theorem mul_bd {a b x y : Int} (h1 : 0 ≤ a) (h2 : a ≤ x) (h3 : 0 ≤ b) (h4 : b ≤ y) : 0 ≤ a * b ∧ a * b ≤ x * y :=
  ⟨Int.mul_nonneg h1 h3, Int.mul_le_mul h2 h4 h3 (Int.le_trans h1 h2)⟩
theorem sumTo_bd {sts : List St} {mix : List Int} (h : mixB sts mix = true) : ∀ k, k ≤ mix.length → 0 ≤ sumTo mix k ∧ sumTo mix k ≤ 9 * k
  | 0, _ => by simp [sumTo]
  | k + 1, hk => by
    have := sumTo_bd h k (by omega)
    have := mix_bd h (show k < mix.length by omega)
    simp only [sumTo]; omega
theorem dotTo_bd {f : St → Int} (hf : ∀ s, stB s = true → 0 ≤ f s ∧ f s ≤ 999) {sts : List St} {mix : List Int} (h : mixB sts mix = true) : ∀ k, k ≤ mix.length → 0 ≤ dotTo f sts mix k ∧ dotTo f sts mix k ≤ 8991 * k
  | 0, _ => by simp [dotTo]
  | k + 1, hk => by
    have h1 := dotTo_bd hf h k (by omega)
    have h2 := mix_bd h (show k < mix.length by omega)
    obtain ⟨h3, h4, _⟩ := mixB_parts h
    have h5 := hf _ (stsB_getD h3 (show k < sts.length by omega))
    have h6 := mul_bd h2.1 h2.2 h5.1 h5.2
    simp only [dotTo]; omega
theorem mix_len4 {sts : List St} {mix : List Int} (h : mixB sts mix = true) : mix.length ≤ 4 := by
  obtain ⟨h1, h2, _⟩ := mixB_parts h
  have := stsB_len h1; omega
theorem stB_c {s : St} (h : stB s = true) : 0 ≤ s.c ∧ s.c ≤ 999 := (stB_iff.1 h).1
theorem stB_m {s : St} (h : stB s = true) : 0 ≤ s.m ∧ s.m ≤ 999 := (stB_iff.1 h).2.1
theorem stB_s {s : St} (h : stB s = true) : 0 ≤ s.s ∧ s.s ≤ 999 := (stB_iff.1 h).2.2.1
theorem stB_p {s : St} (h : stB s = true) : 0 ≤ s.p ∧ s.p ≤ 99 := (stB_iff.1 h).2.2.2.1
theorem stB_p9 {s : St} (h : stB s = true) : 0 ≤ s.p ∧ s.p ≤ 999 := by have := stB_p h; omega
theorem stB_k {s : St} (h : stB s = true) : 0 ≤ s.k ∧ s.k ≤ 9 := (stB_iff.1 h).2.2.2.2
/-- The numbers 0, 1 .. below n. -/
def ups (n : Nat) : List Int := (List.range n).map fun (k : Nat) => (k : Int)
theorem ups_succ (n : Nat) : ups (n + 1) = ups n ++ [(n : Int)] := by simp [ups, List.range_succ]
theorem mem_ups {n : Nat} {x : Int} : x ∈ ups n ↔ 0 ≤ x ∧ x < n := by
  simp only [ups, List.mem_map, List.mem_range]
  constructor
  · rintro ⟨k, hk, rfl⟩; omega
  · rintro ⟨h1, h2⟩; exact ⟨x.toNat, by omega, by omega⟩
/-- All mixtures of so many tons out of stocks, in order. -/
def allM : List Int → Int → List (List Int)
  | [], t => if t = 0 then [[]] else []
  | s :: ss, t => (ups (min t s + 1).toNat).flatMap fun n => (allM ss (t - n)).map (n :: ·)
/-- The search's step: the mixture is kept if it is the first one, or cheaper. -/
def stepM (sts : List St) (g : Gr) (b : Option (List Int × Int)) (mix : List Int) : Option (List Int × Int) :=
  if meetR sts mix g && (match b with | none => true | some (_, c) => decide (costR sts mix < c)) then some (mix, costR sts mix) else b
def foldM (sts : List St) (g : Gr) (b : Option (List Int × Int)) (l : List (List Int)) : Option (List Int × Int) := l.foldl (stepM sts g) b
def mixBest (sts : List St) (g : Gr) (tons : Int) : Option (List Int) :=
  if stsB sts && (grB g && wi tons 1 12) then (foldM sts g none (allM (sts.map St.k) tons)).map (·.1) else none
theorem foldM_append (sts : List St) (g : Gr) (b : Option (List Int × Int)) (l l' : List (List Int)) : foldM sts g b (l ++ l') = foldM sts g (foldM sts g b l) l' := by simp [foldM]
theorem stepM_cases (sts : List St) (g : Gr) (b : Option (List Int × Int)) (x : List Int) : stepM sts g b x = b ∨ (meetR sts x g = true ∧ stepM sts g b x = some (x, costR sts x)) := by
  unfold stepM
  generalize (match b with | none => true | some (_, c) => decide (costR sts x < c)) = t
  cases h : meetR sts x g <;> cases t <;> simp
theorem foldM_cases (sts : List St) (g : Gr) : ∀ (l : List (List Int)) (b : Option (List Int × Int)), foldM sts g b l = b ∨ ∃ mix ∈ l, meetR sts mix g = true ∧ foldM sts g b l = some (mix, costR sts mix)
  | [], b => .inl rfl
  | x :: l, b => by
    have e : foldM sts g b (x :: l) = foldM sts g (stepM sts g b x) l := rfl
    rcases foldM_cases sts g l (stepM sts g b x) with h | ⟨mix, h1, h2, h3⟩
    · rcases stepM_cases sts g b x with h' | ⟨h1, h2⟩
      · exact .inl (by rw [e, h, h'])
      · exact .inr ⟨x, by simp, h1, by rw [e, h, h2]⟩
    · exact .inr ⟨mix, by simp [h1], h2, by rw [e, h3]⟩
theorem sumTo_cons (a : Int) (l : List Int) : ∀ k, sumTo (a :: l) (k + 1) = a + sumTo l k
  | 0 => by simp [sumTo]
  | k + 1 => by
    have := sumTo_cons a l k
    rw [sumTo, this, sumTo]
    simp only [List.getD_cons_succ]; omega
/-- What allM tells: the length, and the tons. -/
theorem allM_mem : ∀ (ss : List Int) (t : Int), ∀ mix ∈ allM ss t, mix.length = ss.length ∧ tonsR mix = t
  | [], t => by
    intro mix h
    unfold allM at h
    split at h
    · simp only [List.mem_singleton] at h; subst h; subst t; exact ⟨rfl, rfl⟩
    · cases h
  | s :: ss, t => by
    intro mix h
    simp only [allM, List.mem_flatMap, List.mem_map] at h
    obtain ⟨n, hn, l, hl, rfl⟩ := h
    obtain ⟨h1, h2⟩ := allM_mem ss _ l hl
    refine ⟨by simp [h1], ?_⟩
    unfold tonsR at h2 ⊢
    rw [List.length_cons, sumTo_cons, h2]; omega
/-- The best mixture is one. -/
theorem best_ok {sts : List St} {g : Gr} {tons : Int} {mix : List Int} (h : mixBest sts g tons = some mix) : mixB sts mix = true ∧ tonsR mix = tons ∧ 1 ≤ tons ∧ tons ≤ 12 := by
  unfold mixBest at h
  split at h
  · rename_i hc
    rw [Bool.and_eq_true, Bool.and_eq_true, wi_iff] at hc
    rcases foldM_cases sts g (allM (sts.map St.k) tons) none with e | ⟨m, h1, h2, e⟩
    · rw [e] at h; cases h
    · rw [e] at h
      simp only [Option.map_some, Option.some.injEq] at h
      subst h
      unfold meetR at h2
      rw [Bool.and_eq_true] at h2
      exact ⟨h2.1, (allM_mem _ _ _ h1).2, hc.2.2.1, hc.2.2.2⟩
  · cases h
/-- What is left of the stocks. -/
def takeM (sts : List St) (mix : List Int) : List St := (List.range sts.length).map fun k => { sts.getD k st0 with k := (sts.getD k st0).k - mix.getD k 0 }
theorem takeM_len (sts : List St) (mix : List Int) : (takeM sts mix).length = sts.length := by simp [takeM]
theorem takeM_getD {sts : List St} {mix : List Int} {k : Nat} (hk : k < sts.length) : (takeM sts mix).getD k st0 = { sts.getD k st0 with k := (sts.getD k st0).k - mix.getD k 0 } := by
  unfold takeM
  rw [List.getD_eq_getElem?_getD, List.getElem?_eq_getElem (by simpa using hk)]
  simp
theorem all_getD {l : List St} : l.all stB = true ↔ ∀ k, k < l.length → stB (l.getD k st0) = true := by
  rw [List.all_eq_true]
  constructor
  · intro h k hk
    rw [List.getD_eq_getElem?_getD, List.getElem?_eq_getElem hk]; exact h _ (List.getElem_mem _)
  · intro h x hx
    obtain ⟨k, hk, rfl⟩ := List.getElem_of_mem hx
    have := h k hk
    rwa [List.getD_eq_getElem?_getD, List.getElem?_eq_getElem hk] at this
theorem takeM_ok {sts : List St} {mix : List Int} (h : mixB sts mix = true) : stsB (takeM sts mix) = true := by
  obtain ⟨h1, h2, h3⟩ := mixB_parts h
  have := stsB_len h1
  unfold stsB
  rw [Bool.and_eq_true, decide_eq_true_iff, all_getD, takeM_len]
  refine ⟨by omega, fun k hk => ?_⟩
  rw [takeM_getD hk]
  have h5 := stB_iff.1 (stsB_getD h1 hk)
  have h6 := h3 k (by omega)
  rw [stB_iff]
  simp only
  omega
/-- The stock of the first ones. -/
def stockTo (sts : List St) : Nat → Int
  | 0 => 0
  | k + 1 => stockTo sts k + 4 * (sts.getD k st0).k
theorem stock_take {sts : List St} {mix : List Int} (h : mixB sts mix = true) : ∀ k, k ≤ sts.length → stockTo (takeM sts mix) k = stockTo sts k - 4 * sumTo mix k
  | 0, _ => by simp [stockTo, sumTo]
  | k + 1, hk => by
    have := stock_take h k (by omega)
    rw [stockTo, stockTo, sumTo, this, takeM_getD (by omega)]
    simp only; omega
end Go.Proofs.YtajjnciookhamaaGreat
