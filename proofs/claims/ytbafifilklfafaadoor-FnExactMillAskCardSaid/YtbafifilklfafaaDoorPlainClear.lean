/-
  The deeds by which a mill is cleared, in plain Lean: all are done, and every piece is gone. No program in sight.
-/
import Derived.Test.YtbafifilklfafaaDoorPlainMill
namespace Go.Proofs.YtbafifilklfafaaDoor
open Go.RowKit

def shipJ (id : Int) : J := ⟨4, id, 0⟩
def slabJ (id : Int) : List J := [⟨2, id, 0⟩, ⟨4, id, 0⟩]
def clearR (m : Mi) : List J := if millB m then (nz (m.high ++ m.low)).map shipJ ++ (idsIn m.pieces 0).flatMap slabJ else []

theorem nz_head : ∀ {l : List Int} {id : Int} {r : List Int}, nz l = id :: r → id ≠ 0 ∧ id ∈ l ∧ nz (l.set (l.idxOf id) 0) = r
  | [], id, r, h => by cases h
  | a :: l, id, r, h => by
    by_cases ha : a = 0
    · subst ha
      have h' : nz l = id :: r := by simpa [nz] using h
      obtain ⟨h1, h2, h3⟩ := nz_head h'
      refine ⟨h1, by simp [h2], ?_⟩
      have h0 : ((0 : Int) == id) = false := by simp; exact fun e => h1 e.symm
      rw [List.idxOf_cons, h0, cond_false, List.set_cons_succ]
      simpa [nz] using h3
    · have h' : a = id ∧ nz l = r := by simpa [nz, ha] using h
      obtain ⟨rfl, rfl⟩ := h'
      refine ⟨ha, by simp, ?_⟩
      rw [List.idxOf_cons_self, List.set_cons_zero]
      simp [nz]
theorem nz_app (a b : List Int) : nz (a ++ b) = nz a ++ nz b := by simp [nz]
theorem nz_none {l : List Int} : nz l = [] ↔ ∀ k, l.getD k 0 = 0 := by
  constructor
  · intro h k
    rcases Nat.lt_or_ge k l.length with hk | hk
    · apply Classical.byContradiction
      intro hne
      have : l.getD k 0 ∈ nz l := mem_nz.2 ⟨getD_mem hk, hne⟩
      rw [h] at this; cases this
    · rw [List.getD_eq_getElem?_getD, List.getElem?_eq_none hk]; rfl
  · intro h
    rw [List.eq_nil_iff_forall_not_mem]
    intro x hx
    obtain ⟨h1, h2⟩ := mem_nz.1 hx
    obtain ⟨k, _, rfl⟩ := mem_getD h1
    exact h2 (h k)
theorem at_hi {lo hi : List Int} (hv : PileV lo hi) {k : Nat} (hk : k < hi.length) : atR lo hi true k = hi.getD k 0 := by
  unfold atR
  rw [if_pos (by rw [Bool.and_eq_true, wi_iff]; exact ⟨pileB_iff.2 hv, by omega, by show (k : Int) ≤ (hi.length : Int) - 1; omega⟩)]
  show hi.getD (k : Int).toNat 0 = _
  rw [Int.toNat_natCast]
theorem at_lo {lo hi : List Int} (hv : PileV lo hi) {k : Nat} (hk : k < lo.length) : atR lo hi false k = lo.getD k 0 := by
  unfold atR
  rw [if_pos (by rw [Bool.and_eq_true, wi_iff]; exact ⟨pileB_iff.2 hv, by omega, by show (k : Int) ≤ (lo.length : Int) - 1; omega⟩)]
  show lo.getD (k : Int).toNat 0 = _
  rw [Int.toNat_natCast]
theorem idx_get {l : List Int} {id : Int} (h : id ∈ l) : l.idxOf id < l.length ∧ l.getD (l.idxOf id) 0 = id := by
  have hl := List.idxOf_lt_length_of_mem h
  refine ⟨hl, ?_⟩
  rw [List.getD_eq_getElem?_getD, List.getElem?_eq_getElem hl]
  exact List.getElem_idxOf hl
theorem take_hi {lo hi : List Int} (hv : PileV lo hi) {id : Int} (h : id ∈ nz hi) :
    findR lo hi id = some (true, ((hi.idxOf id : Nat) : Int)) ∧ takeR lo hi true (hi.idxOf id : Nat) = ((lo, hi.set (hi.idxOf id) 0), id) := by
  obtain ⟨h1, h2⟩ := mem_nz.1 h
  have hr := hv.rng id (List.mem_append_right _ h1)
  obtain ⟨i1, i2⟩ := idx_get h1
  have hnl : id ∉ lo := fun hl => by
    have := hv.nd
    rw [nz_app, List.nodup_append] at this
    exact this.2.2 id (mem_nz.2 ⟨hl, h2⟩) id h rfl
  constructor
  · unfold findR
    rw [if_pos (by rw [Bool.and_eq_true, decide_eq_true_iff]; exact ⟨pileB_iff.2 hv, by omega⟩), if_neg (by rw [hasI_iff]; exact hnl), if_pos (hasI_iff.2 h1)]
  · unfold takeR
    have e := at_hi hv i1
    rw [i2] at e
    rw [if_pos (pileB_iff.2 hv), e, if_neg (by simp [onR]; omega)]
    simp [setR]
theorem take_lo {lo hi : List Int} (hv : PileV lo hi) (hh : nz hi = []) {id : Int} (h : id ∈ nz lo) :
    findR lo hi id = some (false, ((lo.idxOf id : Nat) : Int)) ∧ takeR lo hi false (lo.idxOf id : Nat) = ((lo.set (lo.idxOf id) 0, hi), id) := by
  obtain ⟨h1, h2⟩ := mem_nz.1 h
  have hr := hv.rng id (List.mem_append_left _ h1)
  obtain ⟨i1, i2⟩ := idx_get h1
  have hz := nz_none.1 hh
  constructor
  · unfold findR
    rw [if_pos (by rw [Bool.and_eq_true, decide_eq_true_iff]; exact ⟨pileB_iff.2 hv, by omega⟩), if_pos (hasI_iff.2 h1)]
  · unfold takeR
    have e := at_lo hv i1
    rw [i2] at e
    have hle : ∀ p : Int, ¬ 0 < atR lo hi true p := fun p hp => by
      obtain ⟨_, k, rfl, hk, e⟩ := at_row (lo := lo) (hi := hi) (t := true) (p := p) (by omega)
      rw [e] at hp
      simp only [rowR, if_true] at hp
      rw [hz] at hp; omega
    have hon : onR lo hi false (lo.idxOf id : Nat) = [] := by
      unfold onR
      rw [e, if_neg (by simp; omega), List.filter_eq_nil_iff]
      intro x hx
      simp only [List.mem_cons, List.not_mem_nil, or_false] at hx
      rcases hx with rfl | rfl <;> simp only [decide_eq_true_eq] <;> exact hle _
    rw [if_pos (pileB_iff.2 hv), e, hon, if_neg (by simp; omega)]
    simp [setR]

/-- Deeds that are all done lead from a mill to another one. -/
def Goes (m : Mi) (l : List J) (x : Mi) : Prop := ∀ n : Int, l.foldl runS (m, n) = (x, n + l.length)
theorem Goes.nil (m : Mi) : Goes m [] m := fun n => by simp
theorem Goes.cons {m y x : Mi} {d : J} {l : List J} (h : doR m d = (y, true)) (k : Goes y l x) : Goes m (d :: l) x := fun n => by
  rw [List.foldl_cons, show runS (m, n) d = (y, n + 1) by unfold runS; simp only [h, if_true], k (n + 1), List.length_cons]
  simp only [Prod.mk.injEq, true_and]; omega
theorem Goes.append {m y x : Mi} {a b : List J} (h : Goes m a y) (k : Goes y b x) : Goes m (a ++ b) x := fun n => by
  rw [List.foldl_append, h n, k, List.length_append]
  simp only [Prod.mk.injEq, true_and]; omega

/-- What stays the same while a mill is cleared. -/
structure Keep (m x : Mi) : Prop where
  v : MillV x
  st : x.strand = m.strand
  sc : x.scrap = m.scrap
  len : x.pieces.length = m.pieces.length
theorem Keep.trans {a b c : Mi} (h : Keep a b) (k : Keep b c) : Keep a c := ⟨k.v, k.st.trans h.st, k.sc.trans h.sc, k.len.trans h.len⟩
theorem ids_set {l : List Pc} {k : Nat} (hk : k < l.length) {s : Int} (h1 : (l.getD k pc0).s ≠ 0) (h2 : s ≠ 0) : idsIn (setS l ((k : Int) + 1) s) 0 = idsIn l 0 := by
  refine lt_unique (ids_lt _ _) (ids_lt _ _) fun x => ?_
  rw [mem_idsIn, mem_idsIn, setS_len]
  constructor
  · rintro ⟨j, a1, a2, a3⟩
    rw [setS_getD hk] at a3
    split at a3
    · exact absurd a3 h2
    · exact ⟨j, a1, a2, a3⟩
  · rintro ⟨j, a1, a2, a3⟩
    refine ⟨j, a1, a2, ?_⟩
    rw [setS_getD hk, if_neg (fun e => by subst e; exact h1 a3)]
    exact a3
theorem ship_go {m : Mi} (hv : MillV m) {id : Int} {t : Bool} {p : Int} {q : List Int × List Int} (h1 : findR m.low m.high id = some (t, p)) (h2 : takeR m.low m.high t p = (q, id)) (h0 : id ≠ 0) :
    doR m (shipJ id) = ({ m with low := q.1, high := q.2, pieces := setS m.pieces id 2 }, true) ∧ Keep m { m with low := q.1, high := q.2, pieces := setS m.pieces id 2 } ∧ idsIn (setS m.pieces id 2) 0 = idsIn m.pieces 0 := by
  have hs : shipD m id = some { m with low := q.1, high := q.2, pieces := setS m.pieces id 2 } := by
    unfold shipD
    rw [h1]
    simp only [h2]
    rw [if_neg (by simpa using h0)]
  have hd : doR m (shipJ id) = ({ m with low := q.1, high := q.2, pieces := setS m.pieces id 2 }, true) := by
    unfold doR
    rw [if_pos (millB_iff.2 hv)]
    have : stepD m (shipJ id).s (shipJ id).d (shipJ id).g = shipD m id := rfl
    rw [this, hs]
  obtain ⟨hD, k, rfl, hk, hst⟩ := ship_ok hv hs
  exact ⟨hd, ⟨hD.v, rfl, rfl, setS_len _ _ _⟩, ids_set hk (by omega) (by omega)⟩

theorem clear_hi : ∀ (r : List Int) (m : Mi), MillV m → nz m.high = r → ∃ x, Goes m (r.map shipJ) x ∧ Keep m x ∧ nz x.high = [] ∧ x.low = m.low ∧ idsIn x.pieces 0 = idsIn m.pieces 0
  | [], m, hv, h => ⟨m, Goes.nil m, ⟨hv, rfl, rfl, rfl⟩, h, rfl, rfl⟩
  | id :: r, m, hv, h => by
    obtain ⟨h0, _, hr⟩ := nz_head h
    obtain ⟨t1, t2⟩ := take_hi hv.pile (id := id) (by rw [h]; simp)
    obtain ⟨g1, g2, g3⟩ := ship_go hv t1 t2 h0
    obtain ⟨x, a1, a2, a3, a4, a5⟩ := clear_hi r _ g2.v hr
    exact ⟨x, a1.cons g1, g2.trans a2, a3, a4, a5.trans g3⟩
theorem clear_lo : ∀ (r : List Int) (m : Mi), MillV m → nz m.high = [] → nz m.low = r → ∃ x, Goes m (r.map shipJ) x ∧ Keep m x ∧ nz x.high = [] ∧ nz x.low = [] ∧ idsIn x.pieces 0 = idsIn m.pieces 0
  | [], m, hv, hh, h => ⟨m, Goes.nil m, ⟨hv, rfl, rfl, rfl⟩, hh, h, rfl⟩
  | id :: r, m, hv, hh, h => by
    obtain ⟨h0, _, hr⟩ := nz_head h
    obtain ⟨t1, t2⟩ := take_lo hv.pile hh (id := id) (by rw [h]; simp)
    obtain ⟨g1, g2, g3⟩ := ship_go hv t1 t2 h0
    obtain ⟨x, a1, a2, a3, a4, a5⟩ := clear_lo r _ g2.v hh hr
    exact ⟨x, a1.cons g1, g2.trans a2, a3, a4, a5.trans g3⟩
/-- One slab. -/
theorem slab_go {m : Mi} (hv : MillV m) (hh : nz m.high = []) (hl : nz m.low = []) {id : Int} {r : List Int} (h : idsIn m.pieces 0 = id :: r) :
    ∃ x, Goes m (slabJ id) x ∧ Keep m x ∧ nz x.high = [] ∧ nz x.low = [] ∧ idsIn x.pieces 0 = r := by
  have hin : id ∈ idsIn m.pieces 0 := by rw [h]; simp
  obtain ⟨k, hk, rfl, hs⟩ := mem_idsIn.1 hin
  have hlen := hv.len
  have hz := nz_none.1 hl
  have hzh := nz_none.1 hh
  have hp := hv.pile
  have hl1 := hp.l1
  have hset : nz (m.low.set 0 ((k : Int) + 1)) = [(k : Int) + 1] := by
    cases hlo : m.low with
    | nil => rw [hlo] at hl1; simp at hl1
    | cons a l =>
      rw [hlo] at hl
      rw [List.set_cons_zero]
      have ha : a = 0 := by have := hz 0; rw [hlo] at this; simpa using this
      subst ha
      have : nz l = [] := by simpa [nz] using hl
      have e : nz (((k : Int) + 1) :: l) = ((k : Int) + 1) :: nz l := by
        unfold nz
        rw [List.filter_cons_of_pos (by simp; omega)]
      rw [e, this]
  have hpv : PileV (m.low.set 0 ((k : Int) + 1)) m.high := by
    refine ⟨by simpa using hp.l1, by simpa using hp.l6, by simpa using hp.lh, fun x hx => ?_, ?_, fun j _ hne => absurd (hzh j) hne⟩
    · rcases List.mem_append.1 hx with hx | hx
      · rcases List.mem_or_eq_of_mem_set hx with hx | hx
        · exact hp.rng x (List.mem_append_left _ hx)
        · omega
      · exact hp.rng x (List.mem_append_right _ hx)
    · rw [nz_app, hset, hh]; simp
  have hat : atR m.low m.high false 0 = 0 := by
    have := at_lo hp (k := 0) hl1
    rw [hz] at this
    exact this
  have hput : putR m.low m.high false 0 ((k : Int) + 1) = ((m.low.set 0 ((k : Int) + 1), m.high), true) := by
    unfold putR
    rw [if_pos (pileB_iff.2 hp), hat, if_neg (by simp; omega)]
    simp only [setR, Bool.false_eq_true, if_false, Int.toNat_zero]
    rw [if_pos (pileB_iff.2 hpv)]
  have hr : rollD m ((k : Int) + 1) 0 = some { m with low := m.low.set 0 ((k : Int) + 1), high := m.high, pieces := setS m.pieces ((k : Int) + 1) 1 } := by
    unfold rollD
    have e1 : spotTop 0 = false := by decide
    have e2 : spotPlace 0 = 0 := by decide
    rw [e1, e2, hput, if_pos (by rw [Bool.and_eq_true, Bool.and_eq_true]; exact ⟨⟨by simp, hasB_iff.2 ⟨k, rfl, hk, hs⟩⟩, rfl⟩)]
  have hd : doR m ⟨2, (k : Int) + 1, 0⟩ = ({ m with low := m.low.set 0 ((k : Int) + 1), high := m.high, pieces := setS m.pieces ((k : Int) + 1) 1 }, true) := by
    unfold doR
    rw [if_pos (millB_iff.2 hv)]
    have : stepD m (⟨2, (k : Int) + 1, 0⟩ : J).s (⟨2, (k : Int) + 1, 0⟩ : J).d (⟨2, (k : Int) + 1, 0⟩ : J).g = rollD m ((k : Int) + 1) 0 := rfl
    rw [this, hr]
  have hD := roll_ok hv hr
  obtain ⟨y, hy⟩ : ∃ y, ({ m with low := m.low.set 0 ((k : Int) + 1), high := m.high, pieces := setS m.pieces ((k : Int) + 1) 1 } : Mi) = y := ⟨_, rfl⟩
  have yl : y.low = m.low.set 0 ((k : Int) + 1) := by rw [← hy]
  have yh : y.high = m.high := by rw [← hy]
  have yp : y.pieces = setS m.pieces ((k : Int) + 1) 1 := by rw [← hy]
  have ys : y.strand = m.strand := by rw [← hy]
  have yc : y.scrap = m.scrap := by rw [← hy]
  rw [hy] at hd hD
  clear hy hr
  have yv := hD.v
  have ynl : nz y.low = [(k : Int) + 1] := by rw [yl, hset]
  obtain ⟨t1, t2⟩ := take_lo yv.pile (by rw [yh]; exact hh) (id := (k : Int) + 1) (by rw [ynl]; simp)
  obtain ⟨g1, g2, g3⟩ := ship_go yv t1 t2 (by omega)
  obtain ⟨h0, _, hre⟩ := nz_head ynl
  refine ⟨_, (Goes.cons hd (Goes.cons g1 (Goes.nil _))), ⟨g2.v, g2.st.trans ys, g2.sc.trans yc, g2.len.trans (by rw [yp, setS_len])⟩, by rw [← yh] at hh; exact hh, hre, ?_⟩
  have hkl : k < (setS m.pieces ((k : Int) + 1) 1).length := by rw [setS_len]; exact hk
  have hp0 := ids_lt m.pieces 0
  rw [h, List.pairwise_cons] at hp0
  refine lt_unique (ids_lt _ _) hp0.2 fun z => ?_
  have hzz : z ∈ idsIn (setS y.pieces ((k : Int) + 1) 2) 0 ↔ z ∈ idsIn m.pieces 0 ∧ z ≠ (k : Int) + 1 := by
    rw [g3, yp, mem_idsIn, mem_idsIn, setS_len]
    constructor
    · rintro ⟨j, a1, a2, a3⟩
      rw [setS_getD hk] at a3
      split at a3
      · simp at a3
      · exact ⟨⟨j, a1, a2, a3⟩, by omega⟩
    · rintro ⟨⟨j, a1, a2, a3⟩, a4⟩
      refine ⟨j, a1, a2, ?_⟩
      rw [setS_getD hk, if_neg (by omega)]; exact a3
  rw [hzz, h, List.mem_cons]
  constructor
  · rintro ⟨a | a, b⟩
    · exact absurd a b
    · exact a
  · intro a
    have := hp0.1 z a
    exact ⟨.inr a, by omega⟩
theorem clear_slabs : ∀ (r : List Int) (m : Mi), MillV m → nz m.high = [] → nz m.low = [] → idsIn m.pieces 0 = r → ∃ x, Goes m (r.flatMap slabJ) x ∧ Keep m x ∧ nz x.high = [] ∧ nz x.low = [] ∧ idsIn x.pieces 0 = []
  | [], m, hv, hh, hl, h => ⟨m, Goes.nil m, ⟨hv, rfl, rfl, rfl⟩, hh, hl, h⟩
  | id :: r, m, hv, hh, hl, h => by
    obtain ⟨y, b1, b2, b3, b4, b5⟩ := slab_go hv hh hl h
    obtain ⟨x, a1, a2, a3, a4, a5⟩ := clear_slabs r y b2.v b3 b4 b5
    rw [List.flatMap_cons]
    exact ⟨x, b1.append a1, b2.trans a2, a3, a4, a5⟩
theorem idsTo_full {l : List Pc} {s : Int} : ∀ {k : Nat}, (∀ j, j < k → (l.getD j pc0).s = s) → (idsTo l s k).length = k
  | 0, _ => rfl
  | k + 1, h => by
    unfold idsTo
    rw [if_pos (by simpa using h k (by omega)), List.length_append, idsTo_full (fun j hj => h j (by omega))]; rfl
/-- All deeds are done, and every piece is gone. -/
theorem clear_ok {m : Mi} (hv : MillV m) : ∃ x, runTo m (clearR m) = (x, ((clearR m).length : Int)) ∧ Keep m x ∧ (idsIn x.pieces 2).length = m.pieces.length ∧ coilR x.low x.high = [] := by
  obtain ⟨a, a1, a2, a3, a4, a5⟩ := clear_hi _ m hv rfl
  obtain ⟨b, b1, b2, b3, b4, b5⟩ := clear_lo _ a a2.v a3 rfl
  obtain ⟨x, c1, c2, c3, c4, c5⟩ := clear_slabs _ b b2.v b3 b4 rfl
  have hK := (a2.trans b2).trans c2
  have hG := (a1.append b1).append c1
  have e : clearR m = (nz m.high).map shipJ ++ (nz a.low).map shipJ ++ (idsIn b.pieces 0).flatMap slabJ := by
    unfold clearR
    rw [if_pos (millB_iff.2 hv), nz_app, List.map_append, a4, b5, a5]
  have hno : nz (x.low ++ x.high) = [] := by rw [nz_app, c3, c4]; rfl
  refine ⟨x, ?_, hK, ?_, ?_⟩
  · have := hG 0
    rw [e]
    unfold runTo
    rw [this]
    simp
  · rw [← hK.len]
    refine idsTo_full fun j hj => ?_
    have h1 := pcB_iff.1 (hK.v.pcs j hj)
    have h2 : (x.pieces.getD j pc0).s ≠ 0 := fun h => by
      have : ((j : Int) + 1) ∈ idsIn x.pieces 0 := mem_idsIn.2 ⟨j, hj, rfl, h⟩
      rw [c5] at this; cases this
    have h3 : (x.pieces.getD j pc0).s ≠ 1 := fun h => by
      have : ((j : Int) + 1) ∈ nz (x.low ++ x.high) := (hK.v.ids _).2 ⟨j, hj, rfl, h⟩
      rw [hno] at this; cases this
    omega
  · rw [List.eq_nil_iff_forall_not_mem]
    intro z hz
    rw [mem_coil hK.v.pile, hno] at hz; cases hz
theorem flat_len (l : List Int) : (l.flatMap slabJ).length = 2 * l.length := by
  induction l with
  | nil => rfl
  | cons a l ih => rw [List.flatMap_cons, List.length_append, ih]; simp [slabJ]; omega
/-- They are few. -/
theorem clear_len (m : Mi) : (clearR m).length ≤ 99 := by
  unfold clearR
  split
  · rename_i h
    have hv := millB_iff.1 h
    have h1 : (nz (m.high ++ m.low)).length ≤ (m.high ++ m.low).length := List.length_filter_le _ _
    have h2 := idsTo_len m.pieces 0 m.pieces.length
    have h3 := hv.len
    have h4 := hv.pile.l6
    have h5 := hv.pile.lh
    rw [List.length_append, List.length_map, flat_len]
    rw [List.length_append] at h1
    unfold idsIn
    omega
  · simp
end Go.Proofs.YtbafifilklfafaaDoor
