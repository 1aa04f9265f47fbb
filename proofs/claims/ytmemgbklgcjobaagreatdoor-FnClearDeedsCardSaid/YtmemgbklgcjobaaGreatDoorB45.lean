/-
  Parts of the proofs over mills, of: PlainClear, DeedOwn, PlainLaw, ClearA, PlainJ, DrawS, PlainRep. Conditions: each theorem states its own.
-/
import Derived.Test.YtmemgbklgcjobaaGreatDoorB42
import Derived.Test.YtmemgbklgcjobaaGreatDoorB43
set_option linter.unusedSimpArgs false
set_option linter.unusedVariables false
set_option maxRecDepth 10000
namespace Go.Proofs.YtmemgbklgcjobaaGreatDoor
open Go.RowKit
def shipJ (id : Int) : J := ⟨4, id, 0⟩
def slabJ (id : Int) : List J := [⟨2, id, 0⟩, ⟨4, id, 0⟩]
def clearR (m : Mi) : List J := if millB m then (nz (m.high ++ m.low)).map shipJ ++ (idsIn m.pieces 0).flatMap slabJ else []
theorem nz_head : ∀ {l : List Int} {id : Int} {r : List Int}, nz l = id :: r → id ≠ 0 ∧ id ∈ l ∧ nz (l.set (l.idxOf id) 0) = r
  | [], id, r, h => by cases h
  | a :: l, id, r, h => by
    by_cases ha : a = 0
    · subst ha
      have h' : nz l = id :: r := by simpa [nz] using h
      obtain ⟨h1, h2, h3⟩ := nz_head h'
      refine ⟨h1, by simp [h2], ?_⟩
      have h0 : ((0 : Int) == id) = false := by simp; exact fun e => h1 e.symm
      rw [List.idxOf_cons, h0, cond_false, List.set_cons_succ]
      simpa [nz] using h3
    · have h' : a = id ∧ nz l = r := by simpa [nz, ha] using h
      obtain ⟨rfl, rfl⟩ := h'
      refine ⟨ha, by simp, ?_⟩
      rw [List.idxOf_cons_self, List.set_cons_zero]
      simp [nz]
theorem nz_none {l : List Int} : nz l = [] ↔ ∀ k, l.getD k 0 = 0 := by
  constructor
  · intro h k
    rcases Nat.lt_or_ge k l.length with hk | hk
    · apply Classical.byContradiction
      intro hne
      have : l.getD k 0 ∈ nz l := mem_nz.2 ⟨getD_mem hk, hne⟩
      rw [h] at this; cases this
    · rw [List.getD_eq_getElem?_getD, List.getElem?_eq_none hk]; rfl
  · intro h
    rw [List.eq_nil_iff_forall_not_mem]
    intro x hx
    obtain ⟨h1, h2⟩ := mem_nz.1 hx
    obtain ⟨k, _, rfl⟩ := mem_getD h1
    exact h2 (h k)
theorem at_lo {lo hi : List Int} (hv : PileV lo hi) {k : Nat} (hk : k < lo.length) : atR lo hi false k = lo.getD k 0 := by
  unfold atR
  rw [if_pos (by rw [Bool.and_eq_true, wi_iff]; exact ⟨pileB_iff.2 hv, by omega, by show (k : Int) ≤ (lo.length : Int) - 1; omega⟩)]
  show lo.getD (k : Int).toNat 0 = _
  rw [Int.toNat_natCast]
theorem take_lo {lo hi : List Int} (hv : PileV lo hi) (hh : nz hi = []) {id : Int} (h : id ∈ nz lo) :
    findR lo hi id = some (false, ((lo.idxOf id : Nat) : Int)) ∧ takeR lo hi false (lo.idxOf id : Nat) = ((lo.set (lo.idxOf id) 0, hi), id) := by
  obtain ⟨h1, h2⟩ := mem_nz.1 h
  have hr := hv.rng id (List.mem_append_left _ h1)
  obtain ⟨i1, i2⟩ := idx_get h1
  have hz := nz_none.1 hh
  constructor
  · unfold findR
    rw [if_pos (by rw [Bool.and_eq_true, decide_eq_true_iff]; exact ⟨pileB_iff.2 hv, by omega⟩), if_pos (hasI_iff.2 h1)]
  · unfold takeR
    have e := at_lo hv i1
    rw [i2] at e
    have hle : ∀ p : Int, ¬ 0 < atR lo hi true p := fun p hp => by
      obtain ⟨_, k, rfl, hk, e⟩ := at_row (lo := lo) (hi := hi) (t := true) (p := p) (by omega)
      rw [e] at hp
      simp only [rowR, if_true] at hp
      rw [hz] at hp; omega
    have hon : onR lo hi false (lo.idxOf id : Nat) = [] := by
      unfold onR
      rw [e, if_neg (by simp; omega), List.filter_eq_nil_iff]
      intro x hx
      simp only [List.mem_cons, List.not_mem_nil, or_false] at hx
      rcases hx with rfl | rfl <;> simp only [decide_eq_true_eq] <;> exact hle _
    rw [if_pos (pileB_iff.2 hv), e, hon, if_neg (by simp; omega)]
    simp [setR]
theorem ids_set {l : List Pc} {k : Nat} (hk : k < l.length) {s : Int} (h1 : (l.getD k pc0).s ≠ 0) (h2 : s ≠ 0) : idsIn (setS l ((k : Int) + 1) s) 0 = idsIn l 0 := by
  refine lt_unique (ids_lt _ _) (ids_lt _ _) fun x => ?_
  rw [mem_idsIn, mem_idsIn, setS_len]
  constructor
  · rintro ⟨j, a1, a2, a3⟩
    rw [setS_getD hk] at a3
    split at a3
    · exact absurd a3 h2
    · exact ⟨j, a1, a2, a3⟩
  · rintro ⟨j, a1, a2, a3⟩
    refine ⟨j, a1, a2, ?_⟩
    rw [setS_getD hk, if_neg (fun e => by subst e; exact h1 a3)]
    exact a3
theorem ship_go {m : Mi} (hv : MillV m) {id : Int} {t : Bool} {p : Int} {q : List Int × List Int} (h1 : findR m.low m.high id = some (t, p)) (h2 : takeR m.low m.high t p = (q, id)) (h0 : id ≠ 0) :
    doR m (shipJ id) = ({ m with low := q.1, high := q.2, pieces := setS m.pieces id 2 }, true) ∧ Keep m { m with low := q.1, high := q.2, pieces := setS m.pieces id 2 } ∧ idsIn (setS m.pieces id 2) 0 = idsIn m.pieces 0 := by
  have hs : shipD m id = some { m with low := q.1, high := q.2, pieces := setS m.pieces id 2 } := by
    unfold shipD
    rw [h1]
    simp only [h2]
    rw [if_neg (by simpa using h0)]
  have hd : doR m (shipJ id) = ({ m with low := q.1, high := q.2, pieces := setS m.pieces id 2 }, true) := by
    unfold doR
    rw [if_pos (millB_iff.2 hv)]
    have : stepD m (shipJ id).s (shipJ id).d (shipJ id).g = shipD m id := rfl
    rw [this, hs]
  obtain ⟨hD, k, rfl, hk, hst⟩ := ship_ok hv hs
  exact ⟨hd, ⟨hD.v, rfl, rfl, setS_len _ _ _⟩, ids_set hk (by omega) (by omega)⟩
theorem clear_hi : ∀ (r : List Int) (m : Mi), MillV m → nz m.high = r → ∃ x, Goes m (r.map shipJ) x ∧ Keep m x ∧ nz x.high = [] ∧ x.low = m.low ∧ idsIn x.pieces 0 = idsIn m.pieces 0
  | [], m, hv, h => ⟨m, Goes.nil m, ⟨hv, rfl, rfl, rfl⟩, h, rfl, rfl⟩
  | id :: r, m, hv, h => by
    obtain ⟨h0, _, hr⟩ := nz_head h
    obtain ⟨t1, t2⟩ := take_hi hv.pile (id := id) (by rw [h]; simp)
    obtain ⟨g1, g2, g3⟩ := ship_go hv t1 t2 h0
    obtain ⟨x, a1, a2, a3, a4, a5⟩ := clear_hi r _ g2.v hr
    exact ⟨x, a1.cons g1, g2.trans a2, a3, a4, a5.trans g3⟩
theorem clear_lo : ∀ (r : List Int) (m : Mi), MillV m → nz m.high = [] → nz m.low = r → ∃ x, Goes m (r.map shipJ) x ∧ Keep m x ∧ nz x.high = [] ∧ nz x.low = [] ∧ idsIn x.pieces 0 = idsIn m.pieces 0
  | [], m, hv, hh, h => ⟨m, Goes.nil m, ⟨hv, rfl, rfl, rfl⟩, hh, h, rfl⟩
  | id :: r, m, hv, hh, h => by
    obtain ⟨h0, _, hr⟩ := nz_head h
    obtain ⟨t1, t2⟩ := take_lo hv.pile hh (id := id) (by rw [h]; simp)
    obtain ⟨g1, g2, g3⟩ := ship_go hv t1 t2 h0
    obtain ⟨x, a1, a2, a3, a4, a5⟩ := clear_lo r _ g2.v hh hr
    exact ⟨x, a1.cons g1, g2.trans a2, a3, a4, a5.trans g3⟩
theorem slab_go {m : Mi} (hv : MillV m) (hh : nz m.high = []) (hl : nz m.low = []) {id : Int} {r : List Int} (h : idsIn m.pieces 0 = id :: r) :
    ∃ x, Goes m (slabJ id) x ∧ Keep m x ∧ nz x.high = [] ∧ nz x.low = [] ∧ idsIn x.pieces 0 = r := by
  have hin : id ∈ idsIn m.pieces 0 := by rw [h]; simp
  obtain ⟨k, hk, rfl, hs⟩ := mem_idsIn.1 hin
  have hlen := hv.len
  have hz := nz_none.1 hl
  have hzh := nz_none.1 hh
  have hp := hv.pile
  have hl1 := hp.l1
  have hset : nz (m.low.set 0 ((k : Int) + 1)) = [(k : Int) + 1] := by
    cases hlo : m.low with
    | nil => rw [hlo] at hl1; simp at hl1
    | cons a l =>
      rw [hlo] at hl
      rw [List.set_cons_zero]
      have ha : a = 0 := by have := hz 0; rw [hlo] at this; simpa using this
      subst ha
      have : nz l = [] := by simpa [nz] using hl
      have e : nz (((k : Int) + 1) :: l) = ((k : Int) + 1) :: nz l := by
        unfold nz
        rw [List.filter_cons_of_pos (by simp; omega)]
      rw [e, this]
  have hpv : PileV (m.low.set 0 ((k : Int) + 1)) m.high := by
    refine ⟨by simpa using hp.l1, by simpa using hp.l6, by simpa using hp.lh, fun x hx => ?_, ?_, fun j _ hne => absurd (hzh j) hne⟩
    · rcases List.mem_append.1 hx with hx | hx
      · rcases List.mem_or_eq_of_mem_set hx with hx | hx
        · exact hp.rng x (List.mem_append_left _ hx)
        · omega
      · exact hp.rng x (List.mem_append_right _ hx)
    · rw [nz_app, hset, hh]; simp
  have hat : atR m.low m.high false 0 = 0 := by
    have := at_lo hp (k := 0) hl1
    rw [hz] at this
    exact this
  have hput : putR m.low m.high false 0 ((k : Int) + 1) = ((m.low.set 0 ((k : Int) + 1), m.high), true) := by
    unfold putR
    rw [if_pos (pileB_iff.2 hp), hat, if_neg (by simp; omega)]
    simp only [setR, Bool.false_eq_true, if_false, Int.toNat_zero]
    rw [if_pos (pileB_iff.2 hpv)]
  have hr : rollD m ((k : Int) + 1) 0 = some { m with low := m.low.set 0 ((k : Int) + 1), high := m.high, pieces := setS m.pieces ((k : Int) + 1) 1 } := by
    unfold rollD
    have e1 : spotTop 0 = false := by decide
    have e2 : spotPlace 0 = 0 := by decide
    rw [e1, e2, hput, if_pos (by rw [Bool.and_eq_true, Bool.and_eq_true]; exact ⟨⟨by simp, hasB_iff.2 ⟨k, rfl, hk, hs⟩⟩, rfl⟩)]
  have hd : doR m ⟨2, (k : Int) + 1, 0⟩ = ({ m with low := m.low.set 0 ((k : Int) + 1), high := m.high, pieces := setS m.pieces ((k : Int) + 1) 1 }, true) := by
    unfold doR
    rw [if_pos (millB_iff.2 hv)]
    have : stepD m (⟨2, (k : Int) + 1, 0⟩ : J).s (⟨2, (k : Int) + 1, 0⟩ : J).d (⟨2, (k : Int) + 1, 0⟩ : J).g = rollD m ((k : Int) + 1) 0 := rfl
    rw [this, hr]
  have hD := roll_ok hv hr
  obtain ⟨y, hy⟩ : ∃ y, ({ m with low := m.low.set 0 ((k : Int) + 1), high := m.high, pieces := setS m.pieces ((k : Int) + 1) 1 } : Mi) = y := ⟨_, rfl⟩
  have yl : y.low = m.low.set 0 ((k : Int) + 1) := by rw [← hy]
  have yh : y.high = m.high := by rw [← hy]
  have yp : y.pieces = setS m.pieces ((k : Int) + 1) 1 := by rw [← hy]
  have ys : y.strand = m.strand := by rw [← hy]
  have yc : y.scrap = m.scrap := by rw [← hy]
  rw [hy] at hd hD
  clear hy hr
  have yv := hD.v
  have ynl : nz y.low = [(k : Int) + 1] := by rw [yl, hset]
  obtain ⟨t1, t2⟩ := take_lo yv.pile (by rw [yh]; exact hh) (id := (k : Int) + 1) (by rw [ynl]; simp)
  obtain ⟨g1, g2, g3⟩ := ship_go yv t1 t2 (by omega)
  obtain ⟨h0, _, hre⟩ := nz_head ynl
  refine ⟨_, (Goes.cons hd (Goes.cons g1 (Goes.nil _))), ⟨g2.v, g2.st.trans ys, g2.sc.trans yc, g2.len.trans (by rw [yp, setS_len])⟩, by rw [← yh] at hh; exact hh, hre, ?_⟩
  have hkl : k < (setS m.pieces ((k : Int) + 1) 1).length := by rw [setS_len]; exact hk
  have hp0 := ids_lt m.pieces 0
  rw [h, List.pairwise_cons] at hp0
  refine lt_unique (ids_lt _ _) hp0.2 fun z => ?_
  have hzz : z ∈ idsIn (setS y.pieces ((k : Int) + 1) 2) 0 ↔ z ∈ idsIn m.pieces 0 ∧ z ≠ (k : Int) + 1 := by
    rw [g3, yp, mem_idsIn, mem_idsIn, setS_len]
    constructor
    · rintro ⟨j, a1, a2, a3⟩
      rw [setS_getD hk] at a3
      split at a3
      · simp at a3
      · exact ⟨⟨j, a1, a2, a3⟩, by omega⟩
    · rintro ⟨⟨j, a1, a2, a3⟩, a4⟩
      refine ⟨j, a1, a2, ?_⟩
      rw [setS_getD hk, if_neg (by omega)]; exact a3
  rw [hzz, h, List.mem_cons]
  constructor
  · rintro ⟨a | a, b⟩
    · exact absurd a b
    · exact a
  · intro a
    have := hp0.1 z a
    exact ⟨.inr a, by omega⟩
theorem clear_slabs : ∀ (r : List Int) (m : Mi), MillV m → nz m.high = [] → nz m.low = [] → idsIn m.pieces 0 = r → ∃ x, Goes m (r.flatMap slabJ) x ∧ Keep m x ∧ nz x.high = [] ∧ nz x.low = [] ∧ idsIn x.pieces 0 = []
  | [], m, hv, hh, hl, h => ⟨m, Goes.nil m, ⟨hv, rfl, rfl, rfl⟩, hh, hl, h⟩
  | id :: r, m, hv, hh, hl, h => by
    obtain ⟨y, b1, b2, b3, b4, b5⟩ := slab_go hv hh hl h
    obtain ⟨x, a1, a2, a3, a4, a5⟩ := clear_slabs r y b2.v b3 b4 b5
    rw [List.flatMap_cons]
    exact ⟨x, b1.append a1, b2.trans a2, a3, a4, a5⟩
theorem idsTo_full {l : List Pc} {s : Int} : ∀ {k : Nat}, (∀ j, j < k → (l.getD j pc0).s = s) → (idsTo l s k).length = k
  | 0, _ => rfl
  | k + 1, h => by
    unfold idsTo
    rw [if_pos (by simpa using h k (by omega)), List.length_append, idsTo_full (fun j hj => h j (by omega))]; rfl
theorem clear_ok {m : Mi} (hv : MillV m) : ∃ x, runTo m (clearR m) = (x, ((clearR m).length : Int)) ∧ Keep m x ∧ (idsIn x.pieces 2).length = m.pieces.length ∧ coilR x.low x.high = [] := by
  obtain ⟨a, a1, a2, a3, a4, a5⟩ := clear_hi _ m hv rfl
  obtain ⟨b, b1, b2, b3, b4, b5⟩ := clear_lo _ a a2.v a3 rfl
  obtain ⟨x, c1, c2, c3, c4, c5⟩ := clear_slabs _ b b2.v b3 b4 rfl
  have hK := (a2.trans b2).trans c2
  have hG := (a1.append b1).append c1
  have e : clearR m = (nz m.high).map shipJ ++ (nz a.low).map shipJ ++ (idsIn b.pieces 0).flatMap slabJ := by
    unfold clearR
    rw [if_pos (millB_iff.2 hv), nz_app, List.map_append, a4, b5, a5]
  have hno : nz (x.low ++ x.high) = [] := by rw [nz_app, c3, c4]; rfl
  refine ⟨x, ?_, hK, ?_, ?_⟩
  · have := hG 0
    rw [e]
    unfold runTo
    rw [this]
    simp
  · rw [← hK.len]
    refine idsTo_full fun j hj => ?_
    have h1 := pcB_iff.1 (hK.v.pcs j hj)
    have h2 : (x.pieces.getD j pc0).s ≠ 0 := fun h => by
      have : ((j : Int) + 1) ∈ idsIn x.pieces 0 := mem_idsIn.2 ⟨j, hj, rfl, h⟩
      rw [c5] at this; cases this
    have h3 : (x.pieces.getD j pc0).s ≠ 1 := fun h => by
      have : ((j : Int) + 1) ∈ nz (x.low ++ x.high) := (hK.v.ids _).2 ⟨j, hj, rfl, h⟩
      rw [hno] at this; cases this
    omega
  · rw [List.eq_nil_iff_forall_not_mem]
    intro z hz
    rw [mem_coil hK.v.pile, hno] at hz; cases hz
theorem flat_len (l : List Int) : (l.flatMap slabJ).length = 2 * l.length := by
  induction l with
  | nil => rfl
  | cons a l ih => rw [List.flatMap_cons, List.length_append, ih]; simp [slabJ]; omega
theorem clear_len (m : Mi) : (clearR m).length ≤ 99 := by
  unfold clearR
  split
  · rename_i h
    have hv := millB_iff.1 h
    have h1 : (nz (m.high ++ m.low)).length ≤ (m.high ++ m.low).length := List.length_filter_le _ _
    have h2 := idsTo_len m.pieces 0 m.pieces.length
    have h3 := hv.len
    have h4 := hv.pile.l6
    have h5 := hv.pile.lh
    rw [List.length_append, List.length_map, flat_len]
    rw [List.length_append] at h1
    unfold idsIn
    omega
  · simp
theorem ownsRow_apart {w w' : World} {u v : Value} {base T sz n : Nat} {cs : List Value} (h : w.ownsRow base T sz v n cs) (hg : w.grownBy w' u.ownBlock) (ha : Apart u v) : w'.ownsRow base T sz v n cs :=
  ownsRow_grown h hg fun k hk e => ha k e.symm hk
def DeedsNew (base : Nat) (js : List J) (w : World) (e : Ending) (w' : World) : Prop := ∃ v, e = .returned v ∧ w'.ownsRow base 48 3 v js.length (flatD js) ∧ Below base w w'
theorem slab_take {l : List Int} {k : Nat} (hk : k < l.length) : (l.take (k + 1)).flatMap slabJ = (l.take k).flatMap slabJ ++ slabJ l[k] := by
  rw [List.take_succ_eq_append_getElem hk, List.flatMap_append]; simp
theorem clear_law {m : Mi} (h : millB m = true) : (runR m (clearR m)).2 = ((clearR m).length : Int) ∧ (piecesR (runR m (clearR m)).1 2).length = m.pieces.length ∧ coilR (runR m (clearR m)).1.low (runR m (clearR m)).1.high = [] ∧ (runR m (clearR m)).1.strand = m.strand ∧ (runR m (clearR m)).1.scrap = m.scrap := by
  obtain ⟨x, h1, h2, h3, h4⟩ := clear_ok (millB_iff.1 h)
  rw [run_good h (clear_len m), h1]
  refine ⟨rfl, ?_, h4, h2.st, h2.sc⟩
  unfold piecesR
  rw [if_pos (millB_iff.2 h2.v)]
  exact h3
theorem clear_bad {m : Mi} (h : millB m = false) : clearR m = [] := by
  unfold clearR
  rw [if_neg (by simp [h])]
set_option maxHeartbeats 3200000 in
theorem clear_impl (s p l h : Value) (m : Mi) (w : World) (H : MillIn 0 w.heap.size w s p l h m) :
    Calls Tryz.prog 47 #[millV s p l h m] w (DeedsNew w.heap.size (clearR m) w) := by
  obtain ⟨ao1, cap1, rfl, -, -, -, -⟩ := id H.store
  obtain ⟨ao2, cap2, rfl, -, -, -, -⟩ := id H.pieces
  obtain ⟨ao3, cap3, rfl, -, -, -, -⟩ := id H.low
  obtain ⟨ao4, cap4, rfl, -, -, -, -⟩ := id H.high
  have hpl := H.pieces.len
  obtain ⟨j0, hj0, hzj, hj1, hj2⟩ := info_parts info_J
  unfold millV
  go_enter Tryz.func47, Tryz.ntmps47
  go_wp2_with fail
  refine calls_at fun wx hwx => ?_
  have A_0 : RowL wx (w.heap.size) 31 [.slice ao1 m.store.length cap1, .int .i64 m.rule.lc, .int .i64 m.rule.hc, .int .i64 m.rule.lm, .int .i64 m.rule.hm, .int .i64 m.rule.ls, .int .i64 m.rule.hs, .int .i64 m.strand, .slice ao2 m.pieces.length cap2, .slice ao3 m.low.length cap3, .slice ao4 m.high.length cap4, .int .i64 m.scrap] := by rw [hwx]; exact (RowL.new _ 31 [.slice ao1 m.store.length cap1, .int .i64 m.rule.lc, .int .i64 m.rule.hc, .int .i64 m.rule.lm, .int .i64 m.rule.hm, .int .i64 m.rule.ls, .int .i64 m.rule.hs, .int .i64 m.strand, .slice ao2 m.pieces.length cap2, .slice ao3 m.low.length cap3, .slice ao4 m.high.length cap4, .int .i64 m.scrap])
  have B_0 : Below w.heap.size w wx := by rw [hwx]; go_grown
  clear hwx
  have hL0 := A_0.lt
  have VV_0 := hide (H.below B_0)
  have KV := mill_impl _ _ _ _ m wx VV_0.out.all
  cases hv : millB m with
  | false =>
    rw [hv] at KV
    refine KV.mono ?_
    rintro e w1 ⟨rfl, hb⟩
    have HB := hide (Below.step B_0 hb (Nat.le_refl _))
    have HF := hide (show clearR m = [] by simp [clearR, hv])
    clear hb KV hv
    go_wp2_with fail
    go_ret
    exact ⟨_, rfl, by rw [HF.out]; exact World.ownsRow_nil _ _ _ _, HB.out⟩
  | true =>
    rw [hv] at KV
    have HF := hide (show clearR m = (nz (m.high ++ m.low)).map shipJ ++ (idsIn m.pieces 0).flatMap slabJ by simp [clearR, hv])
    have MV := millB_iff.1 hv
    have h5 := MV.len
    have q1 := MV.pile.l1
    have q2 := MV.pile.l6
    have q3 := MV.pile.lh
    clear MV hv
    refine (KV).mono ?_
    rintro e w1 ⟨rfl, hb⟩
    have A_1 := A_0.below hb A_0.lt
    have VV_1 := hide (VV_0.out.below hb)
    have B_1 := hide (Below.step B_0 hb (Nat.le_refl _))
    have hz1 := hb.size
    clear hb
    have cA9 := A_1.c 9 rfl
    have cA10 := A_1.c 10 rfl
    clear KV
    have hzw := B_1.out.size
    go_wp2_with fail
    refine calls_at fun y hwy => ?_
    have R2 : RowL y w1.heap.size 27 [.slice ao4 m.high.length cap4, .slice ao3 m.low.length cap3] := by rw [hwy]; exact RowL.new _ _ _
    have hby : Below w1.heap.size w1 y := by rw [hwy]; go_grown
    clear hwy cA9 cA10
    have A_y := A_1.below hby A_1.lt
    have VV_y := hide (VV_1.out.below hby)
    have B_y := hide (Below.step B_1.out hby (Nat.le_refl _))
    have hLy := A_y.lt
    refine (concat_any _ _ _ _ m.high m.low y R2 VV_y.out.all.high VV_y.out.all.low (by omega) (by omega)).mono ?_
    rintro e w2 ⟨v, rfl, hown, hb2⟩
    have hat := ownI_at hown rfl hb2.size
    have A_2 := A_y.below hb2 hLy
    have VV_2 := hide (VV_y.out.below hb2)
    have B_2 := hide (Below.step B_y.out hb2 (Nat.le_refl _))
    have hL2 := A_2.lt
    have hzw2 := B_2.out.size
    obtain ⟨ids, hids⟩ : ∃ ids, m.high ++ m.low = ids := ⟨_, rfl⟩
    have hil : ids.length = m.high.length + m.low.length := by rw [← hids]; simp
    rw [hids] at hat hown HF
    have hl3 : ids.length ≤ 20 := by omega
    have HAT := hide hat
    obtain ⟨aov, capv, rfl, -, -⟩ := own_slice hown
    clear hown hb2 hids hat hil hby
    obtain ⟨aov', capv', e', -, -, -, hcv⟩ := HAT.out
    simp only [Value.slice.injEq] at e'
    obtain ⟨rfl, -, rfl⟩ := e'
    have HCV := hide hcv
    clear hcv
    go_wp2_with fail
    go_loopw [3, 5, 20] (fun o _ i wr => ∃ k : Nat, k ≤ ids.length ∧ i = .int .i64 k ∧ Below w2.heap.size w2 wr ∧ wr.ownsRow w2.heap.size 48 3 o ((nz (ids.take k)).map shipJ).length (flatD ((nz (ids.take k)).map shipJ))) (fun _ _ i _ => ids.length - (intOf i).toNat)
    case atStart => exact ⟨0, Nat.zero_le _, rfl, Below.refl _ _, World.ownsRow_nil _ _ _ _⟩
    case round =>
      obtain ⟨k, hk, rfl, hb, hown⟩ := hrel
      have HB := hide hb
      have HO := hide hown
      have hnl := nz_len (ids.take k)
      have htk : (ids.take k).length ≤ k := List.length_take_le _ _
      have hszr := hb.size
      obtain ⟨aow, capw, rfl, -, -⟩ := own_slice hown
      have A_r := A_2.below hb hL2
      have cA8 := A_r.c 8 rfl
      have HAr := hide A_r
      clear hown A_r
      by_cases hlt : k < ids.length
      · obtain ⟨b, o, rfl, hx1, hx2, hcs⟩ := HCV.out (by omega)
        obtain ⟨r1, -⟩ := hcs k hlt
        rw [← hb.cell (p := ⟨b, _, none⟩) (by simpa using by omega)] at r1
        have HN := hide (nz_take hlt)
        obtain ⟨x, hx⟩ : ∃ x, ids[k] = x := ⟨_, rfl⟩
        rw [hx] at r1 HN
        have hkI : (k : Int) < (ids.length : Int) := by omega
        clear hcs hx hb
        obtain ⟨D, hD⟩ : ∃ D, (nz (ids.take k)).map shipJ = D := ⟨_, rfl⟩
        have hDl : D.length ≤ 20 := by rw [← hD]; simp; omega
        rw [hD] at HO ⊢
        by_cases hq : x = 0
        · have hqB : (x != 0) = false := by simp [hq]
          have HN2 := hide (show (nz (ids.take (k + 1))).map shipJ = D by rw [HN.out, if_pos hq, hD])
          clear hq hD
          go_wp2_with fail
          go_roundw
          case rel => exact ⟨k + 1, by omega, by go_num, HB.out, by rw [HN2.out]; exact HO.out⟩
          case measure => simp [intOf]; omega
        · have hqB : (x != 0) = true := by simp [hq]
          have HN2 := hide (show (nz (ids.take (k + 1))).map shipJ = D ++ [shipJ x] by rw [HN.out, if_neg hq, List.map_append, hD]; rfl)
          clear hq hD
          go_wp2_with (at_builtin; refine wpList_append_view rfl _ _ 39 rfl w2.heap.size 48 j0 _ 3 24 Tryz.underlying39 hj0 hzj hj1 hj2 rfl (by decide) _ _ _ rfl (HO.out.alloc _) (.slice (some ⟨wr.heap.size, 0, none⟩) 1 1) 1 [.int .i64 4, .int .i64 x, .int .i64 0] rfl ?c0 ?c1 ?c2 ?c3 ?_)
          case c0 => exact Source.lit wr [.int .i64 4, .int .i64 x, .int .i64 0] 3 48 1 rfl (fun u hu => by simp at hu; rcases hu with rfl | rfl | rfl <;> rfl) 1
          case c1 => unfold maxLen; omega
          case c2 => omega
          case c3 => simp; omega
          intro v2 w3 hown2 hgrow2 _
          have hB3 := (HB.out.alloc hszr (.cells #[.int .i64 4, .int .i64 x, .int .i64 0] 48)).trans (Below.grow hgrow2 (HO.out.alloc _) (Nat.le_refl _) (by simp; omega))
          have HB3 := hide hB3
          have HO3 := hide (show w3.ownsRow w2.heap.size 48 3 v2 ((nz (ids.take (k + 1))).map shipJ).length (flatD ((nz (ids.take (k + 1))).map shipJ)) by rw [HN2.out, flatD_append, List.length_append]; exact hown2)
          clear hown2 hgrow2 hB3
          go_wp2_with fail
          go_roundw
          case rel => exact ⟨k + 1, by omega, by go_num, HB3.out, HO3.out⟩
          case measure => simp [intOf]; omega
      · obtain rfl : k = ids.length := by omega
        rw [List.take_of_length_le (Nat.le_refl _)] at HO hnl ⊢
        have HBO := hide (Below.step B_2.out hb (Nat.le_refl _))
        have VO := hide (VV_2.out.below hb)
        clear hb
        obtain ⟨D1, hD1⟩ : ∃ D, (nz ids).map shipJ = D := ⟨_, rfl⟩
        have hDl : D1.length ≤ 20 := by rw [← hD1]; simp; omega
        rw [hD1] at HO HF ⊢
        clear hD1
        obtain ⟨wo, rfl⟩ : ∃ wo : World, wo = wr := ⟨_, rfl⟩
        go_wp2_with fail
        refine (idsIn_any _ m.pieces 0 _ _ wo VO.out.pieces (by omega)).mono ?_
        rintro e w5 ⟨v5, rfl, hown5, hb5⟩
        obtain ⟨zs, hzs⟩ : ∃ zs, idsIn m.pieces 0 = zs := ⟨_, rfl⟩
        have hzl : zs.length ≤ 30 := by rw [← hzs]; exact Nat.le_trans (idsTo_len m.pieces 0 m.pieces.length) h5
        rw [hzs] at hown5 HF
        have HI5 := hide hown5
        have HO5 := hide (ownsRow_below HO.out hb5 (Nat.le_refl _))
        have HAP := hide (apart_new HO.out hown5 (Nat.le_refl _))
        have HB5 := hide (Below.step HBO.out hb5 (Nat.le_refl _))
        have hz5 := hb5.size
        obtain ⟨ao5, cap5, rfl, -, -⟩ := own_slice hown5
        clear hown5 hb5 hzs cA8
        go_wp2_with fail
        go_loopw [3, 7, 36] (fun o _ i wr => ∃ k : Nat, k ≤ zs.length ∧ i = .int .i64 k ∧ Below w2.heap.size w5 wr ∧ wr.ownsRow w2.heap.size 48 3 o (D1 ++ (zs.take k).flatMap slabJ).length (flatD (D1 ++ (zs.take k).flatMap slabJ)) ∧ wr.ownsRow wo.heap.size 3 1 (.slice ao5 zs.length cap5) zs.length (flatI zs) ∧ Apart o (.slice ao5 zs.length cap5)) (fun _ _ i _ => zs.length - (intOf i).toNat)
        case atStart => exact ⟨0, Nat.zero_le _, rfl, Below.refl _ _, by simpa using HO5.out, HI5.out, HAP.out⟩
        case round =>
          obtain ⟨k, hk, rfl, hb, hown, hids, hap⟩ := hrel
          have HB := hide hb
          have HO := hide hown
          have HI := hide hids
          have HA := hide hap
          have hszr := hb.size
          obtain ⟨aow, capw, rfl, -, -⟩ := own_slice hown
          clear hown hap
          obtain ⟨_, _, e1, -, -, -, hcl⟩ := ownI_at hids rfl (by omega)
          simp only [Value.slice.injEq] at e1
          obtain ⟨rfl, -, rfl⟩ := e1
          clear hids hb
          obtain ⟨D, hD⟩ : ∃ D, D1 ++ (zs.take k).flatMap slabJ = D := ⟨_, rfl⟩
          have hDl : D.length ≤ 80 := by
            rw [← hD, List.length_append, flat_len]
            have := List.length_take_le k zs
            omega
          rw [hD] at HO HA ⊢
          by_cases hlt : k < zs.length
          · obtain ⟨b, o, rfl, hx1, hx2, hcs⟩ := hcl (by omega)
            obtain ⟨r1, -⟩ := hcs k hlt
            obtain ⟨x, hx⟩ : ∃ x, zs[k] = x := ⟨_, rfl⟩
            rw [hx] at r1
            have hkI : (k : Int) < (zs.length : Int) := by omega
            have HN2 := hide (show D1 ++ (zs.take (k + 1)).flatMap slabJ = D ++ slabJ x by rw [slab_take hlt, hx, ← List.append_assoc, hD])
            clear hcs hx hD hcl
            go_wp2_with (at_builtin; refine wpList_append_view rfl _ _ 39 rfl w2.heap.size 48 j0 _ 3 24 Tryz.underlying39 hj0 hzj hj1 hj2 rfl (by decide) _ _ _ rfl (HO.out.alloc _) (.slice (some ⟨wr.heap.size, 0, none⟩) 2 2) 2 [.int .i64 2, .int .i64 x, .int .i64 0, .int .i64 4, .int .i64 x, .int .i64 0] rfl ?c0 ?c1 ?c2 ?c3 ?_)
            case c0 => exact Source.lit wr [.int .i64 2, .int .i64 x, .int .i64 0, .int .i64 4, .int .i64 x, .int .i64 0] 3 48 2 rfl (fun u hu => by simp at hu; rcases hu with rfl | rfl | rfl | rfl | rfl | rfl <;> rfl) 2
            case c1 => unfold maxLen; omega
            case c2 => omega
            case c3 => simp; omega
            intro v2 w3 hown2 hgrow2 h4
            have hB3 := (HB.out.alloc (by omega) (.cells #[.int .i64 2, .int .i64 x, .int .i64 0, .int .i64 4, .int .i64 x, .int .i64 0] 48)).trans (Below.grow hgrow2 (HO.out.alloc _) (Nat.le_refl _) (by simp; omega))
            have HB3 := hide hB3
            have HI3 := hide (ownsRow_apart (HI.out.alloc _) hgrow2 HA.out)
            have HA3 := hide (HA.out.grow (HI.out.alloc (.cells #[.int .i64 2, .int .i64 x, .int .i64 0, .int .i64 4, .int .i64 x, .int .i64 0] 48)) (by simpa using h4))
            have HO3 := hide (show w3.ownsRow w2.heap.size 48 3 v2 (D1 ++ (zs.take (k + 1)).flatMap slabJ).length (flatD (D1 ++ (zs.take (k + 1)).flatMap slabJ)) by rw [HN2.out, flatD_append, List.length_append]; exact hown2)
            clear hown2 hgrow2 hB3 h4
            go_wp2_with fail
            go_roundw
            case rel => exact ⟨k + 1, by omega, by go_num, HB3.out, HO3.out, HI3.out, HA3.out⟩
            case measure => simp [intOf]; omega
          · obtain rfl : k = zs.length := by omega
            have HR := hide (show clearR m = D by rw [HF.out, ← hD, List.take_of_length_le (Nat.le_refl _)])
            have HO4 := hide (ownsRow_mono HO.out hzw2)
            have HB4 := hide (HB5.out.trans (HB.out.mono hzw2))
            clear hcl hD
            go_wp2_with fail
            go_ret
            exact ⟨_, rfl, by rw [HR.out]; exact HO4.out, HB4.out⟩
theorem rj_good (s : ByteArray) : ∀ d ∈ (rjR s).1, goodJ d = true := (rj_back 99 s.data.toList).1
set_option maxHeartbeats 800000 in
theorem sameDeeds_same (v v' : Value) (xs : List J) (lo hi lo' hi' : Nat) (w : World) (h : JobsAt lo hi w v xs) (h' : JobsAt lo' hi' w v' xs) :
    Calls Tryz.prog 48 #[v, v'] w fun e w' => e = .returned (.bool true) ∧ Below w.heap.size w w' := by
  have hxl := h.len
  obtain ⟨ao, cap, rfl, hlc, hcap, hhi, hc⟩ := h
  obtain ⟨ao', cap', rfl, hlc', hcap', hhi', hc'⟩ := h'
  have Hc := hide hc
  have Hc' := hide hc'
  clear hc hc'
  go_enter Tryz.func48, Tryz.ntmps48
  have hlB : ((xs.length : Int) != (xs.length : Int)) = false := by simp
  go_wp2_with fail
  go_loopw [5] (fun i wr => ∃ k : Nat, k ≤ xs.length ∧ i = .int .i64 k ∧ Below w.heap.size w wr) (fun i _ => xs.length - (intOf i).toNat)
  case atStart => exact ⟨0, Nat.zero_le _, rfl, Below.refl _ _⟩
  case round =>
    obtain ⟨k, hk, rfl, hb⟩ := hrel
    by_cases hlt : k < xs.length
    · obtain ⟨b, o, rfl, -, hbl, hcs⟩ := Hc.out (by omega)
      obtain ⟨b', o', rfl, -, hbl', hcs'⟩ := Hc'.out (by omega)
      obtain ⟨⟨h1, h2, h3⟩, -⟩ := hcs k hlt
      obtain ⟨⟨h1', h2', h3'⟩, -⟩ := hcs' k hlt
      rw [← hb.cell (p := ⟨b, _, none⟩) (Nat.lt_of_lt_of_le hbl hhi)] at h1 h2 h3
      rw [← hb.cell (p := ⟨b', _, none⟩) (Nat.lt_of_lt_of_le hbl' hhi')] at h1' h2' h3'
      obtain ⟨x, hx⟩ : ∃ x, xs[k].s = x := ⟨_, rfl⟩
      obtain ⟨y, hy⟩ : ∃ y, xs[k].d = y := ⟨_, rfl⟩
      obtain ⟨z, hz⟩ : ∃ z, xs[k].g = z := ⟨_, rfl⟩
      rw [hx] at h1 h1'
      rw [hy] at h2 h2'
      rw [hz] at h3 h3'
      have hkI : (k : Int) < (xs.length : Int) := by omega
      have HB := hide hb
      clear hcs hcs' hx hy hz hb
      go_wp2_with fail
      go_quiet (fail)
      go_wp2_with fail
      go_roundw
      case rel => exact ⟨k + 1, by omega, by go_num, below_drewN HB.out _⟩
      case measure => simp [intOf]; omega
    · have HB := hide hb
      clear hb
      go_wp2_with fail
      go_ret
      exact ⟨rfl, HB.out⟩
theorem clear_small {m : Mi} (h : millB m = true) : ∀ j ∈ clearR m, j.d ≤ 9223372036854775807 ∧ j.g ≤ 9223372036854775807 := by
  have hv := millB_iff.1 h
  intro j hj
  unfold clearR at hj
  rw [if_pos h, List.mem_append] at hj
  rcases hj with hj | hj
  · obtain ⟨x, hx, rfl⟩ := List.mem_map.1 hj
    have h1 := (mem_nz.1 hx).1
    have h2 : x ∈ m.low ++ m.high := by
      simp only [List.mem_append] at h1 ⊢
      exact h1.symm
    have h3 := hv.pile.rng x h2
    exact ⟨show x ≤ 9223372036854775807 by omega, show (0 : Int) ≤ 9223372036854775807 by omega⟩
  · obtain ⟨x, hx, hj⟩ := List.mem_flatMap.1 hj
    obtain ⟨k, hk, rfl, -⟩ := mem_idsIn.1 hx
    have h3 := hv.len
    simp only [slabJ, List.mem_cons, List.not_mem_nil, or_false] at hj
    rcases hj with rfl | rfl
    · exact ⟨show ((k : Int) + 1) ≤ 9223372036854775807 by omega, show (0 : Int) ≤ 9223372036854775807 by omega⟩
    · exact ⟨show ((k : Int) + 1) ≤ 9223372036854775807 by omega, show (0 : Int) ≤ 9223372036854775807 by omega⟩
theorem good_small {j : J} (h : goodJ j = true) : j.d ≤ 9223372036854775807 ∧ j.g ≤ 9223372036854775807 := by
  obtain ⟨-, h1, h2, -⟩ := good_parts (k := j.s) (o := j.d) (t := j.g) (s := dtJ j) (by simpa [goodJ] using h) rfl
  rw [wi_iff] at h1 h2
  omega
theorem rj_small (s : ByteArray) : ∀ j ∈ (rjR s).1, j.d ≤ 9223372036854775807 ∧ j.g ≤ 9223372036854775807 := fun j hj => good_small (rj_good s j hj)
def replayR (m : Mi) (s : ByteArray) : Mi × Int := if millB m then ((runR m (rjR s).1).1, ((rjR s).1.length : Int)) else (mi0, 0)
theorem replay_bad {m : Mi} (h : millB m = false) (s : ByteArray) : replayR m s = (mi0, 0) := by
  unfold replayR
  rw [if_neg (by simp [h])]
theorem replay_good {m : Mi} (h : millB m = true) (s : ByteArray) : replayR m s = ((runR m (rjR s).1).1, ((rjR s).1.length : Int)) := by
  unfold replayR
  rw [if_pos h]
end Go.Proofs.YtmemgbklgcjobaaGreatDoor
