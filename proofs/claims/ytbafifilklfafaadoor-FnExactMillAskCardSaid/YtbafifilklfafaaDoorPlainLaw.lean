/-
  What the laws over mills ask, in plain Lean. No program in sight.
-/
import Derived.Test.YtbafifilklfafaaDoorPlainClear
namespace Go.Proofs.YtbafifilklfafaaDoor
open Go.RowKit

theorem valid_ids {m : Mi} (h : millB m = true) : piecesR m 1 = coilR m.low m.high := by
  unfold piecesR
  rw [if_pos h]
  have hv := millB_iff.1 h
  exact lt_unique (ids_lt _ _) (coil_lt _ _) fun x => by rw [mem_coil hv.pile, hv.ids]; exact mem_idsIn
theorem valid_dry {m : Mi} (h : millB m = true) : millB { m with strand := 0 } = true := by
  have hv := millB_iff.1 h
  exact millB_iff.2 ⟨hv.store, hv.rule, Int.le_refl _, by show (0 : Int) ≤ 48; omega, hv.len, hv.pile, hv.sc0, hv.sc1, hv.pcs, hv.ids⟩
theorem mi0_no : millB mi0 = false := by rfl
/-- One ton more of the first stuff. -/
def moreSt : List St → List St
  | [] => []
  | s :: r => { s with k := s.k + 1 } :: r
theorem moreSt_len (l : List St) : (moreSt l).length = l.length := by cases l <;> rfl
theorem moreSt_ok {l : List St} (h : stsB l = true) (hl : 0 < l.length) (h9 : (l.getD 0 st0).k < 9) : stsB (moreSt l) = true := by
  obtain _ | ⟨s, r⟩ := l
  · cases hl
  · simp only [stsB, moreSt, List.all_cons, Bool.and_eq_true, List.length_cons, decide_eq_true_iff] at h ⊢
    refine ⟨decide_eq_true h.1, ?_, h.2.2⟩
    have := stB_iff.1 h.2.1
    have h9 : s.k < 9 := h9
    exact stB_iff.2 ⟨this.1, this.2.1, this.2.2.1, this.2.2.2.1, by show 0 ≤ s.k + 1; omega, by show s.k + 1 ≤ 9; omega⟩
theorem stock_more {l : List St} (hl : 0 < l.length) : ∀ n, stockTo (moreSt l) (n + 1) = stockTo l (n + 1) + 4
  | 0 => by
    obtain _ | ⟨s, r⟩ := l
    · cases hl
    · simp [stockTo, moreSt]; omega
  | n + 1 => by
    have ih := stock_more hl n
    obtain _ | ⟨s, r⟩ := l
    · cases hl
    · rw [show stockTo (moreSt (s :: r)) (n + 1 + 1) = stockTo (moreSt (s :: r)) (n + 1) + 4 * ((moreSt (s :: r)).getD (n + 1) st0).k from rfl, show stockTo (s :: r) (n + 1 + 1) = stockTo (s :: r) (n + 1) + 4 * ((s :: r).getD (n + 1) st0).k from rfl, ih]
      have : (moreSt (s :: r)).getD (n + 1) st0 = (s :: r).getD (n + 1) st0 := by simp [moreSt]
      rw [this]; omega
theorem mass_more {m : Mi} (h : millB m = true) (hl : 0 < m.store.length) (h9 : (m.store.getD 0 st0).k < 9) : massR { m with store := moreSt m.store } = massI m + 4 := by
  have hv := millB_iff.1 h
  unfold massR
  have h2 : millB { m with store := moreSt m.store } = true := millB_iff.2 ⟨moreSt_ok hv.store hl h9, hv.rule, hv.st0, hv.st1, hv.len, hv.pile, hv.sc0, hv.sc1, hv.pcs, hv.ids⟩
  rw [if_pos h2]
  unfold massI
  simp only [moreSt_len]
  obtain ⟨n, hn⟩ : ∃ n, m.store.length = n + 1 := ⟨m.store.length - 1, by omega⟩
  rw [hn, stock_more hl]; omega
theorem long_bd2 {l : List Pc} (h : ∀ k, k < l.length → pcB (l.getD k pc0) = true) : ∀ n, n ≤ l.length → 0 ≤ longTo l n ∧ longTo l n ≤ 60 * n
  | 0, _ => by simp [longTo]
  | n + 1, hn => by
    have := long_bd2 h n (by omega)
    have := (pcB_iff.1 (h n (by omega))).1
    simp only [longTo]; omega
theorem mass_ge {m : Mi} (h : MillV m) : m.strand + m.scrap ≤ massI m ∧ massI m ≤ 10000 ∧ 0 ≤ massI m := by
  have h1 := stock_bd h.store m.store.length (Nat.le_refl _)
  have h2 := long_bd2 h.pcs m.pieces.length (Nat.le_refl _)
  have h3 := stsB_len h.store
  have h4 := h.len
  have h5 := h.st0
  have h6 := h.st1
  have h7 := h.sc0
  have h8 := h.sc1
  unfold massI
  omega
/-- Every piece is in one of the three states. -/
theorem ids_three {l : List Pc} (h : ∀ k, k < l.length → pcB (l.getD k pc0) = true) : ∀ n, n ≤ l.length → (idsTo l 0 n).length + (idsTo l 1 n).length + (idsTo l 2 n).length = n
  | 0, _ => rfl
  | n + 1, hn => by
    have ih := ids_three h n (by omega)
    have hs := (pcB_iff.1 (h n (by omega))).2
    have : (l.getD n pc0).s = 0 ∨ (l.getD n pc0).s = 1 ∨ (l.getD n pc0).s = 2 := by omega
    unfold idsTo
    rcases this with e | e | e <;> rw [e] <;> simp <;> omega
theorem pieces_three {m : Mi} (h : millB m = true) : (piecesR m 0).length + (piecesR m 1).length + (piecesR m 2).length = m.pieces.length := by
  unfold piecesR
  rw [if_pos h, if_pos h, if_pos h]
  exact ids_three (millB_iff.1 h).pcs _ (Nat.le_refl _)
theorem pieces_lt (m : Mi) (s : Int) : (piecesR m s).Pairwise (· < ·) := by
  unfold piecesR
  split
  · exact ids_lt _ _
  · exact List.Pairwise.nil
theorem pieces_few {m : Mi} (s : Int) : (piecesR m s).length ≤ 30 := by
  unfold piecesR
  split
  · rename_i h
    have := idsTo_len m.pieces s m.pieces.length
    have := (millB_iff.1 h).len
    unfold idsIn; omega
  · exact Nat.zero_le _
/-- What a deed's law asks. -/
theorem do_law {m : Mi} (hv : millB m = true) {d : J} (h : (doR m d).2 = true) :
    Done m (doR m d).1 ∧ millB (doR m d).1 = true ∧ massR (doR m d).1 = massR m := by
  have hd := do_ok (millB_iff.1 hv) (show doR m d = ((doR m d).1, true) by rw [← h])
  have h2 := millB_iff.2 hd.v
  refine ⟨hd, h2, ?_⟩
  unfold massR
  rw [if_pos h2, if_pos hv, hd.mass]
theorem do_bad {m : Mi} (hv : millB m = false) (d : J) : doR m d = (mi0, false) := by
  unfold doR
  rw [if_neg (by simp [hv])]
theorem do_same {m : Mi} {d : J} (h : (doR m d).2 = false) : (doR m d).1 = m ∨ millB m = false := by
  cases hv : millB m
  · exact .inr rfl
  · exact .inl (do_no (millB_iff.1 hv) (show doR m d = ((doR m d).1, false) by rw [← h]))
theorem run_bad {m : Mi} {l : List J} (h : millB m = false ∨ 99 < l.length) : runR m l = (mi0, 0) := by
  unfold runR
  rw [if_neg]
  rw [Bool.and_eq_true, decide_eq_true_iff]
  rintro ⟨h1, h2⟩
  rcases h with h | h
  · rw [h] at h1; cases h1
  · omega
theorem run_good {m : Mi} {l : List J} (h : millB m = true) (hl : l.length ≤ 99) : runR m l = runTo m l := by
  unfold runR
  rw [if_pos]
  simp [h, hl]
theorem run_valid {m : Mi} {l : List J} (h : millB m = true) (hl : l.length ≤ 99) : millB (runR m l).1 = true ∧ massR (runR m l).1 = massR m := by
  rw [run_good h hl]
  obtain ⟨h1, h2, -⟩ := run_v l (m, 0) (millB_iff.1 h)
  have h3 := millB_iff.2 h1
  refine ⟨h3, ?_⟩
  unfold massR
  rw [if_pos h, if_pos (show millB (runTo m l).1 = true from h3)]
  exact h2
theorem run_half {m : Mi} {l : List J} (h : millB m = true) (hl : l.length ≤ 99) (k : Nat) :
    (runR (runR m (l.take k)).1 (l.drop k)).1 = (runR m l).1 ∧ (runR m (l.take k)).2 + (runR (runR m (l.take k)).1 (l.drop k)).2 = (runR m l).2 := by
  have h1 : (l.take k).length ≤ 99 := by rw [List.length_take]; omega
  have h2 : (l.drop k).length ≤ 99 := by rw [List.length_drop]; omega
  have h3 := (run_valid h h1).1
  have e := run_append m (l.take k) (l.drop k)
  rw [List.take_append_drop] at e
  rw [run_good h3 h2, run_good h h1, run_good h hl, e]
  exact ⟨rfl, rfl⟩
theorem run_num (m : Mi) (l : List J) : 0 ≤ (runR m l).2 ∧ (runR m l).2 ≤ l.length := by
  unfold runR
  split
  · have h := run_bd l (m, 0)
    unfold runTo
    simp only at h
    omega
  · exact ⟨Int.le_refl _, by show (0 : Int) ≤ _; omega⟩
/-- What the law of a clearance asks. -/
theorem clear_law {m : Mi} (h : millB m = true) : (runR m (clearR m)).2 = ((clearR m).length : Int) ∧ (piecesR (runR m (clearR m)).1 2).length = m.pieces.length ∧ coilR (runR m (clearR m)).1.low (runR m (clearR m)).1.high = [] ∧ (runR m (clearR m)).1.strand = m.strand ∧ (runR m (clearR m)).1.scrap = m.scrap := by
  obtain ⟨x, h1, h2, h3, h4⟩ := clear_ok (millB_iff.1 h)
  rw [run_good h (clear_len m), h1]
  refine ⟨rfl, ?_, h4, h2.st, h2.sc⟩
  unfold piecesR
  rw [if_pos (millB_iff.2 h2.v)]
  exact h3
theorem clear_bad {m : Mi} (h : millB m = false) : clearR m = [] := by
  unfold clearR
  rw [if_neg (by simp [h])]
end Go.Proofs.YtbafifilklfafaaDoor
