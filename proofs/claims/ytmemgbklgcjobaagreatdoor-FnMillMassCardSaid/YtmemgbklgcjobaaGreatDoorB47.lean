/-
  Parts of the proofs over mills, of: PlainLaw, DrawML, MassB, SameM. Conditions: each theorem states its own.
-/
import Derived.Test.YtmemgbklgcjobaaGreatDoorB32
import Derived.Test.YtmemgbklgcjobaaGreatDoorB41
import Derived.Test.YtmemgbklgcjobaaGreatDoorB42
set_option linter.unusedSimpArgs false
set_option linter.unusedVariables false
set_option maxRecDepth 10000
namespace Go.Proofs.YtmemgbklgcjobaaGreatDoor
open Go.RowKit
theorem valid_ids {m : Mi} (h : millB m = true) : piecesR m 1 = coilR m.low m.high := by
  unfold piecesR
  rw [if_pos h]
  have hv := millB_iff.1 h
  exact lt_unique (ids_lt _ _) (coil_lt _ _) fun x => by rw [mem_coil hv.pile, hv.ids]; exact mem_idsIn
theorem valid_dry {m : Mi} (h : millB m = true) : millB { m with strand := 0 } = true := by
  have hv := millB_iff.1 h
  exact millB_iff.2 ⟨hv.store, hv.rule, Int.le_refl _, by show (0 : Int) ≤ 48; omega, hv.len, hv.pile, hv.sc0, hv.sc1, hv.pcs, hv.ids⟩
theorem mi0_no : millB mi0 = false := by rfl
def moreSt : List St → List St
  | [] => []
  | s :: r => { s with k := s.k + 1 } :: r
theorem moreSt_len (l : List St) : (moreSt l).length = l.length := by cases l <;> rfl
theorem moreSt_ok {l : List St} (h : stsB l = true) (hl : 0 < l.length) (h9 : (l.getD 0 st0).k < 9) : stsB (moreSt l) = true := by
  obtain _ | ⟨s, r⟩ := l
  · cases hl
  · simp only [stsB, moreSt, List.all_cons, Bool.and_eq_true, List.length_cons, decide_eq_true_iff] at h ⊢
    refine ⟨decide_eq_true h.1, ?_, h.2.2⟩
    have := stB_iff.1 h.2.1
    have h9 : s.k < 9 := h9
    exact stB_iff.2 ⟨this.1, this.2.1, this.2.2.1, this.2.2.2.1, by show 0 ≤ s.k + 1; omega, by show s.k + 1 ≤ 9; omega⟩
theorem stock_more {l : List St} (hl : 0 < l.length) : ∀ n, stockTo (moreSt l) (n + 1) = stockTo l (n + 1) + 4
  | 0 => by
    obtain _ | ⟨s, r⟩ := l
    · cases hl
    · simp [stockTo, moreSt]; omega
  | n + 1 => by
    have ih := stock_more hl n
    obtain _ | ⟨s, r⟩ := l
    · cases hl
    · rw [show stockTo (moreSt (s :: r)) (n + 1 + 1) = stockTo (moreSt (s :: r)) (n + 1) + 4 * ((moreSt (s :: r)).getD (n + 1) st0).k from rfl, show stockTo (s :: r) (n + 1 + 1) = stockTo (s :: r) (n + 1) + 4 * ((s :: r).getD (n + 1) st0).k from rfl, ih]
      have : (moreSt (s :: r)).getD (n + 1) st0 = (s :: r).getD (n + 1) st0 := by simp [moreSt]
      rw [this]; omega
theorem mass_more {m : Mi} (h : millB m = true) (hl : 0 < m.store.length) (h9 : (m.store.getD 0 st0).k < 9) : massR { m with store := moreSt m.store } = massI m + 4 := by
  have hv := millB_iff.1 h
  unfold massR
  have h2 : millB { m with store := moreSt m.store } = true := millB_iff.2 ⟨moreSt_ok hv.store hl h9, hv.rule, hv.st0, hv.st1, hv.len, hv.pile, hv.sc0, hv.sc1, hv.pcs, hv.ids⟩
  rw [if_pos h2]
  unfold massI
  simp only [moreSt_len]
  obtain ⟨n, hn⟩ : ∃ n, m.store.length = n + 1 := ⟨m.store.length - 1, by omega⟩
  rw [hn, stock_more hl]; omega
theorem long_bd2 {l : List Pc} (h : ∀ k, k < l.length → pcB (l.getD k pc0) = true) : ∀ n, n ≤ l.length → 0 ≤ longTo l n ∧ longTo l n ≤ 60 * n
  | 0, _ => by simp [longTo]
  | n + 1, hn => by
    have := long_bd2 h n (by omega)
    have := (pcB_iff.1 (h n (by omega))).1
    simp only [longTo]; omega
theorem mass_ge {m : Mi} (h : MillV m) : m.strand + m.scrap ≤ massI m ∧ massI m ≤ 10000 ∧ 0 ≤ massI m := by
  have h1 := stock_bd h.store m.store.length (Nat.le_refl _)
  have h2 := long_bd2 h.pcs m.pieces.length (Nat.le_refl _)
  have h3 := stsB_len h.store
  have h4 := h.len
  have h5 := h.st0
  have h6 := h.st1
  have h7 := h.sc0
  have h8 := h.sc1
  unfold massI
  omega
theorem ids_three {l : List Pc} (h : ∀ k, k < l.length → pcB (l.getD k pc0) = true) : ∀ n, n ≤ l.length → (idsTo l 0 n).length + (idsTo l 1 n).length + (idsTo l 2 n).length = n
  | 0, _ => rfl
  | n + 1, hn => by
    have ih := ids_three h n (by omega)
    have hs := (pcB_iff.1 (h n (by omega))).2
    have : (l.getD n pc0).s = 0 ∨ (l.getD n pc0).s = 1 ∨ (l.getD n pc0).s = 2 := by omega
    unfold idsTo
    rcases this with e | e | e <;> rw [e] <;> simp <;> omega
theorem pieces_three {m : Mi} (h : millB m = true) : (piecesR m 0).length + (piecesR m 1).length + (piecesR m 2).length = m.pieces.length := by
  unfold piecesR
  rw [if_pos h, if_pos h, if_pos h]
  exact ids_three (millB_iff.1 h).pcs _ (Nat.le_refl _)
theorem pieces_lt (m : Mi) (s : Int) : (piecesR m s).Pairwise (· < ·) := by
  unfold piecesR
  split
  · exact ids_lt _ _
  · exact List.Pairwise.nil
theorem pieces_few {m : Mi} (s : Int) : (piecesR m s).length ≤ 30 := by
  unfold piecesR
  split
  · rename_i h
    have := idsTo_len m.pieces s m.pieces.length
    have := (millB_iff.1 h).len
    unfold idsIn; omega
  · exact Nat.zero_le _
set_option maxHeartbeats 1600000 in
theorem drawMillValid (v : Value) (n : Nat) (w : World) (hv : BytesAt 0 w.heap.size w v n) :
    Calls Tryz.prog 35 #[v] w fun e w' => ∃ s p l h m, e = .returned (millV s p l h m) ∧ MillGot w.heap.size w' s p l h m ∧ Few m ∧ Below w.heap.size w w' := by
  have HB0 := hide hv
  clear hv
  go_enter Tryz.func35, Tryz.ntmps35
  go_wp2_with fail
  refine calls_at fun wx hwx => ?_
  have Z_0 : RowL wx w.heap.size 31 [.slice none 0 0, .int .i64 0, .int .i64 0, .int .i64 0, .int .i64 0, .int .i64 0, .int .i64 0, .int .i64 0, .slice none 0 0, .slice none 0 0, .slice none 0 0, .int .i64 0] := by rw [hwx]; exact RowL.new _ _ _
  have hb : Below w.heap.size w wx := by rw [hwx]; exact (Below.refl _ _).alloc (Nat.le_refl _) _
  have HBx := hide ((HB0.out.below hb (Nat.le_refl _)).mono hb.size (Nat.le_refl _))
  have B_0 := hide hb
  have hz0 := Z_0.lt
  clear hwx hb
  refine (open_any v n wx HBx.out).mono ?_
  rintro e w1 ⟨R, rfl, hR, hb, hr⟩
  have Z_1 := Z_0.below hb Z_0.lt
  have B_1 := hide (Below.step B_0.out hb (Nat.le_refl _))
  have HR1 := hide hr
  have hRl := hr.lt
  have hz1 := hb.size
  clear hb hr
  go_wp2_with fail
  refine (l20Mill_any R _ 2 w1 HR1.out (by omega) (by omega) (by omega)).mono ?_
  rintro e w2 ⟨s, p, l, h, m, rfl, G, hf, ho, hr⟩
  obtain ⟨ao1, cap1, rfl, -, -⟩ := G.so.form
  obtain ⟨ao2, cap2, rfl, -, -⟩ := G.po.form
  obtain ⟨ao3, cap3, rfl, -, -⟩ := G.lo.form
  obtain ⟨ao4, cap4, rfl, -, -⟩ := G.ho.form
  have G_2 := hide G
  have Z_2 := Z_1.other ho (by omega)
  have B_2 := hide (B_1.out.trans (ho.below (by omega) B_1.out.size))
  have HR2 := hide hr
  have hz2 := ho.size
  clear ho hr G
  unfold millV
  have cZ0 : w2.cell? ⟨w.heap.size, 0, none⟩ = some (.slice none 0 0) := Z_2.c 0 rfl
  have fZ0 := Z_2.frozen 0
  have cZ1 : w2.cell? ⟨w.heap.size, 1, none⟩ = some (.int .i64 0) := Z_2.c 1 rfl
  have fZ1 := Z_2.frozen 1
  have cZ2 : w2.cell? ⟨w.heap.size, 2, none⟩ = some (.int .i64 0) := Z_2.c 2 rfl
  have fZ2 := Z_2.frozen 2
  have cZ3 : w2.cell? ⟨w.heap.size, 3, none⟩ = some (.int .i64 0) := Z_2.c 3 rfl
  have fZ3 := Z_2.frozen 3
  have cZ4 : w2.cell? ⟨w.heap.size, 4, none⟩ = some (.int .i64 0) := Z_2.c 4 rfl
  have fZ4 := Z_2.frozen 4
  have cZ5 : w2.cell? ⟨w.heap.size, 5, none⟩ = some (.int .i64 0) := Z_2.c 5 rfl
  have fZ5 := Z_2.frozen 5
  have cZ6 : w2.cell? ⟨w.heap.size, 6, none⟩ = some (.int .i64 0) := Z_2.c 6 rfl
  have fZ6 := Z_2.frozen 6
  have cZ7 : w2.cell? ⟨w.heap.size, 7, none⟩ = some (.int .i64 0) := Z_2.c 7 rfl
  have fZ7 := Z_2.frozen 7
  have cZ8 : w2.cell? ⟨w.heap.size, 8, none⟩ = some (.slice none 0 0) := Z_2.c 8 rfl
  have fZ8 := Z_2.frozen 8
  have cZ9 : w2.cell? ⟨w.heap.size, 9, none⟩ = some (.slice none 0 0) := Z_2.c 9 rfl
  have fZ9 := Z_2.frozen 9
  have cZ10 : w2.cell? ⟨w.heap.size, 10, none⟩ = some (.slice none 0 0) := Z_2.c 10 rfl
  have fZ10 := Z_2.frozen 10
  have cZ11 : w2.cell? ⟨w.heap.size, 11, none⟩ = some (.int .i64 0) := Z_2.c 11 rfl
  have fZ11 := Z_2.frozen 11
  go_wp2_with fail
  refine bodyPost_ret (by simp [results, Tryz.results35, go_sem, cZ0, cZ1, cZ2, cZ3, cZ4, cZ5, cZ6, cZ7, cZ8, cZ9, cZ10, cZ11]; try rfl) rfl ?_
  have T := other12 w.heap.size w2 (.slice ao1 m.store.length cap1) (.int .i64 m.rule.lc) (.int .i64 m.rule.hc) (.int .i64 m.rule.lm) (.int .i64 m.rule.hm) (.int .i64 m.rule.ls) (.int .i64 m.rule.hs) (.int .i64 m.strand) (.slice ao2 m.pieces.length cap2) (.slice ao3 m.low.length cap3) (.slice ao4 m.high.length cap4) (.int .i64 m.scrap)
  exact ⟨_, _, _, _, m, rfl, (G_2.out.past Z_2 T).mono (by omega), hf, B_2.out.trans (T.below (Nat.le_refl _) B_2.out.size)⟩
set_option maxHeartbeats 1600000 in
theorem drawMillMass (v : Value) (n : Nat) (w : World) (hv : BytesAt 0 w.heap.size w v n) :
    Calls Tryz.prog 38 #[v] w fun e w' => ∃ s p l h m, e = .returned (millV s p l h m) ∧ MillGot w.heap.size w' s p l h m ∧ Few m ∧ Below w.heap.size w w' := by
  have HB0 := hide hv
  clear hv
  go_enter Tryz.func38, Tryz.ntmps38
  go_wp2_with fail
  refine calls_at fun wx hwx => ?_
  have Z_0 : RowL wx w.heap.size 31 [.slice none 0 0, .int .i64 0, .int .i64 0, .int .i64 0, .int .i64 0, .int .i64 0, .int .i64 0, .int .i64 0, .slice none 0 0, .slice none 0 0, .slice none 0 0, .int .i64 0] := by rw [hwx]; exact RowL.new _ _ _
  have hb : Below w.heap.size w wx := by rw [hwx]; exact (Below.refl _ _).alloc (Nat.le_refl _) _
  have HBx := hide ((HB0.out.below hb (Nat.le_refl _)).mono hb.size (Nat.le_refl _))
  have B_0 := hide hb
  have hz0 := Z_0.lt
  clear hwx hb
  refine (open_any v n wx HBx.out).mono ?_
  rintro e w1 ⟨R, rfl, hR, hb, hr⟩
  have Z_1 := Z_0.below hb Z_0.lt
  have B_1 := hide (Below.step B_0.out hb (Nat.le_refl _))
  have HR1 := hide hr
  have hRl := hr.lt
  have hz1 := hb.size
  clear hb hr
  go_wp2_with fail
  refine (l20Mill_any R _ 9 w1 HR1.out (by omega) (by omega) (by omega)).mono ?_
  rintro e w2 ⟨s, p, l, h, m, rfl, G, hf, ho, hr⟩
  obtain ⟨ao1, cap1, rfl, -, -⟩ := G.so.form
  obtain ⟨ao2, cap2, rfl, -, -⟩ := G.po.form
  obtain ⟨ao3, cap3, rfl, -, -⟩ := G.lo.form
  obtain ⟨ao4, cap4, rfl, -, -⟩ := G.ho.form
  have G_2 := hide G
  have Z_2 := Z_1.other ho (by omega)
  have B_2 := hide (B_1.out.trans (ho.below (by omega) B_1.out.size))
  have HR2 := hide hr
  have hz2 := ho.size
  clear ho hr G
  unfold millV
  have cZ0 : w2.cell? ⟨w.heap.size, 0, none⟩ = some (.slice none 0 0) := Z_2.c 0 rfl
  have fZ0 := Z_2.frozen 0
  have cZ1 : w2.cell? ⟨w.heap.size, 1, none⟩ = some (.int .i64 0) := Z_2.c 1 rfl
  have fZ1 := Z_2.frozen 1
  have cZ2 : w2.cell? ⟨w.heap.size, 2, none⟩ = some (.int .i64 0) := Z_2.c 2 rfl
  have fZ2 := Z_2.frozen 2
  have cZ3 : w2.cell? ⟨w.heap.size, 3, none⟩ = some (.int .i64 0) := Z_2.c 3 rfl
  have fZ3 := Z_2.frozen 3
  have cZ4 : w2.cell? ⟨w.heap.size, 4, none⟩ = some (.int .i64 0) := Z_2.c 4 rfl
  have fZ4 := Z_2.frozen 4
  have cZ5 : w2.cell? ⟨w.heap.size, 5, none⟩ = some (.int .i64 0) := Z_2.c 5 rfl
  have fZ5 := Z_2.frozen 5
  have cZ6 : w2.cell? ⟨w.heap.size, 6, none⟩ = some (.int .i64 0) := Z_2.c 6 rfl
  have fZ6 := Z_2.frozen 6
  have cZ7 : w2.cell? ⟨w.heap.size, 7, none⟩ = some (.int .i64 0) := Z_2.c 7 rfl
  have fZ7 := Z_2.frozen 7
  have cZ8 : w2.cell? ⟨w.heap.size, 8, none⟩ = some (.slice none 0 0) := Z_2.c 8 rfl
  have fZ8 := Z_2.frozen 8
  have cZ9 : w2.cell? ⟨w.heap.size, 9, none⟩ = some (.slice none 0 0) := Z_2.c 9 rfl
  have fZ9 := Z_2.frozen 9
  have cZ10 : w2.cell? ⟨w.heap.size, 10, none⟩ = some (.slice none 0 0) := Z_2.c 10 rfl
  have fZ10 := Z_2.frozen 10
  have cZ11 : w2.cell? ⟨w.heap.size, 11, none⟩ = some (.int .i64 0) := Z_2.c 11 rfl
  have fZ11 := Z_2.frozen 11
  go_wp2_with fail
  refine bodyPost_ret (by simp [results, Tryz.results38, go_sem, cZ0, cZ1, cZ2, cZ3, cZ4, cZ5, cZ6, cZ7, cZ8, cZ9, cZ10, cZ11]; try rfl) rfl ?_
  have T := other12 w.heap.size w2 (.slice ao1 m.store.length cap1) (.int .i64 m.rule.lc) (.int .i64 m.rule.hc) (.int .i64 m.rule.lm) (.int .i64 m.rule.hm) (.int .i64 m.rule.ls) (.int .i64 m.rule.hs) (.int .i64 m.strand) (.slice ao2 m.pieces.length cap2) (.slice ao3 m.low.length cap3) (.slice ao4 m.high.length cap4) (.int .i64 m.scrap)
  exact ⟨_, _, _, _, m, rfl, (G_2.out.past Z_2 T).mono (by omega), hf, B_2.out.trans (T.below (Nat.le_refl _) B_2.out.size)⟩
set_option maxHeartbeats 1600000 in
theorem drawPiecesIn (v : Value) (n : Nat) (w : World) (hv : BytesAt 0 w.heap.size w v n) :
    Calls Tryz.prog 40 #[v] w fun e w' => ∃ s p l h m q, e = .returned (.tuple #[millV s p l h m, .int .i64 q]) ∧ MillGot w.heap.size w' s p l h m ∧ Few m ∧ Below w.heap.size w w' := by
  have HB0 := hide hv
  clear hv
  go_enter Tryz.func40, Tryz.ntmps40
  go_wp2_with fail
  refine calls_at fun wx hwx => ?_
  have Z_0 : RowL wx w.heap.size 31 [.slice none 0 0, .int .i64 0, .int .i64 0, .int .i64 0, .int .i64 0, .int .i64 0, .int .i64 0, .int .i64 0, .slice none 0 0, .slice none 0 0, .slice none 0 0, .int .i64 0] := by rw [hwx]; exact RowL.new _ _ _
  have hb : Below w.heap.size w wx := by rw [hwx]; exact (Below.refl _ _).alloc (Nat.le_refl _) _
  have HBx := hide ((HB0.out.below hb (Nat.le_refl _)).mono hb.size (Nat.le_refl _))
  have B_0 := hide hb
  have hz0 := Z_0.lt
  clear hwx hb
  refine (open_any v n wx HBx.out).mono ?_
  rintro e w1 ⟨R, rfl, hR, hb, hr⟩
  have Z_1 := Z_0.below hb Z_0.lt
  have B_1 := hide (Below.step B_0.out hb (Nat.le_refl _))
  have HR1 := hide hr
  have hRl := hr.lt
  have hz1 := hb.size
  clear hb hr
  go_wp2_with fail
  refine (l20Mill_any R _ 9 w1 HR1.out (by omega) (by omega) (by omega)).mono ?_
  rintro e w2 ⟨s, p, l, h, m, rfl, G, hf, ho, hr⟩
  obtain ⟨ao1, cap1, rfl, -, -⟩ := G.so.form
  obtain ⟨ao2, cap2, rfl, -, -⟩ := G.po.form
  obtain ⟨ao3, cap3, rfl, -, -⟩ := G.lo.form
  obtain ⟨ao4, cap4, rfl, -, -⟩ := G.ho.form
  have G_2 := hide G
  have Z_2 := Z_1.other ho (by omega)
  have B_2 := hide (B_1.out.trans (ho.below (by omega) B_1.out.size))
  have HR2 := hide hr
  have hz2 := ho.size
  clear ho hr G
  unfold millV
  go_wp2_with fail
  refine (pick_in R _ 4 w2 HR2.out (by omega) (by omega) (by omega)).mono ?_
  rintro e w3 ⟨q, rfl, q0, q1, ho, hr⟩
  have Z_3 := Z_2.other ho (by omega)
  have G_3 := hide (G_2.out.other ho (by omega))
  have B_3 := hide (B_2.out.trans (ho.below (by omega) B_2.out.size))
  have hz3 := ho.size
  clear ho hr
  have cZ0 : w3.cell? ⟨w.heap.size, 0, none⟩ = some (.slice none 0 0) := Z_3.c 0 rfl
  have fZ0 := Z_3.frozen 0
  have cZ1 : w3.cell? ⟨w.heap.size, 1, none⟩ = some (.int .i64 0) := Z_3.c 1 rfl
  have fZ1 := Z_3.frozen 1
  have cZ2 : w3.cell? ⟨w.heap.size, 2, none⟩ = some (.int .i64 0) := Z_3.c 2 rfl
  have fZ2 := Z_3.frozen 2
  have cZ3 : w3.cell? ⟨w.heap.size, 3, none⟩ = some (.int .i64 0) := Z_3.c 3 rfl
  have fZ3 := Z_3.frozen 3
  have cZ4 : w3.cell? ⟨w.heap.size, 4, none⟩ = some (.int .i64 0) := Z_3.c 4 rfl
  have fZ4 := Z_3.frozen 4
  have cZ5 : w3.cell? ⟨w.heap.size, 5, none⟩ = some (.int .i64 0) := Z_3.c 5 rfl
  have fZ5 := Z_3.frozen 5
  have cZ6 : w3.cell? ⟨w.heap.size, 6, none⟩ = some (.int .i64 0) := Z_3.c 6 rfl
  have fZ6 := Z_3.frozen 6
  have cZ7 : w3.cell? ⟨w.heap.size, 7, none⟩ = some (.int .i64 0) := Z_3.c 7 rfl
  have fZ7 := Z_3.frozen 7
  have cZ8 : w3.cell? ⟨w.heap.size, 8, none⟩ = some (.slice none 0 0) := Z_3.c 8 rfl
  have fZ8 := Z_3.frozen 8
  have cZ9 : w3.cell? ⟨w.heap.size, 9, none⟩ = some (.slice none 0 0) := Z_3.c 9 rfl
  have fZ9 := Z_3.frozen 9
  have cZ10 : w3.cell? ⟨w.heap.size, 10, none⟩ = some (.slice none 0 0) := Z_3.c 10 rfl
  have fZ10 := Z_3.frozen 10
  have cZ11 : w3.cell? ⟨w.heap.size, 11, none⟩ = some (.int .i64 0) := Z_3.c 11 rfl
  have fZ11 := Z_3.frozen 11
  go_wp2_with fail
  refine bodyPost_ret (by simp [results, Tryz.results40, go_sem, cZ0, cZ1, cZ2, cZ3, cZ4, cZ5, cZ6, cZ7, cZ8, cZ9, cZ10, cZ11]; try rfl) rfl ?_
  have T := other12 w.heap.size w3 (.slice ao1 m.store.length cap1) (.int .i64 m.rule.lc) (.int .i64 m.rule.hc) (.int .i64 m.rule.lm) (.int .i64 m.rule.hm) (.int .i64 m.rule.ls) (.int .i64 m.rule.hs) (.int .i64 m.strand) (.slice ao2 m.pieces.length cap2) (.slice ao3 m.low.length cap3) (.slice ao4 m.high.length cap4) (.int .i64 m.scrap)
  exact ⟨_, _, _, _, m, q, rfl, (G_3.out.past Z_3 T).mono (by omega), hf, B_3.out.trans (T.below (Nat.le_refl _) B_3.out.size)⟩
set_option maxHeartbeats 1600000 in
theorem mass_spec (s p l h : Value) (m : Mi) (w : World) (H : MillIn 0 w.heap.size w s p l h m) :
    Calls Tryz.prog 39 #[millV s p l h m] w fun e w' => e = .returned (.int .i64 (massR m)) ∧ Below w.heap.size w w' := by
  obtain ⟨ao1, cap1, rfl, -, -, -, -⟩ := id H.store
  obtain ⟨ao2, cap2, rfl, -, -, -, -⟩ := id H.pieces
  have hsl := H.store.len
  have hpl := H.pieces.len
  unfold millV
  go_enter Tryz.func39, Tryz.ntmps39
  go_wp2_with fail
  refine calls_at fun wx hwx => ?_
  have A_0 : RowL wx (w.heap.size) 31 [.slice ao1 m.store.length cap1, .int .i64 m.rule.lc, .int .i64 m.rule.hc, .int .i64 m.rule.lm, .int .i64 m.rule.hm, .int .i64 m.rule.ls, .int .i64 m.rule.hs, .int .i64 m.strand, .slice ao2 m.pieces.length cap2, l, h, .int .i64 m.scrap] := by rw [hwx]; exact (RowL.new _ 31 [.slice ao1 m.store.length cap1, .int .i64 m.rule.lc, .int .i64 m.rule.hc, .int .i64 m.rule.lm, .int .i64 m.rule.hm, .int .i64 m.rule.ls, .int .i64 m.rule.hs, .int .i64 m.strand, .slice ao2 m.pieces.length cap2, l, h, .int .i64 m.scrap])
  have B_0 : Below w.heap.size w wx := by rw [hwx]; go_grown
  clear hwx
  have hL0 := A_0.lt
  have VV_0 := hide (H.below B_0)
  have KV := mill_spec _ _ _ _ m wx VV_0.out.all
  cases hv : millB m with
  | false =>
    rw [hv] at KV
    refine KV.mono ?_
    rintro e w1 ⟨rfl, hb⟩
    have HB := hide (Below.step B_0 hb (Nat.le_refl _))
    have HF := hide (show massR m = -1 by simp [massR, hv])
    clear hb KV hv
    go_wp2_with fail
    go_ret
    exact ⟨by rw [HF.out]; rfl, HB.out⟩
  | true =>
    rw [hv] at KV
    have MV := millB_iff.1 hv
    have HM := hide (show massR m = massI m by simp [massR, hv])
    have HS := hide (stock_bd MV.store)
    have HL := hide (long_bd MV.pcs)
    have h1 := MV.st0
    have h2 := MV.st1
    have h3 := MV.sc0
    have h4 := MV.sc1
    have h5 := MV.len
    have h6 := stsB_len MV.store
    have HQ := hide (fun k hk => (stB_iff.1 (stsB_at MV.store (k := k) hk)))
    clear MV hv
    refine (KV).mono ?_
    rintro e w1 ⟨rfl, hb⟩
    have A_1 := A_0.below hb A_0.lt
    have VV_1 := hide (VV_0.out.below hb)
    have B_1 := hide (Below.step B_0 hb (Nat.le_refl _))
    have hz1 := hb.size
    clear hb
    have cA0 := A_1.c 0 rfl
    have cA7 := A_1.c 7 rfl
    have cA8 := A_1.c 8 rfl
    have cA11 := A_1.c 11 rfl
    clear KV
    obtain ⟨a, ha⟩ : ∃ a, m.strand = a := ⟨_, rfl⟩
    obtain ⟨b0, hb0⟩ : ∃ b, m.scrap = b := ⟨_, rfl⟩
    rw [ha] at cA7 h1 h2
    rw [hb0] at cA11 h3 h4
    have hw0 : IntKind.i64.wrap (a + b0) = a + b0 := IntWalk.i64_in _ (by omega)
    have AR := hide A_1
    have hzw := B_1.out.size
    clear cA8
    go_wp2_with fail
    clear hw0 cA0
    go_loopw [3, 4] (fun t i wr => ∃ k : Nat, k ≤ m.store.length ∧ i = .int .i64 k ∧ t = .int .i64 (a + b0 + stockTo m.store k) ∧ Below w1.heap.size w1 wr) (fun _ i _ => m.store.length - (intOf i).toNat)
    case atStart => exact ⟨0, Nat.zero_le _, rfl, by simp [stockTo], Below.refl _ _⟩
    case round =>
      obtain ⟨k, hk, rfl, rfl, hb⟩ := hrel
      have HB := hide hb
      have hz := hb.size
      have RA := AR.out.below (w' := wr) (B := w1.heap.size) hb AR.out.lt
      have cA0 := RA.c 0 rfl
      have cA8 := RA.c 8 rfl
      clear RA
      by_cases hlt : k < m.store.length
      · obtain ⟨_, _, e1, -, -, -, hcl⟩ := VV_1.out.store
        simp only [Value.slice.injEq] at e1
        obtain ⟨rfl, -, rfl⟩ := e1
        obtain ⟨b, o, rfl, -, hbl, hcs⟩ := hcl (by omega)
        obtain ⟨⟨r0, r1, r2, r3, r4⟩, -⟩ := hcs k hlt
        rw [← hb.cell (p := ⟨b, _, none⟩) (Nat.lt_of_lt_of_le hbl (by omega))] at r0 r1 r2 r3 r4
        obtain ⟨x0, hx0⟩ : ∃ x, m.store[k].c = x := ⟨_, rfl⟩
        rw [hx0] at r0
        obtain ⟨x1, hx1⟩ : ∃ x, m.store[k].m = x := ⟨_, rfl⟩
        rw [hx1] at r1
        obtain ⟨x2, hx2⟩ : ∃ x, m.store[k].s = x := ⟨_, rfl⟩
        rw [hx2] at r2
        obtain ⟨x3, hx3⟩ : ∃ x, m.store[k].p = x := ⟨_, rfl⟩
        rw [hx3] at r3
        obtain ⟨x4, hx4⟩ : ∃ x, m.store[k].k = x := ⟨_, rfl⟩
        rw [hx4] at r4
        have hkI : (k : Int) < (m.store.length : Int) := by omega
        have hg := (HQ.out k hlt).2
        have hN : stockTo m.store (k + 1) = stockTo m.store k + 4 * x4 := by rw [stockTo, ← hx4]; simp [hlt]
        have hB1 := HS.out k hk
        have hB2 := HS.out (k + 1) hlt
        rw [hN] at hB2
        obtain ⟨S, hS⟩ : ∃ S, a + b0 + stockTo m.store k = S := ⟨_, rfl⟩
        have hS2 : a + b0 + stockTo m.store (k + 1) = S + 4 * x4 := by rw [hN]; omega
        have hw1 : IntKind.i64.wrap (4 * x4) = 4 * x4 := IntWalk.i64_in _ (by omega)
        have hw2 : IntKind.i64.wrap (S + 4 * x4) = S + 4 * x4 := IntWalk.i64_in _ (by omega)
        have HS2 := hide hS2
        rw [hS]
        clear hN hB1 hB2 hS hS2 hg hcl hcs hx0 hx1 hx2 hx3 hx4 hb
        go_wp2_with fail
        go_roundw
        case rel => exact ⟨k + 1, by omega, by go_num, by rw [HS2.out], HB.out⟩
        case measure => simp [intOf]; omega
      · obtain rfl : k = m.store.length := by omega
        have HBO := hide hb
        clear hb
        obtain ⟨wo, hwo⟩ : ∃ wo : World, wr = wo := ⟨_, rfl⟩
        subst hwo
        obtain ⟨wo, rfl⟩ : ∃ wo : World, wo = wr := ⟨_, rfl⟩
        have VO := hide (VV_1.out.below HBO.out)
        have hzo := HBO.out.size
        go_wp2_with fail
        go_loopw [3, 5] (fun t i wr => ∃ k : Nat, k ≤ m.pieces.length ∧ i = .int .i64 k ∧ t = .int .i64 (a + b0 + stockTo m.store m.store.length + longTo m.pieces k) ∧ Below wo.heap.size wo wr) (fun _ i _ => m.pieces.length - (intOf i).toNat)
        case atStart => exact ⟨0, Nat.zero_le _, rfl, by simp [longTo], Below.refl _ _⟩
        case round =>
          obtain ⟨k, hk, rfl, rfl, hb⟩ := hrel
          have HB := hide hb
          have hz := hb.size
          have RA := AR.out.below (w' := wr) (B := w1.heap.size) (Below.step HBO.out HB.out (Nat.le_refl _)) AR.out.lt
          have cA0 := RA.c 0 rfl
          have cA8 := RA.c 8 rfl
          clear RA
          by_cases hlt : k < m.pieces.length
          · obtain ⟨_, _, e1, -, -, -, hcl⟩ := VO.out.pieces
            simp only [Value.slice.injEq] at e1
            obtain ⟨rfl, -, rfl⟩ := e1
            obtain ⟨b, o, rfl, -, hbl, hcs⟩ := hcl (by omega)
            obtain ⟨⟨r0, r1⟩, -⟩ := hcs k hlt
            rw [← hb.cell (p := ⟨b, _, none⟩) (Nat.lt_of_lt_of_le hbl (by omega))] at r0 r1
            obtain ⟨x0, hx0⟩ : ∃ x, m.pieces[k].l = x := ⟨_, rfl⟩
            rw [hx0] at r0
            obtain ⟨x1, hx1⟩ : ∃ x, m.pieces[k].s = x := ⟨_, rfl⟩
            rw [hx1] at r1
            have hkI : (k : Int) < (m.pieces.length : Int) := by omega
            have hN : longTo m.pieces (k + 1) = longTo m.pieces k + x0 := by rw [longTo, ← hx0]; simp [hlt]
            have hB1 := HL.out k hk
            have hB2 := HL.out (k + 1) hlt
            rw [hN] at hB2
            have hB3 := HS.out m.store.length (Nat.le_refl _)
            obtain ⟨S, hS⟩ : ∃ S, a + b0 + stockTo m.store m.store.length + longTo m.pieces k = S := ⟨_, rfl⟩
            have hS2 : a + b0 + stockTo m.store m.store.length + longTo m.pieces (k + 1) = S + x0 := by rw [hN]; omega
            have hw2 : IntKind.i64.wrap (S + x0) = S + x0 := IntWalk.i64_in _ (by omega)
            have HS2 := hide hS2
            rw [hS]
            clear hN hB1 hB2 hB3 hS hS2 hcl hcs hx0 hx1 hb
            go_wp2_with fail
            go_roundw
            case rel => exact ⟨k + 1, by omega, by go_num, by rw [HS2.out], HB.out⟩
            case measure => simp [intOf]; omega
          · obtain rfl : k = m.pieces.length := by omega
            have HBZ := hide (Below.step B_1.out (Below.step HBO.out HB.out (Nat.le_refl _)) (Nat.le_refl _))
            go_wp2_with fail
            go_ret
            exact ⟨by rw [HM.out, massI, ha, hb0]; rfl, HBZ.out⟩
theorem ints_readM {lo hi b o n cap k : Nat} {w : World} {xs : List Int} (h : IntsAt lo hi w (.slice (some ⟨b, o, none⟩) n cap) xs) (hk : k < xs.length) : w.cell? ⟨b, o + k, none⟩ = some (.int .i64 xs[k]) := by
  obtain ⟨ao, cap', e, -, -, -, h4⟩ := h
  simp only [Value.slice.injEq] at e
  obtain ⟨rfl, -, -⟩ := e
  obtain ⟨b', o', e, -, -, hc⟩ := h4 (by omega)
  simp only [Option.some.injEq, Addr.mk.injEq] at e
  obtain ⟨rfl, rfl, -⟩ := e
  exact (hc k hk).1
theorem ints_whereM {lo hi : Nat} {w : World} {v : Value} {xs : List Int} (h : IntsAt lo hi w v xs) : ∃ ao cap, v = .slice ao xs.length cap ∧ xs.length ≤ cap ∧ cap ≤ 9223372036854775807 ∧ (0 < xs.length → ∃ b o, ao = some ⟨b, o, none⟩) := by
  obtain ⟨ao, cap, rfl, h1, h2, _, h4⟩ := h
  exact ⟨ao, cap, rfl, h1, h2, fun h => by obtain ⟨b, o, e, _⟩ := h4 h; exact ⟨b, o, e⟩⟩
theorem ascend_yes (v : Value) (xs : List Int) (lo hi : Nat) (w : World) (h : IntsAt lo hi w v xs) (hs : xs.Pairwise (· < ·)) :
    Calls Tryz.prog 42 #[v] w fun e w' => e = .returned (.bool true) ∧ Below w.heap.size w w' := by
  obtain ⟨ao, cap, rfl, hc1, hc2, ha⟩ := ints_whereM h
  have HH := hide h
  have HA := hide ha
  have HS := hide hs
  clear h ha hs
  go_enter Tryz.func42, Tryz.ntmps42
  go_wp2_with fail
  go_loopw [3] (fun i wr => ∃ k : Nat, 1 ≤ k ∧ k ≤ xs.length + 1 ∧ i = .int .i64 k ∧ Below w.heap.size w wr) (fun i _ => xs.length + 1 - (intOf i).toNat)
  case atStart => exact ⟨1, by omega, by omega, rfl, Below.refl _ _⟩
  case round =>
    obtain ⟨k, hk0, hk, rfl, hb⟩ := hrel
    have HB := hide hb
    by_cases hlt : k < xs.length
    · obtain ⟨b, o, rfl⟩ := HA.out (by omega)
      have r1 := ints_readM (HH.out.below hb) hlt
      have r2 := ints_readM (HH.out.below hb) (show k - 1 < xs.length by omega)
      have hlt2 := (List.pairwise_iff_getElem.1 HS.out) (k - 1) k (by omega) hlt (by omega)
      generalize xs[k] = x at r1 hlt2
      generalize xs[k - 1] = y at r2 hlt2
      have hkI : (k : Int) < (xs.length : Int) := by omega
      have hkI1 : (1 : Int) ≤ (k : Int) := by omega
      have hw1 : IntKind.i64.wrap ((k : Int) - 1) = ((k - 1 : Nat) : Int) := by rw [IntWalk.i64_in _ (by omega)]; omega
      have hw2 : ((k - 1 : Nat) : Int) < (xs.length : Int) := by omega
      have hge : decide (x ≤ y) = false := by simp; omega
      clear hb
      go_wp2_with fail
      go_quiet (fail)
      clear hw1 hw2
      go_wp2_with fail
      go_roundw
      case rel => exact ⟨k + 1, by omega, by omega, by go_num, below_drewN HB.out _⟩
      case measure => simp [intOf]; omega
    · clear hb
      go_wp2_with fail
      go_ret
      exact ⟨rfl, HB.out⟩
end Go.Proofs.YtmemgbklgcjobaaGreatDoor
