/-
  Parts of the proofs over mills, of: DoP, CutC. Conditions: each theorem states its own.
-/
import Derived.Test.YtmemgbklgcjobaaGreatDoorX22
import Derived.Test.YtmemgbklgcjobaaGreatDoorX23
import Derived.Test.YtmemgbklgcjobaaGreatDoorX24
set_option linter.unusedSimpArgs false
set_option linter.unusedVariables false
set_option maxRecDepth 10000
namespace Go.Proofs.YtmemgbklgcjobaaGreatDoor
open Go.RowKit
theorem do_good {m : Mi} (h : millB m = true) (k a b : Int) : doR m ⟨k, a, b⟩ = orOld m (stepD m k a b) := by
  unfold doR
  rw [if_pos h]
  rfl
theorem step_0 (m : Mi) (a b : Int) : stepD m 0 a b = meltD m a := rfl
theorem step_1 (m : Mi) (a b : Int) : stepD m 1 a b = cutD m a b := rfl
theorem step_2 (m : Mi) (a b : Int) : stepD m 2 a b = rollD m a b := rfl
theorem step_3 (m : Mi) (a b : Int) : stepD m 3 a b = liftD m a b := rfl
theorem step_4 (m : Mi) (a b : Int) : stepD m 4 a b = shipD m a := rfl
theorem step_x {m : Mi} {k a b : Int} (h0 : (k == 0) = false) (h1 : (k == 1) = false) (h2 : (k == 2) = false) (h3 : (k == 3) = false) (h4 : (k == 4) = false) : stepD m k a b = none := by
  simp [stepD, h0, h1, h2, h3, h4]
theorem found_take {lo hi : List Int} {id p x : Int} {t : Bool} {q : List Int × List Int} (h : findR lo hi id = some (t, p)) (h2 : takeR lo hi t p = (q, x)) : 1 ≤ id ∧ (x = 0 ∨ x = id) := by
  obtain ⟨f1, f2, kk, rfl, f3, f4⟩ := find_at h
  refine ⟨f2, ?_⟩
  by_cases h0 : x = 0
  · exact .inl h0
  · obtain ⟨p1, p2, p3, p4, p5, -, k', e', p6, p7⟩ := take_ok h2 h0
    have hkk : kk = k' := by omega
    subst hkk
    exact .inr (by rw [← p7, f4])
theorem OwnE.past {base T T' sz n C : Nat} {w w' : World} {v : Value} {cs vs : List Value} (h : OwnE base T sz w v n cs) (r : RowL w C T' vs) (hT : T ≠ T') (k : Other C (C + 1) w w') : OwnE base T sz w' v n cs := by
  rcases h with h | ⟨g, h1, h2, h3, h4, h5⟩
  · exact .inl (ownsRow_other h k fun g hg => by
      have := own_ne_row h r hT g hg
      omega)
  · exact .inr ⟨g, h1, h2, Nat.lt_of_lt_of_le h3 k.size, h4, h5⟩
theorem MillGot.past {base C : Nat} {w w' : World} {s p l h : Value} {m : Mi} {vs : List Value} (H : MillGot base w s p l h m) (r : RowL w C 31 vs) (k : Other C (C + 1) w w') : MillGot base w' s p l h m :=
  ⟨Nat.le_trans H.hb k.size, H.so.past r (by decide) k, H.po.past r (by decide) k, H.lo.past r (by decide) k, H.ho.past r (by decide) k, H.sp, H.sl, H.sh, H.pl, H.ph, H.lh⟩
theorem heldD_call {w W W' : World} {A D : Nat} {l h x y : Value} (hA : A < w.heap.size) (hD : D < w.heap.size) (k : Below W.heap.size W W') (H : ((W.cell? ⟨A, 9, none⟩ = some l ∧ W.cell? ⟨A, 10, none⟩ = some h) ∧ (W.cell? ⟨D, 1, none⟩ = some x ∧ W.cell? ⟨D, 2, none⟩ = some y)) ∧ Below w.heap.size w W) :
    ((W'.cell? ⟨A, 9, none⟩ = some l ∧ W'.cell? ⟨A, 10, none⟩ = some h) ∧ (W'.cell? ⟨D, 1, none⟩ = some x ∧ W'.cell? ⟨D, 2, none⟩ = some y)) ∧ Below w.heap.size w W' := by
  have hz := H.2.size
  exact ⟨⟨⟨(k.cell (p := ⟨A, 9, none⟩) (show A < W.heap.size by omega)).trans H.1.1.1, (k.cell (p := ⟨A, 10, none⟩) (show A < W.heap.size by omega)).trans H.1.1.2⟩, (k.cell (p := ⟨D, 1, none⟩) (show D < W.heap.size by omega)).trans H.1.2.1, (k.cell (p := ⟨D, 2, none⟩) (show D < W.heap.size by omega)).trans H.1.2.2⟩, H.2.trans (k.mono hz)⟩
theorem heldD_alloc {w W : World} {A D : Nat} {l h x y : Value} {o : Obj} (hA : A < w.heap.size) (hD : D < w.heap.size) (H : ((W.cell? ⟨A, 9, none⟩ = some l ∧ W.cell? ⟨A, 10, none⟩ = some h) ∧ (W.cell? ⟨D, 1, none⟩ = some x ∧ W.cell? ⟨D, 2, none⟩ = some y)) ∧ Below w.heap.size w W) :
    (((W.alloc o).cell? ⟨A, 9, none⟩ = some l ∧ (W.alloc o).cell? ⟨A, 10, none⟩ = some h) ∧ ((W.alloc o).cell? ⟨D, 1, none⟩ = some x ∧ (W.alloc o).cell? ⟨D, 2, none⟩ = some y)) ∧ Below w.heap.size w (W.alloc o) :=
  heldD_call hA hD ((Below.refl _ _).alloc (Nat.le_refl _) o) H
theorem heldD_store {w W : World} {A D G : Nat} {l h x y u v : Value} (hA : A < w.heap.size) (hD : D < w.heap.size) (hG : w.heap.size ≤ G) (H : ((W.cell? ⟨A, 9, none⟩ = some l ∧ W.cell? ⟨A, 10, none⟩ = some h) ∧ (W.cell? ⟨D, 1, none⟩ = some x ∧ W.cell? ⟨D, 2, none⟩ = some y)) ∧ Below w.heap.size w W) :
    ((((W.setCell ⟨G, 0, none⟩ u).setCell ⟨G, 1, none⟩ v).cell? ⟨A, 9, none⟩ = some l ∧ ((W.setCell ⟨G, 0, none⟩ u).setCell ⟨G, 1, none⟩ v).cell? ⟨A, 10, none⟩ = some h) ∧ (((W.setCell ⟨G, 0, none⟩ u).setCell ⟨G, 1, none⟩ v).cell? ⟨D, 1, none⟩ = some x ∧ ((W.setCell ⟨G, 0, none⟩ u).setCell ⟨G, 1, none⟩ v).cell? ⟨D, 2, none⟩ = some y)) ∧ Below w.heap.size w ((W.setCell ⟨G, 0, none⟩ u).setCell ⟨G, 1, none⟩ v) := by
  have k : Below w.heap.size W ((W.setCell ⟨G, 0, none⟩ u).setCell ⟨G, 1, none⟩ v) := ((Below.refl _ _).setCell (p := ⟨G, 0, none⟩) hG _).setCell (p := ⟨G, 1, none⟩) hG _
  exact ⟨⟨⟨(k.cell (p := ⟨A, 9, none⟩) hA).trans H.1.1.1, (k.cell (p := ⟨A, 10, none⟩) hA).trans H.1.1.2⟩, (k.cell (p := ⟨D, 1, none⟩) hD).trans H.1.2.1, (k.cell (p := ⟨D, 2, none⟩) hD).trans H.1.2.2⟩, H.2.trans k⟩
theorem below_other {B : Nat} {w w' : World} (h : Below B w w') : Other B w.heap.size w w' :=
  ⟨h.os, h.tape, h.output, h.size, fun k h1 h2 => h.block k (by omega)⟩
theorem MillIn.low_keep {hi B : Nat} {w w' : World} {s p l h : Value} {m : Mi} (H : MillIn 0 hi w s p l h m) (k : Below B w w') (hB : hi ≤ B) : MillIn 0 hi w' s p l h m :=
  H.other (below_other k) (.inl hB)
theorem few_of {m : Mi} (h : millB m = true) : m.store.length ≤ 1000000 ∧ m.pieces.length ≤ 1000000 ∧ m.low.length ≤ 1000000 ∧ m.high.length ≤ 1000000 := by
  have hv := millB_iff.1 h
  have h1 := stsB_len hv.store
  have h2 := hv.len
  have h3 := hv.pile.l6
  have h4 := hv.pile.lh
  omega
theorem two_lit {g : Nat} (W : World) (a b : Int) (T : Nat) (hg : W.heap.size = g) : IntsAt g (W.alloc (.cells #[.int .i64 a, .int .i64 b] T)).heap.size (W.alloc (.cells #[.int .i64 a, .int .i64 b] T)) (.slice (some ⟨g, 0, none⟩) 2 2) [a, b] := by
  subst hg
  exact IntsAt.of_row (xs := [a, b]) (RowL.new W T [.int .i64 a, .int .i64 b]) (Nat.le_refl _) (by simp) (fun i hi => by
    have : i = 0 ∨ i = 1 := by simp at hi; omega
    rcases this with rfl | rfl <;> simp) (Nat.le_refl _)
theorem other12 (g : Nat) (w : World) (v0 v1 v2 v3 v4 v5 v6 v7 v8 v9 v10 v11 : Value) : Other g (g + 1) w (((((((((((((w).setCell ⟨g, 0, none⟩ v0).setCell ⟨g, 1, none⟩ v1).setCell ⟨g, 2, none⟩ v2).setCell ⟨g, 3, none⟩ v3).setCell ⟨g, 4, none⟩ v4).setCell ⟨g, 5, none⟩ v5).setCell ⟨g, 6, none⟩ v6).setCell ⟨g, 7, none⟩ v7).setCell ⟨g, 8, none⟩ v8).setCell ⟨g, 9, none⟩ v9).setCell ⟨g, 10, none⟩ v10).setCell ⟨g, 11, none⟩ v11) :=
  Other.setCell (p := ⟨g, 11, none⟩) (Other.setCell (p := ⟨g, 10, none⟩) (Other.setCell (p := ⟨g, 9, none⟩) (Other.setCell (p := ⟨g, 8, none⟩) (Other.setCell (p := ⟨g, 7, none⟩) (Other.setCell (p := ⟨g, 6, none⟩) (Other.setCell (p := ⟨g, 5, none⟩) (Other.setCell (p := ⟨g, 4, none⟩) (Other.setCell (p := ⟨g, 3, none⟩) (Other.setCell (p := ⟨g, 2, none⟩) (Other.setCell (p := ⟨g, 1, none⟩) (Other.setCell (p := ⟨g, 0, none⟩) (Other.refl _ _ _) (Nat.le_refl _) (Nat.lt_succ_self _) _) (Nat.le_refl _) (Nat.lt_succ_self _) _) (Nat.le_refl _) (Nat.lt_succ_self _) _) (Nat.le_refl _) (Nat.lt_succ_self _) _) (Nat.le_refl _) (Nat.lt_succ_self _) _) (Nat.le_refl _) (Nat.lt_succ_self _) _) (Nat.le_refl _) (Nat.lt_succ_self _) _) (Nat.le_refl _) (Nat.lt_succ_self _) _) (Nat.le_refl _) (Nat.lt_succ_self _) _) (Nat.le_refl _) (Nat.lt_succ_self _) _) (Nat.le_refl _) (Nat.lt_succ_self _) _) (Nat.le_refl _) (Nat.lt_succ_self _) _
theorem row12 {w : World} {g T : Nat} {us : List Value} (h : RowL w g T us) (hl : us.length = 12) (v0 v1 v2 v3 v4 v5 v6 v7 v8 v9 v10 v11 : Value) : RowL (((((((((((((w).setCell ⟨g, 0, none⟩ v0).setCell ⟨g, 1, none⟩ v1).setCell ⟨g, 2, none⟩ v2).setCell ⟨g, 3, none⟩ v3).setCell ⟨g, 4, none⟩ v4).setCell ⟨g, 5, none⟩ v5).setCell ⟨g, 6, none⟩ v6).setCell ⟨g, 7, none⟩ v7).setCell ⟨g, 8, none⟩ v8).setCell ⟨g, 9, none⟩ v9).setCell ⟨g, 10, none⟩ v10).setCell ⟨g, 11, none⟩ v11) g T [v0, v1, v2, v3, v4, v5, v6, v7, v8, v9, v10, v11] := by
  obtain ⟨u0, u1, u2, u3, u4, u5, u6, u7, u8, u9, u10, u11, rfl⟩ : ∃ u0 u1 u2 u3 u4 u5 u6 u7 u8 u9 u10 u11, us = [u0, u1, u2, u3, u4, u5, u6, u7, u8, u9, u10, u11] := by
    match us, hl with
    | [u0, u1, u2, u3, u4, u5, u6, u7, u8, u9, u10, u11], _ => exact ⟨_, _, _, _, _, _, _, _, _, _, _, _, rfl⟩
  exact ((((((((((((h).set 0 v0 (by simp)).set 1 v1 (by simp)).set 2 v2 (by simp)).set 3 v3 (by simp)).set 4 v4 (by simp)).set 5 v5 (by simp)).set 6 v6 (by simp)).set 7 v7 (by simp)).set 8 v8 (by simp)).set 9 v9 (by simp)).set 10 v10 (by simp)).set 11 v11 (by simp)
theorem zero_got {base g : Nat} {w0 w : World} (h : Below base w0 w) (hb : base ≤ w0.heap.size) (hg : base ≤ g) (v0 v1 v2 v3 v4 v5 v6 v7 v8 v9 v10 v11 : Value) :
    MillGot base (((((((((((((w).setCell ⟨g, 0, none⟩ v0).setCell ⟨g, 1, none⟩ v1).setCell ⟨g, 2, none⟩ v2).setCell ⟨g, 3, none⟩ v3).setCell ⟨g, 4, none⟩ v4).setCell ⟨g, 5, none⟩ v5).setCell ⟨g, 6, none⟩ v6).setCell ⟨g, 7, none⟩ v7).setCell ⟨g, 8, none⟩ v8).setCell ⟨g, 9, none⟩ v9).setCell ⟨g, 10, none⟩ v10).setCell ⟨g, 11, none⟩ v11) (.slice none 0 0) (.slice none 0 0) (.slice none 0 0) (.slice none 0 0) mi0 ∧ Below base w0 (((((((((((((w).setCell ⟨g, 0, none⟩ v0).setCell ⟨g, 1, none⟩ v1).setCell ⟨g, 2, none⟩ v2).setCell ⟨g, 3, none⟩ v3).setCell ⟨g, 4, none⟩ v4).setCell ⟨g, 5, none⟩ v5).setCell ⟨g, 6, none⟩ v6).setCell ⟨g, 7, none⟩ v7).setCell ⟨g, 8, none⟩ v8).setCell ⟨g, 9, none⟩ v9).setCell ⟨g, 10, none⟩ v10).setCell ⟨g, 11, none⟩ v11) := by
  have k := h.trans ((other12 g w v0 v1 v2 v3 v4 v5 v6 v7 v8 v9 v10 v11).below (B := base) hg (Nat.le_trans hb h.size))
  exact ⟨millGot_zero (Nat.le_trans hb k.size) mi0 rfl rfl rfl rfl, k⟩
theorem put_got {base b g : Nat} {w0 wk : World} {s p l h : Value} {m : Mi} (H : MillGot b wk s p l h m) (hB : Below base w0 wk) (h1 : g + 1 ≤ b) (h2 : base ≤ g) (h4 : base ≤ w0.heap.size) (v0 v1 v2 v3 v4 v5 v6 v7 v8 v9 v10 v11 : Value) :
    MillGot base (((((((((((((wk).setCell ⟨g, 0, none⟩ v0).setCell ⟨g, 1, none⟩ v1).setCell ⟨g, 2, none⟩ v2).setCell ⟨g, 3, none⟩ v3).setCell ⟨g, 4, none⟩ v4).setCell ⟨g, 5, none⟩ v5).setCell ⟨g, 6, none⟩ v6).setCell ⟨g, 7, none⟩ v7).setCell ⟨g, 8, none⟩ v8).setCell ⟨g, 9, none⟩ v9).setCell ⟨g, 10, none⟩ v10).setCell ⟨g, 11, none⟩ v11) s p l h m ∧ Below base w0 (((((((((((((wk).setCell ⟨g, 0, none⟩ v0).setCell ⟨g, 1, none⟩ v1).setCell ⟨g, 2, none⟩ v2).setCell ⟨g, 3, none⟩ v3).setCell ⟨g, 4, none⟩ v4).setCell ⟨g, 5, none⟩ v5).setCell ⟨g, 6, none⟩ v6).setCell ⟨g, 7, none⟩ v7).setCell ⟨g, 8, none⟩ v8).setCell ⟨g, 9, none⟩ v9).setCell ⟨g, 10, none⟩ v10).setCell ⟨g, 11, none⟩ v11) :=
  got_put H hB (other12 g wk v0 v1 v2 v3 v4 v5 v6 v7 v8 v9 v10 v11) h1 h2 (by omega) h4
set_option maxHeartbeats 1600000 in
theorem cutBest_spec (v : Value) (a b : Int) (lo hi L : Nat) (hL : L ≤ 60) (hv : lensB a b = true) (w : World) (H : IntsAt lo hi w v [a, b]) :
    Calls Tryz.prog 172 #[.int .i64 (L : Int), v] w (IntsNew w.heap.size (manyL L a b) w) := by
  have HH := hide H
  have HV := hide hv
  have hlt := H.lt
  obtain ⟨⟨ha1, ha2⟩, hb1, hb2⟩ := lensB_iff.1 hv
  obtain ⟨hn0, hn1⟩ := many_60 hv hL
  obtain ⟨b0, o0, cap, rfl, h1, h2, -, -⟩ := two_at H
  have hmk : ∀ W : World, (Instr.makeSlice 27 (.int .i64 2) (.int .i64 2)).run Tryz.prog W = .ok (.slice (some ⟨W.heap.size, 0, none⟩) 2 2) (W.alloc (.cells (madeCells #[.int .i64 0] 2) 3)) := fun W =>
    make_rowN (P := Tryz.prog) 27 3 _ _ _ Tryz.underlying27 info_int .i64 .i64 2 (by omega) (by omega) W
  have hs1 : CutSt (tab a b (L + 1)) L b (many1 L a b) 0 L := CutSt.start
  have hnx : ∀ l : Int, CutSt (tab a b (L + 1)) L b (many1 L a b) (many1 L a b) l → l = L - many1 L a b * b → CutSt (tab a b (L + 1)) L a (many0 L a b) 0 l := fun l => CutSt.next
  have HC := hide (fun (W : World) (k : Below w.heap.size w W) => cutLeast_spec (.slice (some ⟨b0, o0, none⟩) 2 cap) a b lo hi L hL W (H.below k))
  have HT := hide (fun (W : World) (k : Below w.heap.size w W) => table_spec (.slice (some ⟨b0, o0, none⟩) 2 cap) a b lo hi L hL hv W (H.below k))
  clear H hv
  go_enter Tryz.func172, Tryz.ntmps172
  go_wp2_with fail
  refine (HC.out w (Below.refl _ _)).mono ?_
  rintro e w0 ⟨x, rfl, -, hx, hb0⟩
  have hx0 : ¬ x < 0 := by have := hx HV.out; omega
  have HB0 := hide hb0
  clear hx hb0
  go_wp2_with fail
  refine (HT.out w0 HB0.out).mono ?_

  rintro e w2 ⟨v1, rfl, hown, hb2⟩
  have hb2 := Below.step HB0.out hb2 (Nat.le_refl _)
  have hown := ownsRow_mono hown HB0.out.size
  have hz2 := hb2.size
  have HB2 := hide hb2
  have h12 := ownI_at hown rfl (by omega)
  obtain ⟨T, hT⟩ : ∃ T, tab a b (L + 1) = T := ⟨_, rfl⟩
  have HTL := hide (show T.length = L + 1 by rw [← hT, tab_len])
  rw [hT] at h12 hs1 hnx
  have HS1 := hide hs1
  have HNX := hide hnx
  have HI := hide h12
  obtain ⟨ao1, cap1, rfl, -⟩ := h12
  clear hown hb2 hT hs1 hnx
  go_wp2_with fail
  clear hmk
  obtain ⟨G, hG⟩ : ∃ G, w2.heap.size = G := ⟨_, rfl⟩
  obtain ⟨wa, hwa⟩ : ∃ wa, wa = w2.alloc (.cells (madeCells #[.int .i64 0] 2) 3) := ⟨_, rfl⟩
  have HR := hide (show Row2 wa G 0 0 by
    rw [← hG, hwa]
    exact ⟨_, World.rowIs_made w2 (.int .i64 0) 2 3, rfl, rfl⟩)
  have HB := hide (show Below w2.heap.size w2 wa by rw [hwa]; exact (Below.refl _ _).alloc (Nat.le_refl _) _)
  rw [← hwa, hG]
  have HGZ := hide hG
  have hbG : b0 ≠ G := by omega
  have hGb : G ≠ b0 := by omega
  clear hwa hG
  go_loopw [7, 8] (fun left i wr => Below w2.heap.size w2 wr ∧ ((i = .int .i64 1 ∧ left = .int .i64 (L : Int) ∧ Row2 wr G 0 0) ∨ (∃ l : Int, i = .int .i64 0 ∧ left = .int .i64 l ∧ CutSt T L a (many0 L a b) 0 l ∧ Row2 wr G 0 (many1 L a b)) ∨ (i = .int .i64 (-1) ∧ Row2 wr G (many0 L a b) (many1 L a b)))) (fun _ i _ => (intOf i + 1).toNat)
  case atStart => exact ⟨HB.out, .inl ⟨rfl, rfl, HR.out⟩⟩
  case round =>
    obtain ⟨hb, hcase⟩ := hrel
    clear HB HR
    have HB := hide hb
    obtain ⟨wo, rfl⟩ : ∃ wo : World, wo = wr := ⟨_, rfl⟩
    rcases hcase with ⟨rfl, rfl, hr⟩ | ⟨l, rfl, rfl, hst, hr⟩ | ⟨rfl, hr⟩
    · have HR := hide hr
      clear hr hb
      go_wp2_with fail
      go_loopw [7] (fun left wr => ∃ (c : Nat) (l : Int), left = .int .i64 l ∧ Below w2.heap.size w2 wr ∧ CutSt T L b (many1 L a b) c l ∧ Row2 wr G 0 c ∧ l = L - c * b) (fun left _ => (intOf left).toNat)
      case atStart => exact ⟨0, _, rfl, HB.out, HS1.out, HR.out, by simp⟩
      case round =>
        obtain ⟨c, l, rfl, hb, hst, hrow, hlx⟩ := hrel
        have HB := hide hb
        have HC := hide hst
        have HR := hide hrow
        have HLX := hide hlx
        obtain ⟨b1, o1, cap1, e1, -, -, c0, c1⟩ := two_at (HH.out.below (HB2.out.trans (hb.mono hz2)))
        cases e1
        obtain ⟨g0, g1, f0, f1, hGz⟩ := hrow.cell
        have hl0 := hst.pos
        have hl1 := hst.le
        have HAT := hide (HI.out.below hb)
        clear hb hst hrow hlx
        by_cases hle : b ≤ l
        · obtain ⟨d, hd⟩ : ∃ d : Nat, l - b = d := ⟨(l - b).toNat, by omega⟩
          have hwd : IntKind.i64.wrap (l - b) = (d : Int) := by rw [hd]; exact IntWalk.i64_in _ (by omega)
          have hTl := HTL.out
          have hdT : (d : Int) < (T.length : Int) := by omega
          have hd0 : (0 : Int) ≤ (d : Int) := by omega
          obtain ⟨q, rfl⟩ : ∃ q : Nat, l = q := ⟨l.toNat, by omega⟩
          have hLT : (q : Int) < (T.length : Int) := by omega
          have hL0 : (0 : Int) ≤ (q : Int) := by omega
          obtain ⟨b3, o3, cap3, e3, -, -, gL, -⟩ := ints_at HAT.out (k := q) (by omega)
          cases e3
          obtain ⟨b4, o4, cap4, e4, -, -, gd, -⟩ := ints_at HAT.out (k := d) (by omega)
          cases e4
          obtain ⟨y, hy⟩ : ∃ y, T.getD d 0 = y := ⟨_, rfl⟩
          obtain ⟨z, hz⟩ : ∃ z, T.getD q 0 = z := ⟨_, rfl⟩
          rw [hy] at gd
          rw [hz] at gL
          have HM := hide (show moreB T b (q : Int) = (y == z) by
            unfold moreB
            rw [hd, show ((d : Int)).toNat = d by omega, hy, show ((q : Int)).toNat = q by omega, hz]
            simp [hle])
          have HD := hide hd
          clear hy hz hd hTl
          by_cases hyz : y = z
          · subst hyz
            have HM2 := HC.out.more (by omega) (HM.out.trans (by simp))
            rw [HD.out] at HM2
            obtain ⟨hst2, -, hcn⟩ := HM2
            have hw1 : IntKind.i64.wrap ((c : Int) + 1) = ((c + 1 : Nat) : Int) := by rw [show (c : Int) + 1 = ((c + 1 : Nat) : Int) by omega]; exact IntWalk.i64_in _ (by omega)
            have HST := hide hst2
            clear hst2 HM HC
            go_wp2_with fail
            go_quiet (fail)
            go_wp2_with fail
            go_roundw
            case rel => exact ⟨c + 1, d, rfl, (below_drewN HB.out _).setCell (by have := HGZ.out; show w2.heap.size ≤ G; omega) _, HST.out, by simpa using Row2.drewN HR.out _ |>.set1 (c + 1), by have h1 := HLX.out; have h2 := HD.out; rw [Int.natCast_add, Int.add_mul]; omega⟩
            case measure => have hD := HD.out; simp [intOf]; omega
          · obtain rfl := HC.out.done (HM.out.trans (by simpa using hyz))
            have hyzb : (y == z) = false := by simpa using hyz
            clear HM
            go_wp2_with fail
            go_quiet (fail)
            go_wp2_with fail
            go_roundw
            case rel => exact ⟨below_drewN HB.out _, .inr (.inl ⟨_, rfl, rfl, HNX.out _ HC.out HLX.out, Row2.drewN HR.out _⟩)⟩
            case measure => simp [intOf]
        · obtain rfl := HC.out.done (show moreB T b l = false by unfold moreB; simp [hle])
          have hleb : decide (b ≤ l) = false := by simpa using hle
          go_wp2_with fail
          go_quiet (fail)
          go_wp2_with fail
          go_roundw
          case rel => exact ⟨below_drewN HB.out _, .inr (.inl ⟨l, rfl, rfl, HNX.out l HC.out HLX.out, Row2.drewN HR.out _⟩)⟩
          case measure => simp [intOf]
    · have HR := hide hr
      have HS0 := hide hst
      clear hr hst hb
      go_wp2_with fail
      go_loopw [7] (fun left wr => ∃ (c : Nat) (l : Int), left = .int .i64 l ∧ Below w2.heap.size w2 wr ∧ CutSt T L a (many0 L a b) c l ∧ Row2 wr G c (many1 L a b) ∧ True) (fun left _ => (intOf left).toNat)
      case atStart => exact ⟨0, _, rfl, HB.out, HS0.out, HR.out, trivial⟩
      case round =>
        obtain ⟨c, l, rfl, hb, hst, hrow, hlx⟩ := hrel
        have HB := hide hb
        have HC := hide hst
        have HR := hide hrow
        have HLX := hide hlx
        obtain ⟨b1, o1, cap1, e1, -, -, c0, c1⟩ := two_at (HH.out.below (HB2.out.trans (hb.mono hz2)))
        cases e1
        obtain ⟨g0, g1, f0, f1, hGz⟩ := hrow.cell
        have hl0 := hst.pos
        have hl1 := hst.le
        have HAT := hide (HI.out.below hb)
        clear hb hst hrow hlx
        by_cases hle : a ≤ l
        · obtain ⟨d, hd⟩ : ∃ d : Nat, l - a = d := ⟨(l - a).toNat, by omega⟩
          have hwd : IntKind.i64.wrap (l - a) = (d : Int) := by rw [hd]; exact IntWalk.i64_in _ (by omega)
          have hTl := HTL.out
          have hdT : (d : Int) < (T.length : Int) := by omega
          have hd0 : (0 : Int) ≤ (d : Int) := by omega
          obtain ⟨q, rfl⟩ : ∃ q : Nat, l = q := ⟨l.toNat, by omega⟩
          have hLT : (q : Int) < (T.length : Int) := by omega
          have hL0 : (0 : Int) ≤ (q : Int) := by omega
          obtain ⟨b3, o3, cap3, e3, -, -, gL, -⟩ := ints_at HAT.out (k := q) (by omega)
          cases e3
          obtain ⟨b4, o4, cap4, e4, -, -, gd, -⟩ := ints_at HAT.out (k := d) (by omega)
          cases e4
          obtain ⟨y, hy⟩ : ∃ y, T.getD d 0 = y := ⟨_, rfl⟩
          obtain ⟨z, hz⟩ : ∃ z, T.getD q 0 = z := ⟨_, rfl⟩
          rw [hy] at gd
          rw [hz] at gL
          have HM := hide (show moreB T a (q : Int) = (y == z) by
            unfold moreB
            rw [hd, show ((d : Int)).toNat = d by omega, hy, show ((q : Int)).toNat = q by omega, hz]
            simp [hle])
          have HD := hide hd
          clear hy hz hd hTl
          by_cases hyz : y = z
          · subst hyz
            have HM2 := HC.out.more (by omega) (HM.out.trans (by simp))
            rw [HD.out] at HM2
            obtain ⟨hst2, -, hcn⟩ := HM2
            have hw1 : IntKind.i64.wrap ((c : Int) + 1) = ((c + 1 : Nat) : Int) := by rw [show (c : Int) + 1 = ((c + 1 : Nat) : Int) by omega]; exact IntWalk.i64_in _ (by omega)
            have HST := hide hst2
            clear hst2 HM HC
            go_wp2_with fail
            go_quiet (fail)
            go_wp2_with fail
            go_roundw
            case rel => exact ⟨c + 1, d, rfl, (below_drewN HB.out _).setCell (by have := HGZ.out; show w2.heap.size ≤ G; omega) _, HST.out, by simpa using Row2.drewN HR.out _ |>.set0 (c + 1), trivial⟩
            case measure => have hD := HD.out; simp [intOf]; omega
          · obtain rfl := HC.out.done (HM.out.trans (by simpa using hyz))
            have hyzb : (y == z) = false := by simpa using hyz
            clear HM
            go_wp2_with fail
            go_quiet (fail)
            go_wp2_with fail
            go_roundw
            case rel => exact ⟨below_drewN HB.out _, .inr (.inr ⟨rfl, Row2.drewN HR.out _⟩)⟩
            case measure => simp [intOf]
        · obtain rfl := HC.out.done (show moreB T a l = false by unfold moreB; simp [hle])
          have hleb : decide (a ≤ l) = false := by simpa using hle
          go_wp2_with fail
          go_quiet (fail)
          go_wp2_with fail
          go_roundw
          case rel => exact ⟨below_drewN HB.out _, .inr (.inr ⟨rfl, Row2.drewN HR.out _⟩)⟩
          case measure => simp [intOf]
    · have HR := hide hr
      clear hr hb
      go_wp2_with fail
      go_ret
      exact ⟨_, rfl, (HR.out.own (base := w.heap.size) (by have := HGZ.out; omega)), HB2.out.trans (HB.out.mono hz2)⟩
end Go.Proofs.YtmemgbklgcjobaaGreatDoor
