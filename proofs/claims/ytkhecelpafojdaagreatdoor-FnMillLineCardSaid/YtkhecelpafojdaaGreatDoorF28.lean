/-
  Parts of the proofs over mills, of: DoP, CutL. Conditions: each theorem states its own.
-/
import Derived.Test.YtkhecelpafojdaaGreatDoorF21
set_option linter.unusedSimpArgs false
set_option linter.unusedVariables false
set_option maxRecDepth 10000
set_option maxHeartbeats 64000000
namespace Go.Proofs.YtkhecelpafojdaaGreatDoor
open Go.RowKit
theorem gD {m : Mi} (h : aF m = true) (k a b : Int) : doR m ⟨k, a, b⟩ = orOld m (jE m k a b) := by
 unfold doR;rw [if_pos h];rfl
theorem step_0 (m : Mi) (a b : Int) : jE m 0 a b = jv m a := rfl
theorem step_1 (m : Mi) (a b : Int) : jE m 1 a b = cutD m a b := rfl
theorem step_2 (m : Mi) (a b : Int) : jE m 2 a b = iI m a b := rfl
theorem step_3 (m : Mi) (a b : Int) : jE m 3 a b = liftD m a b := rfl
theorem step_4 (m : Mi) (a b : Int) : jE m 4 a b = iT m a := rfl
theorem step_x {m : Mi} {k a b : Int} (h0 : (k == 0) = false) (h1 : (k == 1) = false) (h2 : (k == 2) = false) (h3 : (k == 3) = false) (h4 : (k == 4) = false) : jE m k a b = none := by
 simp [jE, h0, h1, h2, h3, h4]
theorem found_take {lo hi : List Int} {id p x : Int} {t : Bool} {q : List Int × List Int} (h : cK lo hi id = some (t, p)) (h2 : bE lo hi t p = (q, x)) : 1 ≤ id ∧ (x = 0 ∨ x = id) := by
 obtain ⟨f1, f2, kk, rfl, f3, f4⟩ := find_at h;refine ⟨f2, ?_⟩;by_cases h0 : x = 0
 ·exact .inl h0
 ·obtain ⟨p1, p2, p3, p4, p5, -, k', e', p6, p7⟩ := take_ok h2 h0
  have hkk : kk = k' := by omega
  subst hkk;exact .inr (by rw [← p7, f4])
theorem aK.past {base T T' sz n C : Nat} {w w' : World} {v : Value} {cs vs : List Value} (h : aK base T sz w v n cs) (r : ae w C T' vs) (hT : T ≠ T') (k : ai C (C + 1) w w') : aK base T sz w' v n cs := by
 rcases h with h | ⟨g, h1, h2, h3, h4, h5⟩
 ·exact .inl (bJ h k fun g hg => by
   have := iA h r hT g hg;omega)
 ·exact .inr ⟨g, h1, h2, Nat.lt_of_lt_of_le h3 k.size, h4, h5⟩
theorem ak.past {base C : Nat} {w w' : World} {s p l h : Value} {m : Mi} {vs : List Value} (H : ak base w s p l h m) (r : ae w C 31 vs) (k : ai C (C + 1) w w') : ak base w' s p l h m :=
 ⟨Nat.le_trans H.hb k.size, H.so.past r (by decide) k, H.po.past r (by decide) k, H.lo.past r (by decide) k, H.ho.past r (by decide) k, H.sp, H.sl, H.sh, H.pl, H.ph, H.lh⟩
theorem iD {w W W' : World} {A D : Nat} {l h x y : Value} (hA : A < w.heap.size) (hD : D < w.heap.size) (k : Below W.heap.size W W') (H : ((W.cell? ⟨A, 9, none⟩ = some l ∧ W.cell? ⟨A, 10, none⟩ = some h) ∧ (W.cell? ⟨D, 1, none⟩ = some x ∧ W.cell? ⟨D, 2, none⟩ = some y)) ∧ Below w.heap.size w W) :
 ((W'.cell? ⟨A, 9, none⟩ = some l ∧ W'.cell? ⟨A, 10, none⟩ = some h) ∧ (W'.cell? ⟨D, 1, none⟩ = some x ∧ W'.cell? ⟨D, 2, none⟩ = some y)) ∧ Below w.heap.size w W' := by
 have hz := H.2.size;exact ⟨⟨⟨(k.cell (p := ⟨A, 9, none⟩) (show A < W.heap.size by omega)).trans H.1.1.1, (k.cell (p := ⟨A, 10, none⟩) (show A < W.heap.size by omega)).trans H.1.1.2⟩, (k.cell (p := ⟨D, 1, none⟩) (show D < W.heap.size by omega)).trans H.1.2.1, (k.cell (p := ⟨D, 2, none⟩) (show D < W.heap.size by omega)).trans H.1.2.2⟩, H.2.trans (k.mono hz)⟩
theorem heldD_alloc {w W : World} {A D : Nat} {l h x y : Value} {o : Obj} (hA : A < w.heap.size) (hD : D < w.heap.size) (H : ((W.cell? ⟨A, 9, none⟩ = some l ∧ W.cell? ⟨A, 10, none⟩ = some h) ∧ (W.cell? ⟨D, 1, none⟩ = some x ∧ W.cell? ⟨D, 2, none⟩ = some y)) ∧ Below w.heap.size w W) :
 (((W.alloc o).cell? ⟨A, 9, none⟩ = some l ∧ (W.alloc o).cell? ⟨A, 10, none⟩ = some h) ∧ ((W.alloc o).cell? ⟨D, 1, none⟩ = some x ∧ (W.alloc o).cell? ⟨D, 2, none⟩ = some y)) ∧ Below w.heap.size w (W.alloc o) :=
 iD hA hD ((Below.refl _ _).alloc nl o) H
theorem heldD_store {w W : World} {A D G : Nat} {l h x y u v : Value} (hA : A < w.heap.size) (hD : D < w.heap.size) (hG : w.heap.size ≤ G) (H : ((W.cell? ⟨A, 9, none⟩ = some l ∧ W.cell? ⟨A, 10, none⟩ = some h) ∧ (W.cell? ⟨D, 1, none⟩ = some x ∧ W.cell? ⟨D, 2, none⟩ = some y)) ∧ Below w.heap.size w W) :
 ((((W.setCell ⟨G, 0, none⟩ u).setCell ⟨G, 1, none⟩ v).cell? ⟨A, 9, none⟩ = some l ∧ ((W.setCell ⟨G, 0, none⟩ u).setCell ⟨G, 1, none⟩ v).cell? ⟨A, 10, none⟩ = some h) ∧ (((W.setCell ⟨G, 0, none⟩ u).setCell ⟨G, 1, none⟩ v).cell? ⟨D, 1, none⟩ = some x ∧ ((W.setCell ⟨G, 0, none⟩ u).setCell ⟨G, 1, none⟩ v).cell? ⟨D, 2, none⟩ = some y)) ∧ Below w.heap.size w ((W.setCell ⟨G, 0, none⟩ u).setCell ⟨G, 1, none⟩ v) := by
 have k : Below w.heap.size W ((W.setCell ⟨G, 0, none⟩ u).setCell ⟨G, 1, none⟩ v) := ((Below.refl _ _).setCell (p := ⟨G, 0, none⟩) hG _).setCell (p := ⟨G, 1, none⟩) hG _;exact ⟨⟨⟨(k.cell (p := ⟨A, 9, none⟩) hA).trans H.1.1.1, (k.cell (p := ⟨A, 10, none⟩) hA).trans H.1.1.2⟩, (k.cell (p := ⟨D, 1, none⟩) hD).trans H.1.2.1, (k.cell (p := ⟨D, 2, none⟩) hD).trans H.1.2.2⟩, H.2.trans k⟩
theorem below_other {B : Nat} {w w' : World} (h : Below B w w') : ai B w.heap.size w w' :=
 ⟨h.os, h.tape, h.output, h.size, fun k h1 h2 => h.block k (by omega)⟩
theorem aM.gW {hi B : Nat} {w w' : World} {s p l h : Value} {m : Mi} (H : aM 0 hi w s p l h m) (k : Below B w w') (hB : hi ≤ B) : aM 0 hi w' s p l h m :=
 H.other (below_other k) (.inl hB)
theorem fV {m : Mi} (h : aF m = true) : m.store.length ≤ 1000000 ∧ m.pieces.length ≤ 1000000 ∧ m.low.length ≤ 1000000 ∧ m.high.length ≤ 1000000 := by
 have hv := aQ.1 h;have h1 := dG hv.store;have h2 := hv.len;have h3 := hv.pile.l6;have h4 := hv.pile.lh;omega
theorem two_lit {g : Nat} (W : World) (a b : Int) (T : Nat) (hg : W.heap.size = g) : au g (W.alloc (.cells #[.int .i64 a, .int .i64 b] T)).heap.size (W.alloc (.cells #[.int .i64 a, .int .i64 b] T)) (.slice (some ⟨g, 0, none⟩) 2 2) [a, b] := by
 subst hg;exact au.of_row (xs := [a, b]) (ae.new W T [.int .i64 a, .int .i64 b]) nl (by simp) (fun i hi => by
  have : i = 0 ∨ i = 1 := by simp at hi; omega
  rcases this with rfl | rfl <;> simp) nl
theorem aI (g : Nat) (w : World) (v0 v1 v2 v3 v4 v5 v6 v7 v8 v9 v10 v11 : Value) : ai g (g + 1) w (((((((((((((w).setCell ⟨g, 0, none⟩ v0).setCell ⟨g, 1, none⟩ v1).setCell ⟨g, 2, none⟩ v2).setCell ⟨g, 3, none⟩ v3).setCell ⟨g, 4, none⟩ v4).setCell ⟨g, 5, none⟩ v5).setCell ⟨g, 6, none⟩ v6).setCell ⟨g, 7, none⟩ v7).setCell ⟨g, 8, none⟩ v8).setCell ⟨g, 9, none⟩ v9).setCell ⟨g, 10, none⟩ v10).setCell ⟨g, 11, none⟩ v11) :=
 ai.setCell (p := ⟨g, 11, none⟩) (ai.setCell (p := ⟨g, 10, none⟩) (ai.setCell (p := ⟨g, 9, none⟩) (ai.setCell (p := ⟨g, 8, none⟩) (ai.setCell (p := ⟨g, 7, none⟩) (ai.setCell (p := ⟨g, 6, none⟩) (ai.setCell (p := ⟨g, 5, none⟩) (ai.setCell (p := ⟨g, 4, none⟩) (ai.setCell (p := ⟨g, 3, none⟩) (ai.setCell (p := ⟨g, 2, none⟩) (ai.setCell (p := ⟨g, 1, none⟩) (ai.setCell (p := ⟨g, 0, none⟩) (ai.refl _ _ _) nl ns _) nl ns _) nl ns _) nl ns _) nl ns _) nl ns _) nl ns _) nl ns _) nl ns _) nl ns _) nl ns _) nl ns _
theorem dU {w : World} {g T : Nat} {us : List Value} (h : ae w g T us) (hl : us.length = 12) (v0 v1 v2 v3 v4 v5 v6 v7 v8 v9 v10 v11 : Value) : ae (((((((((((((w).setCell ⟨g, 0, none⟩ v0).setCell ⟨g, 1, none⟩ v1).setCell ⟨g, 2, none⟩ v2).setCell ⟨g, 3, none⟩ v3).setCell ⟨g, 4, none⟩ v4).setCell ⟨g, 5, none⟩ v5).setCell ⟨g, 6, none⟩ v6).setCell ⟨g, 7, none⟩ v7).setCell ⟨g, 8, none⟩ v8).setCell ⟨g, 9, none⟩ v9).setCell ⟨g, 10, none⟩ v10).setCell ⟨g, 11, none⟩ v11) g T [v0, v1, v2, v3, v4, v5, v6, v7, v8, v9, v10, v11] := by
 obtain ⟨u0, u1, u2, u3, u4, u5, u6, u7, u8, u9, u10, u11, rfl⟩ : ∃ u0 u1 u2 u3 u4 u5 u6 u7 u8 u9 u10 u11, us = [u0, u1, u2, u3, u4, u5, u6, u7, u8, u9, u10, u11] := by
  match us, hl with
  | [u0, u1, u2, u3, u4, u5, u6, u7, u8, u9, u10, u11], _ => exact ⟨_, _, _, _, _, _, _, _, _, _, _, _, rfl⟩
 exact ((((((((((((h).set 0 v0 (by simp)).set 1 v1 (by simp)).set 2 v2 (by simp)).set 3 v3 (by simp)).set 4 v4 (by simp)).set 5 v5 (by simp)).set 6 v6 (by simp)).set 7 v7 (by simp)).set 8 v8 (by simp)).set 9 v9 (by simp)).set 10 v10 (by simp)).set 11 v11 (by simp)
theorem bU {base g : Nat} {w0 w : World} (h : Below base w0 w) (hb : base ≤ w0.heap.size) (hg : base ≤ g) (v0 v1 v2 v3 v4 v5 v6 v7 v8 v9 v10 v11 : Value) :
 ak base (((((((((((((w).setCell ⟨g, 0, none⟩ v0).setCell ⟨g, 1, none⟩ v1).setCell ⟨g, 2, none⟩ v2).setCell ⟨g, 3, none⟩ v3).setCell ⟨g, 4, none⟩ v4).setCell ⟨g, 5, none⟩ v5).setCell ⟨g, 6, none⟩ v6).setCell ⟨g, 7, none⟩ v7).setCell ⟨g, 8, none⟩ v8).setCell ⟨g, 9, none⟩ v9).setCell ⟨g, 10, none⟩ v10).setCell ⟨g, 11, none⟩ v11) (.slice none 0 0) (.slice none 0 0) (.slice none 0 0) (.slice none 0 0) mi0 ∧ Below base w0 (((((((((((((w).setCell ⟨g, 0, none⟩ v0).setCell ⟨g, 1, none⟩ v1).setCell ⟨g, 2, none⟩ v2).setCell ⟨g, 3, none⟩ v3).setCell ⟨g, 4, none⟩ v4).setCell ⟨g, 5, none⟩ v5).setCell ⟨g, 6, none⟩ v6).setCell ⟨g, 7, none⟩ v7).setCell ⟨g, 8, none⟩ v8).setCell ⟨g, 9, none⟩ v9).setCell ⟨g, 10, none⟩ v10).setCell ⟨g, 11, none⟩ v11) := by
 have k := h.trans ((aI g w v0 v1 v2 v3 v4 v5 v6 v7 v8 v9 v10 v11).below (B := base) hg (Nat.le_trans hb h.size));exact ⟨millGot_zero (Nat.le_trans hb k.size) mi0 rfl rfl rfl rfl, k⟩
theorem aV {base b g : Nat} {w0 wk : World} {s p l h : Value} {m : Mi} (H : ak b wk s p l h m) (hB : Below base w0 wk) (h1 : g + 1 ≤ b) (h2 : base ≤ g) (h4 : base ≤ w0.heap.size) (v0 v1 v2 v3 v4 v5 v6 v7 v8 v9 v10 v11 : Value) :
 ak base (((((((((((((wk).setCell ⟨g, 0, none⟩ v0).setCell ⟨g, 1, none⟩ v1).setCell ⟨g, 2, none⟩ v2).setCell ⟨g, 3, none⟩ v3).setCell ⟨g, 4, none⟩ v4).setCell ⟨g, 5, none⟩ v5).setCell ⟨g, 6, none⟩ v6).setCell ⟨g, 7, none⟩ v7).setCell ⟨g, 8, none⟩ v8).setCell ⟨g, 9, none⟩ v9).setCell ⟨g, 10, none⟩ v10).setCell ⟨g, 11, none⟩ v11) s p l h m ∧ Below base w0 (((((((((((((wk).setCell ⟨g, 0, none⟩ v0).setCell ⟨g, 1, none⟩ v1).setCell ⟨g, 2, none⟩ v2).setCell ⟨g, 3, none⟩ v3).setCell ⟨g, 4, none⟩ v4).setCell ⟨g, 5, none⟩ v5).setCell ⟨g, 6, none⟩ v6).setCell ⟨g, 7, none⟩ v7).setCell ⟨g, 8, none⟩ v8).setCell ⟨g, 9, none⟩ v9).setCell ⟨g, 10, none⟩ v10).setCell ⟨g, 11, none⟩ v11) :=
 got_put H hB (aI g wk v0 v1 v2 v3 v4 v5 v6 v7 v8 v9 v10 v11) h1 h2 (by omega) h4
theorem lens_spec (v : Value) (a b : Int) (lo hi : Nat) (w : World) (H : au lo hi w v [a, b]) :
 Calls Tryz.prog 152 #[v] w fun e w' => e = .returned (.bool (dB a b)) ∧ Below w.heap.size w w' := by
 have HH := hide H;obtain ⟨b0, o0, cap, rfl, -, -, -, -⟩ := bK H;clear H;go_enter Tryz.func152, Tryz.ntmps152;go_wp2_with fail
 go_loopw [3] (fun i wr => Below w.heap.size w wr ∧ ((i = .int .i64 0) ∨ (i = .int .i64 1 ∧ wi a 1 60 = true) ∨ (i = .int .i64 2 ∧ dB a b = true))) (fun i _ => 2 - (intOf i).toNat)
 case atStart => exact ⟨Below.refl _ _, .inl rfl⟩
 case round =>
  obtain ⟨hb, hcase⟩ := hrel;have HB := hide hb;obtain ⟨b1, o1, cap1, e1, -, -, c0, c1⟩ := bK (HH.out.below hb);cases e1;clear hb;rcases hcase with rfl | ⟨rfl, h⟩ | ⟨rfl, h⟩
  ·cases h : wi a 1 60 with
   | false =>
    have HF := hide (show dB a b = false by simp [dB, h]);have hq := fun W => aY a 1 60 W;rw [h] at hq;have HQ := hide hq;have HA := hide h;clear h hq;go_wp2_with fail
    go_quiet ((go_at_call 42; exact bL (HQ.out _)))
    go_wp2_with fail
    go_ret;exact ⟨by rw [HF.out]; rfl, below_drewN HB.out _⟩
   | true =>
    have hq := fun W => aY a 1 60 W;rw [h] at hq;have HQ := hide hq;have HA := hide h;clear h hq;go_wp2_with fail
    go_quiet ((go_at_call 42; exact bL (HQ.out _)))
    go_wp2_with fail
    go_roundw
    case rel => exact ⟨below_drewN HB.out _, .inr (.inl ⟨rfl, by first | trivial | exact HA.out⟩)⟩
    case measure => simp [intOf]
  ·have ha := aN.1 h
   cases h1 : wi b 1 60 with
   | false =>
    have HF := hide (show dB a b = false by
     rw [← Bool.not_eq_true, di];intro hh;have : wi b 1 60 = true := aN.2 (by omega);rw [this] at h1; cases h1)
    have hq := fun W => aY b 1 60 W;rw [h1] at hq;have HQ := hide hq;clear h h1 hq;go_wp2_with fail
    go_quiet ((go_at_call 42; exact bL (HQ.out _)))
    go_wp2_with fail
    go_ret;exact ⟨by rw [HF.out]; rfl, below_drewN HB.out _⟩
   | true =>
    have hb1 := aN.1 h1;by_cases hab : b ≤ a
    ·have HF := hide (show dB a b = false by
      rw [← Bool.not_eq_true, di];omega)
     have hq := fun W => aY b 1 60 W;rw [h1] at hq;have HQ := hide hq;have habd : decide (b ≤ a) = true := by simpa using hab
     clear h h1 hq;go_wp2_with fail
     go_quiet ((go_at_call 42; exact bL (HQ.out _)))
     go_wp2_with fail
     go_ret;exact ⟨by rw [HF.out]; rfl, below_drewN HB.out _⟩
    ·have HF := hide (show dB a b = true from di.2 (by omega))
     have hq := fun W => aY b 1 60 W;rw [h1] at hq;have HQ := hide hq;have habd : decide (b ≤ a) = false := by simpa using hab
     clear h h1 hq;go_wp2_with fail
     go_quiet ((go_at_call 42; exact bL (HQ.out _)))
     go_wp2_with fail
     go_roundw
     case rel => exact ⟨below_drewN HB.out _, .inr (.inr ⟨rfl, HF.out⟩)⟩
     case measure => simp [intOf]
  ·go_wp2_with fail
   refine (aY 2 1 4 wr).mono ?_;rintro e w1 ⟨rfl, rfl⟩;have hw : wi 2 1 4 = true := by decide
   rw [hw];go_wp2_with fail
   go_ret;exact ⟨by rw [h]; rfl, HB.out⟩
theorem table_spec (v : Value) (a b : Int) (lo hi L : Nat) (hL : L ≤ 60) (hv : dB a b = true) (w : World) (H : au lo hi w v [a, b]) :
 Calls Tryz.prog 151 #[.int .i64 (L : Int), v] w (fA w.heap.size (tab a b (L + 1)) w) := by
 have HH := hide H;have hlt := H.lt;obtain ⟨⟨ha1, ha2⟩, hb1, hb2⟩ := di.1 hv;obtain ⟨b0, o0, cap, rfl, h1, h2, -, -⟩ := bK H;obtain ⟨j0, hj0, hy0, hj1, hj2⟩ := info_parts bF;clear H hv;go_enter Tryz.func151, Tryz.ntmps151;go_wp2_with fail
 go_loopw [5, 6, 7, 8] (fun o i _ _ wr => ∃ k : Nat, k ≤ L + 1 ∧ i = .int .i64 (k : Int) ∧ Below w.heap.size w wr ∧ wr.ownsRow w.heap.size 3 1 o k (aC (tab a b k))) (fun _ i _ _ _ => L + 1 - (intOf i).toNat)
 case atStart =>
  exact ⟨0, Nat.zero_le _, rfl, by go_grown, by simpa [tab, aC] using World.ownsRow_lit (e := 3) (size := 1) (base := w.heap.size) w #[] 0 nl (by unfold maxLen; omega) (by simp)⟩
 case round =>
  obtain ⟨k, hk, rfl, hb, hown⟩ := hrel;have hzr := hb.size;obtain ⟨aov, capv, rfl, -, -⟩ := aB hown;have hat := bH hown (eQ a b k).symm hzr;have HB := hide hb;have HO := hide hown;clear hown;by_cases hltk : k < L + 1
  ·have hkI : (k : Int) ≤ (L : Int) := by omega
   have hk0 : (0 : Int) ≤ (k : Int) := by omega
   have HAT := hide hat;have HC := hide (bK (HH.out.below hb));clear hb hat;obtain ⟨wo, hwo⟩ : ∃ wo : World, wo = wr := ⟨_, rfl⟩;subst hwo;go_wp2_with fail
   go_loop [7, 8] (fun x i => ∃ y : Int, x = .int .i64 y ∧ ((i = .int .i64 0 ∧ y = k) ∨ (i = .int .i64 1 ∧ y = wst1 (tab a b k) a k) ∨ (i = .int .i64 2 ∧ y = wst2 (tab a b k) a b k))) (fun _ i => 2 - (intOf i).toNat)
   case atStart => exact ⟨k, rfl, .inl ⟨rfl, rfl⟩⟩
   case round =>
    obtain ⟨y, rfl, hcase⟩ := hrel;obtain ⟨b1, o1, cap1, e1, -, -, c0, c1⟩ := HC.out;cases e1;rcases hcase with ⟨rfl, rfl⟩ | ⟨rfl, rfl⟩ | ⟨rfl, rfl⟩
    ·by_cases hle : a ≤ (k : Int)
     ·obtain ⟨d, hd⟩ : ∃ d : Nat, (k : Int) - a = d := ⟨((k : Int) - a).toNat, by omega⟩
      have hdk : d < k := by omega
      have hdI : (d : Int) < (k : Int) := by omega
      have hd0 : (0 : Int) ≤ (d : Int) := by omega
      have hwd : IntKind.i64.wrap ((k : Int) - a) = (d : Int) := by rw [hd]; exact IntWalk.i64_in _ (by omega)
      obtain ⟨b2, o2, cap2, e2, -, -, gd, -⟩ := ints_at HAT.out (k := d) (by rw [eQ]; exact hdk);rw [eQ] at e2;cases e2;obtain ⟨z, hz⟩ : ∃ z, (tab a b k).getD d 0 = z := ⟨_, rfl⟩;rw [hz] at gd;have HX := hide (show wst1 (tab a b k) a k = min (k : Int) z by
       unfold wst1;rw [if_pos hle, hd];simp [← hz])
      clear hz hd;go_wp2_with fail
      go_round
      case rel => exact ⟨_, by rw [HX.out], .inr (.inl ⟨rfl, rfl⟩)⟩
      case measure => simp [intOf]
     ·have HX := hide (show wst1 (tab a b k) a k = k by unfold wst1; rw [if_neg hle])
      go_wp2_with fail
      go_round
      case rel => exact ⟨_, rfl, .inr (.inl ⟨rfl, HX.out.symm⟩)⟩
      case measure => simp [intOf]
    ·by_cases hle : b ≤ (k : Int)
     ·obtain ⟨d, hd⟩ : ∃ d : Nat, (k : Int) - b = d := ⟨((k : Int) - b).toNat, by omega⟩
      have hdk : d < k := by omega
      have hdI : (d : Int) < (k : Int) := by omega
      have hd0 : (0 : Int) ≤ (d : Int) := by omega
      have hwd : IntKind.i64.wrap ((k : Int) - b) = (d : Int) := by rw [hd]; exact IntWalk.i64_in _ (by omega)
      obtain ⟨b2, o2, cap2, e2, -, -, gd, -⟩ := ints_at HAT.out (k := d) (by rw [eQ]; exact hdk);rw [eQ] at e2;cases e2;obtain ⟨z, hz⟩ : ∃ z, (tab a b k).getD d 0 = z := ⟨_, rfl⟩;obtain ⟨x1, hx1⟩ : ∃ x1, wst1 (tab a b k) a k = x1 := ⟨_, rfl⟩;rw [hz] at gd;have HX := hide (show wst2 (tab a b k) a b k = min x1 z by
       unfold wst2;rw [if_pos hle, hd, hx1];simp [← hz])
      rw [hx1];clear hz hd hx1;go_wp2_with fail
      go_round
      case rel => exact ⟨_, by rw [HX.out], .inr (.inr ⟨rfl, rfl⟩)⟩
      case measure => simp [intOf]
     ·have HX := hide (show wst2 (tab a b k) a b k = wst1 (tab a b k) a k by unfold wst2; rw [if_neg hle])
      go_wp2_with fail
      go_round
      case rel => exact ⟨_, rfl, .inr (.inr ⟨rfl, HX.out.symm⟩)⟩
      case measure => simp [intOf]
    ·obtain ⟨z, hz⟩ : ∃ z, wst2 (tab a b k) a b k = z := ⟨_, rfl⟩
     have HT := hide (show tab a b (k + 1) = tab a b k ++ [z] by rw [← hz]; rfl);rw [hz];clear hz;go_wp2_with (at_builtin; refine aA rfl _ _ 27 rfl w.heap.size 3 j0 (.int .i64 0) 1 8 Tryz.underlying27 hj0 hy0 hj1 hj2 rfl (by decide) _ _ _ rfl (HO.out.alloc _) (.slice (some ⟨wo.heap.size, 0, none⟩) 1 1) 1 [.int .i64 z] rfl ?c0 ?c1 ?c2 ?c3 ?_)
     case c0 => simpa using Source.lit wo [.int .i64 z] 1 3 1 rfl (fun u hu => by simp at hu; subst hu; rfl) 1
     case c1 => unfold maxLen; omega
     case c2 => omega
     case c3 => first | omega | (simp; omega)
     intro v2 w2 hown2 hgrow2 _;have hb2 : Below w.heap.size w w2 := (HB.out.alloc hzr _).trans (Below.grow hgrow2 (HO.out.alloc _) nl (by simp; omega));have HB2 := hide hb2;have HO2 := hide (show w2.ownsRow w.heap.size 3 1 v2 (k + 1) (aC (tab a b (k + 1))) by rw [HT.out]; simpa [aC] using hown2);clear hown2 hgrow2 hb2;go_wp2_with fail
     go_roundw
     case rel => exact ⟨k + 1, by omega, by go_num, HB2.out, HO2.out⟩
     case measure => simp [intOf]; omega
  ·obtain rfl : k = L + 1 := by omega
   clear hb;have hkk : ¬ ((L + 1 : Nat) : Int) ≤ (L : Int) := by omega
   go_wp2_with fail
   go_ret;exact ⟨_, rfl, by rw [eQ]; exact HO.out, HB.out⟩
theorem cutLeast_spec (v : Value) (a b : Int) (lo hi L : Nat) (hL : L ≤ 60) (w : World) (H : au lo hi w v [a, b]) :
 Calls Tryz.prog 150 #[.int .i64 (L : Int), v] w fun e w' => ∃ x : Int, e = .returned (.int .i64 x) ∧ (dB a b = false → x = -1) ∧ (dB a b = true → 0 ≤ x) ∧ Below w.heap.size w w' := by
 have hl := fun (W : World) (k : Below w.heap.size w W) => lens_spec v a b lo hi W (H.below k);obtain ⟨b0, o0, cap, rfl, -, -, -, -⟩ := bK H;have hq := fun W => aY (L : Int) 0 60 W;rw [show wi (L : Int) 0 60 = true from aN.2 (by omega)] at hq;cases hv : dB a b with
 | false =>
  rw [hv] at hl;have HL := hide hl;clear hl hv H hq;go_enter Tryz.func150, Tryz.ntmps150;go_wp2_with fail
  refine (HL.out w (Below.refl _ _)).mono ?_;rintro e w1 ⟨rfl, hb⟩;have HB := hide hb;clear hb;go_wp2_with fail
  go_ret;exact ⟨-1, rfl, fun _ => rfl, (fun h => by cases h), HB.out⟩
 | true =>
  have HTS := hide (fun (W : World) (k : Below w.heap.size w W) => table_spec (.slice (some ⟨b0, o0, none⟩) 2 cap) a b lo hi L hL hv W (H.below k));have HTB := hide (tab_bd (a := a) (b := b) (L + 1) L (Nat.lt_succ_self L));rw [hv] at hl;have HL := hide hl;have HQ := hide hq;clear hl hv H hq;go_enter Tryz.func150, Tryz.ntmps150;go_wp2_with fail
  refine (HL.out w (Below.refl _ _)).mono ?_;rintro e w1 ⟨rfl, hb⟩;have HB := hide hb;clear hb;go_wp2_with fail
  refine (HQ.out w1).mono ?_;rintro e w2 ⟨rfl, rfl⟩;go_wp2_with fail
  refine (HTS.out w1 HB.out).mono ?_;rintro e w3 ⟨v3, rfl, hown, hb⟩;have HB3 := bs HB.out hb;have hat := bH hown rfl hb.size;obtain ⟨b3, o3, cap3, rfl, -, -, g3, -⟩ := ints_at hat (k := L) (by rw [eQ]; omega);obtain ⟨x, hx⟩ : ∃ x, (tab a b (L + 1)).getD L 0 = x := ⟨_, rfl⟩;rw [hx] at g3;have HX := hide hx;obtain ⟨n, hn⟩ : ∃ n, (tab a b (L + 1)).length = n := ⟨_, rfl⟩;rw [hn];have hn2 := hn;rw [eQ] at hn2;have hLn : (L : Int) < (n : Int) := by omega
  have hL0 : (0 : Int) ≤ (L : Int) := by omega
  clear hb hown hat hx hn hn2;go_wp2_with fail
  go_ret;exact ⟨x, rfl, (fun h => by cases h), fun _ => by have := HTB.out.1; rw [HX.out] at this; exact this, HB3.out⟩
end Go.Proofs.YtkhecelpafojdaaGreatDoor
