/-
  Parts of the proof, of 1 texts: what DoP show. Conditions: each theorem states its own.
-/
import Derived.Test.YtajjnciookhamaaGreatM27
import Derived.Test.YtajjnciookhamaaGreatM28
import Derived.Test.YtajjnciookhamaaGreatM29
import Derived.Test.YtajjnciookhamaaGreatM05
namespace Go.Proofs.YtajjnciookhamaaGreat
open Go.RowKit
theorem do_good {m : Mi} (h : millB m = true) (k a b : Int) : doR m ⟨k, a, b⟩ = orOld m (stepD m k a b) := by
  unfold doR
  rw [if_pos h]
  rfl
theorem step_0 (m : Mi) (a b : Int) : stepD m 0 a b = meltD m a := rfl
theorem step_1 (m : Mi) (a b : Int) : stepD m 1 a b = cutD m a b := rfl
theorem step_2 (m : Mi) (a b : Int) : stepD m 2 a b = rollD m a b := rfl
theorem step_3 (m : Mi) (a b : Int) : stepD m 3 a b = liftD m a b := rfl
theorem step_4 (m : Mi) (a b : Int) : stepD m 4 a b = shipD m a := rfl
theorem step_x {m : Mi} {k a b : Int} (h0 : (k == 0) = false) (h1 : (k == 1) = false) (h2 : (k == 2) = false) (h3 : (k == 3) = false) (h4 : (k == 4) = false) : stepD m k a b = none := by
  simp [stepD, h0, h1, h2, h3, h4]
theorem found_take {lo hi : List Int} {id p x : Int} {t : Bool} {q : List Int × List Int} (h : findR lo hi id = some (t, p)) (h2 : takeR lo hi t p = (q, x)) : 1 ≤ id ∧ (x = 0 ∨ x = id) := by
  obtain ⟨f1, f2, kk, rfl, f3, f4⟩ := find_at h
  refine ⟨f2, ?_⟩
  by_cases h0 : x = 0
  · exact .inl h0
  · obtain ⟨p1, p2, p3, p4, p5, -, k', e', p6, p7⟩ := take_ok h2 h0
    have hkk : kk = k' := by omega
    subst hkk
    exact .inr (by rw [← p7, f4])
theorem OwnE.past {base T T' sz n C : Nat} {w w' : World} {v : Value} {cs vs : List Value} (h : OwnE base T sz w v n cs) (r : RowL w C T' vs) (hT : T ≠ T') (k : Other C (C + 1) w w') : OwnE base T sz w' v n cs := by
  rcases h with h | ⟨g, h1, h2, h3, h4, h5⟩
  · exact .inl (ownsRow_other h k fun g hg => by
      have := own_ne_row h r hT g hg
      omega)
  · exact .inr ⟨g, h1, h2, Nat.lt_of_lt_of_le h3 k.size, h4, h5⟩
/-- A box of another kind is written. -/
theorem MillGot.past {base C : Nat} {w w' : World} {s p l h : Value} {m : Mi} {vs : List Value} (H : MillGot base w s p l h m) (r : RowL w C 39 vs) (k : Other C (C + 1) w w') : MillGot base w' s p l h m :=
  ⟨Nat.le_trans H.hb k.size, H.so.past r (by decide) k, H.po.past r (by decide) k, H.lo.past r (by decide) k, H.ho.past r (by decide) k, H.sp, H.sl, H.sh, H.pl, H.ph, H.lh⟩
/-- What a region that reads a pile and a deed in boxes keeps. -/
theorem heldD_call {w W W' : World} {A D : Nat} {l h x y : Value} (hA : A < w.heap.size) (hD : D < w.heap.size) (k : Below W.heap.size W W') (H : ((W.cell? ⟨A, 9, none⟩ = some l ∧ W.cell? ⟨A, 10, none⟩ = some h) ∧ (W.cell? ⟨D, 1, none⟩ = some x ∧ W.cell? ⟨D, 2, none⟩ = some y)) ∧ Below w.heap.size w W) :
    ((W'.cell? ⟨A, 9, none⟩ = some l ∧ W'.cell? ⟨A, 10, none⟩ = some h) ∧ (W'.cell? ⟨D, 1, none⟩ = some x ∧ W'.cell? ⟨D, 2, none⟩ = some y)) ∧ Below w.heap.size w W' := by
  have hz := H.2.size
  exact ⟨⟨⟨(k.cell (p := ⟨A, 9, none⟩) (show A < W.heap.size by omega)).trans H.1.1.1, (k.cell (p := ⟨A, 10, none⟩) (show A < W.heap.size by omega)).trans H.1.1.2⟩, (k.cell (p := ⟨D, 1, none⟩) (show D < W.heap.size by omega)).trans H.1.2.1, (k.cell (p := ⟨D, 2, none⟩) (show D < W.heap.size by omega)).trans H.1.2.2⟩, H.2.trans (k.mono hz)⟩
theorem heldD_alloc {w W : World} {A D : Nat} {l h x y : Value} {o : Obj} (hA : A < w.heap.size) (hD : D < w.heap.size) (H : ((W.cell? ⟨A, 9, none⟩ = some l ∧ W.cell? ⟨A, 10, none⟩ = some h) ∧ (W.cell? ⟨D, 1, none⟩ = some x ∧ W.cell? ⟨D, 2, none⟩ = some y)) ∧ Below w.heap.size w W) :
    (((W.alloc o).cell? ⟨A, 9, none⟩ = some l ∧ (W.alloc o).cell? ⟨A, 10, none⟩ = some h) ∧ ((W.alloc o).cell? ⟨D, 1, none⟩ = some x ∧ (W.alloc o).cell? ⟨D, 2, none⟩ = some y)) ∧ Below w.heap.size w (W.alloc o) :=
  heldD_call hA hD ((Below.refl _ _).alloc (Nat.le_refl _) o) H
theorem heldD_store {w W : World} {A D G : Nat} {l h x y u v : Value} (hA : A < w.heap.size) (hD : D < w.heap.size) (hG : w.heap.size ≤ G) (H : ((W.cell? ⟨A, 9, none⟩ = some l ∧ W.cell? ⟨A, 10, none⟩ = some h) ∧ (W.cell? ⟨D, 1, none⟩ = some x ∧ W.cell? ⟨D, 2, none⟩ = some y)) ∧ Below w.heap.size w W) :
    ((((W.setCell ⟨G, 0, none⟩ u).setCell ⟨G, 1, none⟩ v).cell? ⟨A, 9, none⟩ = some l ∧ ((W.setCell ⟨G, 0, none⟩ u).setCell ⟨G, 1, none⟩ v).cell? ⟨A, 10, none⟩ = some h) ∧ (((W.setCell ⟨G, 0, none⟩ u).setCell ⟨G, 1, none⟩ v).cell? ⟨D, 1, none⟩ = some x ∧ ((W.setCell ⟨G, 0, none⟩ u).setCell ⟨G, 1, none⟩ v).cell? ⟨D, 2, none⟩ = some y)) ∧ Below w.heap.size w ((W.setCell ⟨G, 0, none⟩ u).setCell ⟨G, 1, none⟩ v) := by
  have k : Below w.heap.size W ((W.setCell ⟨G, 0, none⟩ u).setCell ⟨G, 1, none⟩ v) := ((Below.refl _ _).setCell (p := ⟨G, 0, none⟩) hG _).setCell (p := ⟨G, 1, none⟩) hG _
  exact ⟨⟨⟨(k.cell (p := ⟨A, 9, none⟩) hA).trans H.1.1.1, (k.cell (p := ⟨A, 10, none⟩) hA).trans H.1.1.2⟩, (k.cell (p := ⟨D, 1, none⟩) hD).trans H.1.2.1, (k.cell (p := ⟨D, 2, none⟩) hD).trans H.1.2.2⟩, H.2.trans k⟩
theorem below_other {B : Nat} {w w' : World} (h : Below B w w') : Other B w.heap.size w w' :=
  ⟨h.os, h.tape, h.output, h.size, fun k h1 h2 => h.block k (by omega)⟩
theorem MillIn.low_keep {hi B : Nat} {w w' : World} {s p l h : Value} {m : Mi} (H : MillIn 0 hi w s p l h m) (k : Below B w w') (hB : hi ≤ B) : MillIn 0 hi w' s p l h m :=
  H.other (below_other k) (.inl hB)
theorem few_of {m : Mi} (h : millB m = true) : m.store.length ≤ 1000000 ∧ m.pieces.length ≤ 1000000 ∧ m.low.length ≤ 1000000 ∧ m.high.length ≤ 1000000 := by
  have hv := millB_iff.1 h
  have h1 := stsB_len hv.store
  have h2 := hv.len
  have h3 := hv.pile.l6
  have h4 := hv.pile.lh
  omega
theorem two_lit {g : Nat} (W : World) (a b : Int) (T : Nat) (hg : W.heap.size = g) : IntsAt g (W.alloc (.cells #[.int .i64 a, .int .i64 b] T)).heap.size (W.alloc (.cells #[.int .i64 a, .int .i64 b] T)) (.slice (some ⟨g, 0, none⟩) 2 2) [a, b] := by
  subst hg
  exact IntsAt.of_row (xs := [a, b]) (RowL.new W T [.int .i64 a, .int .i64 b]) (Nat.le_refl _) (by simp) (fun i hi => by
    have : i = 0 ∨ i = 1 := by simp at hi; omega
    rcases this with rfl | rfl <;> simp) (Nat.le_refl _)
theorem other12 (g : Nat) (w : World) (v0 v1 v2 v3 v4 v5 v6 v7 v8 v9 v10 v11 : Value) : Other g (g + 1) w (((((((((((((w).setCell ⟨g, 0, none⟩ v0).setCell ⟨g, 1, none⟩ v1).setCell ⟨g, 2, none⟩ v2).setCell ⟨g, 3, none⟩ v3).setCell ⟨g, 4, none⟩ v4).setCell ⟨g, 5, none⟩ v5).setCell ⟨g, 6, none⟩ v6).setCell ⟨g, 7, none⟩ v7).setCell ⟨g, 8, none⟩ v8).setCell ⟨g, 9, none⟩ v9).setCell ⟨g, 10, none⟩ v10).setCell ⟨g, 11, none⟩ v11) :=
  Other.setCell (p := ⟨g, 11, none⟩) (Other.setCell (p := ⟨g, 10, none⟩) (Other.setCell (p := ⟨g, 9, none⟩) (Other.setCell (p := ⟨g, 8, none⟩) (Other.setCell (p := ⟨g, 7, none⟩) (Other.setCell (p := ⟨g, 6, none⟩) (Other.setCell (p := ⟨g, 5, none⟩) (Other.setCell (p := ⟨g, 4, none⟩) (Other.setCell (p := ⟨g, 3, none⟩) (Other.setCell (p := ⟨g, 2, none⟩) (Other.setCell (p := ⟨g, 1, none⟩) (Other.setCell (p := ⟨g, 0, none⟩) (Other.refl _ _ _) (Nat.le_refl _) (Nat.lt_succ_self _) _) (Nat.le_refl _) (Nat.lt_succ_self _) _) (Nat.le_refl _) (Nat.lt_succ_self _) _) (Nat.le_refl _) (Nat.lt_succ_self _) _) (Nat.le_refl _) (Nat.lt_succ_self _) _) (Nat.le_refl _) (Nat.lt_succ_self _) _) (Nat.le_refl _) (Nat.lt_succ_self _) _) (Nat.le_refl _) (Nat.lt_succ_self _) _) (Nat.le_refl _) (Nat.lt_succ_self _) _) (Nat.le_refl _) (Nat.lt_succ_self _) _) (Nat.le_refl _) (Nat.lt_succ_self _) _) (Nat.le_refl _) (Nat.lt_succ_self _) _
theorem row12 {w : World} {g T : Nat} {us : List Value} (h : RowL w g T us) (hl : us.length = 12) (v0 v1 v2 v3 v4 v5 v6 v7 v8 v9 v10 v11 : Value) : RowL (((((((((((((w).setCell ⟨g, 0, none⟩ v0).setCell ⟨g, 1, none⟩ v1).setCell ⟨g, 2, none⟩ v2).setCell ⟨g, 3, none⟩ v3).setCell ⟨g, 4, none⟩ v4).setCell ⟨g, 5, none⟩ v5).setCell ⟨g, 6, none⟩ v6).setCell ⟨g, 7, none⟩ v7).setCell ⟨g, 8, none⟩ v8).setCell ⟨g, 9, none⟩ v9).setCell ⟨g, 10, none⟩ v10).setCell ⟨g, 11, none⟩ v11) g T [v0, v1, v2, v3, v4, v5, v6, v7, v8, v9, v10, v11] := by
  obtain ⟨u0, u1, u2, u3, u4, u5, u6, u7, u8, u9, u10, u11, rfl⟩ : ∃ u0 u1 u2 u3 u4 u5 u6 u7 u8 u9 u10 u11, us = [u0, u1, u2, u3, u4, u5, u6, u7, u8, u9, u10, u11] := by
    match us, hl with
    | [u0, u1, u2, u3, u4, u5, u6, u7, u8, u9, u10, u11], _ => exact ⟨_, _, _, _, _, _, _, _, _, _, _, _, rfl⟩
  exact ((((((((((((h).set 0 v0 (by simp)).set 1 v1 (by simp)).set 2 v2 (by simp)).set 3 v3 (by simp)).set 4 v4 (by simp)).set 5 v5 (by simp)).set 6 v6 (by simp)).set 7 v7 (by simp)).set 8 v8 (by simp)).set 9 v9 (by simp)).set 10 v10 (by simp)).set 11 v11 (by simp)
theorem zero_got {base g : Nat} {w0 w : World} (h : Below base w0 w) (hb : base ≤ w0.heap.size) (hg : base ≤ g) (v0 v1 v2 v3 v4 v5 v6 v7 v8 v9 v10 v11 : Value) :
    MillGot base (((((((((((((w).setCell ⟨g, 0, none⟩ v0).setCell ⟨g, 1, none⟩ v1).setCell ⟨g, 2, none⟩ v2).setCell ⟨g, 3, none⟩ v3).setCell ⟨g, 4, none⟩ v4).setCell ⟨g, 5, none⟩ v5).setCell ⟨g, 6, none⟩ v6).setCell ⟨g, 7, none⟩ v7).setCell ⟨g, 8, none⟩ v8).setCell ⟨g, 9, none⟩ v9).setCell ⟨g, 10, none⟩ v10).setCell ⟨g, 11, none⟩ v11) (.slice none 0 0) (.slice none 0 0) (.slice none 0 0) (.slice none 0 0) mi0 ∧ Below base w0 (((((((((((((w).setCell ⟨g, 0, none⟩ v0).setCell ⟨g, 1, none⟩ v1).setCell ⟨g, 2, none⟩ v2).setCell ⟨g, 3, none⟩ v3).setCell ⟨g, 4, none⟩ v4).setCell ⟨g, 5, none⟩ v5).setCell ⟨g, 6, none⟩ v6).setCell ⟨g, 7, none⟩ v7).setCell ⟨g, 8, none⟩ v8).setCell ⟨g, 9, none⟩ v9).setCell ⟨g, 10, none⟩ v10).setCell ⟨g, 11, none⟩ v11) := by
  have k := h.trans ((other12 g w v0 v1 v2 v3 v4 v5 v6 v7 v8 v9 v10 v11).below (B := base) hg (Nat.le_trans hb h.size))
  exact ⟨millGot_zero (Nat.le_trans hb k.size) mi0 rfl rfl rfl rfl, k⟩
theorem put_got {base b g : Nat} {w0 wk : World} {s p l h : Value} {m : Mi} (H : MillGot b wk s p l h m) (hB : Below base w0 wk) (h1 : g + 1 ≤ b) (h2 : base ≤ g) (h4 : base ≤ w0.heap.size) (v0 v1 v2 v3 v4 v5 v6 v7 v8 v9 v10 v11 : Value) :
    MillGot base (((((((((((((wk).setCell ⟨g, 0, none⟩ v0).setCell ⟨g, 1, none⟩ v1).setCell ⟨g, 2, none⟩ v2).setCell ⟨g, 3, none⟩ v3).setCell ⟨g, 4, none⟩ v4).setCell ⟨g, 5, none⟩ v5).setCell ⟨g, 6, none⟩ v6).setCell ⟨g, 7, none⟩ v7).setCell ⟨g, 8, none⟩ v8).setCell ⟨g, 9, none⟩ v9).setCell ⟨g, 10, none⟩ v10).setCell ⟨g, 11, none⟩ v11) s p l h m ∧ Below base w0 (((((((((((((wk).setCell ⟨g, 0, none⟩ v0).setCell ⟨g, 1, none⟩ v1).setCell ⟨g, 2, none⟩ v2).setCell ⟨g, 3, none⟩ v3).setCell ⟨g, 4, none⟩ v4).setCell ⟨g, 5, none⟩ v5).setCell ⟨g, 6, none⟩ v6).setCell ⟨g, 7, none⟩ v7).setCell ⟨g, 8, none⟩ v8).setCell ⟨g, 9, none⟩ v9).setCell ⟨g, 10, none⟩ v10).setCell ⟨g, 11, none⟩ v11) :=
  got_put H hB (other12 g wk v0 v1 v2 v3 v4 v5 v6 v7 v8 v9 v10 v11) h1 h2 (by omega) h4
end Go.Proofs.YtajjnciookhamaaGreat
