/-
  Parts of the proofs over mills, of: CoilC, PlainLaw, DrawMP, MillG, Spot. Conditions: each theorem states its own.
-/
import Derived.Deep.RegionHeldLaw
import Derived.Test.YtkhecelpafojdaaGreatDoorF13
import Derived.Test.YtkhecelpafojdaaGreatDoorF14
set_option linter.unusedSimpArgs false
set_option linter.unusedVariables false
set_option maxRecDepth 10000
set_option maxHeartbeats 64000000
namespace Go.Proofs.YtkhecelpafojdaaGreatDoor
open Go.RowKit
structure aL (base : Nat) (w : World) (l h : Value) (lo hi : List Int) : Prop where
 hb : base ≤ w.heap.size
 lo : aK base 3 1 w l lo.length (aC lo)
 ho : aK base 3 1 w h hi.length (aC hi)
 ap : Apart l h
theorem aL.below {base B : Nat} {w w' : World} {l h : Value} {lo hi : List Int} (H : aL base w l h lo hi) (k : Below B w w') (hB : w.heap.size ≤ B) : aL base w' l h lo hi :=
 ⟨Nat.le_trans H.hb k.size, H.lo.below k hB, H.ho.below k hB, H.ap⟩
theorem aL.other {base a z : Nat} {w w' : World} {l h : Value} {lo hi : List Int} (H : aL base w l h lo hi) (k : ai a z w w') (hd : z ≤ base) : aL base w' l h lo hi :=
 ⟨Nat.le_trans H.hb k.size, H.lo.other k fun g hg => .inr (Nat.le_trans hd (H.lo.lt g hg).1), H.ho.other k fun g hg => .inr (Nat.le_trans hd (H.ho.lt g hg).1), H.ap⟩
theorem aL.mono {base base' : Nat} {w : World} {l h : Value} {lo hi : List Int} (H : aL base w l h lo hi) (k : base' ≤ base) : aL base' w l h lo hi :=
 ⟨Nat.le_trans k H.hb, H.lo.mono k, H.ho.mono k, H.ap⟩
theorem aL.low {base : Nat} {w : World} {l h : Value} {lo hi : List Int} (H : aL base w l h lo hi) : au base w.heap.size w l lo := iy H.lo rfl H.hb
theorem aL.high {base : Nat} {w : World} {l h : Value} {lo hi : List Int} (H : aL base w l h lo hi) : au base w.heap.size w h hi := iy H.ho rfl H.hb
theorem aL.low0 {base : Nat} {w : World} {l h : Value} {lo hi : List Int} (H : aL base w l h lo hi) : au 0 w.heap.size w l lo := H.low.mono (Nat.zero_le _) nl nl
theorem aL.high0 {base : Nat} {w : World} {l h : Value} {lo hi : List Int} (H : aL base w l h lo hi) : au 0 w.heap.size w h hi := H.high.mono (Nat.zero_le _) nl nl
def PileGot1 (base : Nat) (lo hi : List Int) (w : World) (e : Ending) (w' : World) : Prop := ∃ l h, e = .returned (aD l h) ∧ aL base w' l h lo hi ∧ Below base w w'
def jK (base : Nat) (q : List Int × List Int) (c : Value) (w : World) (e : Ending) (w' : World) : Prop := ∃ l h, e = .returned (.tuple #[aD l h, c]) ∧ aL base w' l h q.1 q.2 ∧ Below base w w'
theorem heldAR {P : Program} {f : FuncId} {args : Array Value} {xs : List Int} {w0 W : World} (hc : Calls P f args W (fA W.heap.size xs W)) {B : Nat} {u v x y : Value}
 (h0 : W.cell? ⟨B, 0, none⟩ = some u) (h1 : W.cell? ⟨B, 1, none⟩ = some v) (g0 : W.cell? ⟨B + 1, 0, none⟩ = some x) (g1 : W.cell? ⟨B + 1, 1, none⟩ = some y) (f0 : W.frozen? ⟨B + 1, 0, none⟩ = false) (f1 : W.frozen? ⟨B + 1, 1, none⟩ = false) (h2 : B + 1 < W.heap.size) (h3 : Below w0.heap.size w0 W) :
 Calls P f args W fun e w2 => ∃ r ao cap, e = .returned r ∧ r = .slice ao xs.length cap ∧ w2.ownsRow W.heap.size 3 1 r xs.length (aC xs) ∧ Below W.heap.size W w2 ∧ (w2.cell? ⟨B, 0, none⟩ = some u ∧ w2.cell? ⟨B, 1, none⟩ = some v) ∧ (w2.cell? ⟨B + 1, 0, none⟩ = some x ∧ w2.cell? ⟨B + 1, 1, none⟩ = some y) ∧ (w2.frozen? ⟨B + 1, 0, none⟩ = false ∧ w2.frozen? ⟨B + 1, 1, none⟩ = false) ∧ B + 1 < w2.heap.size ∧ Below w0.heap.size w0 w2 :=
 hc.mono fun e w2 ⟨r, he, ho, hb⟩ => let ⟨ao, cap, hr, _, _⟩ := aB ho; ⟨r, ao, cap, he, hr, ho, hb, ⟨by rw [hb.cell (Nat.lt_of_succ_lt h2)]; exact h0, by rw [hb.cell (Nat.lt_of_succ_lt h2)]; exact h1⟩, ⟨by rw [hb.cell h2]; exact g0, by rw [hb.cell h2]; exact g1⟩, ⟨by rw [hb.frozen h2]; exact f0, by rw [hb.frozen h2]; exact f1⟩, Nat.lt_of_lt_of_le h2 hb.size, Below.step h3 hb nl⟩
theorem iW (l h : Value) (lo hi : List Int) (w : World) (Hl : au 0 w.heap.size w l lo) (Hh : au 0 w.heap.size w h hi) (n1 : lo.length ≤ 1000000) (n2 : hi.length ≤ 1000000) :
 Calls Tryz.prog 73 #[aD l h] w (PileGot1 w.heap.size lo hi w) := by
 have HL := hide Hl;have HH := hide Hh;clear Hl Hh;obtain ⟨i0, hi0, hz0, hi1, hi2⟩ := info_parts bF;unfold aD;go_enter Tryz.func73, Tryz.ntmps73;go_wp2_with fail
 obtain ⟨wx, hwx⟩ : ∃ wx, wx = (w.alloc (.cells #[l, h] 29)).alloc (.cells #[.slice none 0 0, .slice none 0 0] 29) := ⟨_, rfl⟩;rw [← hwx];have A_0 : ae wx w.heap.size 29 [l, h] := by rw [hwx]; exact (ae.new _ _ _).alloc _
 have R_0 : ae wx (w.heap.size + 1) 29 [.slice none 0 0, .slice none 0 0] := by rw [hwx]; simpa using ae.new (World.alloc _ _) 29 [.slice none 0 0, .slice none 0 0]
 have B_0 : Below w.heap.size w wx := by rw [hwx]; go_grown
 clear hwx;obtain ⟨⟨s0, s1⟩, ⟨s2, s3⟩, ⟨s4, s5⟩, s6, s7⟩ : (wx.drew.cell? ⟨w.heap.size, 0, none⟩ = some l ∧ wx.drew.cell? ⟨w.heap.size, 1, none⟩ = some h) ∧ (wx.drew.cell? ⟨w.heap.size + 1, 0, none⟩ = some (.slice none 0 0) ∧ wx.drew.cell? ⟨w.heap.size + 1, 1, none⟩ = some (.slice none 0 0)) ∧ (wx.drew.frozen? ⟨w.heap.size + 1, 0, none⟩ = false ∧ wx.drew.frozen? ⟨w.heap.size + 1, 1, none⟩ = false) ∧ w.heap.size + 1 < wx.drew.heap.size ∧ Below w.heap.size w wx.drew := ⟨⟨A_0.cell 0 (by simp), A_0.cell 1 (by simp)⟩, ⟨R_0.cell 0 (by simp), R_0.cell 1 (by simp)⟩, ⟨R_0.frozen 0, R_0.frozen 1⟩, R_0.lt, B_0.drew⟩;have hwz : w.heap.size + 1 < wx.heap.size := R_0.lt;clear A_0 R_0 B_0
 go_region_with (first | (go_at_call 120; refine (heldAR (w0 := w) (B := w.heap.size) (u := l) (v := h) (x := .slice none 0 0) (y := .slice none 0 0) (jU l lo 0 w.heap.size _ (HL.out.below (by assumption)) n1) (by assumption) (by assumption) (by assumption) (by assumption) (by assumption) (by assumption) (by assumption) (by assumption)).mono ?_; rintro e w5 ⟨_, a5, c5, rfl, rfl, ho5, hb5, ⟨k0, k1⟩, ⟨k2, k3⟩, ⟨k4, k5⟩, k6, k7⟩) | (go_at_call 120; refine (heldAR (w0 := w) (B := w.heap.size) (u := l) (v := h) (x := .slice none 0 0) (y := .slice none 0 0) (jU h hi 0 w.heap.size _ (HH.out.below (by assumption)) n2) (by assumption) (by assumption) (by assumption) (by assumption) (by assumption) (by assumption) (by assumption) (by assumption)).mono ?_; rintro e w6 ⟨_, a6, c6, rfl, rfl, ho6, hb6, ⟨k0, k1⟩, ⟨k2, k3⟩, ⟨k4, k5⟩, k6, k7⟩))
 all_goals
  first
   | (have HP := hide (show aL (w.heap.size + 2) w6 (.slice a5 lo.length c5) (.slice a6 hi.length c6) lo hi from ⟨k6, ((aK.own ho5).below hb6 nl).mono s6, (aK.own ho6).mono (Nat.le_trans s6 hb5.size), (aK.own ho5).apart (aK.own ho6) nl⟩)
      have HK := hide k7;clear ho5 ho6 hb5 hb6;go_wp2_with fail
      refine bodyPost_ret (by simp [results, Tryz.results73, go_sem, k2, k3]; try rfl) rfl ?_;exact ⟨_, _, rfl, (HP.out.other (((ai.refl (w.heap.size + 1) (w.heap.size + 2) w6).setCell (p := ⟨w.heap.size + 1, 0, none⟩) nl ns _).setCell (p := ⟨w.heap.size + 1, 1, none⟩) nl ns _) nl).mono (Nat.le_add_right _ 2), (HK.out.setCell (by simp) _).setCell (by simp) _⟩)
   | (have HP := hide (show aL (w.heap.size + 2) w5 (.slice a5 lo.length c5) (.slice a6 hi.length c6) lo hi from ⟨k6, (aK.own ho5).mono (Nat.le_trans s6 hb6.size), ((aK.own ho6).below hb5 nl).mono s6, ((aK.own ho6).apart (aK.own ho5) nl).symm⟩)
      have HK := hide k7;clear ho5 ho6 hb5 hb6;go_wp2_with fail
      refine bodyPost_ret (by simp [results, Tryz.results73, go_sem, k2, k3]; try rfl) rfl ?_;exact ⟨_, _, rfl, (HP.out.other (((ai.refl (w.heap.size + 1) (w.heap.size + 2) w5).setCell (p := ⟨w.heap.size + 1, 0, none⟩) nl ns _).setCell (p := ⟨w.heap.size + 1, 1, none⟩) nl ns _) nl).mono (Nat.le_add_right _ 2), (HK.out.setCell (by simp) _).setCell (by simp) _⟩)
theorem copyB {w W W2 : World} {l h : Value} (H : (W.cell? ⟨w.heap.size, 0, none⟩ = some l ∧ W.cell? ⟨w.heap.size, 1, none⟩ = some h) ∧ ((W.cell? ⟨w.heap.size + 1, 0, none⟩).isSome = true ∧ (W.cell? ⟨w.heap.size + 1, 1, none⟩).isSome = true) ∧ (W.frozen? ⟨w.heap.size + 1, 0, none⟩ = false ∧ W.frozen? ⟨w.heap.size + 1, 1, none⟩ = false) ∧ w.heap.size + 1 < W.heap.size ∧ Below w.heap.size w W) (k : Below (w.heap.size + 2) W W2) : (W2.cell? ⟨w.heap.size, 0, none⟩ = some l ∧ W2.cell? ⟨w.heap.size, 1, none⟩ = some h) ∧ ((W2.cell? ⟨w.heap.size + 1, 0, none⟩).isSome = true ∧ (W2.cell? ⟨w.heap.size + 1, 1, none⟩).isSome = true) ∧ (W2.frozen? ⟨w.heap.size + 1, 0, none⟩ = false ∧ W2.frozen? ⟨w.heap.size + 1, 1, none⟩ = false) ∧ w.heap.size + 1 < W2.heap.size ∧ Below w.heap.size w W2 := by
 obtain ⟨⟨h0, h1⟩, ⟨h2, h3⟩, ⟨h4, h5⟩, h6, h7⟩ := H;have a0 : w.heap.size < w.heap.size + 2 := by omega
 have a1 : w.heap.size + 1 < w.heap.size + 2 := by omega
 exact ⟨⟨by rw [k.cell (p := ⟨w.heap.size, 0, none⟩) a0]; exact h0, by rw [k.cell (p := ⟨w.heap.size, 1, none⟩) a0]; exact h1⟩, ⟨by rw [k.cell (p := ⟨w.heap.size + 1, 0, none⟩) a1]; exact h2, by rw [k.cell (p := ⟨w.heap.size + 1, 1, none⟩) a1]; exact h3⟩, ⟨by rw [k.frozen (p := ⟨w.heap.size + 1, 0, none⟩) a1]; exact h4, by rw [k.frozen (p := ⟨w.heap.size + 1, 1, none⟩) a1]; exact h5⟩, Nat.lt_of_lt_of_le h6 k.size, h7.trans (k.mono (by omega))⟩
theorem copyA {w W : World} {l h : Value} (H : (W.cell? ⟨w.heap.size, 0, none⟩ = some l ∧ W.cell? ⟨w.heap.size, 1, none⟩ = some h) ∧ ((W.cell? ⟨w.heap.size + 1, 0, none⟩).isSome = true ∧ (W.cell? ⟨w.heap.size + 1, 1, none⟩).isSome = true) ∧ (W.frozen? ⟨w.heap.size + 1, 0, none⟩ = false ∧ W.frozen? ⟨w.heap.size + 1, 1, none⟩ = false) ∧ w.heap.size + 1 < W.heap.size ∧ Below w.heap.size w W) (o : Obj) : ((W.alloc o).cell? ⟨w.heap.size, 0, none⟩ = some l ∧ (W.alloc o).cell? ⟨w.heap.size, 1, none⟩ = some h) ∧ (((W.alloc o).cell? ⟨w.heap.size + 1, 0, none⟩).isSome = true ∧ ((W.alloc o).cell? ⟨w.heap.size + 1, 1, none⟩).isSome = true) ∧ ((W.alloc o).frozen? ⟨w.heap.size + 1, 0, none⟩ = false ∧ (W.alloc o).frozen? ⟨w.heap.size + 1, 1, none⟩ = false) ∧ w.heap.size + 1 < (W.alloc o).heap.size ∧ Below w.heap.size w (W.alloc o) :=
 copyB H ((Below.refl _ _).alloc H.2.2.2.1 o)
theorem gT {base g : Nat} {W w2 : World} (hg : W.grownBy w2 (Value.slice (some ⟨g, 0, none⟩) 0 0).ownBlock) (h1 : base ≤ g) (h2 : base ≤ W.heap.size) : Below base W w2 :=
 (Below.refl _ _).grown hg h2 fun k hk => by
   obtain rfl : g = k := Option.some.inj hk;exact h1
theorem copyP {w W : World} {l h : Value} (H : (W.cell? ⟨w.heap.size, 0, none⟩ = some l ∧ W.cell? ⟨w.heap.size, 1, none⟩ = some h) ∧ ((W.cell? ⟨w.heap.size + 1, 0, none⟩).isSome = true ∧ (W.cell? ⟨w.heap.size + 1, 1, none⟩).isSome = true) ∧ (W.frozen? ⟨w.heap.size + 1, 0, none⟩ = false ∧ W.frozen? ⟨w.heap.size + 1, 1, none⟩ = false) ∧ w.heap.size + 1 < W.heap.size ∧ Below w.heap.size w W) (x y : Value) : (((W.setCell ⟨w.heap.size + 1, 0, none⟩ x).setCell ⟨w.heap.size + 1, 1, none⟩ y).cell? ⟨w.heap.size, 0, none⟩ = some l ∧ ((W.setCell ⟨w.heap.size + 1, 0, none⟩ x).setCell ⟨w.heap.size + 1, 1, none⟩ y).cell? ⟨w.heap.size, 1, none⟩ = some h) ∧ ((((W.setCell ⟨w.heap.size + 1, 0, none⟩ x).setCell ⟨w.heap.size + 1, 1, none⟩ y).cell? ⟨w.heap.size + 1, 0, none⟩).isSome = true ∧ (((W.setCell ⟨w.heap.size + 1, 0, none⟩ x).setCell ⟨w.heap.size + 1, 1, none⟩ y).cell? ⟨w.heap.size + 1, 1, none⟩).isSome = true) ∧ (((W.setCell ⟨w.heap.size + 1, 0, none⟩ x).setCell ⟨w.heap.size + 1, 1, none⟩ y).frozen? ⟨w.heap.size + 1, 0, none⟩ = false ∧ ((W.setCell ⟨w.heap.size + 1, 0, none⟩ x).setCell ⟨w.heap.size + 1, 1, none⟩ y).frozen? ⟨w.heap.size + 1, 1, none⟩ = false) ∧ w.heap.size + 1 < ((W.setCell ⟨w.heap.size + 1, 0, none⟩ x).setCell ⟨w.heap.size + 1, 1, none⟩ y).heap.size ∧ Below w.heap.size w ((W.setCell ⟨w.heap.size + 1, 0, none⟩ x).setCell ⟨w.heap.size + 1, 1, none⟩ y) := by
 obtain ⟨⟨h0, h1⟩, ⟨h2, h3⟩, ⟨h4, h5⟩, h6, h7⟩ := H;obtain ⟨u, hu⟩ := Option.isSome_iff_exists.1 h2;obtain ⟨v, hv⟩ := Option.isSome_iff_exists.1 h3;refine ⟨⟨?_, ?_⟩, ⟨?_, ?_⟩, ⟨by simp only [World.frozen?_setCell]; exact h4, by simp only [World.frozen?_setCell]; exact h5⟩, by simpa [World.setCell] using h6, (h7.setCell (by simp) _).setCell (by simp) _⟩
 ·rw [World.cell?_setCell_other _ _ _ _ (by simp), World.cell?_setCell_other _ _ _ _ (by simp)]; exact h0
 ·rw [World.cell?_setCell_other _ _ _ _ (by simp), World.cell?_setCell_other _ _ _ _ (by simp)]; exact h1
 ·rw [World.cell?_setCell_other _ _ _ _ (by simp), World.cell?_setCell_same _ _ _ hu]; rfl
 ·rw [World.cell?_setCell_same _ _ _ (by rw [World.cell?_setCell_other _ _ _ _ (by simp)]; exact hv)]; rfl
theorem jS (l h : Value) (lo hi : List Int) (w : World) (Hl : au 0 w.heap.size w l lo) (Hh : au 0 w.heap.size w h hi) (n1 : lo.length ≤ 1000000) (n2 : hi.length ≤ 1000000) :
 Calls Tryz.prog 88 #[aD l h] w (PileGot1 w.heap.size lo hi w) := by
 have HL := hide Hl;have HH := hide Hh;clear Hl Hh;obtain ⟨i0, hi0, hz0, hi1, hi2⟩ := info_parts bF;unfold aD;go_enter Tryz.func88, Tryz.ntmps88;go_wp2_with fail
 obtain ⟨wx, hwx⟩ : ∃ wx, wx = (w.alloc (.cells #[l, h] 29)).alloc (.cells #[.slice none 0 0, .slice none 0 0] 29) := ⟨_, rfl⟩;rw [← hwx];have A_0 : ae wx w.heap.size 29 [l, h] := by rw [hwx]; exact (ae.new _ _ _).alloc _
 have R_0 : ae wx (w.heap.size + 1) 29 [.slice none 0 0, .slice none 0 0] := by rw [hwx]; simpa using ae.new (World.alloc _ _) 29 [.slice none 0 0, .slice none 0 0]
 have B_0 : Below w.heap.size w wx := by rw [hwx]; go_grown
 clear hwx;obtain ⟨⟨s0, s1⟩, ⟨s2, s3⟩, ⟨s4, s5⟩, s6, s7⟩ : (wx.drew.cell? ⟨w.heap.size, 0, none⟩ = some l ∧ wx.drew.cell? ⟨w.heap.size, 1, none⟩ = some h) ∧ (wx.drew.cell? ⟨w.heap.size + 1, 0, none⟩ = some (.slice none 0 0) ∧ wx.drew.cell? ⟨w.heap.size + 1, 1, none⟩ = some (.slice none 0 0)) ∧ (wx.drew.frozen? ⟨w.heap.size + 1, 0, none⟩ = false ∧ wx.drew.frozen? ⟨w.heap.size + 1, 1, none⟩ = false) ∧ w.heap.size + 1 < wx.drew.heap.size ∧ Below w.heap.size w wx.drew := ⟨⟨A_0.cell 0 (by simp), A_0.cell 1 (by simp)⟩, ⟨R_0.cell 0 (by simp), R_0.cell 1 (by simp)⟩, ⟨R_0.frozen 0, R_0.frozen 1⟩, R_0.lt, B_0.drew⟩;have hwz : w.heap.size + 1 < wx.heap.size := R_0.lt;clear A_0 R_0 B_0;have hI : (wx.drew.cell? ⟨w.heap.size, 0, none⟩ = some l ∧ wx.drew.cell? ⟨w.heap.size, 1, none⟩ = some h) ∧ ((wx.drew.cell? ⟨w.heap.size + 1, 0, none⟩).isSome = true ∧ (wx.drew.cell? ⟨w.heap.size + 1, 1, none⟩).isSome = true) ∧ (wx.drew.frozen? ⟨w.heap.size + 1, 0, none⟩ = false ∧ wx.drew.frozen? ⟨w.heap.size + 1, 1, none⟩ = false) ∧ w.heap.size + 1 < wx.drew.heap.size ∧ Below w.heap.size w wx.drew := ⟨⟨s0, s1⟩, ⟨by rw [s2]; rfl, by rw [s3]; rfl⟩, ⟨s4, s5⟩, s6, s7⟩
 go_region_held_law (fun w' => (w'.cell? ⟨w.heap.size, 0, none⟩ = some l ∧ w'.cell? ⟨w.heap.size, 1, none⟩ = some h) ∧ ((w'.cell? ⟨w.heap.size + 1, 0, none⟩).isSome = true ∧ (w'.cell? ⟨w.heap.size + 1, 1, none⟩).isSome = true) ∧ (w'.frozen? ⟨w.heap.size + 1, 0, none⟩ = false ∧ w'.frozen? ⟨w.heap.size + 1, 1, none⟩ = false) ∧ w.heap.size + 1 < w'.heap.size ∧ Below w.heap.size w w') (first | exact hI | exact hS5 | exact hS6 | exact copyA (by assumption) _ | exact copyP (by assumption) _ _ | go_keep) (first | (have hS := (by assumption : (World.cell? _ _ = some l ∧ World.cell? _ _ = some h) ∧ _); refine bT rfl (.tmp 3) (.tmp 5) 27 rfl (w.heap.size + 2) 3 i0 (.int .i64 0) 1 8 Tryz.underlying27 hi0 hz0 hi1 hi2 rfl (by decide) (.slice (some ⟨wx.heap.size, 0, none⟩) 0 0) 0 [] ?_ (aK.lit ?_ ?_) l lo.length (aC lo) ?_ (au.source (HL.out.below hS.2.2.2.2)) (by unfold maxLen; omega) (by omega) hS.2.2.2.1 ?_; (focus (simp [Act.eval, Act.put]; done)); (focus (first | omega | (simp; omega) | fail)); (focus (first | omega | (simp; done) | (simp; omega) | fail)); (focus (simp [Act.eval, Act.put]; done)); intro v5 w5 ho5 hg5 hat5; rw [Nat.zero_add, List.nil_append] at ho5; obtain ⟨a5, c5, rfl, -, -⟩ := ho5.form; have hb5 := gT (base := w.heap.size + 2) hg5 (by first | omega | (simp; done) | (simp; omega)) hS.2.2.2.1; have hS5 := copyB hS hb5; have hlt5 := hS5.2.2.2.1; obtain ⟨rx5, hrx5⟩ := Option.isSome_iff_exists.1 hS5.2.1.1; obtain ⟨ry5, hry5⟩ := Option.isSome_iff_exists.1 hS5.2.1.2; have hz5 := hg5.size; (try simp at hz5); have hl5 := fun k e => (ho5.lt k e).2; skip) | (have hS := (by assumption : (World.cell? _ _ = some l ∧ World.cell? _ _ = some h) ∧ _); refine bT rfl (.tmp 3) (.tmp 5) 27 rfl (w.heap.size + 2) 3 i0 (.int .i64 0) 1 8 Tryz.underlying27 hi0 hz0 hi1 hi2 rfl (by decide) (.slice (some ⟨wx.heap.size + 1, 0, none⟩) 0 0) 0 [] ?_ (aK.lit ?_ ?_) l lo.length (aC lo) ?_ (au.source (HL.out.below hS.2.2.2.2)) (by unfold maxLen; omega) (by omega) hS.2.2.2.1 ?_; (focus (simp [Act.eval, Act.put]; done)); (focus (first | omega | (simp; omega) | fail)); (focus (first | omega | (simp; done) | (simp; omega) | fail)); (focus (simp [Act.eval, Act.put]; done)); intro v5 w5 ho5 hg5 hat5; rw [Nat.zero_add, List.nil_append] at ho5; obtain ⟨a5, c5, rfl, -, -⟩ := ho5.form; have hb5 := gT (base := w.heap.size + 2) hg5 (by first | omega | (simp; done) | (simp; omega)) hS.2.2.2.1; have hS5 := copyB hS hb5; have hlt5 := hS5.2.2.2.1; obtain ⟨rx5, hrx5⟩ := Option.isSome_iff_exists.1 hS5.2.1.1; obtain ⟨ry5, hry5⟩ := Option.isSome_iff_exists.1 hS5.2.1.2; have hz5 := hg5.size; (try simp at hz5); have hl5 := fun k e => (ho5.lt k e).2; skip) | (have hS := (by assumption : (World.cell? _ _ = some l ∧ World.cell? _ _ = some h) ∧ _); refine bT rfl (.tmp 3) (.tmp 5) 27 rfl (w.heap.size + 2) 3 i0 (.int .i64 0) 1 8 Tryz.underlying27 hi0 hz0 hi1 hi2 rfl (by decide) (.slice (some ⟨w6.heap.size, 0, none⟩) 0 0) 0 [] ?_ (aK.lit ?_ ?_) l lo.length (aC lo) ?_ (au.source (HL.out.below hS.2.2.2.2)) (by unfold maxLen; omega) (by omega) hS.2.2.2.1 ?_; (focus (simp [Act.eval, Act.put]; done)); (focus (first | omega | (simp; omega) | fail)); (focus (first | omega | (simp; done) | (simp; omega) | fail)); (focus (simp [Act.eval, Act.put]; done)); intro v5 w5 ho5 hg5 hat5; rw [Nat.zero_add, List.nil_append] at ho5; obtain ⟨a5, c5, rfl, -, -⟩ := ho5.form; have hb5 := gT (base := w.heap.size + 2) hg5 (by first | omega | (simp; done) | (simp; omega)) hS.2.2.2.1; have hS5 := copyB hS hb5; have hlt5 := hS5.2.2.2.1; obtain ⟨rx5, hrx5⟩ := Option.isSome_iff_exists.1 hS5.2.1.1; obtain ⟨ry5, hry5⟩ := Option.isSome_iff_exists.1 hS5.2.1.2; have hz5 := hg5.size; (try simp at hz5); have hl5 := fun k e => (ho5.lt k e).2; skip) | (have hS := (by assumption : (World.cell? _ _ = some l ∧ World.cell? _ _ = some h) ∧ _); refine bT rfl (.tmp 7) (.tmp 9) 27 rfl (w.heap.size + 2) 3 i0 (.int .i64 0) 1 8 Tryz.underlying27 hi0 hz0 hi1 hi2 rfl (by decide) (.slice (some ⟨wx.heap.size, 0, none⟩) 0 0) 0 [] ?_ (aK.lit ?_ ?_) h hi.length (aC hi) ?_ (au.source (HH.out.below hS.2.2.2.2)) (by unfold maxLen; omega) (by omega) hS.2.2.2.1 ?_; (focus (simp [Act.eval, Act.put]; done)); (focus (first | omega | (simp; omega) | fail)); (focus (first | omega | (simp; done) | (simp; omega) | fail)); (focus (simp [Act.eval, Act.put]; done)); intro v6 w6 ho6 hg6 hat6; rw [Nat.zero_add, List.nil_append] at ho6; obtain ⟨a6, c6, rfl, -, -⟩ := ho6.form; have hb6 := gT (base := w.heap.size + 2) hg6 (by first | omega | (simp; done) | (simp; omega)) hS.2.2.2.1; have hS6 := copyB hS hb6; have hlt6 := hS6.2.2.2.1; obtain ⟨rx6, hrx6⟩ := Option.isSome_iff_exists.1 hS6.2.1.1; obtain ⟨ry6, hry6⟩ := Option.isSome_iff_exists.1 hS6.2.1.2; have hz6 := hg6.size; (try simp at hz6); have hl6 := fun k e => (ho6.lt k e).2; skip) | (have hS := (by assumption : (World.cell? _ _ = some l ∧ World.cell? _ _ = some h) ∧ _); refine bT rfl (.tmp 7) (.tmp 9) 27 rfl (w.heap.size + 2) 3 i0 (.int .i64 0) 1 8 Tryz.underlying27 hi0 hz0 hi1 hi2 rfl (by decide) (.slice (some ⟨wx.heap.size + 1, 0, none⟩) 0 0) 0 [] ?_ (aK.lit ?_ ?_) h hi.length (aC hi) ?_ (au.source (HH.out.below hS.2.2.2.2)) (by unfold maxLen; omega) (by omega) hS.2.2.2.1 ?_; (focus (simp [Act.eval, Act.put]; done)); (focus (first | omega | (simp; omega) | fail)); (focus (first | omega | (simp; done) | (simp; omega) | fail)); (focus (simp [Act.eval, Act.put]; done)); intro v6 w6 ho6 hg6 hat6; rw [Nat.zero_add, List.nil_append] at ho6; obtain ⟨a6, c6, rfl, -, -⟩ := ho6.form; have hb6 := gT (base := w.heap.size + 2) hg6 (by first | omega | (simp; done) | (simp; omega)) hS.2.2.2.1; have hS6 := copyB hS hb6; have hlt6 := hS6.2.2.2.1; obtain ⟨rx6, hrx6⟩ := Option.isSome_iff_exists.1 hS6.2.1.1; obtain ⟨ry6, hry6⟩ := Option.isSome_iff_exists.1 hS6.2.1.2; have hz6 := hg6.size; (try simp at hz6); have hl6 := fun k e => (ho6.lt k e).2; skip) | (have hS := (by assumption : (World.cell? _ _ = some l ∧ World.cell? _ _ = some h) ∧ _); refine bT rfl (.tmp 7) (.tmp 9) 27 rfl (w.heap.size + 2) 3 i0 (.int .i64 0) 1 8 Tryz.underlying27 hi0 hz0 hi1 hi2 rfl (by decide) (.slice (some ⟨w5.heap.size, 0, none⟩) 0 0) 0 [] ?_ (aK.lit ?_ ?_) h hi.length (aC hi) ?_ (au.source (HH.out.below hS.2.2.2.2)) (by unfold maxLen; omega) (by omega) hS.2.2.2.1 ?_; (focus (simp [Act.eval, Act.put]; done)); (focus (first | omega | (simp; omega) | fail)); (focus (first | omega | (simp; done) | (simp; omega) | fail)); (focus (simp [Act.eval, Act.put]; done)); intro v6 w6 ho6 hg6 hat6; rw [Nat.zero_add, List.nil_append] at ho6; obtain ⟨a6, c6, rfl, -, -⟩ := ho6.form; have hb6 := gT (base := w.heap.size + 2) hg6 (by first | omega | (simp; done) | (simp; omega)) hS.2.2.2.1; have hS6 := copyB hS hb6; have hlt6 := hS6.2.2.2.1; obtain ⟨rx6, hrx6⟩ := Option.isSome_iff_exists.1 hS6.2.1.1; obtain ⟨ry6, hry6⟩ := Option.isSome_iff_exists.1 hS6.2.1.2; have hz6 := hg6.size; (try simp at hz6); have hl6 := fun k e => (ho6.lt k e).2; skip) | fail)
 all_goals
  first
   | (have t5 : aK (w.heap.size + 2) 3 1 w6 (.slice a5 lo.length c5) lo.length (aC lo) := by
       refine aK.grown (by first | exact ho5 | exact ho5.alloc _ | fail) hg6 fun k e1 e2 => ?_;have q1 := hat5 k e1;have q3 := hl5 k e1;simp [Value.ownBlock] at q1 e2;omega
      have HP := hide (show aL (w.heap.size + 2) w6 (.slice a5 lo.length c5) (.slice a6 hi.length c6) lo hi from ⟨hlt6, t5, ho6, fun k e1 e2 => by have q1 := hat5 k e1; have q2 := hat6 k e2; have q3 := hl5 k e1; have q4 := hl6 k e2; simp [Value.ownBlock] at q1 q2; omega⟩);have HK := hide hS6.2.2.2.2;clear ho5 ho6 hb5 hb6 hS5 hS6 hI hg5 hg6;go_wp2_with fail
      refine bodyPost_ret (by simp [results, Tryz.results88, go_sem, hrx6, hry6]; try rfl) rfl ?_;exact ⟨_, _, rfl, (HP.out.other (((ai.refl (w.heap.size + 1) (w.heap.size + 2) w6).setCell (p := ⟨w.heap.size + 1, 0, none⟩) nl ns _).setCell (p := ⟨w.heap.size + 1, 1, none⟩) nl ns _) nl).mono (Nat.le_add_right _ 2), (HK.out.setCell (by simp) _).setCell (by simp) _⟩)
   | (have t6 : aK (w.heap.size + 2) 3 1 w5 (.slice a6 hi.length c6) hi.length (aC hi) := by
       refine aK.grown (by first | exact ho6 | exact ho6.alloc _ | fail) hg5 fun k e1 e2 => ?_;have q1 := hat6 k e1;have q3 := hl6 k e1;simp [Value.ownBlock] at q1 e2;omega
      have HP := hide (show aL (w.heap.size + 2) w5 (.slice a5 lo.length c5) (.slice a6 hi.length c6) lo hi from ⟨hlt5, ho5, t6, fun k e1 e2 => by have q1 := hat5 k e1; have q2 := hat6 k e2; have q3 := hl5 k e1; have q4 := hl6 k e2; simp [Value.ownBlock] at q1 q2; omega⟩);have HK := hide hS5.2.2.2.2;clear ho5 ho6 hb5 hb6 hS5 hS6 hI hg5 hg6;go_wp2_with fail
      refine bodyPost_ret (by simp [results, Tryz.results88, go_sem, hrx5, hry5]; try rfl) rfl ?_;exact ⟨_, _, rfl, (HP.out.other (((ai.refl (w.heap.size + 1) (w.heap.size + 2) w5).setCell (p := ⟨w.heap.size + 1, 0, none⟩) nl ns _).setCell (p := ⟨w.heap.size + 1, 1, none⟩) nl ns _) nl).mono (Nat.le_add_right _ 2), (HK.out.setCell (by simp) _).setCell (by simp) _⟩)
theorem long_bd2 {l : List Pc} (h : ∀ k, k < l.length → pcB (l.getD k pc0) = true) : ∀ n, n ≤ l.length → 0 ≤ bi l n ∧ bi l n ≤ 60 * n
 | 0, _ => by simp [bi]
 | n + 1, hn => by
  have := long_bd2 h n (by omega);have := (pcB_iff.1 (h n (by omega))).1;simp only [bi]; omega
theorem mass_ge {m : Mi} (h : dO m) : m.strand + m.scrap ≤ fZ m ∧ fZ m ≤ 10000 ∧ 0 ≤ fZ m := by
 have h1 := stock_bd h.store m.store.length nl;have h2 := long_bd2 h.pcs m.pieces.length nl;have h3 := dG h.store;have h4 := h.len;have h5 := h.st0;have h6 := h.st1;have h7 := h.sc0;have h8 := h.sc1;unfold fZ;omega
theorem il {m : Mi} (s : Int) : (bf m s).length ≤ 30 := by
 unfold bf;split
 ·rename_i h
  have := gK m.pieces s m.pieces.length;have := (aQ.1 h).len;unfold dA; omega
 ·exact Nat.zero_le _
theorem do_law {m : Mi} (hv : aF m = true) {d : J} (h : (doR m d).2 = true) :
 Done m (doR m d).1 ∧ aF (doR m d).1 = true ∧ fw (doR m d).1 = fw m := by
 have hd := do_ok (aQ.1 hv) (show doR m d = ((doR m d).1, true) by rw [← h]);have h2 := aQ.2 hd.v;refine ⟨hd, h2, ?_⟩;unfold fw;rw [if_pos h2, if_pos hv, hd.mass]
theorem iC {m : Mi} (hv : aF m = false) (d : J) : doR m d = (mi0, false) := by
 unfold doR;rw [if_neg (by simp [hv])]
theorem do_same {m : Mi} {d : J} (h : (doR m d).2 = false) : (doR m d).1 = m ∨ aF m = false := by
 cases hv : aF m
 ·exact .inr rfl
 ·exact .inl (do_no (aQ.1 hv) (show doR m d = ((doR m d).1, false) by rw [← h]))
theorem run_bad {m : Mi} {l : List J} (h : aF m = false ∨ 99 < l.length) : iX m l = (mi0, 0) := by
 unfold iX;rw [if_neg];rw [Bool.and_eq_true, decide_eq_true_iff];rintro ⟨h1, h2⟩;rcases h with h | h
 ·rw [h] at h1; cases h1
 ·omega
theorem jL {m : Mi} {l : List J} (h : aF m = true) (hl : l.length ≤ 99) : iX m l = dX m l := by
 unfold iX;rw [if_pos];simp [h, hl]
theorem run_valid {m : Mi} {l : List J} (h : aF m = true) (hl : l.length ≤ 99) : aF (iX m l).1 = true ∧ fw (iX m l).1 = fw m := by
 rw [jL h hl];obtain ⟨h1, h2, -⟩ := run_v l (m, 0) (aQ.1 h);have h3 := aQ.2 h1;refine ⟨h3, ?_⟩;unfold fw;rw [if_pos h, if_pos (show aF (dX m l).1 = true from h3)];exact h2
theorem clear_law {m : Mi} (h : aF m = true) : (iX m (bM m)).2 = ((bM m).length : Int) ∧ (bf (iX m (bM m)).1 2).length = m.pieces.length ∧ ib (iX m (bM m)).1.low (iX m (bM m)).1.high = [] ∧ (iX m (bM m)).1.strand = m.strand ∧ (iX m (bM m)).1.scrap = m.scrap := by
 obtain ⟨x, h1, h2, h3, h4⟩ := clear_ok (aQ.1 h);rw [jL h (clear_len m), h1];refine ⟨rfl, ?_, h4, h2.st, h2.sc⟩;unfold bf;rw [if_pos (aQ.2 h2.v)];exact h3
theorem do_small {m : Mi} {d : J} (h : (doR m d).2 = true) : (doR m d).1.pieces.length ≤ 30 ∧ (doR m d).1.low.length ≤ 6 := by
 cases hv : aF m
 ·rw [iC hv] at h; cases h
 ·have hx := aQ.1 (do_law hv h).2.1
  exact ⟨hx.len, hx.pile.l6⟩
structure Few (m : Mi) : Prop where
 p : m.pieces.length ≤ 40
 l : m.low.length ≤ 10
structure Tight (m : Mi) : Prop where
 p : m.pieces.length ≤ 30
 l : m.low.length ≤ 6
theorem Tight.few {m : Mi} (h : Tight m) : Few m := ⟨by have := h.p; omega, by have := h.l; omega⟩
theorem tight_do {m : Mi} {d : J} (h : (doR m d).2 = true) : Tight (doR m d).1 := by
 obtain ⟨h1, h2⟩ := do_small h;exact ⟨h1, h2⟩
structure OwnV (base T sz : Nat) (w : World) (v : Value) (n : Nat) (cs : List Value) : Prop where
 own : aK base T sz w v n cs
 lt : base ≤ w.heap.size
theorem OwnV.below {base T sz n : Nat} {w w' : World} {v : Value} {cs : List Value} (h : OwnV base T sz w v n cs) (k : Below w.heap.size w w') : OwnV base T sz w' v n cs :=
 ⟨h.own.below k nl, Nat.le_trans h.lt k.size⟩
theorem OwnV.other {base T sz n a z : Nat} {w w' : World} {v : Value} {cs : List Value} (h : OwnV base T sz w v n cs) (k : ai a z w w') (hd : z ≤ base) : OwnV base T sz w' v n cs :=
 ⟨h.own.other k fun g hg => by have := (h.own.lt g hg).1; omega, Nat.le_trans h.lt k.size⟩
structure ak (base : Nat) (w : World) (s p l h : Value) (m : Mi) : Prop where
 hb : base ≤ w.heap.size
 so : aK base 99 5 w s m.store.length (bB m.store)
 po : aK base 63 2 w p m.pieces.length (bO m.pieces)
 lo : aK base 3 1 w l m.low.length (aC m.low)
 ho : aK base 3 1 w h m.high.length (aC m.high)
 sp : Apart s p
 sl : Apart s l
 sh : Apart s h
 pl : Apart p l
 ph : Apart p h
 lh : Apart l h
theorem ak.op {base : Nat} {w : World} {s p l h : Value} {m : Mi} (G : ak base w s p l h m) : ∃ a c a2 c2 a3 c3 a4 c4, s = .slice a m.store.length c ∧ p = .slice a2 m.pieces.length c2 ∧ l = .slice a3 m.low.length c3 ∧ h = .slice a4 m.high.length c4 := by
 obtain ⟨a, c, e1, -⟩ := G.so.form;obtain ⟨a2, c2, e2, -⟩ := G.po.form;obtain ⟨a3, c3, e3, -⟩ := G.lo.form;obtain ⟨a4, c4, e4, -⟩ := G.ho.form;exact ⟨a, c, a2, c2, a3, c3, a4, c4, e1, e2, e3, e4⟩
theorem ak.at {base : Nat} {w : World} {s p l h : Value} {m : Mi} (H : ak base w s p l h m) : aM base w.heap.size w s p l h m := by
 obtain ⟨a1, z1, h1, h2, h3, h4, -⟩ := ownE_S H.so rfl H.hb;obtain ⟨a2, z2, k1, k2, k3, k4, -⟩ := ownE_P H.po rfl H.hb;exact ⟨h4.mono h1 h3 nl, k4.mono k1 k3 nl, iy H.lo rfl H.hb, iy H.ho rfl H.hb⟩
theorem ak.all {base : Nat} {w : World} {s p l h : Value} {m : Mi} (H : ak base w s p l h m) : aM 0 w.heap.size w s p l h m :=
 H.at.mono (Nat.zero_le _) nl nl
theorem ak.lt {base : Nat} {w : World} {s p l h : Value} {m : Mi} (H : ak base w s p l h m) : base ≤ w.heap.size := H.hb
theorem ak.below {base : Nat} {w w' : World} {s p l h : Value} {m : Mi} (H : ak base w s p l h m) (k : Below w.heap.size w w') : ak base w' s p l h m :=
 ⟨Nat.le_trans H.hb k.size, H.so.below k nl, H.po.below k nl, H.lo.below k nl, H.ho.below k nl, H.sp, H.sl, H.sh, H.pl, H.ph, H.lh⟩
theorem ak.other {base a z : Nat} {w w' : World} {s p l h : Value} {m : Mi} (H : ak base w s p l h m) (k : ai a z w w') (hd : z ≤ base) : ak base w' s p l h m := by
 have hd' : ∀ {T sz n : Nat} {v : Value} {cs : List Value}, aK base T sz w v n cs → ∀ g, v.ownBlock = some g → g < a ∨ z ≤ g := fun ho g hg => by
  have := (ho.lt g hg).1; omega
 exact ⟨Nat.le_trans H.hb k.size, H.so.other k (hd' H.so), H.po.other k (hd' H.po), H.lo.other k (hd' H.lo), H.ho.other k (hd' H.ho), H.sp, H.sl, H.sh, H.pl, H.ph, H.lh⟩
theorem ak.mono {base base' : Nat} {w : World} {s p l h : Value} {m : Mi} (H : ak base w s p l h m) (hb : base' ≤ base) : ak base' w s p l h m :=
 ⟨Nat.le_trans hb H.hb, H.so.mono hb, H.po.mono hb, H.lo.mono hb, H.ho.mono hb, H.sp, H.sl, H.sh, H.pl, H.ph, H.lh⟩
theorem ak.nums {base : Nat} {w : World} {s p l h : Value} {m : Mi} (H : ak base w s p l h m) (r : Gr) (x y : Int) : ak base w s p l h { m with rule := r, strand := x, scrap := y } :=
 ⟨H.hb, H.so, H.po, H.lo, H.ho, H.sp, H.sl, H.sh, H.pl, H.ph, H.lh⟩
theorem ak.store {base B : Nat} {w w' : World} {s s' p l h : Value} {m : Mi} {xs : List St} (H : ak base w s p l h m) (k : Below w.heap.size w w') (hB : w.heap.size ≤ B) (n : aK B 99 5 w' s' xs.length (bB xs)) (y : Int) :
 ak base w' s' p l h { m with store := xs, strand := y } :=
 ⟨Nat.le_trans H.hb k.size, n.mono (Nat.le_trans H.hb hB), H.po.below k nl, H.lo.below k nl, H.ho.below k nl, (H.po.apart n hB).symm, (H.lo.apart n hB).symm, (H.ho.apart n hB).symm, H.pl, H.ph, H.lh⟩
theorem ak.yard {base B : Nat} {w w' : World} {s p l h l' h' : Value} {m : Mi} {xs ys : List Int} (H : ak base w s p l h m) (k : Below w.heap.size w w') (hB : w.heap.size ≤ B) (q : aL B w' l' h' xs ys) :
 ak base w' s p l' h' { m with low := xs, high := ys } :=
 ⟨Nat.le_trans H.hb k.size, H.so.below k nl, H.po.below k nl, q.lo.mono (Nat.le_trans H.hb hB), q.ho.mono (Nat.le_trans H.hb hB), H.sp, H.so.apart q.lo hB, H.so.apart q.ho hB, H.po.apart q.lo hB, H.po.apart q.ho hB, q.ap⟩
def CopyGot (base : Nat) (m : Mi) (w : World) (e : Ending) (w' : World) : Prop := ∃ s p l h, e = .returned (ag s p l h m) ∧ ak base w' s p l h m ∧ Below base w w'
def jg (base : Nat) (x : Mi × Bool) (w : World) (e : Ending) (w' : World) : Prop := ∃ s p l h, e = .returned (.tuple #[ag s p l h x.1, .bool x.2]) ∧ ak base w' s p l h x.1 ∧ Below base w w'
def RunGot (base : Nat) (x : Mi × Int) (w : World) (e : Ending) (w' : World) : Prop := ∃ s p l h, e = .returned (.tuple #[ag s p l h x.1, .int .i64 x.2]) ∧ ak base w' s p l h x.1 ∧ Below base w w'
theorem got_put {base b a z : Nat} {w wk W : World} {s p l h : Value} {m : Mi} (H : ak b wk s p l h m) (hB : Below base w wk) (T : ai a z wk W) (h1 : z ≤ b) (h2 : base ≤ a) (h3 : base ≤ b) (h4 : base ≤ w.heap.size) : ak base W s p l h m ∧ Below base w W :=
 ⟨(H.other T h1).mono h3, hB.trans (T.below (B := base) h2 (by have := hB.size; omega))⟩
theorem millGot_zero {base : Nat} {w : World} (h : base ≤ w.heap.size) (z : Mi) (h1 : z.store = []) (h2 : z.pieces = []) (h3 : z.low = []) (h4 : z.high = []) : ak base w (.slice none 0 0) (.slice none 0 0) (.slice none 0 0) (.slice none 0 0) z := by
 refine ⟨h, ?_, ?_, ?_, ?_, fK _ _, fK _ _, fK _ _, fK _ _, fK _ _, fK _ _⟩
 ·rw [h1]; exact aK.own (World.ownsRow_nil _ _ _ _)
 ·rw [h2]; exact aK.own (World.ownsRow_nil _ _ _ _)
 ·rw [h3]; exact aK.own (World.ownsRow_nil _ _ _ _)
 ·rw [h4]; exact aK.own (World.ownsRow_nil _ _ _ _)
theorem spotN_spec (n : Int) (w : World) (h1 : 0 ≤ n) (h2 : n ≤ 9223372036854775807) :
 Calls Tryz.prog 83 #[.int .i64 n] w fun e w' => e = .returned (.agg #[.bool (aP n), .int .i64 (aG n)]) ∧ Below w.heap.size w w' := by
 have hneg : ¬ n < 0 := by omega
 go_enter Tryz.func83, Tryz.ntmps83
 go_wp2
 go_returns
 exact ⟨by simp [aP, aG, hneg] <;> omega, by go_grown⟩
theorem spotN_impl (n : Int) (w : World) (h1 : 0 ≤ n) (h2 : n ≤ 9223372036854775807) :
 Calls Tryz.prog 115 #[.int .i64 n] w fun e w' => e = .returned (.agg #[.bool (aP n), .int .i64 (aG n)]) ∧ Below w.heap.size w w' := by
 have hneg : ¬ n < 0 := by omega
 go_enter Tryz.func115, Tryz.ntmps115
 go_wp2
 go_returns
 exact ⟨by simp [aP, aG, hneg] <;> omega, by go_grown⟩
end Go.Proofs.YtkhecelpafojdaaGreatDoor
