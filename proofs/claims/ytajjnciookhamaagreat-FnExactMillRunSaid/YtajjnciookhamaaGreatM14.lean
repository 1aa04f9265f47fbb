/-
  Parts of the proof, of 2 texts: what CoilB, CoilC show. Conditions: each theorem states its own.
-/
import Derived.Deep.RegionHeldLaw
import Derived.Test.YtajjnciookhamaaGreatM11
import Derived.Test.YtajjnciookhamaaGreatM13
namespace Go.Proofs.YtajjnciookhamaaGreat
open Go.RowKit
theorem lib_idx (xs : List Int) (x : Int) : Lib.idxOf xs x = if hasI xs x then ((xs.idxOf x : Nat) : Int) else -1 := by
  split
  · rename_i h
    have hm := hasI_iff.1 h
    obtain ⟨h1, h2⟩ := idx_get hm
    have := Lib.idxOf_hit xs xs.length (xs.idxOf x) x h1 (Nat.le_refl _) h2 (fun j hj e => by
      have hjl : j < xs.length := by omega
      have hp := List.not_of_lt_findIdx (p := (· == x)) (xs := xs) (i := j) hj
      rw [List.getD_eq_getElem?_getD, List.getElem?_eq_getElem hjl] at e
      simp at e hp
      exact hp e)
    rwa [List.take_of_length_le (Nat.le_refl _)] at this
  · rename_i h
    have hm : x ∉ xs := fun hm => h (hasI_iff.2 hm)
    have := Lib.idxOf_miss xs xs.length x (fun j hj e => by
      rw [List.getD_eq_getElem?_getD, List.getElem?_eq_getElem hj] at e
      simp at e
      exact hm (by rw [← e]; exact List.getElem_mem _))
    rwa [List.take_of_length_le (Nat.le_refl _)] at this
theorem index_any (v : Value) (xs : List Int) (lo hi : Nat) (n : Int) (w : World) (h : IntsAt lo hi w v xs) :
    Calls Tryz.prog 118 #[v, .int .i64 n] w fun e w' => e = .returned (.int .i64 (if hasI xs n then ((xs.idxOf n : Nat) : Int) else -1)) ∧ w = w' := by
  have hlen := h.len
  obtain ⟨ao, cap, rfl, a1, a2, a3, a4⟩ := h
  rw [← lib_idx]
  rcases Nat.eq_zero_or_pos xs.length with h0 | h0
  · obtain rfl : xs = [] := List.eq_nil_of_length_eq_zero h0
    exact (Tryz.slices_Index_int_empty ao cap n w).mono fun e w' ⟨he, hw⟩ => ⟨he, hw.symm⟩
  · obtain ⟨b, o, rfl, hb1, hb2, hc⟩ := a4 h0
    have := Tryz.slices_Index_int b o xs.length cap xs n w (Nat.le_refl _) (by omega) (fun j hj => by rw [(hc j hj).1, getD_eq hj])
    rw [List.take_of_length_le (Nat.le_refl _)] at this
    exact this.mono fun e w' ⟨he, hw⟩ => ⟨he, hw.symm⟩
set_option linter.unusedSimpArgs false in
set_option maxHeartbeats 800000 in
theorem find_impl (l h : Value) (lo hi : List Int) (id : Int) (w : World) (Hl : IntsAt 0 w.heap.size w l lo) (Hh : IntsAt 0 w.heap.size w h hi) :
    Calls Tryz.prog 90 #[pileV l h, .int .i64 id] w fun e w' => e = .returned (findV (findR lo hi id)) ∧ Below w.heap.size w w' := by
  have HL := hide Hl
  have HH := hide Hh
  have hp := fun W => pile_impl l h lo hi W
  unfold pileV at hp ⊢
  have HP := hide hp
  clear hp Hl Hh
  go_enter Tryz.func90, Tryz.ntmps90
  go_wp2_with fail

  refine calls_at fun wx hwx => ?_
  have A_0 : RowL wx (w.heap.size) 37 [l, h] := by rw [hwx]; exact ((RowL.new _ 37 [l, h]).alloc _)
  have R_0 : RowL wx (w.heap.size + 1) 68 [.bool false, .int .i64 0] := by rw [hwx]; simpa using (RowL.new (World.alloc _ _) 68 [.bool false, .int .i64 0])
  have B_0 : Below w.heap.size w wx := by rw [hwx]; go_grown
  clear hwx
  have hL0 := R_0.lt
  have VL_0 := hide (HL.out.below B_0)
  have VH_0 := hide (HH.out.below B_0)
  have k_c1 := HP.out wx ((VL_0.out).mono (Nat.le_refl _) (VL_0.out).lt (Nat.le_refl _)) ((VH_0.out).mono (Nat.le_refl _) (VH_0.out).lt (Nat.le_refl _))
  cases c1 : pileB lo hi with
  | false =>
    rw [c1] at k_c1
    have Hc1 := hide (show findR lo hi id = none from find_bad c1)
    clear c1
    refine (k_c1).mono ?_
    rintro e w1 ⟨rfl, hb⟩
    have A_1 := A_0.below hb A_0.lt
    have R_1 := R_0.below hb R_0.lt
    have VL_1 := hide (VL_0.out.below hb)
    have VH_1 := hide (VH_0.out.below hb)
    have B_1 := hide (Below.step B_0 hb (Nat.le_refl _))
    have hz1 := hb.size
    clear hb
    have cR0 := R_1.c 0 rfl
    have cR1 := R_1.c 1 rfl
    have fR0 := R_1.frozen 0
    have fR1 := R_1.frozen 1
    clear k_c1
    go_wp2_with fail
    refine bodyPost_ret (by simp [results, Tryz.results90, go_sem, cR0, cR1]; try rfl) rfl ?_
    exact ⟨by rw [Hc1.out]; rfl, ((B_1.out).setCell (by simp) _).setCell (by simp) _⟩
  | true =>
    rw [c1] at k_c1
    have Kc1 := hide c1
    clear c1
    refine (k_c1).mono ?_
    rintro e w1 ⟨rfl, hb⟩
    have A_1 := A_0.below hb A_0.lt
    have R_1 := R_0.below hb R_0.lt
    have VL_1 := hide (VL_0.out.below hb)
    have VH_1 := hide (VH_0.out.below hb)
    have B_1 := hide (Below.step B_0 hb (Nat.le_refl _))
    have hz1 := hb.size
    clear hb
    have cA0 : w1.cell? ⟨w.heap.size, 0, none⟩ = some (l) := A_1.cell 0 (by simp)
    have cA1 : w1.cell? ⟨w.heap.size, 1, none⟩ = some (h) := A_1.cell 1 (by simp)
    have cR0 := R_1.c 0 rfl
    have cR1 := R_1.c 1 rfl
    have fR0 := R_1.frozen 0
    have fR1 := R_1.frozen 1
    clear k_c1
    by_cases hid : id < 1
    · have HF := hide (find_low (lo := lo) (hi := hi) (show id ≤ 0 by omega))
      go_wp2_with fail
      refine bodyPost_ret (by simp [results, Tryz.results90, go_sem, cR0, cR1]; try rfl) rfl ?_
      exact ⟨by rw [HF.out]; rfl, ((B_1.out).setCell (by simp) _).setCell (by simp) _⟩
    have hF : findR lo hi id = if hasI lo id then some (false, ((lo.idxOf id : Nat) : Int)) else if hasI hi id then some (true, ((hi.idxOf id : Nat) : Int)) else none := by
      unfold findR
      rw [if_pos (by rw [Kc1.out]; simp; omega)]
    have HF := hide hF
    clear hF
    have k_i := index_any l lo _ _ id w1 VL_1.out
    cases c2 : hasI lo id with
    | true =>
      rw [c2] at k_i HF
      simp only [if_true] at k_i HF
      obtain ⟨j, hj⟩ : ∃ j, lo.idxOf id = j := ⟨_, rfl⟩
      rw [hj] at k_i HF
      have hj0 : (0 : Int) ≤ (j : Int) := by omega
      clear hj c2
      go_wp2_with fail
      refine k_i.mono ?_
      rintro e wq ⟨rfl, rfl⟩
      clear k_i
      go_wp2_with fail
      refine bodyPost_ret (by simp [results, Tryz.results90, go_sem, cR0, cR1]; try rfl) rfl ?_
      exact ⟨by rw [HF.out]; rfl, ((B_1.out).setCell (by simp) _).setCell (by simp) _⟩
    | false =>
      rw [c2] at k_i HF
      simp only [Bool.false_eq_true, if_false] at k_i HF
      clear c2
      go_wp2_with fail
      refine k_i.mono ?_
      rintro e wq ⟨rfl, rfl⟩
      clear k_i
      go_wp2_with fail
      have k_i := index_any h hi _ _ id w1 VH_1.out
      cases c3 : hasI hi id with
      | true =>
        rw [c3] at k_i HF
        simp only [if_true] at k_i HF
        obtain ⟨j, hj⟩ : ∃ j, hi.idxOf id = j := ⟨_, rfl⟩
        rw [hj] at k_i HF
        have hj0 : (0 : Int) ≤ (j : Int) := by omega
        clear hj c3
        refine k_i.mono ?_
        rintro e wq ⟨rfl, rfl⟩
        clear k_i
        go_wp2_with fail
        refine bodyPost_ret (by simp [results, Tryz.results90, go_sem, cR0, cR1]; try rfl) rfl ?_
        exact ⟨by rw [HF.out]; rfl, ((B_1.out).setCell (by simp) _).setCell (by simp) _⟩
      | false =>
        rw [c3] at k_i HF
        simp only [Bool.false_eq_true, if_false] at k_i HF
        clear c3
        refine k_i.mono ?_
        rintro e wq ⟨rfl, rfl⟩
        clear k_i
        go_wp2_with fail
        refine bodyPost_ret (by simp [results, Tryz.results90, go_sem, cR0, cR1]; try rfl) rfl ?_
        exact ⟨by rw [HF.out]; rfl, ((B_1.out).setCell (by simp) _).setCell (by simp) _⟩
end Go.Proofs.YtajjnciookhamaaGreat
namespace Go.Proofs.YtajjnciookhamaaGreat
open Go.RowKit
/-- The rows of a pile are the call's own, and apart. -/
structure PileOwn (base : Nat) (w : World) (l h : Value) (lo hi : List Int) : Prop where
  hb : base ≤ w.heap.size
  lo : OwnE base 3 1 w l lo.length (flatI lo)
  ho : OwnE base 3 1 w h hi.length (flatI hi)
  ap : Apart l h
theorem PileOwn.below {base B : Nat} {w w' : World} {l h : Value} {lo hi : List Int} (H : PileOwn base w l h lo hi) (k : Below B w w') (hB : w.heap.size ≤ B) : PileOwn base w' l h lo hi :=
  ⟨Nat.le_trans H.hb k.size, H.lo.below k hB, H.ho.below k hB, H.ap⟩
theorem PileOwn.other {base a z : Nat} {w w' : World} {l h : Value} {lo hi : List Int} (H : PileOwn base w l h lo hi) (k : Other a z w w') (hd : z ≤ base) : PileOwn base w' l h lo hi :=
  ⟨Nat.le_trans H.hb k.size, H.lo.other k fun g hg => .inr (Nat.le_trans hd (H.lo.lt g hg).1), H.ho.other k fun g hg => .inr (Nat.le_trans hd (H.ho.lt g hg).1), H.ap⟩
theorem PileOwn.mono {base base' : Nat} {w : World} {l h : Value} {lo hi : List Int} (H : PileOwn base w l h lo hi) (k : base' ≤ base) : PileOwn base' w l h lo hi :=
  ⟨Nat.le_trans k H.hb, H.lo.mono k, H.ho.mono k, H.ap⟩
theorem PileOwn.low {base : Nat} {w : World} {l h : Value} {lo hi : List Int} (H : PileOwn base w l h lo hi) : IntsAt base w.heap.size w l lo := ownE_ints H.lo rfl H.hb
theorem PileOwn.high {base : Nat} {w : World} {l h : Value} {lo hi : List Int} (H : PileOwn base w l h lo hi) : IntsAt base w.heap.size w h hi := ownE_ints H.ho rfl H.hb
theorem PileOwn.low0 {base : Nat} {w : World} {l h : Value} {lo hi : List Int} (H : PileOwn base w l h lo hi) : IntsAt 0 w.heap.size w l lo := H.low.mono (Nat.zero_le _) (Nat.le_refl _) (Nat.le_refl _)
theorem PileOwn.high0 {base : Nat} {w : World} {l h : Value} {lo hi : List Int} (H : PileOwn base w l h lo hi) : IntsAt 0 w.heap.size w h hi := H.high.mono (Nat.zero_le _) (Nat.le_refl _) (Nat.le_refl _)
/-- A copy of a pile; a pile and something besides. -/
def PileGot1 (base : Nat) (lo hi : List Int) (w : World) (e : Ending) (w' : World) : Prop := ∃ l h, e = .returned (pileV l h) ∧ PileOwn base w' l h lo hi ∧ Below base w w'
def PileGot2 (base : Nat) (q : List Int × List Int) (c : Value) (w : World) (e : Ending) (w' : World) : Prop := ∃ l h, e = .returned (.tuple #[pileV l h, c]) ∧ PileOwn base w' l h q.1 q.2 ∧ Below base w w'
/-- Two blocks stay behind a call that makes a slice. -/
theorem heldAR {P : Program} {f : FuncId} {args : Array Value} {xs : List Int} {w0 W : World} (hc : Calls P f args W (IntsNew W.heap.size xs W)) {B : Nat} {u v x y : Value}
    (h0 : W.cell? ⟨B, 0, none⟩ = some u) (h1 : W.cell? ⟨B, 1, none⟩ = some v) (g0 : W.cell? ⟨B + 1, 0, none⟩ = some x) (g1 : W.cell? ⟨B + 1, 1, none⟩ = some y) (f0 : W.frozen? ⟨B + 1, 0, none⟩ = false) (f1 : W.frozen? ⟨B + 1, 1, none⟩ = false) (h2 : B + 1 < W.heap.size) (h3 : Below w0.heap.size w0 W) :
    Calls P f args W fun e w2 => ∃ r ao cap, e = .returned r ∧ r = .slice ao xs.length cap ∧ w2.ownsRow W.heap.size 3 1 r xs.length (flatI xs) ∧ Below W.heap.size W w2 ∧ (w2.cell? ⟨B, 0, none⟩ = some u ∧ w2.cell? ⟨B, 1, none⟩ = some v) ∧ (w2.cell? ⟨B + 1, 0, none⟩ = some x ∧ w2.cell? ⟨B + 1, 1, none⟩ = some y) ∧ (w2.frozen? ⟨B + 1, 0, none⟩ = false ∧ w2.frozen? ⟨B + 1, 1, none⟩ = false) ∧ B + 1 < w2.heap.size ∧ Below w0.heap.size w0 w2 :=
  hc.mono fun e w2 ⟨r, he, ho, hb⟩ => let ⟨ao, cap, hr, _, _⟩ := own_slice ho; ⟨r, ao, cap, he, hr, ho, hb, ⟨by rw [hb.cell (Nat.lt_of_succ_lt h2)]; exact h0, by rw [hb.cell (Nat.lt_of_succ_lt h2)]; exact h1⟩, ⟨by rw [hb.cell h2]; exact g0, by rw [hb.cell h2]; exact g1⟩, ⟨by rw [hb.frozen h2]; exact f0, by rw [hb.frozen h2]; exact f1⟩, Nat.lt_of_lt_of_le h2 hb.size, Below.step h3 hb (Nat.le_refl _)⟩
set_option linter.unusedSimpArgs false in
set_option maxRecDepth 10000 in
set_option maxHeartbeats 3200000 in
theorem copyPile_any (l h : Value) (lo hi : List Int) (w : World) (Hl : IntsAt 0 w.heap.size w l lo) (Hh : IntsAt 0 w.heap.size w h hi) (n1 : lo.length ≤ 1000000) (n2 : hi.length ≤ 1000000) :
    Calls Tryz.prog 79 #[pileV l h] w (PileGot1 w.heap.size lo hi w) := by
  have HL := hide Hl
  have HH := hide Hh
  clear Hl Hh
  obtain ⟨i0, hi0, hz0, hi1, hi2⟩ := info_parts info_int
  unfold pileV
  go_enter Tryz.func79, Tryz.ntmps79
  go_wp2_with fail
  obtain ⟨wx, hwx⟩ : ∃ wx, wx = (w.alloc (.cells #[l, h] 37)).alloc (.cells #[.slice none 0 0, .slice none 0 0] 37) := ⟨_, rfl⟩
  rw [← hwx]
  have A_0 : RowL wx w.heap.size 37 [l, h] := by rw [hwx]; exact (RowL.new _ _ _).alloc _
  have R_0 : RowL wx (w.heap.size + 1) 37 [.slice none 0 0, .slice none 0 0] := by rw [hwx]; simpa using RowL.new (World.alloc _ _) 37 [.slice none 0 0, .slice none 0 0]
  have B_0 : Below w.heap.size w wx := by rw [hwx]; go_grown
  clear hwx
  obtain ⟨⟨s0, s1⟩, ⟨s2, s3⟩, ⟨s4, s5⟩, s6, s7⟩ : (wx.drew.cell? ⟨w.heap.size, 0, none⟩ = some l ∧ wx.drew.cell? ⟨w.heap.size, 1, none⟩ = some h) ∧ (wx.drew.cell? ⟨w.heap.size + 1, 0, none⟩ = some (.slice none 0 0) ∧ wx.drew.cell? ⟨w.heap.size + 1, 1, none⟩ = some (.slice none 0 0)) ∧ (wx.drew.frozen? ⟨w.heap.size + 1, 0, none⟩ = false ∧ wx.drew.frozen? ⟨w.heap.size + 1, 1, none⟩ = false) ∧ w.heap.size + 1 < wx.drew.heap.size ∧ Below w.heap.size w wx.drew := ⟨⟨A_0.cell 0 (by simp), A_0.cell 1 (by simp)⟩, ⟨R_0.cell 0 (by simp), R_0.cell 1 (by simp)⟩, ⟨R_0.frozen 0, R_0.frozen 1⟩, R_0.lt, B_0.drew⟩
  have hwz : w.heap.size + 1 < wx.heap.size := R_0.lt
  clear A_0 R_0 B_0
  go_region_with (first | (go_at_call 112; refine (heldAR (w0 := w) (B := w.heap.size) (u := l) (v := h) (x := .slice none 0 0) (y := .slice none 0 0) (cloneI_any l lo 0 w.heap.size _ (HL.out.below (by assumption)) n1) (by assumption) (by assumption) (by assumption) (by assumption) (by assumption) (by assumption) (by assumption) (by assumption)).mono ?_; rintro e w5 ⟨_, a5, c5, rfl, rfl, ho5, hb5, ⟨k0, k1⟩, ⟨k2, k3⟩, ⟨k4, k5⟩, k6, k7⟩) | (go_at_call 112; refine (heldAR (w0 := w) (B := w.heap.size) (u := l) (v := h) (x := .slice none 0 0) (y := .slice none 0 0) (cloneI_any h hi 0 w.heap.size _ (HH.out.below (by assumption)) n2) (by assumption) (by assumption) (by assumption) (by assumption) (by assumption) (by assumption) (by assumption) (by assumption)).mono ?_; rintro e w6 ⟨_, a6, c6, rfl, rfl, ho6, hb6, ⟨k0, k1⟩, ⟨k2, k3⟩, ⟨k4, k5⟩, k6, k7⟩))
  all_goals
    first
      | (have HP := hide (show PileOwn (w.heap.size + 2) w6 (.slice a5 lo.length c5) (.slice a6 hi.length c6) lo hi from ⟨k6, ((OwnE.own ho5).below hb6 (Nat.le_refl _)).mono s6, (OwnE.own ho6).mono (Nat.le_trans s6 hb5.size), (OwnE.own ho5).apart (OwnE.own ho6) (Nat.le_refl _)⟩)
         have HK := hide k7
         clear ho5 ho6 hb5 hb6
         go_wp2_with fail
         refine bodyPost_ret (by simp [results, Tryz.results79, go_sem, k2, k3]; try rfl) rfl ?_
         exact ⟨_, _, rfl, (HP.out.other (((Other.refl (w.heap.size + 1) (w.heap.size + 2) w6).setCell (p := ⟨w.heap.size + 1, 0, none⟩) (Nat.le_refl _) (Nat.lt_succ_self _) _).setCell (p := ⟨w.heap.size + 1, 1, none⟩) (Nat.le_refl _) (Nat.lt_succ_self _) _) (Nat.le_refl _)).mono (Nat.le_add_right _ 2), (HK.out.setCell (by simp) _).setCell (by simp) _⟩)
      | (have HP := hide (show PileOwn (w.heap.size + 2) w5 (.slice a5 lo.length c5) (.slice a6 hi.length c6) lo hi from ⟨k6, (OwnE.own ho5).mono (Nat.le_trans s6 hb6.size), ((OwnE.own ho6).below hb5 (Nat.le_refl _)).mono s6, ((OwnE.own ho6).apart (OwnE.own ho5) (Nat.le_refl _)).symm⟩)
         have HK := hide k7
         clear ho5 ho6 hb5 hb6
         go_wp2_with fail
         refine bodyPost_ret (by simp [results, Tryz.results79, go_sem, k2, k3]; try rfl) rfl ?_
         exact ⟨_, _, rfl, (HP.out.other (((Other.refl (w.heap.size + 1) (w.heap.size + 2) w5).setCell (p := ⟨w.heap.size + 1, 0, none⟩) (Nat.le_refl _) (Nat.lt_succ_self _) _).setCell (p := ⟨w.heap.size + 1, 1, none⟩) (Nat.le_refl _) (Nat.lt_succ_self _) _) (Nat.le_refl _)).mono (Nat.le_add_right _ 2), (HK.out.setCell (by simp) _).setCell (by simp) _⟩)
/-- What the copy's region keeps. -/
theorem copyB {w W W2 : World} {l h : Value} (H : (W.cell? ⟨w.heap.size, 0, none⟩ = some l ∧ W.cell? ⟨w.heap.size, 1, none⟩ = some h) ∧ ((W.cell? ⟨w.heap.size + 1, 0, none⟩).isSome = true ∧ (W.cell? ⟨w.heap.size + 1, 1, none⟩).isSome = true) ∧ (W.frozen? ⟨w.heap.size + 1, 0, none⟩ = false ∧ W.frozen? ⟨w.heap.size + 1, 1, none⟩ = false) ∧ w.heap.size + 1 < W.heap.size ∧ Below w.heap.size w W) (k : Below (w.heap.size + 2) W W2) : (W2.cell? ⟨w.heap.size, 0, none⟩ = some l ∧ W2.cell? ⟨w.heap.size, 1, none⟩ = some h) ∧ ((W2.cell? ⟨w.heap.size + 1, 0, none⟩).isSome = true ∧ (W2.cell? ⟨w.heap.size + 1, 1, none⟩).isSome = true) ∧ (W2.frozen? ⟨w.heap.size + 1, 0, none⟩ = false ∧ W2.frozen? ⟨w.heap.size + 1, 1, none⟩ = false) ∧ w.heap.size + 1 < W2.heap.size ∧ Below w.heap.size w W2 := by
  obtain ⟨⟨h0, h1⟩, ⟨h2, h3⟩, ⟨h4, h5⟩, h6, h7⟩ := H
  have a0 : w.heap.size < w.heap.size + 2 := by omega
  have a1 : w.heap.size + 1 < w.heap.size + 2 := by omega
  exact ⟨⟨by rw [k.cell (p := ⟨w.heap.size, 0, none⟩) a0]; exact h0, by rw [k.cell (p := ⟨w.heap.size, 1, none⟩) a0]; exact h1⟩, ⟨by rw [k.cell (p := ⟨w.heap.size + 1, 0, none⟩) a1]; exact h2, by rw [k.cell (p := ⟨w.heap.size + 1, 1, none⟩) a1]; exact h3⟩, ⟨by rw [k.frozen (p := ⟨w.heap.size + 1, 0, none⟩) a1]; exact h4, by rw [k.frozen (p := ⟨w.heap.size + 1, 1, none⟩) a1]; exact h5⟩, Nat.lt_of_lt_of_le h6 k.size, h7.trans (k.mono (by omega))⟩
theorem copyA {w W : World} {l h : Value} (H : (W.cell? ⟨w.heap.size, 0, none⟩ = some l ∧ W.cell? ⟨w.heap.size, 1, none⟩ = some h) ∧ ((W.cell? ⟨w.heap.size + 1, 0, none⟩).isSome = true ∧ (W.cell? ⟨w.heap.size + 1, 1, none⟩).isSome = true) ∧ (W.frozen? ⟨w.heap.size + 1, 0, none⟩ = false ∧ W.frozen? ⟨w.heap.size + 1, 1, none⟩ = false) ∧ w.heap.size + 1 < W.heap.size ∧ Below w.heap.size w W) (o : Obj) : ((W.alloc o).cell? ⟨w.heap.size, 0, none⟩ = some l ∧ (W.alloc o).cell? ⟨w.heap.size, 1, none⟩ = some h) ∧ (((W.alloc o).cell? ⟨w.heap.size + 1, 0, none⟩).isSome = true ∧ ((W.alloc o).cell? ⟨w.heap.size + 1, 1, none⟩).isSome = true) ∧ ((W.alloc o).frozen? ⟨w.heap.size + 1, 0, none⟩ = false ∧ (W.alloc o).frozen? ⟨w.heap.size + 1, 1, none⟩ = false) ∧ w.heap.size + 1 < (W.alloc o).heap.size ∧ Below w.heap.size w (W.alloc o) :=
  copyB H ((Below.refl _ _).alloc H.2.2.2.1 o)
theorem grown_below {base g : Nat} {W w2 : World} (hg : W.grownBy w2 (Value.slice (some ⟨g, 0, none⟩) 0 0).ownBlock) (h1 : base ≤ g) (h2 : base ≤ W.heap.size) : Below base W w2 :=
  (Below.refl _ _).grown hg h2 fun k hk => by
    obtain rfl : g = k := Option.some.inj hk
    exact h1
theorem copyP {w W : World} {l h : Value} (H : (W.cell? ⟨w.heap.size, 0, none⟩ = some l ∧ W.cell? ⟨w.heap.size, 1, none⟩ = some h) ∧ ((W.cell? ⟨w.heap.size + 1, 0, none⟩).isSome = true ∧ (W.cell? ⟨w.heap.size + 1, 1, none⟩).isSome = true) ∧ (W.frozen? ⟨w.heap.size + 1, 0, none⟩ = false ∧ W.frozen? ⟨w.heap.size + 1, 1, none⟩ = false) ∧ w.heap.size + 1 < W.heap.size ∧ Below w.heap.size w W) (x y : Value) : (((W.setCell ⟨w.heap.size + 1, 0, none⟩ x).setCell ⟨w.heap.size + 1, 1, none⟩ y).cell? ⟨w.heap.size, 0, none⟩ = some l ∧ ((W.setCell ⟨w.heap.size + 1, 0, none⟩ x).setCell ⟨w.heap.size + 1, 1, none⟩ y).cell? ⟨w.heap.size, 1, none⟩ = some h) ∧ ((((W.setCell ⟨w.heap.size + 1, 0, none⟩ x).setCell ⟨w.heap.size + 1, 1, none⟩ y).cell? ⟨w.heap.size + 1, 0, none⟩).isSome = true ∧ (((W.setCell ⟨w.heap.size + 1, 0, none⟩ x).setCell ⟨w.heap.size + 1, 1, none⟩ y).cell? ⟨w.heap.size + 1, 1, none⟩).isSome = true) ∧ (((W.setCell ⟨w.heap.size + 1, 0, none⟩ x).setCell ⟨w.heap.size + 1, 1, none⟩ y).frozen? ⟨w.heap.size + 1, 0, none⟩ = false ∧ ((W.setCell ⟨w.heap.size + 1, 0, none⟩ x).setCell ⟨w.heap.size + 1, 1, none⟩ y).frozen? ⟨w.heap.size + 1, 1, none⟩ = false) ∧ w.heap.size + 1 < ((W.setCell ⟨w.heap.size + 1, 0, none⟩ x).setCell ⟨w.heap.size + 1, 1, none⟩ y).heap.size ∧ Below w.heap.size w ((W.setCell ⟨w.heap.size + 1, 0, none⟩ x).setCell ⟨w.heap.size + 1, 1, none⟩ y) := by
  obtain ⟨⟨h0, h1⟩, ⟨h2, h3⟩, ⟨h4, h5⟩, h6, h7⟩ := H
  obtain ⟨u, hu⟩ := Option.isSome_iff_exists.1 h2
  obtain ⟨v, hv⟩ := Option.isSome_iff_exists.1 h3
  refine ⟨⟨?_, ?_⟩, ⟨?_, ?_⟩, ⟨by simp only [World.frozen?_setCell]; exact h4, by simp only [World.frozen?_setCell]; exact h5⟩, by simpa [World.setCell] using h6, (h7.setCell (by simp) _).setCell (by simp) _⟩
  · rw [World.cell?_setCell_other _ _ _ _ (by simp), World.cell?_setCell_other _ _ _ _ (by simp)]; exact h0
  · rw [World.cell?_setCell_other _ _ _ _ (by simp), World.cell?_setCell_other _ _ _ _ (by simp)]; exact h1
  · rw [World.cell?_setCell_other _ _ _ _ (by simp), World.cell?_setCell_same _ _ _ hu]; rfl
  · rw [World.cell?_setCell_same _ _ _ (by rw [World.cell?_setCell_other _ _ _ _ (by simp)]; exact hv)]; rfl
set_option linter.unusedSimpArgs false in
set_option maxRecDepth 10000 in
set_option maxHeartbeats 3200000 in
theorem l6Copy_any (l h : Value) (lo hi : List Int) (w : World) (Hl : IntsAt 0 w.heap.size w l lo) (Hh : IntsAt 0 w.heap.size w h hi) (n1 : lo.length ≤ 1000000) (n2 : hi.length ≤ 1000000) :
    Calls Tryz.prog 60 #[pileV l h] w (PileGot1 w.heap.size lo hi w) := by
  have HL := hide Hl
  have HH := hide Hh
  clear Hl Hh
  obtain ⟨i0, hi0, hz0, hi1, hi2⟩ := info_parts info_int
  unfold pileV
  go_enter Tryz.func60, Tryz.ntmps60
  go_wp2_with fail
  obtain ⟨wx, hwx⟩ : ∃ wx, wx = (w.alloc (.cells #[l, h] 37)).alloc (.cells #[.slice none 0 0, .slice none 0 0] 37) := ⟨_, rfl⟩
  rw [← hwx]
  have A_0 : RowL wx w.heap.size 37 [l, h] := by rw [hwx]; exact (RowL.new _ _ _).alloc _
  have R_0 : RowL wx (w.heap.size + 1) 37 [.slice none 0 0, .slice none 0 0] := by rw [hwx]; simpa using RowL.new (World.alloc _ _) 37 [.slice none 0 0, .slice none 0 0]
  have B_0 : Below w.heap.size w wx := by rw [hwx]; go_grown
  clear hwx
  obtain ⟨⟨s0, s1⟩, ⟨s2, s3⟩, ⟨s4, s5⟩, s6, s7⟩ : (wx.drew.cell? ⟨w.heap.size, 0, none⟩ = some l ∧ wx.drew.cell? ⟨w.heap.size, 1, none⟩ = some h) ∧ (wx.drew.cell? ⟨w.heap.size + 1, 0, none⟩ = some (.slice none 0 0) ∧ wx.drew.cell? ⟨w.heap.size + 1, 1, none⟩ = some (.slice none 0 0)) ∧ (wx.drew.frozen? ⟨w.heap.size + 1, 0, none⟩ = false ∧ wx.drew.frozen? ⟨w.heap.size + 1, 1, none⟩ = false) ∧ w.heap.size + 1 < wx.drew.heap.size ∧ Below w.heap.size w wx.drew := ⟨⟨A_0.cell 0 (by simp), A_0.cell 1 (by simp)⟩, ⟨R_0.cell 0 (by simp), R_0.cell 1 (by simp)⟩, ⟨R_0.frozen 0, R_0.frozen 1⟩, R_0.lt, B_0.drew⟩
  have hwz : w.heap.size + 1 < wx.heap.size := R_0.lt
  clear A_0 R_0 B_0
  have hI : (wx.drew.cell? ⟨w.heap.size, 0, none⟩ = some l ∧ wx.drew.cell? ⟨w.heap.size, 1, none⟩ = some h) ∧ ((wx.drew.cell? ⟨w.heap.size + 1, 0, none⟩).isSome = true ∧ (wx.drew.cell? ⟨w.heap.size + 1, 1, none⟩).isSome = true) ∧ (wx.drew.frozen? ⟨w.heap.size + 1, 0, none⟩ = false ∧ wx.drew.frozen? ⟨w.heap.size + 1, 1, none⟩ = false) ∧ w.heap.size + 1 < wx.drew.heap.size ∧ Below w.heap.size w wx.drew := ⟨⟨s0, s1⟩, ⟨by rw [s2]; rfl, by rw [s3]; rfl⟩, ⟨s4, s5⟩, s6, s7⟩
  go_region_held_law (fun w' => (w'.cell? ⟨w.heap.size, 0, none⟩ = some l ∧ w'.cell? ⟨w.heap.size, 1, none⟩ = some h) ∧ ((w'.cell? ⟨w.heap.size + 1, 0, none⟩).isSome = true ∧ (w'.cell? ⟨w.heap.size + 1, 1, none⟩).isSome = true) ∧ (w'.frozen? ⟨w.heap.size + 1, 0, none⟩ = false ∧ w'.frozen? ⟨w.heap.size + 1, 1, none⟩ = false) ∧ w.heap.size + 1 < w'.heap.size ∧ Below w.heap.size w w') (first | exact hI | exact hS5 | exact hS6 | exact copyA (by assumption) _ | exact copyP (by assumption) _ _ | go_keep) (first | (have hS := (by assumption : (World.cell? _ _ = some l ∧ World.cell? _ _ = some h) ∧ _); refine step_append_E rfl (.tmp 3) (.tmp 5) 26 rfl (w.heap.size + 2) 3 i0 (.int .i64 0) 1 8 Tryz.underlying26 hi0 hz0 hi1 hi2 rfl (by decide) (.slice (some ⟨wx.heap.size, 0, none⟩) 0 0) 0 [] ?_ (OwnE.lit ?_ ?_) l lo.length (flatI lo) ?_ (IntsAt.source (HL.out.below hS.2.2.2.2)) (by unfold maxLen; omega) (by omega) hS.2.2.2.1 ?_; (focus (simp [Act.eval, Act.put]; done)); (focus (first | omega | (simp; omega) | fail)); (focus (first | omega | (simp; done) | (simp; omega) | fail)); (focus (simp [Act.eval, Act.put]; done)); intro v5 w5 ho5 hg5 hat5; rw [Nat.zero_add, List.nil_append] at ho5; obtain ⟨a5, c5, rfl, -, -⟩ := ho5.form; have hb5 := grown_below (base := w.heap.size + 2) hg5 (by first | omega | (simp; done) | (simp; omega)) hS.2.2.2.1; have hS5 := copyB hS hb5; have hlt5 := hS5.2.2.2.1; obtain ⟨rx5, hrx5⟩ := Option.isSome_iff_exists.1 hS5.2.1.1; obtain ⟨ry5, hry5⟩ := Option.isSome_iff_exists.1 hS5.2.1.2; have hz5 := hg5.size; (try simp at hz5); have hl5 := fun k e => (ho5.lt k e).2; skip) | (have hS := (by assumption : (World.cell? _ _ = some l ∧ World.cell? _ _ = some h) ∧ _); refine step_append_E rfl (.tmp 3) (.tmp 5) 26 rfl (w.heap.size + 2) 3 i0 (.int .i64 0) 1 8 Tryz.underlying26 hi0 hz0 hi1 hi2 rfl (by decide) (.slice (some ⟨wx.heap.size + 1, 0, none⟩) 0 0) 0 [] ?_ (OwnE.lit ?_ ?_) l lo.length (flatI lo) ?_ (IntsAt.source (HL.out.below hS.2.2.2.2)) (by unfold maxLen; omega) (by omega) hS.2.2.2.1 ?_; (focus (simp [Act.eval, Act.put]; done)); (focus (first | omega | (simp; omega) | fail)); (focus (first | omega | (simp; done) | (simp; omega) | fail)); (focus (simp [Act.eval, Act.put]; done)); intro v5 w5 ho5 hg5 hat5; rw [Nat.zero_add, List.nil_append] at ho5; obtain ⟨a5, c5, rfl, -, -⟩ := ho5.form; have hb5 := grown_below (base := w.heap.size + 2) hg5 (by first | omega | (simp; done) | (simp; omega)) hS.2.2.2.1; have hS5 := copyB hS hb5; have hlt5 := hS5.2.2.2.1; obtain ⟨rx5, hrx5⟩ := Option.isSome_iff_exists.1 hS5.2.1.1; obtain ⟨ry5, hry5⟩ := Option.isSome_iff_exists.1 hS5.2.1.2; have hz5 := hg5.size; (try simp at hz5); have hl5 := fun k e => (ho5.lt k e).2; skip) | (have hS := (by assumption : (World.cell? _ _ = some l ∧ World.cell? _ _ = some h) ∧ _); refine step_append_E rfl (.tmp 3) (.tmp 5) 26 rfl (w.heap.size + 2) 3 i0 (.int .i64 0) 1 8 Tryz.underlying26 hi0 hz0 hi1 hi2 rfl (by decide) (.slice (some ⟨w6.heap.size, 0, none⟩) 0 0) 0 [] ?_ (OwnE.lit ?_ ?_) l lo.length (flatI lo) ?_ (IntsAt.source (HL.out.below hS.2.2.2.2)) (by unfold maxLen; omega) (by omega) hS.2.2.2.1 ?_; (focus (simp [Act.eval, Act.put]; done)); (focus (first | omega | (simp; omega) | fail)); (focus (first | omega | (simp; done) | (simp; omega) | fail)); (focus (simp [Act.eval, Act.put]; done)); intro v5 w5 ho5 hg5 hat5; rw [Nat.zero_add, List.nil_append] at ho5; obtain ⟨a5, c5, rfl, -, -⟩ := ho5.form; have hb5 := grown_below (base := w.heap.size + 2) hg5 (by first | omega | (simp; done) | (simp; omega)) hS.2.2.2.1; have hS5 := copyB hS hb5; have hlt5 := hS5.2.2.2.1; obtain ⟨rx5, hrx5⟩ := Option.isSome_iff_exists.1 hS5.2.1.1; obtain ⟨ry5, hry5⟩ := Option.isSome_iff_exists.1 hS5.2.1.2; have hz5 := hg5.size; (try simp at hz5); have hl5 := fun k e => (ho5.lt k e).2; skip) | (have hS := (by assumption : (World.cell? _ _ = some l ∧ World.cell? _ _ = some h) ∧ _); refine step_append_E rfl (.tmp 7) (.tmp 9) 26 rfl (w.heap.size + 2) 3 i0 (.int .i64 0) 1 8 Tryz.underlying26 hi0 hz0 hi1 hi2 rfl (by decide) (.slice (some ⟨wx.heap.size, 0, none⟩) 0 0) 0 [] ?_ (OwnE.lit ?_ ?_) h hi.length (flatI hi) ?_ (IntsAt.source (HH.out.below hS.2.2.2.2)) (by unfold maxLen; omega) (by omega) hS.2.2.2.1 ?_; (focus (simp [Act.eval, Act.put]; done)); (focus (first | omega | (simp; omega) | fail)); (focus (first | omega | (simp; done) | (simp; omega) | fail)); (focus (simp [Act.eval, Act.put]; done)); intro v6 w6 ho6 hg6 hat6; rw [Nat.zero_add, List.nil_append] at ho6; obtain ⟨a6, c6, rfl, -, -⟩ := ho6.form; have hb6 := grown_below (base := w.heap.size + 2) hg6 (by first | omega | (simp; done) | (simp; omega)) hS.2.2.2.1; have hS6 := copyB hS hb6; have hlt6 := hS6.2.2.2.1; obtain ⟨rx6, hrx6⟩ := Option.isSome_iff_exists.1 hS6.2.1.1; obtain ⟨ry6, hry6⟩ := Option.isSome_iff_exists.1 hS6.2.1.2; have hz6 := hg6.size; (try simp at hz6); have hl6 := fun k e => (ho6.lt k e).2; skip) | (have hS := (by assumption : (World.cell? _ _ = some l ∧ World.cell? _ _ = some h) ∧ _); refine step_append_E rfl (.tmp 7) (.tmp 9) 26 rfl (w.heap.size + 2) 3 i0 (.int .i64 0) 1 8 Tryz.underlying26 hi0 hz0 hi1 hi2 rfl (by decide) (.slice (some ⟨wx.heap.size + 1, 0, none⟩) 0 0) 0 [] ?_ (OwnE.lit ?_ ?_) h hi.length (flatI hi) ?_ (IntsAt.source (HH.out.below hS.2.2.2.2)) (by unfold maxLen; omega) (by omega) hS.2.2.2.1 ?_; (focus (simp [Act.eval, Act.put]; done)); (focus (first | omega | (simp; omega) | fail)); (focus (first | omega | (simp; done) | (simp; omega) | fail)); (focus (simp [Act.eval, Act.put]; done)); intro v6 w6 ho6 hg6 hat6; rw [Nat.zero_add, List.nil_append] at ho6; obtain ⟨a6, c6, rfl, -, -⟩ := ho6.form; have hb6 := grown_below (base := w.heap.size + 2) hg6 (by first | omega | (simp; done) | (simp; omega)) hS.2.2.2.1; have hS6 := copyB hS hb6; have hlt6 := hS6.2.2.2.1; obtain ⟨rx6, hrx6⟩ := Option.isSome_iff_exists.1 hS6.2.1.1; obtain ⟨ry6, hry6⟩ := Option.isSome_iff_exists.1 hS6.2.1.2; have hz6 := hg6.size; (try simp at hz6); have hl6 := fun k e => (ho6.lt k e).2; skip) | (have hS := (by assumption : (World.cell? _ _ = some l ∧ World.cell? _ _ = some h) ∧ _); refine step_append_E rfl (.tmp 7) (.tmp 9) 26 rfl (w.heap.size + 2) 3 i0 (.int .i64 0) 1 8 Tryz.underlying26 hi0 hz0 hi1 hi2 rfl (by decide) (.slice (some ⟨w5.heap.size, 0, none⟩) 0 0) 0 [] ?_ (OwnE.lit ?_ ?_) h hi.length (flatI hi) ?_ (IntsAt.source (HH.out.below hS.2.2.2.2)) (by unfold maxLen; omega) (by omega) hS.2.2.2.1 ?_; (focus (simp [Act.eval, Act.put]; done)); (focus (first | omega | (simp; omega) | fail)); (focus (first | omega | (simp; done) | (simp; omega) | fail)); (focus (simp [Act.eval, Act.put]; done)); intro v6 w6 ho6 hg6 hat6; rw [Nat.zero_add, List.nil_append] at ho6; obtain ⟨a6, c6, rfl, -, -⟩ := ho6.form; have hb6 := grown_below (base := w.heap.size + 2) hg6 (by first | omega | (simp; done) | (simp; omega)) hS.2.2.2.1; have hS6 := copyB hS hb6; have hlt6 := hS6.2.2.2.1; obtain ⟨rx6, hrx6⟩ := Option.isSome_iff_exists.1 hS6.2.1.1; obtain ⟨ry6, hry6⟩ := Option.isSome_iff_exists.1 hS6.2.1.2; have hz6 := hg6.size; (try simp at hz6); have hl6 := fun k e => (ho6.lt k e).2; skip) | fail)
  all_goals
    first
      | (have t5 : OwnE (w.heap.size + 2) 3 1 w6 (.slice a5 lo.length c5) lo.length (flatI lo) := by
          refine OwnE.grown (by first | exact ho5 | exact ho5.alloc _ | fail) hg6 fun k e1 e2 => ?_
          have q1 := hat5 k e1
          have q3 := hl5 k e1
          simp [Value.ownBlock] at q1 e2
          omega
         have HP := hide (show PileOwn (w.heap.size + 2) w6 (.slice a5 lo.length c5) (.slice a6 hi.length c6) lo hi from ⟨hlt6, t5, ho6, fun k e1 e2 => by have q1 := hat5 k e1; have q2 := hat6 k e2; have q3 := hl5 k e1; have q4 := hl6 k e2; simp [Value.ownBlock] at q1 q2; omega⟩)
         have HK := hide hS6.2.2.2.2
         clear ho5 ho6 hb5 hb6 hS5 hS6 hI hg5 hg6
         go_wp2_with fail
         refine bodyPost_ret (by simp [results, Tryz.results60, go_sem, hrx6, hry6]; try rfl) rfl ?_
         exact ⟨_, _, rfl, (HP.out.other (((Other.refl (w.heap.size + 1) (w.heap.size + 2) w6).setCell (p := ⟨w.heap.size + 1, 0, none⟩) (Nat.le_refl _) (Nat.lt_succ_self _) _).setCell (p := ⟨w.heap.size + 1, 1, none⟩) (Nat.le_refl _) (Nat.lt_succ_self _) _) (Nat.le_refl _)).mono (Nat.le_add_right _ 2), (HK.out.setCell (by simp) _).setCell (by simp) _⟩)
      | (have t6 : OwnE (w.heap.size + 2) 3 1 w5 (.slice a6 hi.length c6) hi.length (flatI hi) := by
          refine OwnE.grown (by first | exact ho6 | exact ho6.alloc _ | fail) hg5 fun k e1 e2 => ?_
          have q1 := hat6 k e1
          have q3 := hl6 k e1
          simp [Value.ownBlock] at q1 e2
          omega
         have HP := hide (show PileOwn (w.heap.size + 2) w5 (.slice a5 lo.length c5) (.slice a6 hi.length c6) lo hi from ⟨hlt5, ho5, t6, fun k e1 e2 => by have q1 := hat5 k e1; have q2 := hat6 k e2; have q3 := hl5 k e1; have q4 := hl6 k e2; simp [Value.ownBlock] at q1 q2; omega⟩)
         have HK := hide hS5.2.2.2.2
         clear ho5 ho6 hb5 hb6 hS5 hS6 hI hg5 hg6
         go_wp2_with fail
         refine bodyPost_ret (by simp [results, Tryz.results60, go_sem, hrx5, hry5]; try rfl) rfl ?_
         exact ⟨_, _, rfl, (HP.out.other (((Other.refl (w.heap.size + 1) (w.heap.size + 2) w5).setCell (p := ⟨w.heap.size + 1, 0, none⟩) (Nat.le_refl _) (Nat.lt_succ_self _) _).setCell (p := ⟨w.heap.size + 1, 1, none⟩) (Nat.le_refl _) (Nat.lt_succ_self _) _) (Nat.le_refl _)).mono (Nat.le_add_right _ 2), (HK.out.setCell (by simp) _).setCell (by simp) _⟩)
end Go.Proofs.YtajjnciookhamaaGreat
