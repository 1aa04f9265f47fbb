/-
  Parts of the proof, of 3 texts: what CoilA, MillA, PileE show. Conditions: each theorem states its own.
-/
import Derived.Deep.RegionHeld
import Derived.Sort.OwnSortedInts
import Derived.Test.YtajjnciookhamaaGreatM10
import Derived.Test.YtajjnciookhamaaGreatM05
import Derived.Test.YtajjnciookhamaaGreatM06
namespace Go.Proofs.YtajjnciookhamaaGreat
open Go.RowKit
theorem calls_val {P : Program} {f : FuncId} {args : Array Value} {W : World} {v v2 : Value} (h : Calls P f args W fun e w2 => e = .returned v ∧ Below W.heap.size W w2) (e : v = v2) : Calls P f args W fun e w2 => e = .returned v2 ∧ Below W.heap.size W w2 := e ▸ h
/-- What stands in two blocks stays behind a call. -/
theorem held4 {P : Program} {f : FuncId} {args : Array Value} {r : Value} (hc : ∀ w, Calls P f args w fun e w2 => e = .returned r ∧ Below w.heap.size w w2) {w0 W : World} {B : Nat} {u v x y : Value}
    (h0 : W.cell? ⟨B, 0, none⟩ = some u) (h1 : W.cell? ⟨B, 1, none⟩ = some v) (g0 : W.cell? ⟨B + 1, 0, none⟩ = some x) (g1 : W.cell? ⟨B + 1, 1, none⟩ = some y) (h2 : B + 1 < W.heap.size) (h3 : Below w0.heap.size w0 W) :
    Calls P f args W fun e w2 => e = .returned r ∧ (w2.cell? ⟨B, 0, none⟩ = some u ∧ w2.cell? ⟨B, 1, none⟩ = some v) ∧ (w2.cell? ⟨B + 1, 0, none⟩ = some x ∧ w2.cell? ⟨B + 1, 1, none⟩ = some y) ∧ B + 1 < w2.heap.size ∧ Below w0.heap.size w0 w2 :=
  (hc W).mono fun e w2 ⟨he, hb⟩ => ⟨he, ⟨by rw [hb.cell (Nat.lt_of_succ_lt h2)]; exact h0, by rw [hb.cell (Nat.lt_of_succ_lt h2)]; exact h1⟩, ⟨by rw [hb.cell h2]; exact g0, by rw [hb.cell h2]; exact g1⟩, Nat.lt_of_lt_of_le h2 hb.size, Below.step h3 hb (Nat.le_refl _)⟩
theorem held5 {P : Program} {f : FuncId} {args : Array Value} {r : Value} (hc : ∀ w, Calls P f args w fun e w2 => e = .returned r ∧ Below w.heap.size w w2) {w0 W : World} {B b o : Nat} {u v x y z : Value}
    (h0 : W.cell? ⟨B, 0, none⟩ = some u) (h1 : W.cell? ⟨B, 1, none⟩ = some v) (g0 : W.cell? ⟨B + 1, 0, none⟩ = some x) (g1 : W.cell? ⟨B + 1, 1, none⟩ = some y) (h2 : B + 1 < W.heap.size) (h3 : Below w0.heap.size w0 W) (h4 : b < B) (h5 : W.cell? ⟨b, o, none⟩ = some z) :
    Calls P f args W fun e w2 => e = .returned r ∧ (w2.cell? ⟨B, 0, none⟩ = some u ∧ w2.cell? ⟨B, 1, none⟩ = some v) ∧ (w2.cell? ⟨B + 1, 0, none⟩ = some x ∧ w2.cell? ⟨B + 1, 1, none⟩ = some y) ∧ B + 1 < w2.heap.size ∧ Below w0.heap.size w0 w2 ∧ w2.cell? ⟨b, o, none⟩ = some z :=
  (hc W).mono fun e w2 ⟨he, hb⟩ => ⟨he, ⟨by rw [hb.cell (Nat.lt_of_succ_lt h2)]; exact h0, by rw [hb.cell (Nat.lt_of_succ_lt h2)]; exact h1⟩, ⟨by rw [hb.cell h2]; exact g0, by rw [hb.cell h2]; exact g1⟩, Nat.lt_of_lt_of_le h2 hb.size, Below.step h3 hb (Nat.le_refl _), by rw [hb.cell (p := ⟨b, o, none⟩) (Nat.lt_trans h4 (Nat.lt_of_succ_lt h2))]; exact h5⟩
/-- The slice of the row of a spot. -/
def rowV (t : Bool) (l h : Value) : Value := if t then h else l
theorem ints_row {a z : Nat} {w : World} {l h : Value} {lo hi : List Int} (Hl : IntsAt a z w l lo) (Hh : IntsAt a z w h hi) (t : Bool) : IntsAt a z w (rowV t l h) (rowR t lo hi) := by
  cases t
  · exact Hl
  · exact Hh
theorem ints_at {lo hi : Nat} {w : World} {v : Value} {xs : List Int} (h : IntsAt lo hi w v xs) {k : Nat} (hk : k < xs.length) :
    ∃ b o cap, v = .slice (some ⟨b, o, none⟩) xs.length cap ∧ lo ≤ b ∧ b < hi ∧ w.cell? ⟨b, o + k, none⟩ = some (.int .i64 (xs.getD k 0)) ∧ w.frozen? ⟨b, o + k, none⟩ = false := by
  obtain ⟨ao, cap, rfl, h1, h2, h3, h4⟩ := h
  obtain ⟨b, o, rfl, b1, b2, hc⟩ := h4 (by omega)
  refine ⟨b, o, cap, rfl, b1, b2, ?_, (hc k hk).2⟩
  rw [(hc k hk).1]; simp [hk]
theorem ints_form {lo hi : Nat} {w : World} {v : Value} {xs : List Int} (h : IntsAt lo hi w v xs) : ∃ ao cap, v = .slice ao xs.length cap := by
  obtain ⟨ao, cap, e, -⟩ := h
  exact ⟨ao, cap, e⟩
theorem at_bad {lo hi : List Int} {t : Bool} {p : Int} (h : pileB lo hi = false) : atR lo hi t p = -1 := by simp [atR, h]
theorem at_out {lo hi : List Int} {t : Bool} {p : Int} (h : wi p 0 ((rowR t lo hi).length - 1) = false) : atR lo hi t p = -1 := by simp [atR, h]
theorem at_in {lo hi : List Int} {t : Bool} {p : Int} (h : pileB lo hi = true) (h2 : wi p 0 ((rowR t lo hi).length - 1) = true) : atR lo hi t p = (rowR t lo hi).getD p.toNat 0 := by simp [atR, h, h2]
theorem row_any (l h : Value) (t : Bool) (p : Int) (w : World) :
    Calls Tryz.prog 117 #[pileV l h, .agg #[.bool t, .int .i64 p]] w fun e w' => e = .returned (rowV t l h) ∧ Below w.heap.size w w' := by
  unfold pileV
  cases t
  all_goals
    go_enter Tryz.func117, Tryz.ntmps117
    go_wp2_with fail
    go_ret
    exact ⟨rfl, by go_grown⟩
set_option maxHeartbeats 1600000 in
theorem spotIn_any (l h : Value) (lo hi : List Int) (t : Bool) (p : Int) (w : World) (Hl : IntsAt 0 w.heap.size w l lo) (Hh : IntsAt 0 w.heap.size w h hi) :
    Calls Tryz.prog 126 #[pileV l h, .agg #[.bool t, .int .i64 p]] w fun e w' => e = .returned (.bool (wi p 0 ((rowR t lo hi).length - 1))) ∧ Below w.heap.size w w' := by
  obtain ⟨ao, cap, er⟩ := ints_form (ints_row Hl Hh t)
  have HER := hide er
  have hln := (ints_row Hl Hh t).len
  clear er
  have HL := hide Hl
  have HH := hide Hh
  have hr := row_any l h t p
  obtain ⟨n, hn⟩ : ∃ n, (rowR t lo hi).length = n := ⟨_, rfl⟩
  rw [hn] at HER hln ⊢
  clear hn
  clear Hl Hh
  unfold pileV
  unfold pileV at hr
  have HR := hide (fun W => calls_val (hr W) HER.out)
  clear hr HER
  go_enter Tryz.func126, Tryz.ntmps126
  go_wp2_with fail
  obtain ⟨wx, hwx⟩ : ∃ wx, wx = (w.alloc (.cells #[l, h] 37)).alloc (.cells #[.bool t, .int .i64 p] 68) := ⟨_, rfl⟩
  rw [← hwx]
  have A_0 : RowL wx (w.heap.size) 37 [l, h] := by rw [hwx]; exact ((RowL.new _ 37 [l, h]).alloc _)
  have S_0 : RowL wx (w.heap.size + 1) 68 [.bool t, .int .i64 p] := by rw [hwx]; simpa using (RowL.new (World.alloc _ _) 68 [.bool t, .int .i64 p])
  have B_0 : Below w.heap.size w wx := by rw [hwx]; go_grown
  clear hwx
  have hL0 := S_0.lt
  have VL_0 := hide (HL.out.below B_0)
  have VH_0 := hide (HH.out.below B_0)
  have cA0 : wx.cell? ⟨w.heap.size, 0, none⟩ = some (l) := A_0.cell 0 (by simp)
  have cA1 : wx.cell? ⟨w.heap.size, 1, none⟩ = some (h) := A_0.cell 1 (by simp)
  have cS0 := S_0.c 0 rfl
  have cS1 := S_0.c 1 rfl
  have hw : IntKind.i64.wrap ((n : Int) - 1) = (n : Int) - 1 := IntWalk.i64_in _ (by omega)
  have hd : (wx.drew.cell? ⟨w.heap.size, 0, none⟩ = some l ∧ wx.drew.cell? ⟨w.heap.size, 1, none⟩ = some h) ∧ (wx.drew.cell? ⟨w.heap.size + 1, 0, none⟩ = some (.bool t) ∧ wx.drew.cell? ⟨w.heap.size + 1, 1, none⟩ = some (.int .i64 p)) ∧ w.heap.size + 1 < wx.drew.heap.size ∧ Below w.heap.size w wx.drew := ⟨⟨cA0, cA1⟩, ⟨cS0, cS1⟩, hL0, B_0.drew⟩
  obtain ⟨⟨hd0, hd1⟩, ⟨hd2, hd3⟩, hd4, hd5⟩ := hd
  clear hL0 B_0 cA0 cA1 cS0 cS1
  go_region_held (fun w' => (w'.cell? ⟨w.heap.size, 0, none⟩ = some l ∧ w'.cell? ⟨w.heap.size, 1, none⟩ = some h) ∧ (w'.cell? ⟨w.heap.size + 1, 0, none⟩ = some (.bool t) ∧ w'.cell? ⟨w.heap.size + 1, 1, none⟩ = some (.int .i64 p)) ∧ w.heap.size + 1 < w'.heap.size ∧ Below w.heap.size w w') (exact ⟨⟨by assumption, by assumption⟩, ⟨by assumption, by assumption⟩, by assumption, by assumption⟩) (first | (go_at_call 117; refine (held4 (w0 := w) (B := w.heap.size) (u := l) (v := h) (x := .bool t) (y := .int .i64 p) HR.out (by assumption) (by assumption) (by assumption) (by assumption) (by assumption) (by assumption)).mono ?_; rintro e w9 ⟨rfl, ⟨k0, k1⟩, ⟨k2, k3⟩, k4, k5⟩) | (go_at_call 72; refine (within_any _ _ _ _).mono ?_; rintro e wq ⟨rfl, rfl⟩))
  all_goals
    have HB9 := hide k5
    clear k5
    go_wp2_with fail
    go_ret
    exact ⟨rfl, HB9.out⟩
set_option maxHeartbeats 800000 in
theorem at_impl (l h : Value) (lo hi : List Int) (t : Bool) (p : Int) (w : World) (Hl : IntsAt 0 w.heap.size w l lo) (Hh : IntsAt 0 w.heap.size w h hi) :
    Calls Tryz.prog 116 #[pileV l h, .agg #[.bool t, .int .i64 p]] w fun e w' => e = .returned (.int .i64 (atR lo hi t p)) ∧ Below w.heap.size w w' := by
  have HL := hide Hl
  have HH := hide Hh
  have hr := row_any l h t p
  have hp := fun W => pile_impl l h lo hi W
  have hq := fun W => spotIn_any l h lo hi t p W
  clear Hl Hh
  unfold pileV
  unfold pileV at hr hp hq
  have HR := hide hr
  have HP := hide hp
  have HQ := hide hq
  clear hr hp hq
  go_enter Tryz.func116, Tryz.ntmps116
  go_wp2_with fail
  refine calls_at fun wx hwx => ?_
  have A_0 : RowL wx (w.heap.size) 37 [l, h] := by rw [hwx]; exact ((RowL.new _ 37 [l, h]).alloc _)
  have S_0 : RowL wx (w.heap.size + 1) 68 [.bool t, .int .i64 p] := by rw [hwx]; simpa using (RowL.new (World.alloc _ _) 68 [.bool t, .int .i64 p])
  have B_0 : Below w.heap.size w wx := by rw [hwx]; go_grown
  clear hwx
  have hL0 := S_0.lt
  have VL_0 := hide (HL.out.below B_0)
  have VH_0 := hide (HH.out.below B_0)
  have k_c1 := HP.out wx ((VL_0.out).mono (Nat.le_refl _) (VL_0.out).lt (Nat.le_refl _)) ((VH_0.out).mono (Nat.le_refl _) (VH_0.out).lt (Nat.le_refl _))
  cases c1 : pileB lo hi with
  | false =>
    rw [c1] at k_c1
    have Hc1 := hide (show atR lo hi t p = -1 from at_bad c1)
    clear c1
    refine (k_c1).mono ?_
    rintro e w1 ⟨rfl, hb⟩
    have A_1 := A_0.below hb A_0.lt
    have S_1 := S_0.below hb S_0.lt
    have VL_1 := hide (VL_0.out.below hb)
    have VH_1 := hide (VH_0.out.below hb)
    have B_1 := hide (Below.step B_0 hb (Nat.le_refl _))
    have hz1 := hb.size
    clear hb
    clear k_c1
    go_wp2_with fail
    go_ret
    exact ⟨by rw [Hc1.out]; rfl, B_1.out⟩
  | true =>
    rw [c1] at k_c1
    have Kc1 := hide c1
    clear c1
    refine (k_c1).mono ?_
    rintro e w1 ⟨rfl, hb⟩
    have A_1 := A_0.below hb A_0.lt
    have S_1 := S_0.below hb S_0.lt
    have VL_1 := hide (VL_0.out.below hb)
    have VH_1 := hide (VH_0.out.below hb)
    have B_1 := hide (Below.step B_0 hb (Nat.le_refl _))
    have hz1 := hb.size
    clear hb
    have cA0 : w1.cell? ⟨w.heap.size, 0, none⟩ = some (l) := A_1.cell 0 (by simp)
    have cA1 : w1.cell? ⟨w.heap.size, 1, none⟩ = some (h) := A_1.cell 1 (by simp)
    have cS0 := S_1.c 0 rfl
    have cS1 := S_1.c 1 rfl
    clear k_c1
    go_wp2_with fail
    have k_c2 := HQ.out w1 ((VL_1.out).mono (Nat.le_refl _) (VL_1.out).lt (Nat.le_refl _)) ((VH_1.out).mono (Nat.le_refl _) (VH_1.out).lt (Nat.le_refl _))
    cases c2 : wi p 0 ((rowR t lo hi).length - 1) with
    | false =>
      rw [c2] at k_c2
      have Hc2 := hide (show atR lo hi t p = -1 from at_out c2)
      clear c2
      refine (k_c2).mono ?_
      rintro e w2 ⟨rfl, hb⟩
      have A_2 := A_1.below hb A_1.lt
      have S_2 := S_1.below hb S_1.lt
      have VL_2 := hide (VL_1.out.below hb)
      have VH_2 := hide (VH_1.out.below hb)
      have B_2 := hide (Below.step B_1.out hb (Nat.le_refl _))
      have hz2 := hb.size
      clear hb
      clear k_c2
      go_wp2_with fail
      go_ret
      exact ⟨by rw [Hc2.out]; rfl, B_2.out⟩
    | true =>
      rw [c2] at k_c2
      have Kc2 := hide c2
      clear c2
      refine (k_c2).mono ?_
      rintro e w2 ⟨rfl, hb⟩
      have A_2 := A_1.below hb A_1.lt
      have S_2 := S_1.below hb S_1.lt
      have VL_2 := hide (VL_1.out.below hb)
      have VH_2 := hide (VH_1.out.below hb)
      have B_2 := hide (Below.step B_1.out hb (Nat.le_refl _))
      have hz2 := hb.size
      clear hb
      have cA0 : w2.cell? ⟨w.heap.size, 0, none⟩ = some (l) := A_2.cell 0 (by simp)
      have cA1 : w2.cell? ⟨w.heap.size, 1, none⟩ = some (h) := A_2.cell 1 (by simp)
      have cS0 := S_2.c 0 rfl
      have cS1 := S_2.c 1 rfl
      clear k_c2
      go_wp2_with fail
      have hw := wi_iff.1 Kc2.out
      obtain ⟨j, rfl⟩ : ∃ j : Nat, p = j := ⟨p.toNat, by omega⟩
      have HA := hide (at_in Kc1.out Kc2.out)
      rw [Int.toNat_natCast] at HA
      have HV := hide (ints_row VL_2.out VH_2.out t)
      have hjl : j < (rowR t lo hi).length := by omega
      obtain ⟨b, o, cap, er, -, hbz, r1, -⟩ := ints_at HV.out hjl
      obtain ⟨n, hn⟩ : ∃ n, (rowR t lo hi).length = n := ⟨_, rfl⟩
      rw [hn] at er hjl hw
      have HR2 := hide (fun W => calls_val (HR.out W) er)
      have hjI : (j : Int) < (n : Int) := by omega
      obtain ⟨x, hx⟩ : ∃ x, (rowR t lo hi).getD j 0 = x := ⟨_, rfl⟩
      rw [hx] at r1 HA
      have HX := hide r1
      clear hn er hw hx r1
      have hd : (w2.drew.cell? ⟨w.heap.size, 0, none⟩ = some l ∧ w2.drew.cell? ⟨w.heap.size, 1, none⟩ = some h) ∧ (w2.drew.cell? ⟨w.heap.size + 1, 0, none⟩ = some (.bool t) ∧ w2.drew.cell? ⟨w.heap.size + 1, 1, none⟩ = some (.int .i64 (j : Int))) ∧ w.heap.size + 1 < w2.drew.heap.size ∧ Below w.heap.size w w2.drew ∧ w2.drew.cell? ⟨b, o + j, none⟩ = some (.int .i64 x) := ⟨⟨cA0, cA1⟩, ⟨cS0, cS1⟩, S_2.lt, (B_2.out).drew, HX.out⟩
      have hbz2 : b < w.heap.size := hbz
      obtain ⟨⟨hd0, hd1⟩, ⟨hd2, hd3⟩, hd4, hd5, hd6⟩ := hd
      clear cA0 cA1 cS0 cS1
      go_region_held (fun w' => (w'.cell? ⟨w.heap.size, 0, none⟩ = some l ∧ w'.cell? ⟨w.heap.size, 1, none⟩ = some h) ∧ (w'.cell? ⟨w.heap.size + 1, 0, none⟩ = some (.bool t) ∧ w'.cell? ⟨w.heap.size + 1, 1, none⟩ = some (.int .i64 (j : Int))) ∧ w.heap.size + 1 < w'.heap.size ∧ Below w.heap.size w w' ∧ w'.cell? ⟨b, o + j, none⟩ = some (.int .i64 x)) (exact ⟨⟨by assumption, by assumption⟩, ⟨by assumption, by assumption⟩, by assumption, by assumption, by assumption⟩) (first | (go_at_call 117; refine (held5 (w0 := w) (B := w.heap.size) (b := b) (o := o + j) (u := l) (v := h) (x := .bool t) (y := .int .i64 (j : Int)) (z := .int .i64 x) HR2.out (by assumption) (by assumption) (by assumption) (by assumption) (by assumption) (by assumption) hbz2 (by assumption)).mono ?_; rintro e w9 ⟨rfl, ⟨k0, k1⟩, ⟨k2, k3⟩, k4, k5, k6⟩))
      all_goals
        have HB9 := hide k5
        clear k5
        go_wp2_with fail
        go_ret
        exact ⟨by rw [HA.out]; rfl, HB9.out⟩
set_option maxHeartbeats 400000 in
theorem l6Spot_any (l h : Value) (lo hi : List Int) (t : Bool) (p : Int) (w : World) (Hl : IntsAt 0 w.heap.size w l lo) (Hh : IntsAt 0 w.heap.size w h hi) :
    Calls Tryz.prog 107 #[pileV l h, .agg #[.bool t, .int .i64 p]] w fun e w' => e = .returned (.bool (wi p 0 ((rowR t lo hi).length - 1))) ∧ Below w.heap.size w w' := by
  obtain ⟨ao1, cap1, rfl⟩ := ints_form Hl
  obtain ⟨ao2, cap2, rfl⟩ := ints_form Hh
  have hl1 := Hl.len
  have hl2 := Hh.len
  clear Hl Hh
  unfold pileV
  cases t
  all_goals
    go_enter Tryz.func107, Tryz.ntmps107
    go_wp2_with fail
    refine (l1In_any _ _ _ _).mono ?_
    rintro e wq ⟨rfl, rfl⟩
    go_wp2_with fail
    go_ret
    exact ⟨rfl, by go_grown⟩
set_option maxHeartbeats 800000 in
theorem at_spec (l h : Value) (lo hi : List Int) (t : Bool) (p : Int) (w : World) (Hl : IntsAt 0 w.heap.size w l lo) (Hh : IntsAt 0 w.heap.size w h hi) :
    Calls Tryz.prog 65 #[pileV l h, .agg #[.bool t, .int .i64 p]] w fun e w' => e = .returned (.int .i64 (atR lo hi t p)) ∧ Below w.heap.size w w' := by
  have HL := hide Hl
  have HH := hide Hh
  have hp := fun W => pile_spec l h lo hi W
  have hq := fun W => l6Spot_any l h lo hi t p W
  clear Hl Hh
  unfold pileV
  unfold pileV at hp hq
  have HP := hide hp
  have HQ := hide hq
  clear hp hq
  go_enter Tryz.func65, Tryz.ntmps65
  go_wp2_with fail
  refine calls_at fun wx hwx => ?_
  have A_0 : RowL wx (w.heap.size) 37 [l, h] := by rw [hwx]; exact ((RowL.new _ 37 [l, h]).alloc _)
  have S_0 : RowL wx (w.heap.size + 1) 68 [.bool t, .int .i64 p] := by rw [hwx]; simpa using (RowL.new (World.alloc _ _) 68 [.bool t, .int .i64 p])
  have B_0 : Below w.heap.size w wx := by rw [hwx]; go_grown
  clear hwx
  have hL0 := S_0.lt
  have VL_0 := hide (HL.out.below B_0)
  have VH_0 := hide (HH.out.below B_0)
  have k_c1 := HP.out wx ((VL_0.out).mono (Nat.le_refl _) (VL_0.out).lt (Nat.le_refl _)) ((VH_0.out).mono (Nat.le_refl _) (VH_0.out).lt (Nat.le_refl _))
  cases c1 : pileB lo hi with
  | false =>
    rw [c1] at k_c1
    have Hc1 := hide (show atR lo hi t p = -1 from at_bad c1)
    clear c1
    refine (k_c1).mono ?_
    rintro e w1 ⟨rfl, hb⟩
    have A_1 := A_0.below hb A_0.lt
    have S_1 := S_0.below hb S_0.lt
    have VL_1 := hide (VL_0.out.below hb)
    have VH_1 := hide (VH_0.out.below hb)
    have B_1 := hide (Below.step B_0 hb (Nat.le_refl _))
    have hz1 := hb.size
    clear hb
    clear k_c1
    go_wp2_with fail
    go_ret
    exact ⟨by rw [Hc1.out]; rfl, B_1.out⟩
  | true =>
    rw [c1] at k_c1
    have Kc1 := hide c1
    clear c1
    refine (k_c1).mono ?_
    rintro e w1 ⟨rfl, hb⟩
    have A_1 := A_0.below hb A_0.lt
    have S_1 := S_0.below hb S_0.lt
    have VL_1 := hide (VL_0.out.below hb)
    have VH_1 := hide (VH_0.out.below hb)
    have B_1 := hide (Below.step B_0 hb (Nat.le_refl _))
    have hz1 := hb.size
    clear hb
    have cA0 : w1.cell? ⟨w.heap.size, 0, none⟩ = some (l) := A_1.cell 0 (by simp)
    have cA1 : w1.cell? ⟨w.heap.size, 1, none⟩ = some (h) := A_1.cell 1 (by simp)
    have cS0 := S_1.c 0 rfl
    have cS1 := S_1.c 1 rfl
    clear k_c1
    go_wp2_with fail
    have k_c2 := HQ.out w1 ((VL_1.out).mono (Nat.le_refl _) (VL_1.out).lt (Nat.le_refl _)) ((VH_1.out).mono (Nat.le_refl _) (VH_1.out).lt (Nat.le_refl _))
    cases c2 : wi p 0 ((rowR t lo hi).length - 1) with
    | false =>
      rw [c2] at k_c2
      have Hc2 := hide (show atR lo hi t p = -1 from at_out c2)
      clear c2
      refine (k_c2).mono ?_
      rintro e w2 ⟨rfl, hb⟩
      have A_2 := A_1.below hb A_1.lt
      have S_2 := S_1.below hb S_1.lt
      have VL_2 := hide (VL_1.out.below hb)
      have VH_2 := hide (VH_1.out.below hb)
      have B_2 := hide (Below.step B_1.out hb (Nat.le_refl _))
      have hz2 := hb.size
      clear hb
      clear k_c2
      go_wp2_with fail
      go_ret
      exact ⟨by rw [Hc2.out]; rfl, B_2.out⟩
    | true =>
      rw [c2] at k_c2
      have Kc2 := hide c2
      clear c2
      refine (k_c2).mono ?_
      rintro e w2 ⟨rfl, hb⟩
      have A_2 := A_1.below hb A_1.lt
      have S_2 := S_1.below hb S_1.lt
      have VL_2 := hide (VL_1.out.below hb)
      have VH_2 := hide (VH_1.out.below hb)
      have B_2 := hide (Below.step B_1.out hb (Nat.le_refl _))
      have hz2 := hb.size
      clear hb
      have cA0 : w2.cell? ⟨w.heap.size, 0, none⟩ = some (l) := A_2.cell 0 (by simp)
      have cA1 : w2.cell? ⟨w.heap.size, 1, none⟩ = some (h) := A_2.cell 1 (by simp)
      have cS0 := S_2.c 0 rfl
      have cS1 := S_2.c 1 rfl
      clear k_c2
      have hw := wi_iff.1 Kc2.out
      obtain ⟨j, rfl⟩ : ∃ j : Nat, p = j := ⟨p.toNat, by omega⟩
      have HV := hide (ints_row VL_2.out VH_2.out t)
      have HA := hide (at_in Kc1.out Kc2.out)
      rw [Int.toNat_natCast] at HA
      have hjl : j < (rowR t lo hi).length := by omega
      obtain ⟨b, o, cap, er, -, -, r1, -⟩ := ints_at HV.out hjl
      obtain ⟨n, hn⟩ : ∃ n, (rowR t lo hi).length = n := ⟨_, rfl⟩
      rw [hn] at er hjl hw
      have hjI : (j : Int) < (n : Int) := by omega
      obtain ⟨x, hx⟩ : ∃ x, (rowR t lo hi).getD j 0 = x := ⟨_, rfl⟩
      rw [hx] at r1 HA
      clear hn hx hw
      cases t
      all_goals
        simp only [rowV, if_true, if_false, Bool.false_eq_true] at er
        subst er
        go_wp2_with fail
        go_ret
        exact ⟨by rw [HA.out]; rfl, B_2.out⟩
end Go.Proofs.YtajjnciookhamaaGreat
namespace Go.Proofs.YtajjnciookhamaaGreat
open Go.RowKit
theorem stv_impl (c m s p k : Int) (w : World) :
    Calls Tryz.prog 108 #[.agg #[.int .i64 c, .int .i64 m, .int .i64 s, .int .i64 p, .int .i64 k]] w fun e w' => e = .returned (.bool (stB ⟨c, m, s, p, k⟩)) ∧ Below w.heap.size w w' := by
  go_enter Tryz.func108, Tryz.ntmps108
  go_wp2_with (go_at_call 72; refine (within_any _ _ _ _).mono ?_; rintro e w' ⟨rfl, rfl⟩)
  all_goals
    go_ret
    exact ⟨by simp_all [stB], by go_grown⟩
theorem stv_spec (c m s p k : Int) (w : World) :
    Calls Tryz.prog 97 #[.agg #[.int .i64 c, .int .i64 m, .int .i64 s, .int .i64 p, .int .i64 k]] w fun e w' => e = .returned (.bool (stB ⟨c, m, s, p, k⟩)) ∧ Below w.heap.size w w' := by
  go_enter Tryz.func97, Tryz.ntmps97
  go_wp2_with (go_at_call 57; refine (l1In_any _ _ _ _).mono ?_; rintro e w' ⟨rfl, rfl⟩)
  all_goals
    go_ret
    exact ⟨by simp_all [stB], by go_grown⟩
set_option maxHeartbeats 400000 in
theorem stsv_impl (v : Value) (js : List St) (lo hi : Nat) (w : World) (h : StAt lo hi w v js) :
    Calls Tryz.prog 70 #[v] w fun e w' => e = .returned (.bool (stsB js)) ∧ Below w.heap.size w w' := by
  obtain ⟨ao, cap, rfl, hlc, hcap, hhi, hc⟩ := h
  have Hc := hide hc
  clear hc
  by_cases h6 : js.length ≤ 4
  · go_enter Tryz.func70, Tryz.ntmps70
    go_wp2_with fail
    go_loopw [10] (fun i wr => ∃ k : Nat, k ≤ js.length ∧ i = .int .i64 k ∧ Below w.heap.size w wr ∧ (∀ j (_ : j < js.length), j < k → stB js[j] = true)) (fun i _ => js.length - (intOf i).toNat)
    case atStart => exact ⟨0, Nat.zero_le _, rfl, Below.refl _ _, fun _ _ h => absurd h (Nat.not_lt_zero _)⟩
    case round =>
      obtain ⟨k, hk, rfl, hb, hall⟩ := hrel
      have Ha := hide hall
      clear hall
      by_cases hlt : k < js.length
      · obtain ⟨b, o, rfl, hb1, hb2, hcs⟩ := Hc.out (by omega)
        obtain ⟨⟨h1, h2, h3, h4, h5⟩, -⟩ := hcs k hlt
        rw [← hb.cell (p := ⟨b, _, none⟩) (by simpa using by omega)] at h1 h2 h3 h4 h5
        clear hcs
        go_wp2_with (go_at_call 108; refine (stv_impl _ _ _ _ _ _).mono ?_; rintro e w1 ⟨rfl, hb1'⟩)
        · go_ret
          refine ⟨?_, Below.step (hb.alloc hb.size _) hb1' (Nat.le_refl _)⟩
          have hf : stB js[k] = false := by simpa using (by assumption : (!stB { c := js[k].c, m := js[k].m, s := js[k].s, p := js[k].p, k := js[k].k }) = true)
          simp [stsB, all_fell hlt hf]
        · have hf : stB js[k] = true := by simpa using (by assumption : (!stB { c := js[k].c, m := js[k].m, s := js[k].s, p := js[k].p, k := js[k].k }) = false)
          go_roundw
          case rel => exact ⟨k + 1, by omega, by go_num, Below.step (hb.alloc hb.size _) hb1' (Nat.le_refl _), all_snoc hlt Ha.out hf⟩
          case measure => simp [intOf]; omega
      · go_wp2
        go_ret
        exact ⟨by simp [stsB, h6, all_done (by omega) Ha.out], hb⟩
  · go_enter Tryz.func70, Tryz.ntmps70
    go_wp2_with fail
    go_ret
    exact ⟨by simp [stsB, h6], Below.refl _ _⟩
set_option maxHeartbeats 400000 in
theorem stsv_spec (v : Value) (js : List St) (lo hi : Nat) (w : World) (h : StAt lo hi w v js) :
    Calls Tryz.prog 55 #[v] w fun e w' => e = .returned (.bool (stsB js)) ∧ Below w.heap.size w w' := by
  obtain ⟨ao, cap, rfl, hlc, hcap, hhi, hc⟩ := h
  have Hc := hide hc
  clear hc
  go_enter Tryz.func55, Tryz.ntmps55
  go_wp2_with fail
  go_loopw [3] (fun i wr => ∃ k : Nat, k ≤ js.length ∧ i = .int .i64 k ∧ Below w.heap.size w wr ∧ (∀ j (_ : j < js.length), j < k → stB js[j] = true)) (fun i _ => js.length - (intOf i).toNat)
  case atStart => exact ⟨0, Nat.zero_le _, rfl, Below.refl _ _, fun _ _ h => absurd h (Nat.not_lt_zero _)⟩
  case round =>
    obtain ⟨k, hk, rfl, hb, hall⟩ := hrel
    have Ha := hide hall
    clear hall
    by_cases hlt : k < js.length
    · obtain ⟨b, o, rfl, hb1, hb2, hcs⟩ := Hc.out (by omega)
      obtain ⟨⟨h1, h2, h3, h4, h5⟩, -⟩ := hcs k hlt
      rw [← hb.cell (p := ⟨b, _, none⟩) (by simpa using by omega)] at h1 h2 h3 h4 h5
      clear hcs
      go_wp2_with (go_at_call 97; refine (stv_spec _ _ _ _ _ _).mono ?_; rintro e w1 ⟨rfl, hb1'⟩)
      · go_ret
        refine ⟨?_, Below.step hb hb1' (Nat.le_refl _)⟩
        have hf : stB js[k] = false := by simpa using (by assumption : (!stB { c := js[k].c, m := js[k].m, s := js[k].s, p := js[k].p, k := js[k].k }) = true)
        simp [stsB, all_fell hlt hf]
      · have hf : stB js[k] = true := by simpa using (by assumption : (!stB { c := js[k].c, m := js[k].m, s := js[k].s, p := js[k].p, k := js[k].k }) = false)
        go_roundw
        case rel => exact ⟨k + 1, by omega, by go_num, Below.step hb hb1' (Nat.le_refl _), all_snoc hlt Ha.out hf⟩
        case measure => simp [intOf]; omega
    · go_wp2_with fail
      go_ret
      refine ⟨?_, hb⟩
      have hall := all_done (by omega) Ha.out
      by_cases h6 : js.length ≤ 4
      · simp [stsB, hall, h6]; omega
      · simp [stsB, h6]; omega
/-- The value of a grade. -/
def grV (g : Gr) : Value := .agg #[.int .i64 g.lc, .int .i64 g.hc, .int .i64 g.lm, .int .i64 g.hm, .int .i64 g.ls, .int .i64 g.hs]
theorem grv_impl (g : Gr) (w : World) :
    Calls Tryz.prog 71 #[grV g] w fun e w' => e = .returned (.bool (grB g)) ∧ Below w.heap.size w w' := by
  obtain ⟨a, b, c, d, f, h⟩ := g
  unfold grV
  go_enter Tryz.func71, Tryz.ntmps71
  go_wp2_with (go_at_call 72; refine (within_any _ _ _ _).mono ?_; rintro e w' ⟨rfl, rfl⟩)
  all_goals
    go_ret
    exact ⟨by simp_all [grB], by go_grown⟩
theorem l1Range_any (a b : Int) (w : World) :
    Calls Tryz.prog 98 #[.int .i64 a, .int .i64 b] w fun e w' => e = .returned (.bool (wi a 0 999 && wi b a 999)) ∧ w = w' := by
  go_enter Tryz.func98, Tryz.ntmps98
  go_wp2_with (go_at_call 57; refine (l1In_any _ _ _ _).mono ?_; rintro e w' ⟨rfl, rfl⟩)
  all_goals
    go_ret
    exact ⟨by simp_all, rfl⟩
theorem grv_spec (g : Gr) (w : World) :
    Calls Tryz.prog 56 #[grV g] w fun e w' => e = .returned (.bool (grB g)) ∧ Below w.heap.size w w' := by
  obtain ⟨a, b, c, d, f, h⟩ := g
  unfold grV
  have e0 : grB ⟨a, b, c, d, f, h⟩ = ((wi a 0 999 && wi b a 999) && ((wi c 0 999 && wi d c 999) && (wi f 0 999 && wi h f 999))) := by simp [grB, Bool.and_assoc]
  rw [e0]
  rcases h1 : (wi a 0 999 && wi b a 999) <;> rcases h2 : (wi c 0 999 && wi d c 999) <;> rcases h3 : (wi f 0 999 && wi h f 999)
  all_goals
    have c1 := fun w => l1Range_any a b w
    have c2 := fun w => l1Range_any c d w
    have c3 := fun w => l1Range_any f h w
    rw [h1] at c1
    rw [h2] at c2
    rw [h3] at c3
    go_enter Tryz.func56, Tryz.ntmps56
    go_wp2_with fail
    refine (c1 _).mono ?_
    rintro e w1 ⟨rfl, rfl⟩
    go_wp2_with fail
    first
      | (go_ret; exact ⟨rfl, by go_grown⟩)
      | (refine (c2 _).mono ?_
         rintro e w1 ⟨rfl, rfl⟩
         go_wp2_with fail
         first
           | (go_ret; exact ⟨rfl, by go_grown⟩)
           | (refine (c3 _).mono ?_
              rintro e w1 ⟨rfl, rfl⟩
              go_wp2_with fail
              go_ret
              exact ⟨rfl, by go_grown⟩))
end Go.Proofs.YtajjnciookhamaaGreat
namespace Go.Proofs.YtajjnciookhamaaGreat
open Go.RowKit
/-- The ids up to k that are found. -/
def coilTo (lo hi : List Int) : Nat → List Int
  | 0 => []
  | k + 1 => if (findR lo hi ((k : Int) + 1)).isSome then coilTo lo hi k ++ [(k : Int) + 1] else coilTo lo hi k
theorem coilTo_len (lo hi : List Int) : ∀ k, (coilTo lo hi k).length ≤ k
  | 0 => Nat.le_refl _
  | k + 1 => by
    have := coilTo_len lo hi k
    unfold coilTo
    split
    · simp; omega
    · omega
theorem coilTo_mem {lo hi : List Int} : ∀ {k : Nat} {x : Int}, x ∈ coilTo lo hi k ↔ 1 ≤ x ∧ x ≤ k ∧ (findR lo hi x).isSome = true
  | 0, x => by simp [coilTo]; omega
  | k + 1, x => by
    unfold coilTo
    split
    · rename_i h
      rw [List.mem_append, coilTo_mem, List.mem_singleton]
      constructor
      · rintro (⟨h1, h2, h3⟩ | rfl)
        · exact ⟨h1, by omega, h3⟩
        · exact ⟨by omega, by omega, h⟩
      · rintro ⟨h1, h2, h3⟩
        by_cases e : x = (k : Int) + 1
        · exact .inr e
        · exact .inl ⟨h1, by omega, h3⟩
    · rename_i h
      rw [coilTo_mem]
      constructor
      · rintro ⟨h1, h2, h3⟩; exact ⟨h1, by omega, h3⟩
      · rintro ⟨h1, h2, h3⟩
        refine ⟨h1, ?_, h3⟩
        by_cases e : x = (k : Int) + 1
        · rw [e] at h3; exact absurd h3 h
        · omega
theorem coilTo_lt (lo hi : List Int) : ∀ k, (coilTo lo hi k).Pairwise (· < ·)
  | 0 => List.Pairwise.nil
  | k + 1 => by
    unfold coilTo
    split
    · rw [List.pairwise_append]
      refine ⟨coilTo_lt lo hi k, by simp, fun a ha b hb => ?_⟩
      have := coilTo_mem.1 ha
      simp only [List.mem_singleton] at hb
      omega
    · exact coilTo_lt lo hi k
theorem coilTo_all (lo hi : List Int) : coilTo lo hi 99 = coilR lo hi := by
  refine lt_unique (coilTo_lt _ _ _) (coil_lt _ _) fun x => ?_
  rw [coilTo_mem]
  cases hv : pileB lo hi with
  | false => simp [coilR, hv, find_bad hv]
  | true =>
    have hV := pileB_iff.1 hv
    rw [mem_coil hV]
    constructor
    · rintro ⟨h1, h2, h3⟩
      apply Classical.byContradiction
      intro hn
      have : findR lo hi x = none := by
        cases hf : findR lo hi x with
        | none => rfl
        | some r =>
          obtain ⟨t, p⟩ := r
          obtain ⟨_, _, k, _, hk, e⟩ := find_at hf
          exact absurd (mem_nz.2 ⟨by rw [← e]; exact row_mem (getD_mem hk), by omega⟩) hn
      rw [this] at h3; cases h3
    · intro h
      obtain ⟨t, p, e⟩ := find_some hV h
      have := hV.rng x (mem_nz.1 h).1
      have := (mem_nz.1 h).2
      exact ⟨by omega, by omega, by rw [e]; rfl⟩
set_option linter.unusedSimpArgs false in
set_option maxRecDepth 10000 in
set_option maxHeartbeats 1600000 in
theorem coils_spec (l h : Value) (lo hi : List Int) (w : World) (Hl : IntsAt 0 w.heap.size w l lo) (Hh : IntsAt 0 w.heap.size w h hi) :
    Calls Tryz.prog 59 #[pileV l h] w (IntsNew w.heap.size (coilR lo hi) w) := by
  have HL := hide Hl
  have HH := hide Hh
  have hP := fun id W H1 H2 => find_spec l h lo hi id W H1 H2
  unfold pileV at hP ⊢
  have HP := hide hP
  obtain ⟨i0, hi0, hz0, hi1, hi2⟩ := info_parts info_int
  clear hP Hl Hh
  go_enter Tryz.func59, Tryz.ntmps59
  go_wp2_with fail
  go_loopw [3, 4, 5, 6] (fun o i _ _ wr => ∃ k : Nat, k ≤ 99 ∧ i = .int .i64 ((k : Int) + 1) ∧ Below w.heap.size w wr ∧ RowL wr w.heap.size 37 [l, h] ∧ wr.ownsRow (w.heap.size + 1) 3 1 o (coilTo lo hi k).length (flatI (coilTo lo hi k))) (fun _ i _ _ _ => 100 - (intOf i).toNat)
  case atStart =>
    refine ⟨0, by omega, rfl, by go_grown, (RowL.new _ _ _).alloc _, ?_⟩
    simpa [coilTo, flatI] using World.ownsRow_lit (e := 3) (size := 1) (base := w.heap.size + 1) (w.alloc (.cells #[l, h] 37)) #[] 0 (by simp) (by unfold maxLen; omega) (by simp)
  case round =>
    obtain ⟨k, hk, rfl, hb, hr, hown⟩ := hrel
    have HB := hide hb
    have HR := hide hr
    have HO := hide hown
    have hz := hr.lt
    have hp0 := hr.cell 0 (by simp)
    have hp1 := hr.cell 1 (by simp)
    simp only [List.getD_cons_zero, List.getD_cons_succ] at hp0 hp1
    obtain ⟨aov, capv, rfl, hc1, hc2⟩ := own_slice hown
    clear hb hr hown
    by_cases hlt : k < 99
    · have HLr := hide ((HL.out.below HB.out).mono (Nat.le_refl _) HB.out.size (Nat.le_refl _))
      have HHr := hide ((HH.out.below HB.out).mono (Nat.le_refl _) HB.out.size (Nat.le_refl _))
      have hlen := coilTo_len lo hi k
      have hsz := HB.out.size
      cases hf : findR lo hi ((k : Int) + 1) with
      | none =>
        have HN := hide (show coilTo lo hi (k + 1) = coilTo lo hi k by simp [coilTo, hf])
        go_wp2_with fail
        refine (HP.out ((k : Int) + 1) wr HLr.out HHr.out).mono ?_
        rw [hf]
        unfold findV
        rintro e w1 ⟨rfl, hb1⟩
        have HB2 := hide (Below.step HB.out hb1 (Nat.le_refl _))
        have HR2 := hide (HR.out.below hb1 HR.out.lt)
        have HO2 := hide (ownsRow_below HO.out hb1 (Nat.le_refl _))
        have hz1 := HB2.out.size
        clear hb1 hp0 hp1 hf
        go_wp2_with fail
        go_roundw
        case rel => exact ⟨k + 1, by omega, by go_num, HB2.out.alloc hz1 _, HR2.out.alloc _, by rw [HN.out]; exact HO2.out.alloc _⟩
        case measure => simp [intOf]; omega
      | some r =>
        obtain ⟨t, p⟩ := r
        have HN := hide (show coilTo lo hi (k + 1) = coilTo lo hi k ++ [(k : Int) + 1] by simp [coilTo, hf])
        go_wp2_with fail
        refine (HP.out ((k : Int) + 1) wr HLr.out HHr.out).mono ?_
        rw [hf]
        unfold findV
        rintro e w1 ⟨rfl, hb1⟩
        have HB2 := hide (Below.step HB.out hb1 (Nat.le_refl _))
        have HR2 := hide (HR.out.below hb1 HR.out.lt)
        have HO2 := hide (ownsRow_below HO.out hb1 (Nat.le_refl _))
        have hz1 := HB2.out.size
        clear hb1 hp0 hp1 hf
        go_wp2_with (at_builtin; refine wpList_append_view rfl _ _ 26 rfl (w.heap.size + 1) 3 i0 (.int .i64 0) 1 8 Tryz.underlying26 hi0 hz0 hi1 hi2 rfl (by decide) _ _ _ rfl ((HO2.out.alloc _).alloc _) (.slice (some ⟨w1.heap.size + 1, 0, none⟩) 1 1) 1 [.int .i64 ((k : Int) + 1)] rfl ?c0 ?c1 ?c2 ?c3 ?_)
        case c0 => simpa using Source.lit (World.alloc w1 _) [.int .i64 ((k : Int) + 1)] 1 3 1 rfl (fun u hu => by simp at hu; subst hu; rfl) 1
        case c1 => unfold maxLen; omega
        case c2 => omega
        case c3 => simp; omega
        intro v2 w2 hown2 hgrow2 _
        have hlt2 := HR2.out.lt
        have hgB : Below (w.heap.size + 1) w1 w2 := (((Below.refl _ _).alloc (by omega) _).alloc (by simp; omega) _).trans (Below.grow hgrow2 ((HO2.out.alloc _).alloc _) (Nat.le_refl _) (by simp; omega))
        have HB3 := hide (HB2.out.trans (hgB.mono (by omega)))
        have HR3 := hide (HR2.out.below hgB (Nat.lt_succ_self _))
        have HO3 := hide (show w2.ownsRow (w.heap.size + 1) 3 1 v2 (coilTo lo hi (k + 1)).length (flatI (coilTo lo hi (k + 1))) by rw [HN.out]; simpa [flatI] using hown2)
        clear hown2 hgrow2 hgB
        go_wp2_with fail
        go_roundw
        case rel => exact ⟨k + 1, by omega, by go_num, HB3.out, HR3.out, HO3.out⟩
        case measure => simp [intOf]; omega
    · obtain rfl : k = 99 := by omega
      go_wp2_with fail
      go_ret
      exact ⟨_, rfl, by rw [← coilTo_all]; exact ownsRow_mono HO.out (by omega), HB.out⟩
end Go.Proofs.YtajjnciookhamaaGreat
