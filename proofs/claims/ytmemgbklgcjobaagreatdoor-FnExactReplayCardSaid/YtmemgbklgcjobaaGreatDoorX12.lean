/-
  Parts of the proofs over mills, of: CoilA. Conditions: each theorem states its own.
-/
import Derived.Test.YtmemgbklgcjobaaGreatDoorX11
set_option linter.unusedSimpArgs false
set_option linter.unusedVariables false
set_option maxRecDepth 10000
namespace Go.Proofs.YtmemgbklgcjobaaGreatDoor
open Go.RowKit
theorem calls_val {P : Program} {f : FuncId} {args : Array Value} {W : World} {v v2 : Value} (h : Calls P f args W fun e w2 => e = .returned v ∧ Below W.heap.size W w2) (e : v = v2) : Calls P f args W fun e w2 => e = .returned v2 ∧ Below W.heap.size W w2 := e ▸ h
theorem held4 {P : Program} {f : FuncId} {args : Array Value} {r : Value} (hc : ∀ w, Calls P f args w fun e w2 => e = .returned r ∧ Below w.heap.size w w2) {w0 W : World} {B : Nat} {u v x y : Value}
    (h0 : W.cell? ⟨B, 0, none⟩ = some u) (h1 : W.cell? ⟨B, 1, none⟩ = some v) (g0 : W.cell? ⟨B + 1, 0, none⟩ = some x) (g1 : W.cell? ⟨B + 1, 1, none⟩ = some y) (h2 : B + 1 < W.heap.size) (h3 : Below w0.heap.size w0 W) :
    Calls P f args W fun e w2 => e = .returned r ∧ (w2.cell? ⟨B, 0, none⟩ = some u ∧ w2.cell? ⟨B, 1, none⟩ = some v) ∧ (w2.cell? ⟨B + 1, 0, none⟩ = some x ∧ w2.cell? ⟨B + 1, 1, none⟩ = some y) ∧ B + 1 < w2.heap.size ∧ Below w0.heap.size w0 w2 :=
  (hc W).mono fun e w2 ⟨he, hb⟩ => ⟨he, ⟨by rw [hb.cell (Nat.lt_of_succ_lt h2)]; exact h0, by rw [hb.cell (Nat.lt_of_succ_lt h2)]; exact h1⟩, ⟨by rw [hb.cell h2]; exact g0, by rw [hb.cell h2]; exact g1⟩, Nat.lt_of_lt_of_le h2 hb.size, Below.step h3 hb (Nat.le_refl _)⟩
theorem held5 {P : Program} {f : FuncId} {args : Array Value} {r : Value} (hc : ∀ w, Calls P f args w fun e w2 => e = .returned r ∧ Below w.heap.size w w2) {w0 W : World} {B b o : Nat} {u v x y z : Value}
    (h0 : W.cell? ⟨B, 0, none⟩ = some u) (h1 : W.cell? ⟨B, 1, none⟩ = some v) (g0 : W.cell? ⟨B + 1, 0, none⟩ = some x) (g1 : W.cell? ⟨B + 1, 1, none⟩ = some y) (h2 : B + 1 < W.heap.size) (h3 : Below w0.heap.size w0 W) (h4 : b < B) (h5 : W.cell? ⟨b, o, none⟩ = some z) :
    Calls P f args W fun e w2 => e = .returned r ∧ (w2.cell? ⟨B, 0, none⟩ = some u ∧ w2.cell? ⟨B, 1, none⟩ = some v) ∧ (w2.cell? ⟨B + 1, 0, none⟩ = some x ∧ w2.cell? ⟨B + 1, 1, none⟩ = some y) ∧ B + 1 < w2.heap.size ∧ Below w0.heap.size w0 w2 ∧ w2.cell? ⟨b, o, none⟩ = some z :=
  (hc W).mono fun e w2 ⟨he, hb⟩ => ⟨he, ⟨by rw [hb.cell (Nat.lt_of_succ_lt h2)]; exact h0, by rw [hb.cell (Nat.lt_of_succ_lt h2)]; exact h1⟩, ⟨by rw [hb.cell h2]; exact g0, by rw [hb.cell h2]; exact g1⟩, Nat.lt_of_lt_of_le h2 hb.size, Below.step h3 hb (Nat.le_refl _), by rw [hb.cell (p := ⟨b, o, none⟩) (Nat.lt_trans h4 (Nat.lt_of_succ_lt h2))]; exact h5⟩
def rowV (t : Bool) (l h : Value) : Value := if t then h else l
theorem ints_row {a z : Nat} {w : World} {l h : Value} {lo hi : List Int} (Hl : IntsAt a z w l lo) (Hh : IntsAt a z w h hi) (t : Bool) : IntsAt a z w (rowV t l h) (rowR t lo hi) := by
  cases t
  · exact Hl
  · exact Hh
theorem ints_at {lo hi : Nat} {w : World} {v : Value} {xs : List Int} (h : IntsAt lo hi w v xs) {k : Nat} (hk : k < xs.length) :
    ∃ b o cap, v = .slice (some ⟨b, o, none⟩) xs.length cap ∧ lo ≤ b ∧ b < hi ∧ w.cell? ⟨b, o + k, none⟩ = some (.int .i64 (xs.getD k 0)) ∧ w.frozen? ⟨b, o + k, none⟩ = false := by
  obtain ⟨ao, cap, rfl, h1, h2, h3, h4⟩ := h
  obtain ⟨b, o, rfl, b1, b2, hc⟩ := h4 (by omega)
  refine ⟨b, o, cap, rfl, b1, b2, ?_, (hc k hk).2⟩
  rw [(hc k hk).1]; simp [hk]
theorem ints_form {lo hi : Nat} {w : World} {v : Value} {xs : List Int} (h : IntsAt lo hi w v xs) : ∃ ao cap, v = .slice ao xs.length cap := by
  obtain ⟨ao, cap, e, -⟩ := h
  exact ⟨ao, cap, e⟩
theorem at_bad {lo hi : List Int} {t : Bool} {p : Int} (h : pileB lo hi = false) : atR lo hi t p = -1 := by simp [atR, h]
theorem at_out {lo hi : List Int} {t : Bool} {p : Int} (h : wi p 0 ((rowR t lo hi).length - 1) = false) : atR lo hi t p = -1 := by simp [atR, h]
theorem at_in {lo hi : List Int} {t : Bool} {p : Int} (h : pileB lo hi = true) (h2 : wi p 0 ((rowR t lo hi).length - 1) = true) : atR lo hi t p = (rowR t lo hi).getD p.toNat 0 := by simp [atR, h, h2]
theorem row_any (l h : Value) (t : Bool) (p : Int) (w : World) :
    Calls Tryz.prog 201 #[pileV l h, .agg #[.bool t, .int .i64 p]] w fun e w' => e = .returned (rowV t l h) ∧ Below w.heap.size w w' := by
  unfold pileV
  cases t
  all_goals
    go_enter Tryz.func201, Tryz.ntmps201
    go_wp2_with fail
    go_ret
    exact ⟨rfl, by go_grown⟩
set_option maxHeartbeats 1600000 in
theorem spotIn_any (l h : Value) (lo hi : List Int) (t : Bool) (p : Int) (w : World) (Hl : IntsAt 0 w.heap.size w l lo) (Hh : IntsAt 0 w.heap.size w h hi) :
    Calls Tryz.prog 233 #[pileV l h, .agg #[.bool t, .int .i64 p]] w fun e w' => e = .returned (.bool (wi p 0 ((rowR t lo hi).length - 1))) ∧ Below w.heap.size w w' := by
  obtain ⟨ao, cap, er⟩ := ints_form (ints_row Hl Hh t)
  have HER := hide er
  have hln := (ints_row Hl Hh t).len
  clear er
  have HL := hide Hl
  have HH := hide Hh
  have hr := row_any l h t p
  obtain ⟨n, hn⟩ : ∃ n, (rowR t lo hi).length = n := ⟨_, rfl⟩
  rw [hn] at HER hln ⊢
  clear hn
  clear Hl Hh
  unfold pileV
  unfold pileV at hr
  have HR := hide (fun W => calls_val (hr W) HER.out)
  clear hr HER
  go_enter Tryz.func233, Tryz.ntmps233
  go_wp2_with fail
  obtain ⟨wx, hwx⟩ : ∃ wx, wx = (w.alloc (.cells #[l, h] 29)).alloc (.cells #[.bool t, .int .i64 p] 128) := ⟨_, rfl⟩
  rw [← hwx]
  have A_0 : RowL wx (w.heap.size) 29 [l, h] := by rw [hwx]; exact ((RowL.new _ 29 [l, h]).alloc _)
  have S_0 : RowL wx (w.heap.size + 1) 128 [.bool t, .int .i64 p] := by rw [hwx]; simpa using (RowL.new (World.alloc _ _) 128 [.bool t, .int .i64 p])
  have B_0 : Below w.heap.size w wx := by rw [hwx]; go_grown
  clear hwx
  have hL0 := S_0.lt
  have VL_0 := hide (HL.out.below B_0)
  have VH_0 := hide (HH.out.below B_0)
  have cA0 := A_0.c 0 rfl
  have cA1 := A_0.c 1 rfl
  have cS0 := S_0.c 0 rfl
  have cS1 := S_0.c 1 rfl
  have hw : IntKind.i64.wrap ((n : Int) - 1) = (n : Int) - 1 := IntWalk.i64_in _ (by omega)
  have hd : (wx.drew.cell? ⟨w.heap.size, 0, none⟩ = some l ∧ wx.drew.cell? ⟨w.heap.size, 1, none⟩ = some h) ∧ (wx.drew.cell? ⟨w.heap.size + 1, 0, none⟩ = some (.bool t) ∧ wx.drew.cell? ⟨w.heap.size + 1, 1, none⟩ = some (.int .i64 p)) ∧ w.heap.size + 1 < wx.drew.heap.size ∧ Below w.heap.size w wx.drew := ⟨⟨cA0, cA1⟩, ⟨cS0, cS1⟩, hL0, B_0.drew⟩
  obtain ⟨⟨hd0, hd1⟩, ⟨hd2, hd3⟩, hd4, hd5⟩ := hd
  clear hL0 B_0 cA0 cA1 cS0 cS1
  go_region_held (fun w' => (w'.cell? ⟨w.heap.size, 0, none⟩ = some l ∧ w'.cell? ⟨w.heap.size, 1, none⟩ = some h) ∧ (w'.cell? ⟨w.heap.size + 1, 0, none⟩ = some (.bool t) ∧ w'.cell? ⟨w.heap.size + 1, 1, none⟩ = some (.int .i64 p)) ∧ w.heap.size + 1 < w'.heap.size ∧ Below w.heap.size w w') (exact ⟨⟨by assumption, by assumption⟩, ⟨by assumption, by assumption⟩, by assumption, by assumption⟩) (first | (go_at_call 201; refine (held4 (w0 := w) (B := w.heap.size) (u := l) (v := h) (x := .bool t) (y := .int .i64 p) HR.out (by assumption) (by assumption) (by assumption) (by assumption) (by assumption) (by assumption)).mono ?_; rintro e w9 ⟨rfl, ⟨k0, k1⟩, ⟨k2, k3⟩, k4, k5⟩) | (go_at_call 79; refine (within_any _ _ _ _).mono ?_; rintro e wq ⟨rfl, rfl⟩))
  all_goals
    have HB9 := hide k5
    clear k5
    go_wp2_with fail
    go_ret
    exact ⟨rfl, HB9.out⟩
set_option maxHeartbeats 800000 in
theorem at_impl (l h : Value) (lo hi : List Int) (t : Bool) (p : Int) (w : World) (Hl : IntsAt 0 w.heap.size w l lo) (Hh : IntsAt 0 w.heap.size w h hi) :
    Calls Tryz.prog 200 #[pileV l h, .agg #[.bool t, .int .i64 p]] w fun e w' => e = .returned (.int .i64 (atR lo hi t p)) ∧ Below w.heap.size w w' := by
  have HL := hide Hl
  have HH := hide Hh
  have hr := row_any l h t p
  have hp := fun W => pile_impl l h lo hi W
  have hq := fun W => spotIn_any l h lo hi t p W
  clear Hl Hh
  unfold pileV
  unfold pileV at hr hp hq
  have HR := hide hr
  have HP := hide hp
  have HQ := hide hq
  clear hr hp hq
  go_enter Tryz.func200, Tryz.ntmps200
  go_wp2_with fail
  refine calls_at fun wx hwx => ?_
  have A_0 : RowL wx (w.heap.size) 29 [l, h] := by rw [hwx]; exact ((RowL.new _ 29 [l, h]).alloc _)
  have S_0 : RowL wx (w.heap.size + 1) 128 [.bool t, .int .i64 p] := by rw [hwx]; simpa using (RowL.new (World.alloc _ _) 128 [.bool t, .int .i64 p])
  have B_0 : Below w.heap.size w wx := by rw [hwx]; go_grown
  clear hwx
  have hL0 := S_0.lt
  have VL_0 := hide (HL.out.below B_0)
  have VH_0 := hide (HH.out.below B_0)
  have k_c1 := HP.out wx ((VL_0.out).mono (Nat.le_refl _) (VL_0.out).lt (Nat.le_refl _)) ((VH_0.out).mono (Nat.le_refl _) (VH_0.out).lt (Nat.le_refl _))
  cases c1 : pileB lo hi with
  | false =>
    rw [c1] at k_c1
    have Hc1 := hide (show atR lo hi t p = -1 from at_bad c1)
    clear c1
    refine (k_c1).mono ?_
    rintro e w1 ⟨rfl, hb⟩
    have A_1 := A_0.below hb A_0.lt
    have S_1 := S_0.below hb S_0.lt
    have VL_1 := hide (VL_0.out.below hb)
    have VH_1 := hide (VH_0.out.below hb)
    have B_1 := hide (Below.step B_0 hb (Nat.le_refl _))
    have hz1 := hb.size
    clear hb
    clear k_c1
    go_wp2_with fail
    go_ret
    exact ⟨by rw [Hc1.out]; rfl, B_1.out⟩
  | true =>
    rw [c1] at k_c1
    have Kc1 := hide c1
    clear c1
    refine (k_c1).mono ?_
    rintro e w1 ⟨rfl, hb⟩
    have A_1 := A_0.below hb A_0.lt
    have S_1 := S_0.below hb S_0.lt
    have VL_1 := hide (VL_0.out.below hb)
    have VH_1 := hide (VH_0.out.below hb)
    have B_1 := hide (Below.step B_0 hb (Nat.le_refl _))
    have hz1 := hb.size
    clear hb
    have cA0 := A_1.c 0 rfl
    have cA1 := A_1.c 1 rfl
    have cS0 := S_1.c 0 rfl
    have cS1 := S_1.c 1 rfl
    clear k_c1
    go_wp2_with fail
    have k_c2 := HQ.out w1 ((VL_1.out).mono (Nat.le_refl _) (VL_1.out).lt (Nat.le_refl _)) ((VH_1.out).mono (Nat.le_refl _) (VH_1.out).lt (Nat.le_refl _))
    cases c2 : wi p 0 ((rowR t lo hi).length - 1) with
    | false =>
      rw [c2] at k_c2
      have Hc2 := hide (show atR lo hi t p = -1 from at_out c2)
      clear c2
      refine (k_c2).mono ?_
      rintro e w2 ⟨rfl, hb⟩
      have A_2 := A_1.below hb A_1.lt
      have S_2 := S_1.below hb S_1.lt
      have VL_2 := hide (VL_1.out.below hb)
      have VH_2 := hide (VH_1.out.below hb)
      have B_2 := hide (Below.step B_1.out hb (Nat.le_refl _))
      have hz2 := hb.size
      clear hb
      clear k_c2
      go_wp2_with fail
      go_ret
      exact ⟨by rw [Hc2.out]; rfl, B_2.out⟩
    | true =>
      rw [c2] at k_c2
      have Kc2 := hide c2
      clear c2
      refine (k_c2).mono ?_
      rintro e w2 ⟨rfl, hb⟩
      have A_2 := A_1.below hb A_1.lt
      have S_2 := S_1.below hb S_1.lt
      have VL_2 := hide (VL_1.out.below hb)
      have VH_2 := hide (VH_1.out.below hb)
      have B_2 := hide (Below.step B_1.out hb (Nat.le_refl _))
      have hz2 := hb.size
      clear hb
      have cA0 := A_2.c 0 rfl
      have cA1 := A_2.c 1 rfl
      have cS0 := S_2.c 0 rfl
      have cS1 := S_2.c 1 rfl
      clear k_c2
      go_wp2_with fail
      have hw := wi_iff.1 Kc2.out
      obtain ⟨j, rfl⟩ : ∃ j : Nat, p = j := ⟨p.toNat, by omega⟩
      have HA := hide (at_in Kc1.out Kc2.out)
      rw [Int.toNat_natCast] at HA
      have HV := hide (ints_row VL_2.out VH_2.out t)
      have hjl : j < (rowR t lo hi).length := by omega
      obtain ⟨b, o, cap, er, -, hbz, r1, -⟩ := ints_at HV.out hjl
      obtain ⟨n, hn⟩ : ∃ n, (rowR t lo hi).length = n := ⟨_, rfl⟩
      rw [hn] at er hjl hw
      have HR2 := hide (fun W => calls_val (HR.out W) er)
      have hjI : (j : Int) < (n : Int) := by omega
      obtain ⟨x, hx⟩ : ∃ x, (rowR t lo hi).getD j 0 = x := ⟨_, rfl⟩
      rw [hx] at r1 HA
      have HX := hide r1
      clear hn er hw hx r1
      have hd : (w2.drew.cell? ⟨w.heap.size, 0, none⟩ = some l ∧ w2.drew.cell? ⟨w.heap.size, 1, none⟩ = some h) ∧ (w2.drew.cell? ⟨w.heap.size + 1, 0, none⟩ = some (.bool t) ∧ w2.drew.cell? ⟨w.heap.size + 1, 1, none⟩ = some (.int .i64 (j : Int))) ∧ w.heap.size + 1 < w2.drew.heap.size ∧ Below w.heap.size w w2.drew ∧ w2.drew.cell? ⟨b, o + j, none⟩ = some (.int .i64 x) := ⟨⟨cA0, cA1⟩, ⟨cS0, cS1⟩, S_2.lt, (B_2.out).drew, HX.out⟩
      have hbz2 : b < w.heap.size := hbz
      obtain ⟨⟨hd0, hd1⟩, ⟨hd2, hd3⟩, hd4, hd5, hd6⟩ := hd
      clear cA0 cA1 cS0 cS1
      go_region_held (fun w' => (w'.cell? ⟨w.heap.size, 0, none⟩ = some l ∧ w'.cell? ⟨w.heap.size, 1, none⟩ = some h) ∧ (w'.cell? ⟨w.heap.size + 1, 0, none⟩ = some (.bool t) ∧ w'.cell? ⟨w.heap.size + 1, 1, none⟩ = some (.int .i64 (j : Int))) ∧ w.heap.size + 1 < w'.heap.size ∧ Below w.heap.size w w' ∧ w'.cell? ⟨b, o + j, none⟩ = some (.int .i64 x)) (exact ⟨⟨by assumption, by assumption⟩, ⟨by assumption, by assumption⟩, by assumption, by assumption, by assumption⟩) (first | (go_at_call 201; refine (held5 (w0 := w) (B := w.heap.size) (b := b) (o := o + j) (u := l) (v := h) (x := .bool t) (y := .int .i64 (j : Int)) (z := .int .i64 x) HR2.out (by assumption) (by assumption) (by assumption) (by assumption) (by assumption) (by assumption) hbz2 (by assumption)).mono ?_; rintro e w9 ⟨rfl, ⟨k0, k1⟩, ⟨k2, k3⟩, k4, k5, k6⟩))
      all_goals
        have HB9 := hide k5
        clear k5
        go_wp2_with fail
        go_ret
        exact ⟨by rw [HA.out]; rfl, HB9.out⟩
set_option maxHeartbeats 400000 in
theorem l6Spot_any (l h : Value) (lo hi : List Int) (t : Bool) (p : Int) (w : World) (Hl : IntsAt 0 w.heap.size w l lo) (Hh : IntsAt 0 w.heap.size w h hi) :
    Calls Tryz.prog 210 #[pileV l h, .agg #[.bool t, .int .i64 p]] w fun e w' => e = .returned (.bool (wi p 0 ((rowR t lo hi).length - 1))) ∧ Below w.heap.size w w' := by
  obtain ⟨ao1, cap1, rfl⟩ := ints_form Hl
  obtain ⟨ao2, cap2, rfl⟩ := ints_form Hh
  have hl1 := Hl.len
  have hl2 := Hh.len
  clear Hl Hh
  unfold pileV
  cases t
  all_goals
    go_enter Tryz.func210, Tryz.ntmps210
    go_wp2_with fail
    refine (l1In_any _ _ _ _).mono ?_
    rintro e wq ⟨rfl, rfl⟩
    go_wp2_with fail
    go_ret
    exact ⟨rfl, by go_grown⟩
set_option maxHeartbeats 800000 in
theorem at_spec (l h : Value) (lo hi : List Int) (t : Bool) (p : Int) (w : World) (Hl : IntsAt 0 w.heap.size w l lo) (Hh : IntsAt 0 w.heap.size w h hi) :
    Calls Tryz.prog 174 #[pileV l h, .agg #[.bool t, .int .i64 p]] w fun e w' => e = .returned (.int .i64 (atR lo hi t p)) ∧ Below w.heap.size w w' := by
  have HL := hide Hl
  have HH := hide Hh
  have hp := fun W => pile_spec l h lo hi W
  have hq := fun W => l6Spot_any l h lo hi t p W
  clear Hl Hh
  unfold pileV
  unfold pileV at hp hq
  have HP := hide hp
  have HQ := hide hq
  clear hp hq
  go_enter Tryz.func174, Tryz.ntmps174
  go_wp2_with fail
  refine calls_at fun wx hwx => ?_
  have A_0 : RowL wx (w.heap.size) 29 [l, h] := by rw [hwx]; exact ((RowL.new _ 29 [l, h]).alloc _)
  have S_0 : RowL wx (w.heap.size + 1) 128 [.bool t, .int .i64 p] := by rw [hwx]; simpa using (RowL.new (World.alloc _ _) 128 [.bool t, .int .i64 p])
  have B_0 : Below w.heap.size w wx := by rw [hwx]; go_grown
  clear hwx
  have hL0 := S_0.lt
  have VL_0 := hide (HL.out.below B_0)
  have VH_0 := hide (HH.out.below B_0)
  have k_c1 := HP.out wx ((VL_0.out).mono (Nat.le_refl _) (VL_0.out).lt (Nat.le_refl _)) ((VH_0.out).mono (Nat.le_refl _) (VH_0.out).lt (Nat.le_refl _))
  cases c1 : pileB lo hi with
  | false =>
    rw [c1] at k_c1
    have Hc1 := hide (show atR lo hi t p = -1 from at_bad c1)
    clear c1
    refine (k_c1).mono ?_
    rintro e w1 ⟨rfl, hb⟩
    have A_1 := A_0.below hb A_0.lt
    have S_1 := S_0.below hb S_0.lt
    have VL_1 := hide (VL_0.out.below hb)
    have VH_1 := hide (VH_0.out.below hb)
    have B_1 := hide (Below.step B_0 hb (Nat.le_refl _))
    have hz1 := hb.size
    clear hb
    clear k_c1
    go_wp2_with fail
    go_ret
    exact ⟨by rw [Hc1.out]; rfl, B_1.out⟩
  | true =>
    rw [c1] at k_c1
    have Kc1 := hide c1
    clear c1
    refine (k_c1).mono ?_
    rintro e w1 ⟨rfl, hb⟩
    have A_1 := A_0.below hb A_0.lt
    have S_1 := S_0.below hb S_0.lt
    have VL_1 := hide (VL_0.out.below hb)
    have VH_1 := hide (VH_0.out.below hb)
    have B_1 := hide (Below.step B_0 hb (Nat.le_refl _))
    have hz1 := hb.size
    clear hb
    have cA0 := A_1.c 0 rfl
    have cA1 := A_1.c 1 rfl
    have cS0 := S_1.c 0 rfl
    have cS1 := S_1.c 1 rfl
    clear k_c1
    go_wp2_with fail
    have k_c2 := HQ.out w1 ((VL_1.out).mono (Nat.le_refl _) (VL_1.out).lt (Nat.le_refl _)) ((VH_1.out).mono (Nat.le_refl _) (VH_1.out).lt (Nat.le_refl _))
    cases c2 : wi p 0 ((rowR t lo hi).length - 1) with
    | false =>
      rw [c2] at k_c2
      have Hc2 := hide (show atR lo hi t p = -1 from at_out c2)
      clear c2
      refine (k_c2).mono ?_
      rintro e w2 ⟨rfl, hb⟩
      have A_2 := A_1.below hb A_1.lt
      have S_2 := S_1.below hb S_1.lt
      have VL_2 := hide (VL_1.out.below hb)
      have VH_2 := hide (VH_1.out.below hb)
      have B_2 := hide (Below.step B_1.out hb (Nat.le_refl _))
      have hz2 := hb.size
      clear hb
      clear k_c2
      go_wp2_with fail
      go_ret
      exact ⟨by rw [Hc2.out]; rfl, B_2.out⟩
    | true =>
      rw [c2] at k_c2
      have Kc2 := hide c2
      clear c2
      refine (k_c2).mono ?_
      rintro e w2 ⟨rfl, hb⟩
      have A_2 := A_1.below hb A_1.lt
      have S_2 := S_1.below hb S_1.lt
      have VL_2 := hide (VL_1.out.below hb)
      have VH_2 := hide (VH_1.out.below hb)
      have B_2 := hide (Below.step B_1.out hb (Nat.le_refl _))
      have hz2 := hb.size
      clear hb
      have cA0 := A_2.c 0 rfl
      have cA1 := A_2.c 1 rfl
      have cS0 := S_2.c 0 rfl
      have cS1 := S_2.c 1 rfl
      clear k_c2
      have hw := wi_iff.1 Kc2.out
      obtain ⟨j, rfl⟩ : ∃ j : Nat, p = j := ⟨p.toNat, by omega⟩
      have HV := hide (ints_row VL_2.out VH_2.out t)
      have HA := hide (at_in Kc1.out Kc2.out)
      rw [Int.toNat_natCast] at HA
      have hjl : j < (rowR t lo hi).length := by omega
      obtain ⟨b, o, cap, er, -, -, r1, -⟩ := ints_at HV.out hjl
      obtain ⟨n, hn⟩ : ∃ n, (rowR t lo hi).length = n := ⟨_, rfl⟩
      rw [hn] at er hjl hw
      have hjI : (j : Int) < (n : Int) := by omega
      obtain ⟨x, hx⟩ : ∃ x, (rowR t lo hi).getD j 0 = x := ⟨_, rfl⟩
      rw [hx] at r1 HA
      clear hn hx hw
      cases t
      all_goals
        simp only [rowV, if_true, if_false, Bool.false_eq_true] at er
        subst er
        go_wp2_with fail
        go_ret
        exact ⟨by rw [HA.out]; rfl, B_2.out⟩
end Go.Proofs.YtmemgbklgcjobaaGreatDoor
