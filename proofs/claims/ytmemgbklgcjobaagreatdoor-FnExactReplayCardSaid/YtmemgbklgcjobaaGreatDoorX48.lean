/-
  Parts of the proofs over mills, of: HelpO, SepG, HelpQ, PostV. Conditions: each theorem states its own.
-/
import Derived.OpenVars
import Derived.Stop.LaidErr
import Derived.Test.YtmemgbklgcjobaaGreatDoorX29
import Derived.Test.YtmemgbklgcjobaaGreatDoorX44
set_option linter.unusedSimpArgs false
set_option linter.unusedVariables false
set_option maxRecDepth 10000
namespace Go.Proofs.YtmemgbklgcjobaaGreatDoor
open Go.RowKit
theorem ret_i64 {a b : Int} (h : a = b) : Ending.returned (.int .i64 a) = .returned (.int .i64 b) := by rw [h]
theorem eqGrade_same (g : Gr) (w : World) :
    Calls Tryz.prog 95 #[grV g, grV g] w fun e w' => e = .returned (.bool true) ∧ Below w.heap.size w w' := by
  obtain ⟨a, b, c, d, f, h⟩ := g
  unfold grV
  go_enter Tryz.func95, Tryz.ntmps95
  go_wp2
  go_ret
  exact ⟨rfl, by go_grown⟩
theorem eqStuffS_same (v v' : Value) (xs : List St) (lo hi lo' hi' : Nat) (w : World) (h : StAt lo hi w v xs) (h' : StAt lo' hi' w v' xs) :
    Calls Tryz.prog 94 #[v, v'] w fun e w' => e = .returned (.bool true) ∧ Below w.heap.size w w' :=
  (eqStuffS_any v v' xs xs lo hi lo' hi' w h h').mono fun e w' ⟨he, hb⟩ => ⟨by rw [he]; simp, hb⟩
theorem eqPieceS_same (v v' : Value) (xs : List Pc) (lo hi lo' hi' : Nat) (w : World) (h : PcAt lo hi w v xs) (h' : PcAt lo' hi' w v' xs) :
    Calls Tryz.prog 96 #[v, v'] w fun e w' => e = .returned (.bool true) ∧ Below w.heap.size w w' :=
  (eqPieceS_any v v' xs xs lo hi lo' hi' w h h').mono fun e w' ⟨he, hb⟩ => ⟨by rw [he]; simp, hb⟩
set_option maxHeartbeats 800000 in
theorem eqMill_same (s p l h s' p' l' h' : Value) (m : Mi) (w : World) (H : MillIn 0 w.heap.size w s p l h m) (H' : MillIn 0 w.heap.size w s' p' l' h' m) :
    Calls Tryz.prog 32 #[millV s p l h m, millV s' p' l' h' m] w fun e w' => e = .returned (.bool true) ∧ Below w.heap.size w w' := by
  have VS := hide H.store
  have VP := hide H.pieces
  have VL := hide H.low
  have VH := hide H.high
  have VT := hide H'.store
  have VQ := hide H'.pieces
  have VM := hide H'.low
  have VI := hide H'.high
  clear H H'
  unfold millV
  go_enter Tryz.func32, Tryz.ntmps32
  go_wp2_with fail
  refine calls_at fun wx hwx => ?_
  have A_0 : RowL wx (w.heap.size) 31 [s, .int .i64 m.rule.lc, .int .i64 m.rule.hc, .int .i64 m.rule.lm, .int .i64 m.rule.hm, .int .i64 m.rule.ls, .int .i64 m.rule.hs, .int .i64 m.strand, p, l, h, .int .i64 m.scrap] := by rw [hwx]; exact ((RowL.new _ 31 [s, .int .i64 m.rule.lc, .int .i64 m.rule.hc, .int .i64 m.rule.lm, .int .i64 m.rule.hm, .int .i64 m.rule.ls, .int .i64 m.rule.hs, .int .i64 m.strand, p, l, h, .int .i64 m.scrap]).alloc _)
  have C_0 : RowL wx (w.heap.size + 1) 31 [s', .int .i64 m.rule.lc, .int .i64 m.rule.hc, .int .i64 m.rule.lm, .int .i64 m.rule.hm, .int .i64 m.rule.ls, .int .i64 m.rule.hs, .int .i64 m.strand, p', l', h', .int .i64 m.scrap] := by rw [hwx]; simpa using (RowL.new (World.alloc _ _) 31 [s', .int .i64 m.rule.lc, .int .i64 m.rule.hc, .int .i64 m.rule.lm, .int .i64 m.rule.hm, .int .i64 m.rule.ls, .int .i64 m.rule.hs, .int .i64 m.strand, p', l', h', .int .i64 m.scrap])
  have B_0 : Below w.heap.size w wx := by rw [hwx]; go_grown
  clear hwx
  have hL0 := C_0.lt
  have VS_0 := hide (VS.out.below B_0)
  have VP_0 := hide (VP.out.below B_0)
  have VL_0 := hide (VL.out.below B_0)
  have VH_0 := hide (VH.out.below B_0)
  have VT_0 := hide (VT.out.below B_0)
  have VQ_0 := hide (VQ.out.below B_0)
  have VM_0 := hide (VM.out.below B_0)
  have VI_0 := hide (VI.out.below B_0)
  refine (eqStuffS_same s s' m.store _ _ _ _ wx VS_0.out VT_0.out).mono ?_
  rintro e w1 ⟨rfl, hb⟩
  have A_1 := A_0.below hb A_0.lt
  have C_1 := C_0.below hb C_0.lt
  have VS_1 := hide (VS_0.out.below hb)
  have VP_1 := hide (VP_0.out.below hb)
  have VL_1 := hide (VL_0.out.below hb)
  have VH_1 := hide (VH_0.out.below hb)
  have VT_1 := hide (VT_0.out.below hb)
  have VQ_1 := hide (VQ_0.out.below hb)
  have VM_1 := hide (VM_0.out.below hb)
  have VI_1 := hide (VI_0.out.below hb)
  have B_1 := hide (Below.step B_0 hb (Nat.le_refl _))
  have hz1 := hb.size
  clear hb
  have cA1 := A_1.c 1 rfl
  have cA2 := A_1.c 2 rfl
  have cA3 := A_1.c 3 rfl
  have cA4 := A_1.c 4 rfl
  have cA5 := A_1.c 5 rfl
  have cA6 := A_1.c 6 rfl
  have cC1 := C_1.c 1 rfl
  have cC2 := C_1.c 2 rfl
  have cC3 := C_1.c 3 rfl
  have cC4 := C_1.c 4 rfl
  have cC5 := C_1.c 5 rfl
  have cC6 := C_1.c 6 rfl
  go_wp2_with fail
  refine (eqGrade_same m.rule w1).mono ?_
  rintro e w2 ⟨rfl, hb⟩
  have A_2 := A_1.below hb A_1.lt
  have C_2 := C_1.below hb C_1.lt
  have VS_2 := hide (VS_1.out.below hb)
  have VP_2 := hide (VP_1.out.below hb)
  have VL_2 := hide (VL_1.out.below hb)
  have VH_2 := hide (VH_1.out.below hb)
  have VT_2 := hide (VT_1.out.below hb)
  have VQ_2 := hide (VQ_1.out.below hb)
  have VM_2 := hide (VM_1.out.below hb)
  have VI_2 := hide (VI_1.out.below hb)
  have B_2 := hide (Below.step B_1.out hb (Nat.le_refl _))
  have hz2 := hb.size
  clear hb
  have cA7 := A_2.c 7 rfl
  have cA8 := A_2.c 8 rfl
  have cC7 := C_2.c 7 rfl
  have cC8 := C_2.c 8 rfl
  go_wp2_with fail
  refine (eqPieceS_same p p' m.pieces _ _ _ _ w2 VP_2.out VQ_2.out).mono ?_
  rintro e w3 ⟨rfl, hb⟩
  have A_3 := A_2.below hb A_2.lt
  have C_3 := C_2.below hb C_2.lt
  have VP_3 := hide (VP_2.out.below hb)
  have VL_3 := hide (VL_2.out.below hb)
  have VH_3 := hide (VH_2.out.below hb)
  have VQ_3 := hide (VQ_2.out.below hb)
  have VM_3 := hide (VM_2.out.below hb)
  have VI_3 := hide (VI_2.out.below hb)
  have B_3 := hide (Below.step B_2.out hb (Nat.le_refl _))
  have hz3 := hb.size
  clear hb
  have cA9 := A_3.c 9 rfl
  have cA10 := A_3.c 10 rfl
  have cC9 := C_3.c 9 rfl
  have cC10 := C_3.c 10 rfl
  go_wp2_with fail
  refine (eqPile_same l h l' h' m.low m.high w3 ((VL_3.out).mono (Nat.le_refl _) (VL_3.out).lt (Nat.le_refl _)) ((VH_3.out).mono (Nat.le_refl _) (VH_3.out).lt (Nat.le_refl _)) ((VM_3.out).mono (Nat.le_refl _) (VM_3.out).lt (Nat.le_refl _)) ((VI_3.out).mono (Nat.le_refl _) (VI_3.out).lt (Nat.le_refl _))).mono ?_
  rintro e w4 ⟨rfl, hb⟩
  have A_4 := A_3.below hb A_3.lt
  have C_4 := C_3.below hb C_3.lt
  have VP_4 := hide (VP_3.out.below hb)
  have VL_4 := hide (VL_3.out.below hb)
  have VH_4 := hide (VH_3.out.below hb)
  have VQ_4 := hide (VQ_3.out.below hb)
  have VM_4 := hide (VM_3.out.below hb)
  have VI_4 := hide (VI_3.out.below hb)
  have B_4 := hide (Below.step B_3.out hb (Nat.le_refl _))
  have hz4 := hb.size
  clear hb
  have cA11 := A_4.c 11 rfl
  have cC11 := C_4.c 11 rfl
  go_wp2_with fail
  go_ret
  exact ⟨rfl, B_4.out⟩
def markSt (k : Int) (n : Nat) : List St := (List.range n).map fun (i : Nat) => mkSt (k + 5 * i)
def markPc (k : Int) (n : Nat) : List Pc := (List.range n).map fun (i : Nat) => mkPc (k + 2 * i)
def markI (k : Int) (n : Nat) : List Int := (List.range n).map fun (i : Nat) => k + i
theorem markSt_eq {k : Int} {n : Nat} {ys : List St} (hl : ys.length = n) (h : ∀ i (_ : i < ys.length), ys[i] = mkSt (k + 5 * i)) : ys = markSt k n := by
  refine List.ext_getElem (by simp [markSt, hl]) fun i h1 h2 => ?_
  rw [h i h1]; simp [markSt]
theorem markPc_eq {k : Int} {n : Nat} {ys : List Pc} (hl : ys.length = n) (h : ∀ i (_ : i < ys.length), ys[i] = mkPc (k + 2 * i)) : ys = markPc k n := by
  refine List.ext_getElem (by simp [markPc, hl]) fun i h1 h2 => ?_
  rw [h i h1]; simp [markPc]
theorem markI_eq {k : Int} {n : Nat} {ys : List Int} (hl : ys.length = n) (h : ∀ i (_ : i < ys.length), ys[i] = k + i) : ys = markI k n := by
  refine List.ext_getElem (by simp [markI, hl]) fun i h1 h2 => ?_
  rw [h i h1]; simp [markI]
theorem markSt_at (k : Int) (n : Nat) : ∀ i (_ : i < (markSt k n).length), (markSt k n)[i] = mkSt (k + 5 * i) := fun i _ => by simp [markSt]
theorem markPc_at (k : Int) (n : Nat) : ∀ i (_ : i < (markPc k n).length), (markPc k n)[i] = mkPc (k + 2 * i) := fun i _ => by simp [markPc]
theorem markI_at (k : Int) (n : Nat) : ∀ i (_ : i < (markI k n).length), (markI k n)[i] = k + i := fun i _ => by simp [markI]
def markedM (k : Int) (m : Mi) : Mi :=
  { m with store := markSt k m.store.length, pieces := markPc (k + 5 * m.store.length) m.pieces.length, low := markI (k + 5 * m.store.length + 2 * m.pieces.length) m.low.length, high := markI (k + 5 * m.store.length + 2 * m.pieces.length + m.low.length) m.high.length }
def marksM (m : Mi) : Int := 5 * m.store.length + 2 * m.pieces.length + m.low.length + m.high.length
theorem markI_any (v : Value) (xs : List Int) (lo hi : Nat) (k0 : Int) (w : World) (h : IntsAt lo hi w v xs) (hlen : xs.length ≤ 2097152) (hk0 : 0 ≤ k0) (hk1 : k0 ≤ 16777216) :
    Calls Tryz.prog 154 #[v, .int .i64 k0] w fun e w' => e = .returned (.int .i64 (k0 + xs.length)) ∧ Other lo hi w w' ∧ IntsAt lo hi w' v (markI k0 xs.length) :=
  (markIntS_any v xs lo hi k0 w h hlen hk0 hk1).mono fun e w' ⟨h1, h2, ys, h3, h4, h5⟩ => ⟨h1, h2, by rw [← markI_eq h3 h4]; exact h5⟩
theorem markS_any (v : Value) (xs : List St) (lo hi : Nat) (k0 : Int) (w : World) (h : StAt lo hi w v xs) (hlen : xs.length ≤ 2097152) (hk0 : 0 ≤ k0) (hk1 : k0 ≤ 16777216) :
    Calls Tryz.prog 98 #[v, .int .i64 k0] w fun e w' => e = .returned (.int .i64 (k0 + 5 * xs.length)) ∧ Other lo hi w w' ∧ StAt lo hi w' v (markSt k0 xs.length) :=
  (markStuffS_any v xs lo hi k0 w h hlen hk0 hk1).mono fun e w' ⟨h1, h2, ys, h3, h4, h5⟩ => ⟨h1, h2, by rw [← markSt_eq h3 h4]; exact h5⟩
theorem markP_any (v : Value) (xs : List Pc) (lo hi : Nat) (k0 : Int) (w : World) (h : PcAt lo hi w v xs) (hlen : xs.length ≤ 2097152) (hk0 : 0 ≤ k0) (hk1 : k0 ≤ 16777216) :
    Calls Tryz.prog 99 #[v, .int .i64 k0] w fun e w' => e = .returned (.int .i64 (k0 + 2 * xs.length)) ∧ Other lo hi w w' ∧ PcAt lo hi w' v (markPc k0 xs.length) :=
  (markPieceS_any v xs lo hi k0 w h hlen hk0 hk1).mono fun e w' ⟨h1, h2, ys, h3, h4, h5⟩ => ⟨h1, h2, by rw [← markPc_eq h3 h4]; exact h5⟩
theorem markPile_any (l h : Value) (xs ys : List Int) (a1 z1 a2 z2 : Nat) (k0 : Int) (w : World) (Hl : IntsAt a1 z1 w l xs) (Hh : IntsAt a2 z2 w h ys) (hd : z1 ≤ a2 ∨ z2 ≤ a1) (n1 : xs.length ≤ 1048576) (n2 : ys.length ≤ 1048576) (hk0 : 0 ≤ k0) (hk1 : k0 ≤ 8388608) (lo hi : Nat) (q1 : lo ≤ a1 ∧ z1 ≤ hi) (q2 : lo ≤ a2 ∧ z2 ≤ hi) (q3 : hi ≤ w.heap.size) :
    Calls Tryz.prog 100 #[pileV l h, .int .i64 k0] w fun e w' => e = .returned (.int .i64 (k0 + xs.length + ys.length)) ∧ Other lo hi w w' ∧ IntsAt a1 z1 w' l (markI k0 xs.length) ∧ IntsAt a2 z2 w' h (markI (k0 + xs.length) ys.length) ∧ (∀ k, k < w.heap.size → (k < a1 ∨ z1 ≤ k) → (k < a2 ∨ z2 ≤ k) → w'.heap[k]? = w.heap[k]?) := by
  have HL := hide Hl
  have HH := hide Hh
  clear Hl Hh
  unfold pileV
  go_enter Tryz.func100, Tryz.ntmps100
  go_wp2_with fail
  refine calls_at fun wx hwx => ?_
  have R1 : RowL wx w.heap.size 29 [l, h] := by rw [hwx]; exact RowL.new _ _ _
  have hb0 : Below w.heap.size w wx := by rw [hwx]; go_grown
  clear hwx
  refine (markI_any l xs _ _ k0 _ (HL.out.below hb0) (by omega) hk0 (by omega)).mono ?_
  rintro e w1 ⟨rfl, ho1, hi1⟩
  have R1b := R1.other ho1 (.inr (by omega))
  have HI1 := hide hi1
  have HH1 := hide ((HH.out.below hb0).other ho1 (by omega))
  have HK1 := hide (fun k (hk : k < w.heap.size) (h1 : k < a1 ∨ z1 ≤ k) => show w1.heap[k]? = w.heap[k]? from (ho1.block k (Nat.lt_of_lt_of_le hk hb0.size) h1).trans (hb0.block k hk))
  have HO1 := hide (show Other lo hi w w1 from (Other.of_below hb0).trans ⟨ho1.os, ho1.tape, ho1.output, ho1.size, fun k hk h => ho1.block k hk (by omega)⟩)
  have c1 : w1.cell? ⟨w.heap.size, 1, none⟩ = some h := R1b.cell 1 (by simp)
  have hz := R1b.lt
  clear ho1 hi1
  go_wp2_with fail
  refine (markI_any h ys _ _ (k0 + xs.length) _ HH1.out (by omega) (by omega) (by omega)).mono ?_
  rintro e w2 ⟨rfl, ho2, hi2⟩
  have HI2 := hide (HI1.out.other ho2 (by omega))
  have HJ2 := hide hi2
  have hsz1 := HO1.out.size
  have HK2 := hide (fun k (hk : k < w.heap.size) (h1 : k < a1 ∨ z1 ≤ k) (h2 : k < a2 ∨ z2 ≤ k) => show w2.heap[k]? = w.heap[k]? from (ho2.block k (by omega) h2).trans (HK1.out k hk h1))
  have HO2 := hide (show Other lo hi w w2 from HO1.out.trans ⟨ho2.os, ho2.tape, ho2.output, ho2.size, fun k hk h => ho2.block k hk (by omega)⟩)
  clear ho2 hi2
  go_wp2_with fail
  go_ret
  exact ⟨rfl, HO2.out, HI2.out, HJ2.out, HK2.out⟩
def MarkGot (lo hi : Nat) (s p l h : Value) (m : Mi) (k : Int) (w : World) (e : Ending) (w' : World) : Prop :=
  e = .returned (.int .i64 (k + marksM m)) ∧ Other lo hi w w' ∧ MillSep lo hi w' s p l h (markedM k m)
set_option maxHeartbeats 800000 in
theorem markMill_any (s p l h : Value) (m : Mi) (lo hi : Nat) (w : World) (H : MillSep lo hi w s p l h m) (hs : sizeM m ≤ 1048576) :
    Calls Tryz.prog 33 #[millV s p l h m, .int .i64 1] w (MarkGot lo hi s p l h m 1 w) := by
  obtain ⟨a1, z1, a2, z2, a3, z3, a4, z4, ⟨q1, r1⟩, ⟨q2, r2⟩, ⟨q3, r3⟩, ⟨q4, r4⟩, ⟨d12, d13, d14, d23, d24, d34⟩, h1, h2, h3, h4, h5⟩ := H
  have VS := hide h1
  have VP := hide h2
  have VL := hide h3
  have VH := hide h4
  unfold sizeM at hs
  clear h1 h2 h3 h4
  unfold millV
  go_enter Tryz.func33, Tryz.ntmps33
  go_wp2_with fail
  refine calls_at fun wx hwx => ?_
  have R0 : RowL wx w.heap.size 31 [s, .int .i64 m.rule.lc, .int .i64 m.rule.hc, .int .i64 m.rule.lm, .int .i64 m.rule.hm, .int .i64 m.rule.ls, .int .i64 m.rule.hs, .int .i64 m.strand, p, l, h, .int .i64 m.scrap] := by rw [hwx]; exact RowL.new _ _ _
  have hb0 : Below w.heap.size w wx := by rw [hwx]; go_grown
  clear hwx
  have wide : ∀ {x y : World} {a z : Nat}, Other a z x y → lo ≤ a → z ≤ hi → Other lo hi x y := fun ho ha hz => ⟨ho.os, ho.tape, ho.output, ho.size, fun k hk h => ho.block k hk (by omega)⟩
  refine (markS_any s m.store _ _ 1 _ (VS.out.below hb0) (by omega) (by omega) (by omega)).mono ?_
  rintro e w1 ⟨rfl, ho1, hi1⟩
  have R1 := R0.other ho1 (.inr (by omega))
  have VS1 := hide hi1
  have VP1 := hide ((VP.out.below hb0).other ho1 (by omega))
  have VL1 := hide ((VL.out.below hb0).other ho1 (by omega))
  have VH1 := hide ((VH.out.below hb0).other ho1 (by omega))
  have HO1 := hide ((Other.of_below (lo := lo) (hi := hi) hb0).trans (wide ho1 q1 r1))
  have c8 : w1.cell? ⟨w.heap.size, 8, none⟩ = some p := R1.cell 8 (by simp)
  have hz1 := R1.lt
  clear ho1 hi1
  go_wp2_with fail
  refine (markP_any p m.pieces _ _ (1 + 5 * m.store.length) _ VP1.out (by omega) (by omega) (by omega)).mono ?_
  rintro e w2 ⟨rfl, ho2, hi2⟩
  have R2 := R1.other ho2 (.inr (by omega))
  have VP2 := hide hi2
  have VS2 := hide (VS1.out.other ho2 (by omega))
  have VL2 := hide (VL1.out.other ho2 (by omega))
  have VH2 := hide (VH1.out.other ho2 (by omega))
  have HO2 := hide (HO1.out.trans (wide ho2 q2 r2))
  have c9 : w2.cell? ⟨w.heap.size, 9, none⟩ = some l := R2.cell 9 (by simp)
  have c10 : w2.cell? ⟨w.heap.size, 10, none⟩ = some h := R2.cell 10 (by simp)
  have hz2 := R2.lt
  clear ho2 hi2
  go_wp2_with fail
  have hpl := markPile_any l h m.low m.high a3 z3 a4 z4 (1 + 5 * m.store.length + 2 * m.pieces.length) w2 VL2.out VH2.out d34 (by omega) (by omega) (by omega) (by omega) lo hi ⟨q3, r3⟩ ⟨q4, r4⟩ (by omega)
  unfold pileV at hpl
  refine hpl.mono ?_
  rintro e w3 ⟨rfl, ho3, hi3, hi4, hk3⟩
  have VS3 := hide (VS2.out.keep (fun k k1 k2 => hk3 k (by have := VS2.out.lt; omega) (by omega) (by omega)) ho3.size)
  have VP3 := hide (VP2.out.keep (fun k k1 k2 => hk3 k (by have := VP2.out.lt; omega) (by omega) (by omega)) ho3.size)
  have VL3 := hide hi3
  have VH3 := hide hi4
  have HO3 := hide (HO2.out.trans ho3)
  have hz3 := ho3.size
  clear ho3 hi3 hi4 hpl hk3
  go_wp2_with fail
  go_ret
  refine ⟨?_, HO3.out, a1, z1, a2, z2, a3, z3, a4, z4, ⟨q1, r1⟩, ⟨q2, r2⟩, ⟨q3, r3⟩, ⟨q4, r4⟩, ⟨d12, d13, d14, d23, d24, d34⟩, VS3.out, VP3.out, VL3.out, VH3.out, by omega⟩
  exact ret_i64 (by unfold marksM; omega)
theorem MillGot.sep {base : Nat} {w : World} {s p l h : Value} {m : Mi} (H : MillGot base w s p l h m) : MillSep base w.heap.size w s p l h m := by
  obtain ⟨a1, z1, b1, c1, d1, e1, f1, g1⟩ := ownE_S H.so rfl H.hb
  obtain ⟨a2, z2, b2, c2, d2, e2, f2, g2⟩ := ownE_P H.po rfl H.hb
  obtain ⟨a3, z3, b3, c3, d3, e3, f3, g3⟩ := ownE_I H.lo rfl H.hb
  obtain ⟨a4, z4, b4, c4, d4, e4, f4, g4⟩ := ownE_I H.ho rfl H.hb
  exact ⟨a1, z1, a2, z2, a3, z3, a4, z4, ⟨b1, d1⟩, ⟨b2, d2⟩, ⟨b3, d3⟩, ⟨b4, d4⟩, ⟨sep_of H.sp g1 g2 c1 c2 f1 f2, sep_of H.sl g1 g3 c1 c3 f1 f3, sep_of H.sh g1 g4 c1 c4 f1 f4, sep_of H.pl g2 g3 c2 c3 f2 f3, sep_of H.ph g2 g4 c2 c4 f2 f4, sep_of H.lh g3 g4 c3 c4 f3 f4⟩, e1, e2, e3, e4, Nat.le_refl _⟩
theorem MillSep.lt {lo hi : Nat} {w : World} {s p l h : Value} {m : Mi} (H : MillSep lo hi w s p l h m) : hi ≤ w.heap.size := by
  obtain ⟨a1, z1, a2, z2, a3, z3, a4, z4, -, -, -, -, -, -, -, -, -, h⟩ := H
  exact h
theorem small_valid {m : Mi} (h : millB m = true) : sizeM m ≤ 1000 := by
  have hv := millB_iff.1 h
  have h1 := stsB_len hv.store
  have h2 := hv.len
  have h3 := hv.pile.l6
  have h4 := hv.pile.lh
  unfold sizeM
  omega
theorem small_zero : sizeM mi0 ≤ 1000 := by decide
theorem small_run (m : Mi) (l : List J) : sizeM (runR m l).1 ≤ 1000 := by
  cases h : millB m with
  | false => rw [run_bad (.inl h)]; exact small_zero
  | true =>
    by_cases hl : l.length ≤ 99
    · exact small_valid (run_valid h hl).1
    · rw [run_bad (.inr (by omega))]; exact small_zero
theorem marks_bd {m : Mi} (h : sizeM m ≤ 1048576) : 0 ≤ marksM m ∧ marksM m ≤ 5242880 := by
  unfold sizeM at h
  unfold marksM
  omega
theorem markI_len (k : Int) (n : Nat) : (markI k n).length = n := by simp [markI]
theorem markSt_len (k : Int) (n : Nat) : (markSt k n).length = n := by simp [markSt]
theorem markPc_len (k : Int) (n : Nat) : (markPc k n).length = n := by simp [markPc]
theorem heldI_any (v : Value) (n lo hi : Nat) (k0 : Int) (w : World) (h : IntsAt lo hi w v (markI k0 n)) (hlen : n ≤ 2097152) (hk0 : 0 ≤ k0) (hk1 : k0 ≤ 16777216) :
    Calls Tryz.prog 155 #[v, .int .i64 k0] w fun e w' => e = .returned (.int .i64 (k0 + n)) ∧ w = w' :=
  (heldIntS_any v _ lo hi k0 w h (by rw [markI_len]; exact hlen) hk0 hk1 (markI_at k0 n)).mono fun e w' ⟨h1, h2⟩ => ⟨by rw [h1, markI_len], h2⟩
theorem heldS_any (v : Value) (n lo hi : Nat) (k0 : Int) (w : World) (h : StAt lo hi w v (markSt k0 n)) (hlen : n ≤ 2097152) (hk0 : 0 ≤ k0) (hk1 : k0 ≤ 16777216) :
    Calls Tryz.prog 101 #[v, .int .i64 k0] w fun e w' => e = .returned (.int .i64 (k0 + 5 * n)) ∧ w = w' :=
  (heldStuffS_any v _ lo hi k0 w h (by rw [markSt_len]; exact hlen) hk0 hk1 (markSt_at k0 n)).mono fun e w' ⟨h1, h2⟩ => ⟨by rw [h1, markSt_len], h2⟩
theorem heldP_any (v : Value) (n lo hi : Nat) (k0 : Int) (w : World) (h : PcAt lo hi w v (markPc k0 n)) (hlen : n ≤ 2097152) (hk0 : 0 ≤ k0) (hk1 : k0 ≤ 16777216) :
    Calls Tryz.prog 102 #[v, .int .i64 k0] w fun e w' => e = .returned (.int .i64 (k0 + 2 * n)) ∧ w = w' :=
  (heldPieceS_any v _ lo hi k0 w h (by rw [markPc_len]; exact hlen) hk0 hk1 (markPc_at k0 n)).mono fun e w' ⟨h1, h2⟩ => ⟨by rw [h1, markPc_len], h2⟩
set_option maxHeartbeats 800000 in
theorem heldPile_any (l h : Value) (n1 n2 a1 z1 a2 z2 : Nat) (k0 : Int) (w : World) (Hl : IntsAt a1 z1 w l (markI k0 n1)) (Hh : IntsAt a2 z2 w h (markI (k0 + n1) n2)) (h1 : n1 ≤ 1048576) (h2 : n2 ≤ 1048576) (hk0 : 0 ≤ k0) (hk1 : k0 ≤ 8388608) :
    Calls Tryz.prog 103 #[pileV l h, .int .i64 k0] w fun e w' => e = .returned (.int .i64 (k0 + n1 + n2)) ∧ Below w.heap.size w w' := by
  have HL := hide Hl
  have HH := hide Hh
  clear Hl Hh
  unfold pileV
  go_enter Tryz.func103, Tryz.ntmps103
  go_wp2_with fail
  refine calls_at fun wx hwx => ?_
  have R1 : RowL wx w.heap.size 29 [l, h] := by rw [hwx]; exact RowL.new _ _ _
  have hb0 : Below w.heap.size w wx := by rw [hwx]; go_grown
  clear hwx
  refine (heldI_any l n1 _ _ k0 wx (HL.out.below hb0) (by omega) hk0 (by omega)).mono ?_
  rintro e w1 ⟨rfl, rfl⟩
  have c1 : wx.cell? ⟨w.heap.size, 1, none⟩ = some h := R1.cell 1 (by simp)
  have HB := hide hb0
  have hneg : ¬ k0 + (n1 : Int) < 0 := by omega
  have HQ := hide (HH.out.below hb0)
  clear hb0
  go_wp2_with fail
  refine (heldI_any h n2 _ _ (k0 + n1) wx HQ.out (by omega) (by omega) (by omega)).mono ?_
  rintro e w2 ⟨rfl, rfl⟩
  have hneg2 : ¬ k0 + (n1 : Int) + (n2 : Int) < 0 := by omega
  go_wp2_with fail
  go_ret
  exact ⟨rfl, HB.out⟩
set_option maxHeartbeats 1600000 in
theorem heldMill_any (s p l h : Value) (m : Mi) (w : World) (H : MillIn 0 w.heap.size w s p l h (markedM 1 m)) (hs : sizeM m ≤ 1048576) :
    Calls Tryz.prog 34 #[millV s p l h m, .int .i64 1] w fun e w' => e = .returned (.int .i64 (1 + marksM m)) ∧ Below w.heap.size w w' := by
  obtain ⟨h1, h2, h3, h4⟩ := H
  have VS := hide h1
  have VP := hide h2
  have VL := hide h3
  have VH := hide h4
  unfold sizeM at hs
  clear h1 h2 h3 h4
  unfold millV
  go_enter Tryz.func34, Tryz.ntmps34
  go_wp2_with fail
  refine calls_at fun wx hwx => ?_
  have R0 : RowL wx w.heap.size 31 [s, .int .i64 m.rule.lc, .int .i64 m.rule.hc, .int .i64 m.rule.lm, .int .i64 m.rule.hm, .int .i64 m.rule.ls, .int .i64 m.rule.hs, .int .i64 m.strand, p, l, h, .int .i64 m.scrap] := by rw [hwx]; exact RowL.new _ _ _
  have hb0 : Below w.heap.size w wx := by rw [hwx]; go_grown
  have HB := hide hb0
  have WS := hide (VS.out.below hb0)
  have WP := hide (VP.out.below hb0)
  have WL := hide (VL.out.below hb0)
  have WH := hide (VH.out.below hb0)
  have hz0 := R0.lt
  clear hwx hb0
  refine (heldS_any s m.store.length _ _ 1 wx WS.out (by omega) (by omega) (by omega)).mono ?_
  rintro e w1 ⟨rfl, rfl⟩
  have c8 : wx.cell? ⟨w.heap.size, 8, none⟩ = some p := R0.cell 8 (by simp)
  have c9 : wx.cell? ⟨w.heap.size, 9, none⟩ = some l := R0.cell 9 (by simp)
  have c10 : wx.cell? ⟨w.heap.size, 10, none⟩ = some h := R0.cell 10 (by simp)
  have hn1 : ¬ (1 + 5 * (m.store.length : Int)) < 0 := by omega
  go_wp2_with fail
  refine (heldP_any p m.pieces.length _ _ (1 + 5 * m.store.length) wx WP.out (by omega) (by omega) (by omega)).mono ?_
  rintro e w1 ⟨rfl, rfl⟩
  have hn2 : ¬ (1 + 5 * (m.store.length : Int) + 2 * (m.pieces.length : Int)) < 0 := by omega
  go_wp2_with fail
  have hpl := heldPile_any l h m.low.length m.high.length _ _ _ _ (1 + 5 * m.store.length + 2 * m.pieces.length) wx WL.out WH.out (by omega) (by omega) (by omega) (by omega)
  unfold pileV at hpl
  refine hpl.mono ?_
  rintro e w3 ⟨rfl, hb3⟩
  have HB3 := hide (Below.step HB.out hb3 (Nat.le_refl _))
  have hn3 : ¬ (1 + 5 * (m.store.length : Int) + 2 * (m.pieces.length : Int) + (m.low.length : Int) + (m.high.length : Int)) < 0 := by omega
  clear hpl hb3
  go_wp2_with fail
  go_ret
  refine ⟨?_, HB3.out⟩
  exact ret_i64 (by unfold marksM; omega)
end Go.Proofs.YtmemgbklgcjobaaGreatDoor
namespace Go.Proofs.YtmemgbklgcjobaaGreatDoor
open Go.ChangeShapes Go.WideShapes Go.Deep Go.RowKit
section
variable {H : Type} {enc : TypeId × Value → H} {P : Program}
theorem cells_of_strs {w : World} {base : Nat} {sp : Nat → Bool} {held : Bool} {fuel : Nat} {t e : TypeId} {n : Nat} {cs : List Value} {zs : List (List UInt8)} {p : List MemPlace}
    (ht : P.underlying t = some (.array n e)) (he : P.underlying e = some .string) (hce : P.cellsOf e = 1) (hct : P.cellsOf t = n)
    (h : DataW.trod enc P w base sp held fuel t cs = some (.agg (zs.map fun z => .lit (.string z)), p)) : cs = zs.map fun z => Value.string ⟨z.toArray⟩ := by
  cases fuel with
  | zero => simp [DataW.trod] at h
  | succ fuel =>
    simp only [DataW.trod, ht, hce, hct, Nat.mul_one] at h
    split at h
    · rename_i hl
      obtain ⟨xs, hm, hx⟩ := Option.map_eq_some_iff.1 h
      have hxs : xs.map (·.1) = zs.map fun z => (DataW.lit (.string z) : DataW H) := by
        have := congrArg Prod.fst hx
        simpa using this
      have hxl : xs.length = n := by simpa using Lib.mapM_length hm
      have hzl : zs.length = n := by
        have := congrArg List.length hxs
        simp at this
        omega
      apply List.ext_getElem?
      intro i
      by_cases hi : i < n
      · obtain ⟨b, hb, hf⟩ := Lib.mapM_at hm i i (by simp [hi])
        obtain ⟨z, hc, rfl, _⟩ := DataW.trod_string he hf
        have h1 : cs[i]? = some (.string z) := by
          have := congrArg (·[0]?) hc
          simpa [List.getElem?_take, List.getElem?_drop] using this
        have h2 : (xs.map (·.1))[i]? = some (DataW.lit (.string z.data.toList) : DataW H) := by simp [hb]
        rw [hxs] at h2
        simp only [List.getElem?_map, Option.map_eq_some_iff, DataW.lit.injEq, Lit.string.injEq] at h2
        obtain ⟨z', hz', e'⟩ := h2
        subst e'
        simp [h1, hz']
      · rw [List.getElem?_eq_none (by omega), List.getElem?_eq_none (by simp; omega)]
    · cases h
theorem law_post_v {f : Func} {s : ChangeSpec} {apart fresh handsOn : Bool} {W W' : World} {args : Array Value} {ds gs : List (DataW H)} {before : List MemPlace} {tb : TypeId}
    (hl : laidOutB P = true) (hts : ∀ t ∈ f.params.toList, P.readableRec t = true ∧ t < P.types.size) (hr : f.resultTypes = #[tb]) (hbool : P.underlying tb = some .bool)
    (hv : varsRowed P s.vars = true) (hsf : s.fn H (ds ++ gs) = { results := [.lit (.bool true)], args := ds, vars := gs })
    (hW : DataW.Whole enc P f.params.toList s.vars apart W args.toList ds gs before) (hb : Below W.heap.size W W') :
    s.post enc P f apart fresh handsOn false W args (.bool true) W' := by
  have hlt : ∀ p ∈ before, p.block < W.heap.size := fun p hp => hW.lt p hp
  have hW0 := hW
  obtain ⟨p, q, hA, hV, rfl, hz, hn⟩ := hW
  have hargs : ∀ sp : Nat → Bool, (∀ x ∈ p, sp x.block = true) → DataW.TrodAll enc P W' 0 sp true f.params.toList args.toList (s.fn H (ds ++ gs)).args p := fun sp hsp => by
    rw [hsf]
    exact trodAll_stays hl hb sp hts hA (fun x hx => hlt x (List.mem_append_left _ hx)) hsp
  have hvars : DataW.TrodVars enc P W' (fun b => decide (b < W.heap.size)) s.vars (s.fn H (ds ++ gs)).vars q := by
    rw [hsf]; exact Below.trodVars hl hb hv hV
  have hres : ∀ (b : Nat) (sp : Nat → Bool) (hd : Bool), DataW.TrodAll enc P W' b sp hd f.resultTypes.toList ((Value.bool true).resultList f.resultTypes.size) (s.fn H (ds ++ gs)).results [] := fun b sp hd => by
    rw [hsf, hr]
    exact trodAll_mk1 (shut_bool hbool _)
  have hold : ∀ x ∈ p, (fun b => decide (b < W.heap.size)) x.block = true := fun x hx => by simpa using hlt x (List.mem_append_left _ hx)
  refine ⟨ds, gs, p ++ q, [], p, q, hW0, hres _ _ _, hargs _ hold, hvars, World.keptBut_mono (fun x hx => ⟨hx, ?_⟩) (hb.frame (· ∈ p ++ q)), fun h => by cases h⟩
  rcases List.mem_append.1 hx with h | h
  · exact Or.inr (Or.inl h)
  · exact Or.inr (Or.inr h)
end
end Go.Proofs.YtmemgbklgcjobaaGreatDoor
namespace Go.Proofs.YtmemgbklgcjobaaGreatDoor
open Go.ChangeShapes Go.WideShapes Go.Deep Go.RowKit
theorem names_of {W : World} {rest : List (String × DataW Unit)} (h : laidMet Tryz.prog (("loop.example/steelmill/impl.deedNames", Rows.laid_loop_example_steelmill_impl_deedNames) :: rest) W) : NamesIs W := by
  obtain ⟨ps, ⟨g', t', cs, fuel, p, q, hg', ht', hvar, hd, _, _⟩, _⟩ := h
  obtain rfl := Option.some.inj (g_names.symm.trans hg')
  obtain rfl : 102 = t' := Option.some.inj ((show (Tryz.prog.globals[0]?).map (·.type) = some 102 by kernel_rfl).symm.trans ht')
  unfold NamesIs
  rw [hvar]
  have := cells_of_strs (zs := [[109, 101, 108, 116], [99, 117, 116], [114, 111, 108, 108], [108, 105, 102, 116], [115, 104, 105, 112]]) Tryz.underlying102 Tryz.underlying9 (by kernel_rfl) (by kernel_rfl) hd
  congr 1
  apply Array.toList_inj.1
  rw [this]
  rfl
end Go.Proofs.YtmemgbklgcjobaaGreatDoor
