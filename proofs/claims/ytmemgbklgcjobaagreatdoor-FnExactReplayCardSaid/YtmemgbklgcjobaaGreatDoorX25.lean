/-
  Parts of the proofs over mills, of: CoilPS, PileF, CutW. Conditions: each theorem states its own.
-/
import Derived.Test.YtmemgbklgcjobaaGreatDoorX23
import Derived.Test.YtmemgbklgcjobaaGreatDoorX24
set_option linter.unusedSimpArgs false
set_option linter.unusedVariables false
set_option maxRecDepth 10000
namespace Go.Proofs.YtmemgbklgcjobaaGreatDoor
open Go.RowKit
set_option maxHeartbeats 3200000 in
theorem put_spec (l h : Value) (lo hi : List Int) (t : Bool) (p id : Int) (w : World) (Hl : IntsAt 0 w.heap.size w l lo) (Hh : IntsAt 0 w.heap.size w h hi) :
    Calls Tryz.prog 115 #[pileV l h, .agg #[.bool t, .int .i64 p], .int .i64 id] w (PileGot2 w.heap.size (putR lo hi t p id).1 (.bool (putR lo hi t p id).2) w) := by
  have HL := hide Hl
  have HH := hide Hh
  clear Hl Hh
  have hp := fun W => pile_spec l h lo hi W
  have hq := fun W => at_spec l h lo hi t p W
  have hc := fun W H1 H2 n1 n2 => l6Copy_any l h lo hi W H1 H2 n1 n2
  unfold pileV at hp hq hc ⊢
  have HP := hide hp
  have HQ := hide hq
  have HC := hide hc
  clear hp hq hc
  go_enter Tryz.func115, Tryz.ntmps115
  go_wp2_with fail
  refine calls_at fun wx hwx => ?_
  have A_0 : RowL wx (w.heap.size) 29 [l, h] := by rw [hwx]; exact (((RowL.new _ 29 [l, h]).alloc _).alloc _)
  have S_0 : RowL wx (w.heap.size + 1) 128 [.bool t, .int .i64 p] := by rw [hwx]; simpa using ((RowL.new (World.alloc _ _) 128 [.bool t, .int .i64 p]).alloc _)
  have R_0 : RowL wx (w.heap.size + 1 + 1) 29 [.slice none 0 0, .slice none 0 0] := by rw [hwx]; simpa using (RowL.new (World.alloc (World.alloc _ _) _) 29 [.slice none 0 0, .slice none 0 0])
  have B_0 : Below w.heap.size w wx := by rw [hwx]; go_grown
  clear hwx
  have hL0 := R_0.lt
  have VL_0 := hide (HL.out.below B_0)
  have VH_0 := hide (HH.out.below B_0)
  have k1 := HP.out wx ((VL_0.out).mono (Nat.le_refl _) (VL_0.out).lt (Nat.le_refl _)) ((VH_0.out).mono (Nat.le_refl _) (VH_0.out).lt (Nat.le_refl _))
  cases c1 : pileB lo hi with
  | false =>
    rw [c1] at k1
    have HZ := hide (put_bad (t := t) (p := p) (id := id) c1)
    clear c1
    refine (k1).mono ?_
    rintro e w1 ⟨rfl, hb⟩
    have A_1 := A_0.below hb A_0.lt
    have S_1 := S_0.below hb S_0.lt
    have R_1 := R_0.below hb R_0.lt
    have VL_1 := hide (VL_0.out.below hb)
    have VH_1 := hide (VH_0.out.below hb)
    have B_1 := hide (Below.step B_0 hb (Nat.le_refl _))
    have hz1 := hb.size
    clear hb
    have cR0 := R_1.c 0 rfl
    have cR1 := R_1.c 1 rfl
    have fR0 := R_1.frozen 0
    have fR1 := R_1.frozen 1
    clear k1
    go_wp2_with fail
    refine bodyPost_ret (by simp [results, Tryz.results115, go_sem, cR0, cR1]; try rfl) rfl ?_
    rw [HZ.out]
    exact ⟨_, _, rfl, pileOwn_nil (by have := (B_1.out).size; simpa [World.setCell] using this), ((B_1.out).setCell (by simp; omega) _).setCell (by simp; omega) _⟩
  | true =>
    rw [c1] at k1
    obtain ⟨n1, n2⟩ := pile_lens c1
    have C1 := hide c1
    clear c1
    refine (k1).mono ?_
    rintro e w1 ⟨rfl, hb⟩
    have A_1 := A_0.below hb A_0.lt
    have S_1 := S_0.below hb S_0.lt
    have R_1 := R_0.below hb R_0.lt
    have VL_1 := hide (VL_0.out.below hb)
    have VH_1 := hide (VH_0.out.below hb)
    have B_1 := hide (Below.step B_0 hb (Nat.le_refl _))
    have hz1 := hb.size
    clear hb
    have cA0 := A_1.c 0 rfl
    have cA1 := A_1.c 1 rfl
    have cS0 := S_1.c 0 rfl
    have cS1 := S_1.c 1 rfl
    clear k1
    go_wp2_with fail
    have hzR := R_1.lt
    refine (HC.out w1 ((VL_1.out).mono (Nat.le_refl _) (VL_1.out).lt (Nat.le_refl _)) ((VH_1.out).mono (Nat.le_refl _) (VH_1.out).lt (Nat.le_refl _)) n1 n2).mono ?_
    rintro e w2 ⟨lc, hc, rfl, own, hb⟩
    have A_2 := A_1.below hb A_1.lt
    have S_2 := S_1.below hb S_1.lt
    have R_2 := R_1.below hb R_1.lt
    have VL_2 := hide (VL_1.out.below hb)
    have VH_2 := hide (VH_1.out.below hb)
    have B_2 := hide (Below.step B_1.out hb (Nat.le_refl _))
    have hz2 := hb.size
    clear hb
    have cA0 := A_2.c 0 rfl
    have cA1 := A_2.c 1 rfl
    have cS0 := S_2.c 0 rfl
    have cS1 := S_2.c 1 rfl
    have cR0 := R_2.c 0 rfl
    have cR1 := R_2.c 1 rfl
    have fR0 := R_2.frozen 0
    have fR1 := R_2.frozen 1
    simp only [pileV]
    have O_c := hide own
    obtain ⟨alc, clc, rfl, -, -⟩ := own.lo.form
    obtain ⟨ahc, chc, rfl, -, -⟩ := own.ho.form
    clear own
    have hzcc : w.heap.size + 1 + 1 + 1 ≤ w1.heap.size := hzR
    have hzR2 := R_2.lt
    have hzA2 := A_2.lt
    have hzS2 := S_2.lt
    go_wp2_with fail
    refine calls_at fun w4 hw4 => ?_
    have T_4 : RowL w4 w2.heap.size 29 [.slice alc lo.length clc, .slice ahc hi.length chc] := by rw [hw4]; exact RowL.new _ _ _
    have hb4 : Below w2.heap.size w2 w4 := by rw [hw4]; exact (Below.refl _ _).alloc (Nat.le_refl _) _
    have A_4 := A_2.below hb4 A_2.lt
    have S_4 := S_2.below hb4 S_2.lt
    have R_4 := R_2.below hb4 R_2.lt
    have VL_4 := hide (VL_2.out.below hb4)
    have VH_4 := hide (VH_2.out.below hb4)
    have B_4 := hide (Below.step B_2.out hb4 (Nat.le_refl _))
    have O_4 := hide (O_c.out.below hb4 (Nat.le_refl _))
    have hoT := O_c.out
    clear hw4 hb4 cA0 cA1 cS0 cS1 cR0 cR1 fR0 fR1
    have hT4 := T_4.lt
    refine (HQ.out w4 ((VL_4.out).mono (Nat.le_refl _) (VL_4.out).lt (Nat.le_refl _)) ((VH_4.out).mono (Nat.le_refl _) (VH_4.out).lt (Nat.le_refl _))).mono ?_
    rintro e w5 ⟨rfl, hb⟩
    have A_5 := A_4.below hb A_4.lt
    have S_5 := S_4.below hb S_4.lt
    have R_5 := R_4.below hb R_4.lt
    have T_5 := T_4.below hb T_4.lt
    have VL_5 := hide (VL_4.out.below hb)
    have VH_5 := hide (VH_4.out.below hb)
    have B_5 := hide (Below.step B_4.out hb (Nat.le_refl _))
    have hz5 := hb.size
    have O_5 := hide (O_4.out.below hb (Nat.le_refl _))
    clear hb
    have cT0 := T_5.c 0 rfl
    have cT1 := T_5.c 1 rfl
    have cS0 := S_5.c 0 rfl
    have cS1 := S_5.c 1 rfl
    have cR0 := R_5.c 0 rfl
    have cR1 := R_5.c 1 rfl
    have fR0 := R_5.frozen 0
    have fR1 := R_5.frozen 1
    by_cases hat : atR lo hi t p = 0
    rotate_left
    · have HZ := hide (put_full (id := id) C1.out hat)
      obtain ⟨a, ha⟩ : ∃ a, atR lo hi t p = a := ⟨_, rfl⟩
      rw [ha] at hat ⊢
      have hatB : (a != 0) = true := by simpa using hat
      clear ha hat hoT
      go_wp2_with fail
      refine bodyPost_ret (by simp [results, Tryz.results115, go_sem, cR0, cR1]; try rfl) rfl ?_
      rw [HZ.out]
      exact ⟨_, _, rfl, (O_5.out.other (((Other.refl (w.heap.size + 1 + 1) (w.heap.size + 1 + 1 + 1) w5).setCell (p := ⟨w.heap.size + 1 + 1, 0, none⟩) (Nat.le_refl _) (Nat.lt_succ_self _) _).setCell (p := ⟨w.heap.size + 1 + 1, 1, none⟩) (Nat.le_refl _) (Nat.lt_succ_self _) _) (by omega)).mono (by omega), ((B_5.out).setCell (by simp; omega) _).setCell (by simp; omega) _⟩
    by_cases hid : id < 1
    · have HZ := hide (put_low (t := t) (p := p) C1.out hid)
      rw [hat]
      clear hoT hat
      go_wp2_with fail
      refine bodyPost_ret (by simp [results, Tryz.results115, go_sem, cR0, cR1]; try rfl) rfl ?_
      rw [HZ.out]
      exact ⟨_, _, rfl, (O_5.out.other (((Other.refl (w.heap.size + 1 + 1) (w.heap.size + 1 + 1 + 1) w5).setCell (p := ⟨w.heap.size + 1 + 1, 0, none⟩) (Nat.le_refl _) (Nat.lt_succ_self _) _).setCell (p := ⟨w.heap.size + 1 + 1, 1, none⟩) (Nat.le_refl _) (Nat.lt_succ_self _) _) (by omega)).mono (by omega), ((B_5.out).setCell (by simp; omega) _).setCell (by simp; omega) _⟩
    have HAT := hide hat
    rw [hat]
    obtain ⟨-, j, rfl, hjl, -⟩ := at_row (show 0 ≤ atR lo hi t p by omega)
    clear hat
    clear cS0 cS1 fR0 fR1 cR0 cR1 cT0 cT1
    cases t with
    | false =>
      obtain ⟨gg, cg, er⟩ := O_5.out.form false hjl
      have er2 : Value.slice alc lo.length clc = .slice (some ⟨gg, 0, none⟩) lo.length cg := er
      simp only [Value.slice.injEq] at er2
      obtain ⟨rfl, -, rfl⟩ := er2
      have hgT : gg < w2.heap.size := (hoT.cellAt er hjl).2.2.2
      obtain ⟨cg0, fg0, hgb, hgl⟩ := O_5.out.cellAt er hjl
      have HER := hide er
      have hjl2 : j < lo.length := hjl
      have hjI : (j : Int) < (lo.length : Int) := by omega
      have hj0 : (0 : Int) ≤ (j : Int) := by omega
      clear er hoT
      have hneT : gg ≠ w2.heap.size := by omega
      have hneT2 : w2.heap.size ≠ gg := by omega
      have cT0 := T_5.c 0 rfl
      have cT1 := T_5.c 1 rfl
      have cS0 := S_5.c 0 rfl
      have cS1 := S_5.c 1 rfl
      go_wp2_with fail
      refine calls_at fun w6 hw6 => ?_
      obtain ⟨q1, ho6⟩ := O_5.out.set HER.out hjl id
      rw [← hw6] at q1 ho6
      have O_6 := hide q1
      clear q1 hw6 cg0 fg0
      have A_6 := A_5.other ho6 (by omega)
      have S_6 := S_5.other ho6 (by omega)
      have R_6 := R_5.other ho6 (by omega)
      have T_6 := T_5.other ho6 (by omega)
      have VL_6 := hide (VL_5.out.other ho6 (.inl (by omega)))
      have VH_6 := hide (VH_5.out.other ho6 (.inl (by omega)))
      have B_6 := hide (B_5.out.trans (ho6.below (B := w.heap.size) (by omega) (B_5.out).size))
      clear ho6 cT0 cT1 cS0 cS1
      have k3 := pile_spec (.slice (some ⟨gg, 0, none⟩) lo.length clc) (.slice ahc hi.length chc) _ _ w6 O_6.out.low0 O_6.out.high0
      unfold pileV at k3
      cases c3 : pileB (setR false lo hi (j : Int) id).1 (setR false lo hi (j : Int) id).2 with
      | false =>
        rw [c3] at k3
        have HZ := hide (put_not C1.out HAT.out c3)
        clear c3
        refine (k3).mono ?_
        rintro e w7 ⟨rfl, hb⟩
        have A_7 := A_6.below hb A_6.lt
        have S_7 := S_6.below hb S_6.lt
        have R_7 := R_6.below hb R_6.lt
        have T_7 := T_6.below hb T_6.lt
        have VL_7 := hide (VL_6.out.below hb)
        have VH_7 := hide (VH_6.out.below hb)
        have B_7 := hide (Below.step B_6.out hb (Nat.le_refl _))
        have hz7 := hb.size
        clear hb
        have cA0 := A_7.c 0 rfl
        have cA1 := A_7.c 1 rfl
        clear k3
        go_wp2_with fail
        have hzR := R_7.lt
        refine (HC.out w7 ((VL_7.out).mono (Nat.le_refl _) (VL_7.out).lt (Nat.le_refl _)) ((VH_7.out).mono (Nat.le_refl _) (VH_7.out).lt (Nat.le_refl _)) n1 n2).mono ?_
        rintro e w8 ⟨ld, hd, rfl, own, hb⟩
        have A_8 := A_7.below hb A_7.lt
        have S_8 := S_7.below hb S_7.lt
        have R_8 := R_7.below hb R_7.lt
        have T_8 := T_7.below hb T_7.lt
        have VL_8 := hide (VL_7.out.below hb)
        have VH_8 := hide (VH_7.out.below hb)
        have B_8 := hide (Below.step B_7.out hb (Nat.le_refl _))
        have hz8 := hb.size
        clear hb
        have cA0 := A_8.c 0 rfl
        have cA1 := A_8.c 1 rfl
        have cS0 := S_8.c 0 rfl
        have cS1 := S_8.c 1 rfl
        have cR0 := R_8.c 0 rfl
        have cR1 := R_8.c 1 rfl
        have fR0 := R_8.frozen 0
        have fR1 := R_8.frozen 1
        simp only [pileV]
        have O_d := hide own
        obtain ⟨ald, cld, rfl, -, -⟩ := own.lo.form
        obtain ⟨ahd, chd, rfl, -, -⟩ := own.ho.form
        clear own
        have hzcd : w.heap.size + 1 + 1 + 1 ≤ w7.heap.size := hzR
        go_wp2_with fail
        refine bodyPost_ret (by simp [results, Tryz.results115, go_sem, cR0, cR1]; try rfl) rfl ?_
        rw [HZ.out]
        exact ⟨_, _, rfl, (O_d.out.other (((Other.refl (w.heap.size + 1 + 1) (w.heap.size + 1 + 1 + 1) w8).setCell (p := ⟨w.heap.size + 1 + 1, 0, none⟩) (Nat.le_refl _) (Nat.lt_succ_self _) _).setCell (p := ⟨w.heap.size + 1 + 1, 1, none⟩) (Nat.le_refl _) (Nat.lt_succ_self _) _) (by omega)).mono (by omega), ((B_8.out).setCell (by simp; omega) _).setCell (by simp; omega) _⟩
      | true =>
        rw [c3] at k3
        have HZ := hide (put_yes C1.out (by omega) HAT.out c3)
        clear c3
        refine (k3).mono ?_
        rintro e w7 ⟨rfl, hb⟩
        have A_7 := A_6.below hb A_6.lt
        have S_7 := S_6.below hb S_6.lt
        have R_7 := R_6.below hb R_6.lt
        have T_7 := T_6.below hb T_6.lt
        have VL_7 := hide (VL_6.out.below hb)
        have VH_7 := hide (VH_6.out.below hb)
        have B_7 := hide (Below.step B_6.out hb (Nat.le_refl _))
        have hz7 := hb.size
        have O_7 := hide (O_6.out.below hb (Nat.le_refl _))
        clear hb
        have cT0 := T_7.c 0 rfl
        have cT1 := T_7.c 1 rfl
        have cR0 := R_7.c 0 rfl
        have cR1 := R_7.c 1 rfl
        have fR0 := R_7.frozen 0
        have fR1 := R_7.frozen 1
        clear k3
        go_wp2_with fail
        refine bodyPost_ret (by simp [results, Tryz.results115, go_sem, cR0, cR1]; try rfl) rfl ?_
        rw [HZ.out]
        exact ⟨_, _, rfl, (O_7.out.other (((Other.refl (w.heap.size + 1 + 1) (w.heap.size + 1 + 1 + 1) w7).setCell (p := ⟨w.heap.size + 1 + 1, 0, none⟩) (Nat.le_refl _) (Nat.lt_succ_self _) _).setCell (p := ⟨w.heap.size + 1 + 1, 1, none⟩) (Nat.le_refl _) (Nat.lt_succ_self _) _) (by omega)).mono (by omega), ((B_7.out).setCell (by simp; omega) _).setCell (by simp; omega) _⟩
    | true =>
      obtain ⟨gg, cg, er⟩ := O_5.out.form true hjl
      have er2 : Value.slice ahc hi.length chc = .slice (some ⟨gg, 0, none⟩) hi.length cg := er
      simp only [Value.slice.injEq] at er2
      obtain ⟨rfl, -, rfl⟩ := er2
      have hgT : gg < w2.heap.size := (hoT.cellAt er hjl).2.2.2
      obtain ⟨cg0, fg0, hgb, hgl⟩ := O_5.out.cellAt er hjl
      have HER := hide er
      have hjl2 : j < hi.length := hjl
      have hjI : (j : Int) < (hi.length : Int) := by omega
      have hj0 : (0 : Int) ≤ (j : Int) := by omega
      clear er hoT
      have hneT : gg ≠ w2.heap.size := by omega
      have hneT2 : w2.heap.size ≠ gg := by omega
      have cT0 := T_5.c 0 rfl
      have cT1 := T_5.c 1 rfl
      have cS0 := S_5.c 0 rfl
      have cS1 := S_5.c 1 rfl
      go_wp2_with fail
      refine calls_at fun w6 hw6 => ?_
      obtain ⟨q1, ho6⟩ := O_5.out.set HER.out hjl id
      rw [← hw6] at q1 ho6
      have O_6 := hide q1
      clear q1 hw6 cg0 fg0
      have A_6 := A_5.other ho6 (by omega)
      have S_6 := S_5.other ho6 (by omega)
      have R_6 := R_5.other ho6 (by omega)
      have T_6 := T_5.other ho6 (by omega)
      have VL_6 := hide (VL_5.out.other ho6 (.inl (by omega)))
      have VH_6 := hide (VH_5.out.other ho6 (.inl (by omega)))
      have B_6 := hide (B_5.out.trans (ho6.below (B := w.heap.size) (by omega) (B_5.out).size))
      clear ho6 cT0 cT1 cS0 cS1
      have k3 := pile_spec (.slice alc lo.length clc) (.slice (some ⟨gg, 0, none⟩) hi.length chc) _ _ w6 O_6.out.low0 O_6.out.high0
      unfold pileV at k3
      cases c3 : pileB (setR true lo hi (j : Int) id).1 (setR true lo hi (j : Int) id).2 with
      | false =>
        rw [c3] at k3
        have HZ := hide (put_not C1.out HAT.out c3)
        clear c3
        refine (k3).mono ?_
        rintro e w7 ⟨rfl, hb⟩
        have A_7 := A_6.below hb A_6.lt
        have S_7 := S_6.below hb S_6.lt
        have R_7 := R_6.below hb R_6.lt
        have T_7 := T_6.below hb T_6.lt
        have VL_7 := hide (VL_6.out.below hb)
        have VH_7 := hide (VH_6.out.below hb)
        have B_7 := hide (Below.step B_6.out hb (Nat.le_refl _))
        have hz7 := hb.size
        clear hb
        have cA0 := A_7.c 0 rfl
        have cA1 := A_7.c 1 rfl
        clear k3
        go_wp2_with fail
        have hzR := R_7.lt
        refine (HC.out w7 ((VL_7.out).mono (Nat.le_refl _) (VL_7.out).lt (Nat.le_refl _)) ((VH_7.out).mono (Nat.le_refl _) (VH_7.out).lt (Nat.le_refl _)) n1 n2).mono ?_
        rintro e w8 ⟨ld, hd, rfl, own, hb⟩
        have A_8 := A_7.below hb A_7.lt
        have S_8 := S_7.below hb S_7.lt
        have R_8 := R_7.below hb R_7.lt
        have T_8 := T_7.below hb T_7.lt
        have VL_8 := hide (VL_7.out.below hb)
        have VH_8 := hide (VH_7.out.below hb)
        have B_8 := hide (Below.step B_7.out hb (Nat.le_refl _))
        have hz8 := hb.size
        clear hb
        have cA0 := A_8.c 0 rfl
        have cA1 := A_8.c 1 rfl
        have cS0 := S_8.c 0 rfl
        have cS1 := S_8.c 1 rfl
        have cR0 := R_8.c 0 rfl
        have cR1 := R_8.c 1 rfl
        have fR0 := R_8.frozen 0
        have fR1 := R_8.frozen 1
        simp only [pileV]
        have O_d := hide own
        obtain ⟨ald, cld, rfl, -, -⟩ := own.lo.form
        obtain ⟨ahd, chd, rfl, -, -⟩ := own.ho.form
        clear own
        have hzcd : w.heap.size + 1 + 1 + 1 ≤ w7.heap.size := hzR
        go_wp2_with fail
        refine bodyPost_ret (by simp [results, Tryz.results115, go_sem, cR0, cR1]; try rfl) rfl ?_
        rw [HZ.out]
        exact ⟨_, _, rfl, (O_d.out.other (((Other.refl (w.heap.size + 1 + 1) (w.heap.size + 1 + 1 + 1) w8).setCell (p := ⟨w.heap.size + 1 + 1, 0, none⟩) (Nat.le_refl _) (Nat.lt_succ_self _) _).setCell (p := ⟨w.heap.size + 1 + 1, 1, none⟩) (Nat.le_refl _) (Nat.lt_succ_self _) _) (by omega)).mono (by omega), ((B_8.out).setCell (by simp; omega) _).setCell (by simp; omega) _⟩
      | true =>
        rw [c3] at k3
        have HZ := hide (put_yes C1.out (by omega) HAT.out c3)
        clear c3
        refine (k3).mono ?_
        rintro e w7 ⟨rfl, hb⟩
        have A_7 := A_6.below hb A_6.lt
        have S_7 := S_6.below hb S_6.lt
        have R_7 := R_6.below hb R_6.lt
        have T_7 := T_6.below hb T_6.lt
        have VL_7 := hide (VL_6.out.below hb)
        have VH_7 := hide (VH_6.out.below hb)
        have B_7 := hide (Below.step B_6.out hb (Nat.le_refl _))
        have hz7 := hb.size
        have O_7 := hide (O_6.out.below hb (Nat.le_refl _))
        clear hb
        have cT0 := T_7.c 0 rfl
        have cT1 := T_7.c 1 rfl
        have cR0 := R_7.c 0 rfl
        have cR1 := R_7.c 1 rfl
        have fR0 := R_7.frozen 0
        have fR1 := R_7.frozen 1
        clear k3
        go_wp2_with fail
        refine bodyPost_ret (by simp [results, Tryz.results115, go_sem, cR0, cR1]; try rfl) rfl ?_
        rw [HZ.out]
        exact ⟨_, _, rfl, (O_7.out.other (((Other.refl (w.heap.size + 1 + 1) (w.heap.size + 1 + 1 + 1) w7).setCell (p := ⟨w.heap.size + 1 + 1, 0, none⟩) (Nat.le_refl _) (Nat.lt_succ_self _) _).setCell (p := ⟨w.heap.size + 1 + 1, 1, none⟩) (Nat.le_refl _) (Nat.lt_succ_self _) _) (by omega)).mono (by omega), ((B_7.out).setCell (by simp; omega) _).setCell (by simp; omega) _⟩
theorem sort_any (base : Nat) (v : Value) (xs : List Int) (w : World) (h : w.ownsRow base 3 1 v xs.length (flatI xs)) (hl : xs.length ≤ 1000) (hb : base ≤ w.heap.size) :
    Calls Tryz.prog 105 #[v] w fun e w' => e = .returned (.tuple #[]) ∧ ∃ ys : List Int, ys.Perm xs ∧ ys.Pairwise (· ≤ ·) ∧ ys.length = xs.length ∧ w'.ownsRow base 3 1 v ys.length (flatI ys) ∧ Below base w w' := by
  rcases id h.2 with ⟨rfl, h0⟩ | ⟨g, cap, cur, rfl, hbg, hg, h1, h2, h3, h4⟩
  · obtain rfl : xs = [] := List.eq_nil_of_length_eq_zero h0
    exact (Tryz.slices_Sort_int_none none 0 w).mono fun e w' ⟨he, hw⟩ => ⟨he, [], List.Perm.refl _, List.Pairwise.nil, rfl, by rw [hw]; exact h, by rw [hw]; exact Below.refl _ _⟩
  · have hlt := (Array.getElem?_eq_some_iff.1 hg).1
    refine (Tryz.slices_Sort_int g 0 cap xs w (holds_of_blockI hg (by rw [Nat.mul_one] at h4; exact h4)) hlt (by omega)).mono ?_
    rintro e w' ⟨he, n, os, rfl⟩
    have hp := List.mergeSort_perm xs fun x y => decide (x ≤ y)
    have hlen := hp.length_eq
    refine ⟨he, _, hp, ?_, hlen, ?_, ?_⟩
    · have := List.pairwise_mergeSort (le := fun x y : Int => decide (x ≤ y)) (fun a b c h1 h2 => by simp at *; omega) (fun a b => by simp; omega) xs
      exact this.imp fun h => by simpa using h
    · rw [hlen]
      have := ownsRow_sortedI (os := os) (n := n) (w := w) hlen hbg hg h1 h2 h3
      exact this
    · exact (Below.refl _ _).grown (grownBy_sortedI _) hb fun k hk => by simp at hk; omega
theorem nz_take {xs : List Int} {k : Nat} (hk : k < xs.length) : nz (xs.take (k + 1)) = if xs[k] = 0 then nz (xs.take k) else nz (xs.take k) ++ [xs[k]] := by
  rw [List.take_succ_eq_append_getElem hk, nz_app]
  split
  · rename_i h; simp [nz, h]
  · rename_i h; simp [nz, h]
theorem nz_len (l : List Int) : (nz l).length ≤ l.length := List.length_filter_le _ _
set_option maxHeartbeats 1600000 in
theorem coils_impl (l h : Value) (lo hi : List Int) (w : World) (Hl : IntsAt 0 w.heap.size w l lo) (Hh : IntsAt 0 w.heap.size w h hi) :
    Calls Tryz.prog 37 #[pileV l h] w (IntsNew w.heap.size (coilR lo hi) w) := by
  have HL := hide Hl
  have HH := hide Hh
  obtain ⟨ao1, cap1, rfl, -, -, -, -⟩ := Hl
  obtain ⟨ao2, cap2, rfl, -, -, -, -⟩ := Hh
  have hP := fun W H1 H2 => pile_impl (.slice ao1 lo.length cap1) (.slice ao2 hi.length cap2) lo hi W H1 H2
  unfold pileV at hP ⊢
  have HP := hide hP
  obtain ⟨i0, hi0, hz0, hi1, hi2⟩ := info_parts info_int
  clear hP
  go_enter Tryz.func37, Tryz.ntmps37
  go_wp2_with fail
  refine calls_at fun wx hwx => ?_
  have R0 : RowL wx w.heap.size 29 [.slice ao1 lo.length cap1, .slice ao2 hi.length cap2] := by rw [hwx]; exact RowL.new _ _ _
  have hb0 : Below w.heap.size w wx := by rw [hwx]; go_grown
  clear hwx
  refine (HP.out wx ((HL.out.below hb0).mono (Nat.le_refl _) hb0.size (Nat.le_refl _)) ((HH.out.below hb0).mono (Nat.le_refl _) hb0.size (Nat.le_refl _))).mono ?_
  cases hv : pileB lo hi with
  | false =>
    rintro e w1 ⟨rfl, hb1⟩
    have HB1 := hide (Below.step hb0 hb1 (Nat.le_refl _))
    have HF := hide (show coilR lo hi = [] by simp [coilR, hv])
    clear hb1 hv
    go_wp2_with fail
    go_ret
    exact ⟨_, rfl, by rw [HF.out]; exact World.ownsRow_nil _ _ _ _, HB1.out⟩
  | true =>
    rintro e w1 ⟨rfl, hb1⟩
    have HV := hide (pileB_iff.1 hv)
    have HB1 := hide (Below.step hb0 hb1 (Nat.le_refl _))
    have R1 := R0.below hb1 R0.lt
    have hp0 := R1.cell 0 (by simp)
    have hp1 := R1.cell 1 (by simp)
    simp only [List.getD_cons_zero, List.getD_cons_succ] at hp0 hp1
    have q1 := HV.out.l1
    have q2 := HV.out.l6
    have q3 := HV.out.lh
    have hz0' := R1.lt
    clear hb1 hv
    go_wp2_with fail
    refine calls_at fun wy hwy => ?_
    have R2 : RowL wy w1.heap.size 27 [.slice ao1 lo.length cap1, .slice ao2 hi.length cap2] := by rw [hwy]; exact RowL.new _ _ _
    have hby : Below w1.heap.size w1 wy := by rw [hwy]; go_grown
    clear hwy hp0 hp1
    have hBy := Below.step HB1.out hby (Nat.le_refl _)
    refine (concat_any _ _ _ _ lo hi _ R2 ((HL.out.below hBy).mono (Nat.le_refl _) hBy.size (Nat.le_refl _)) ((HH.out.below hBy).mono (Nat.le_refl _) hBy.size (Nat.le_refl _)) (by omega) (by omega)).mono ?_
    rintro e w2 ⟨v, rfl, hown, hb2⟩
    have hat := ownI_at hown rfl hb2.size
    obtain ⟨ids, hids⟩ : ∃ ids, lo ++ hi = ids := ⟨_, rfl⟩
    have hil : ids.length = lo.length + hi.length := by rw [← hids]; simp
    rw [hids] at hat hown
    have HIDS := hide hids
    have HAT := hide hat
    have HB2 := hide (Below.step hBy hb2 (Nat.le_refl _))
    obtain ⟨aov, capv, rfl, -, -⟩ := own_slice hown
    have hl3 : ids.length ≤ 20 := by omega
    clear hown hb2 hids hat hil
    obtain ⟨aov', capv', e', -, -, -, hcv⟩ := HAT.out
    simp only [Value.slice.injEq] at e'
    obtain ⟨rfl, -, rfl⟩ := e'
    have HCV := hide hcv
    have hsz2 := HB2.out.size
    clear hcv
    go_wp2_with fail
    go_loopw [3, 5, 16] (fun o _ i wr => ∃ k : Nat, k ≤ ids.length ∧ i = .int .i64 k ∧ Below w2.heap.size w2 wr ∧ wr.ownsRow w2.heap.size 3 1 o (nz (ids.take k)).length (flatI (nz (ids.take k)))) (fun _ _ i _ => ids.length - (intOf i).toNat)
    case atStart => exact ⟨0, Nat.zero_le _, rfl, Below.refl _ _, World.ownsRow_nil _ _ _ _⟩
    case round =>
      obtain ⟨k, hk, rfl, hb, hown⟩ := hrel
      have HB := hide hb
      have HO := hide hown
      have hnl := nz_len (ids.take k)
      have htk : (ids.take k).length ≤ k := List.length_take_le _ _
      have hszr := hb.size
      obtain ⟨aow, capw, rfl, -, -⟩ := own_slice hown
      clear hown
      by_cases hlt : k < ids.length
      · obtain ⟨b, o, rfl, hx1, hx2, hcs⟩ := HCV.out (by omega)
        obtain ⟨r1, -⟩ := hcs k hlt
        rw [← hb.cell (p := ⟨b, _, none⟩) (by simpa using by omega)] at r1
        have HN := hide (nz_take hlt)
        obtain ⟨x, hx⟩ : ∃ x, ids[k] = x := ⟨_, rfl⟩
        rw [hx] at r1 HN
        have hkI : (k : Int) < (ids.length : Int) := by omega
        clear hcs hx hb
        by_cases hq : x = 0
        · have hqB : (x != 0) = false := by simp [hq]
          have HN2 := hide (show nz (ids.take (k + 1)) = nz (ids.take k) by rw [HN.out, if_pos hq])
          clear hq
          go_wp2_with fail
          go_roundw
          case rel => exact ⟨k + 1, by omega, by go_num, HB.out, by rw [HN2.out]; exact HO.out⟩
          case measure => simp [intOf]; omega
        · have hqB : (x != 0) = true := by simp [hq]
          have HN2 := hide (show nz (ids.take (k + 1)) = nz (ids.take k) ++ [x] by rw [HN.out, if_neg hq])
          clear hq
          go_wp2_with (at_builtin; refine wpList_append_view rfl _ _ 27 rfl w2.heap.size 3 i0 (.int .i64 0) 1 8 Tryz.underlying27 hi0 hz0 hi1 hi2 rfl (by decide) _ _ _ rfl (HO.out.alloc _) (.slice (some ⟨wr.heap.size, 0, none⟩) 1 1) 1 [.int .i64 x] rfl ?c0 ?c1 ?c2 ?c3 ?_)
          case c0 => exact Source.lit wr [.int .i64 x] 1 3 1 rfl (fun u hu => by simp at hu; subst hu; rfl) 1
          case c1 => unfold maxLen; omega
          case c2 => omega
          case c3 => simp; omega
          intro v2 w3 hown2 hgrow2 _
          have hB3 := (HB.out.alloc hszr (.cells #[.int .i64 x] 3)).trans (Below.grow hgrow2 (HO.out.alloc _) (Nat.le_refl _) (by simp; omega))
          have HB3 := hide hB3
          have HO3 := hide (show w3.ownsRow w2.heap.size 3 1 v2 (nz (ids.take (k + 1))).length (flatI (nz (ids.take (k + 1)))) by rw [HN2.out]; simpa [flatI] using hown2)
          clear hown2 hgrow2 hB3
          go_wp2_with fail
          go_roundw
          case rel => exact ⟨k + 1, by omega, by go_num, HB3.out, HO3.out⟩
          case measure => simp [intOf]; omega
      · obtain rfl : k = ids.length := by omega
        rw [List.take_of_length_le (Nat.le_refl _)] at HO ⊢
        have HBr := hide (HB2.out.trans (HB.out.mono hsz2))
        clear hb
        go_wp2_with fail
        refine (sort_any w2.heap.size _ (nz ids) _ HO.out (by have := nz_len ids; omega) hszr).mono ?_
        rintro e w4 ⟨rfl, ys, hp, hs, hly, hown, hb4⟩
        have hc := coil_sorted HV.out (l := ys) (by rw [HIDS.out]; exact hp) hs
        rw [hly] at hown
        have HO4 := hide (show w4.ownsRow w.heap.size 3 1 (.slice aow (nz ids).length capw) (coilR lo hi).length (flatI (coilR lo hi)) by rw [← hc, hly]; exact ownsRow_mono hown hsz2)
        have HB4 := hide (HBr.out.trans (hb4.mono hsz2))
        clear hp hs hly hown hb4 hc
        go_wp2_with fail
        go_ret
        exact ⟨_, rfl, HO4.out, HB4.out⟩
theorem many_sums {L : Nat} {a b : Int} (h : lensB a b = true) : 0 ≤ (many0 L a b : Int) * a ∧ 0 ≤ (many1 L a b : Int) * b ∧ (many0 L a b : Int) * a + (many1 L a b : Int) * b ≤ L := by
  obtain ⟨⟨h1, h2⟩, h3, h4⟩ := lensB_iff.1 h
  obtain ⟨-, e0⟩ := many_le h (show (0 : Int) ≤ L by omega)
  exact ⟨Int.mul_nonneg (by omega) (by omega), Int.mul_nonneg (by omega) (by omega), e0⟩
theorem tdiv_ge {n : Nat} {x y : Int} (hx : 0 ≤ x) (hy : 1 ≤ y) (h : (n : Int) * y ≤ x) (hl : x ≤ 60) : (n : Int) ≤ x.tdiv y ∧ 0 ≤ x.tdiv y ∧ x.tdiv y ≤ 60 := by
  rw [Int.tdiv_eq_ediv_of_nonneg hx]
  have h1 : (n : Int) ≤ x / y := Int.le_ediv_of_mul_le (by omega) h
  have h2 : x / y ≤ x := Int.ediv_le_self _ hx
  have h3 : 0 ≤ x / y := Int.ediv_nonneg hx (by omega)
  omega
set_option maxHeartbeats 1600000 in
theorem cutWaste_impl (v mv : Value) (a b : Int) (lo hi lo2 hi2 L : Nat) (hL : L ≤ 60) (hv : lensB a b = true) (w : World) (H : IntsAt lo hi w v [a, b]) (H2 : IntsAt lo2 hi2 w mv (manyL L a b)) :
    Calls Tryz.prog 163 #[.int .i64 (L : Int), v, mv] w fun e w' => e = .returned (.int .i64 (wasteR L a b)) ∧ w = w' := by
  have HV := hide hv
  obtain ⟨⟨ha1, ha2⟩, hb1, hb2⟩ := lensB_iff.1 hv
  obtain ⟨hn0, hn1⟩ := many_bd hv (show (0 : Int) ≤ L by omega)
  obtain ⟨hs0, hs1, hs2⟩ := many_sums (L := L) hv
  have hlen := lens_impl v a b lo hi w H
  rw [hv] at hlen
  have HLN := hide hlen
  obtain ⟨b0, o0, cap, rfl, -, -, c0, c1⟩ := two_at H
  have hR : wasteR L a b = L - many0 L a b * a - many1 L a b * b := rfl
  unfold manyL at H2
  obtain ⟨n0, hn0e⟩ : ∃ n : Nat, many0 L a b = n := ⟨_, rfl⟩
  obtain ⟨n1, hn1e⟩ : ∃ n : Nat, many1 L a b = n := ⟨_, rfl⟩
  rw [hn0e, hn1e] at H2 hR
  rw [hn0e] at hn1 hs0 hs2
  rw [hn1e] at hn0 hs1 hs2
  obtain ⟨b2, o2, cap2, rfl, -, -, m0, m1⟩ := two_at H2
  have hq := fun W => within_any (L : Int) 0 60 W
  rw [show wi (L : Int) 0 60 = true from wi_iff.2 (by omega)] at hq
  have hq0 := fun W => within_any (n0 : Int) 0 (L : Int) W
  rw [show wi (n0 : Int) 0 (L : Int) = true from wi_iff.2 (by omega)] at hq0
  have hq1 := fun W => within_any (n1 : Int) 0 (L : Int) W
  rw [show wi (n1 : Int) 0 (L : Int) = true from wi_iff.2 (by omega)] at hq1
  have HQ := hide hq
  have HQ0 := hide hq0
  have HQ1 := hide hq1
  obtain ⟨p0, hp0⟩ : ∃ p, (n0 : Int) * a = p := ⟨_, rfl⟩
  obtain ⟨p1, hp1⟩ : ∃ p, (n1 : Int) * b = p := ⟨_, rfl⟩
  rw [hp0] at hs0 hs2
  rw [hp1] at hs1 hs2
  have hR2 : wasteR L a b = L - p0 - p1 := by rw [hR, hp0, hp1]
  rw [hR2]
  have w0 : IntKind.i64.wrap ((n0 : Int) * a) = p0 := by rw [hp0]; exact IntWalk.i64_in _ (by omega)
  have w1 : IntKind.i64.wrap ((n1 : Int) * b) = p1 := by rw [hp1]; exact IntWalk.i64_in _ (by omega)
  have w2 : IntKind.i64.wrap ((L : Int) - p0) = (L : Int) - p0 := IntWalk.i64_in _ (by omega)
  have w3 : IntKind.i64.wrap ((L : Int) - p0 - p1) = (L : Int) - p0 - p1 := IntWalk.i64_in _ (by omega)
  have hnn : ¬ (L : Int) - p0 - p1 < -1 := by omega
  clear hn0e hn1e hR hR2 hp0 hp1 H H2 hlen hq hq0 hq1 hv
  go_enter Tryz.func163, Tryz.ntmps163
  go_wp2_with fail
  refine (HQ.out w).mono ?_
  rintro e w1 ⟨rfl, rfl⟩
  go_wp2_with fail
  refine HLN.out.mono ?_
  rintro e w1 ⟨rfl, rfl⟩
  go_wp2_with fail
  go_loop [7, 8, 9, 28] (fun x _ _ i => (i = .int .i64 0 ∧ x = .int .i64 (L : Int)) ∨ (i = .int .i64 1 ∧ x = .int .i64 ((L : Int) - p0)) ∨ (i = .int .i64 2 ∧ x = .int .i64 ((L : Int) - p0 - p1))) (fun _ _ _ i => 2 - (intOf i).toNat)
  case atStart => exact .inl ⟨rfl, rfl⟩
  case round =>
    rcases hrel with ⟨rfl, rfl⟩ | ⟨rfl, rfl⟩ | ⟨rfl, rfl⟩
    · go_wp2_with fail
      refine (HQ0.out w).mono ?_
      rintro e w1 ⟨rfl, rfl⟩
      go_wp2_with fail
      go_round
      case rel => exact .inr (.inl ⟨rfl, rfl⟩)
      case measure => simp [intOf]
    · go_wp2_with fail
      refine (HQ1.out w).mono ?_
      rintro e w1 ⟨rfl, rfl⟩
      go_wp2_with fail
      go_round
      case rel => exact .inr (.inr ⟨rfl, rfl⟩)
      case measure => simp [intOf]
    · go_wp2_with fail
      go_ret
      have hmx : max ((L : Int) - p0 - p1) (-1) = (L : Int) - p0 - p1 := by omega
      simp [hmx]
set_option maxHeartbeats 1600000 in
theorem cutWaste_spec (v mv : Value) (a b : Int) (lo hi lo2 hi2 L : Nat) (hL : L ≤ 60) (hv : lensB a b = true) (w : World) (H : IntsAt lo hi w v [a, b]) (H2 : IntsAt lo2 hi2 w mv (manyL L a b)) :
    Calls Tryz.prog 173 #[.int .i64 (L : Int), v, mv] w fun e w' => e = .returned (.int .i64 (wasteR L a b)) ∧ Below w.heap.size w w' := by
  have HV := hide hv
  obtain ⟨⟨ha1, ha2⟩, hb1, hb2⟩ := lensB_iff.1 hv
  obtain ⟨hs0, hs1, hs2⟩ := many_sums (L := L) hv
  have hlen := lens_spec v a b lo hi w H
  rw [hv] at hlen
  have HLN := hide hlen
  have HH := hide H
  have HH2 := hide H2
  obtain ⟨b0, o0, cap, rfl, -, -, -, -⟩ := two_at H
  have hR : wasteR L a b = L - many0 L a b * a - many1 L a b * b := rfl
  unfold manyL at H2 HH2
  obtain ⟨n0, hn0e⟩ : ∃ n : Nat, many0 L a b = n := ⟨_, rfl⟩
  obtain ⟨n1, hn1e⟩ : ∃ n : Nat, many1 L a b = n := ⟨_, rfl⟩
  rw [hn0e, hn1e] at H2 HH2 hR
  rw [hn0e] at hs0 hs2
  rw [hn1e] at hs1 hs2
  obtain ⟨b2, o2, cap2, rfl, -, -, -, -⟩ := two_at H2
  obtain ⟨d1, d2, d3⟩ := tdiv_ge (n := n0) (x := (L : Int)) (y := a) (by omega) ha1 (by omega) (by omega)
  obtain ⟨q0, hq0e⟩ : ∃ q, (L : Int).tdiv a = q := ⟨_, rfl⟩
  rw [hq0e] at d1 d2 d3
  obtain ⟨p0, hp0⟩ : ∃ p, (n0 : Int) * a = p := ⟨_, rfl⟩
  rw [hp0] at hs0 hs2
  obtain ⟨e1, e2, e3⟩ := tdiv_ge (n := n1) (x := (L : Int) - p0) (y := b) (by omega) (by omega) (by omega) (by omega)
  obtain ⟨q1, hq1e⟩ : ∃ q, ((L : Int) - p0).tdiv b = q := ⟨_, rfl⟩
  rw [hq1e] at e1 e2 e3
  obtain ⟨p1, hp1⟩ : ∃ p, (n1 : Int) * b = p := ⟨_, rfl⟩
  rw [hp1] at hs1 hs2
  have hR2 : wasteR L a b = L - p0 - p1 := by rw [hR, hp0, hp1]
  rw [hR2]
  have hq := fun W => l1In_any (L : Int) 0 60 W
  rw [show wi (L : Int) 0 60 = true from wi_iff.2 (by omega)] at hq
  have hq0 := fun W => l1In_any (n0 : Int) 0 q0 W
  rw [show wi (n0 : Int) 0 q0 = true from wi_iff.2 (by omega)] at hq0
  have hq1 := fun W => l1In_any (n1 : Int) 0 q1 W
  rw [show wi (n1 : Int) 0 q1 = true from wi_iff.2 (by omega)] at hq1
  have HQ := hide hq
  have HQ0 := hide hq0
  have HQ1 := hide hq1
  have w0 : IntKind.i64.wrap ((n0 : Int) * a) = p0 := by rw [hp0]; exact IntWalk.i64_in _ (by omega)
  have w1 : IntKind.i64.wrap ((n1 : Int) * b) = p1 := by rw [hp1]; exact IntWalk.i64_in _ (by omega)
  have w2 : IntKind.i64.wrap ((L : Int) - p0) = (L : Int) - p0 := IntWalk.i64_in _ (by omega)
  have w3 : IntKind.i64.wrap ((L : Int) - p0 - p1) = (L : Int) - p0 - p1 := IntWalk.i64_in _ (by omega)
  have w4 : IntKind.i64.wrap q0 = q0 := IntWalk.i64_in _ (by omega)
  have w5 : IntKind.i64.wrap q1 = q1 := IntWalk.i64_in _ (by omega)
  have hne0 : (a == 0) = false := by rw [beq_eq_false_iff_ne]; omega
  have hne1 : (b == 0) = false := by rw [beq_eq_false_iff_ne]; omega
  clear hn0e hn1e hR hR2 hp0 hp1 H H2 hlen hq hq0 hq1 hv
  go_enter Tryz.func173, Tryz.ntmps173
  go_wp2_with fail
  refine HLN.out.mono ?_
  rintro e wa ⟨rfl, hb⟩
  have HB := hide hb
  clear hb
  go_wp2_with fail
  refine (HQ.out wa).mono ?_
  rintro e wb ⟨rfl, rfl⟩
  go_wp2_with fail
  go_loopw [7, 8] (fun x i wr => Below w.heap.size w wr ∧ ((i = .int .i64 0 ∧ x = .int .i64 (L : Int)) ∨ (i = .int .i64 1 ∧ x = .int .i64 ((L : Int) - p0)) ∨ (i = .int .i64 2 ∧ x = .int .i64 ((L : Int) - p0 - p1)))) (fun _ i _ => 2 - (intOf i).toNat)
  case atStart => exact ⟨HB.out, .inl ⟨rfl, rfl⟩⟩
  case round =>
    obtain ⟨hb, hcase⟩ := hrel
    obtain ⟨b1, o1, cap1, e1, -, -, c0, c1⟩ := two_at (HH.out.below hb)
    cases e1
    obtain ⟨b3, o3, cap3, e3, -, -, m0, m1⟩ := two_at (HH2.out.below hb)
    cases e3
    have HBr := hide hb
    clear hb
    rcases hcase with ⟨rfl, rfl⟩ | ⟨rfl, rfl⟩ | ⟨rfl, rfl⟩
    · go_wp2_with fail
      go_quiet ((go_at_call 68; exact quiet_left (HQ0.out _)))
      go_wp2_with fail
      go_quiet (fail)
      go_wp2_with fail
      go_roundw
      case rel => exact ⟨below_drewN HBr.out _, .inr (.inl ⟨rfl, rfl⟩)⟩
      case measure => simp [intOf]
    · go_wp2_with fail
      go_quiet ((go_at_call 68; exact quiet_left (HQ1.out _)))
      go_wp2_with fail
      go_quiet (fail)
      go_wp2_with fail
      go_roundw
      case rel => exact ⟨below_drewN HBr.out _, .inr (.inr ⟨rfl, rfl⟩)⟩
      case measure => simp [intOf]
    · go_wp2_with fail
      go_ret
      exact ⟨rfl, HBr.out⟩
end Go.Proofs.YtmemgbklgcjobaaGreatDoor
