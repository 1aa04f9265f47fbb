/-
  Parts of the proofs over mills, of: CoilPS, CopyMS. Conditions: each theorem states its own.
-/
import Derived.Test.YtmemgbklgcjobaaGreatDoorB18
set_option linter.unusedSimpArgs false
set_option linter.unusedVariables false
set_option maxRecDepth 10000
namespace Go.Proofs.YtmemgbklgcjobaaGreatDoor
open Go.RowKit
set_option maxHeartbeats 3200000 in
theorem put_spec (l h : Value) (lo hi : List Int) (t : Bool) (p id : Int) (w : World) (Hl : IntsAt 0 w.heap.size w l lo) (Hh : IntsAt 0 w.heap.size w h hi) :
    Calls Tryz.prog 115 #[pileV l h, .agg #[.bool t, .int .i64 p], .int .i64 id] w (PileGot2 w.heap.size (putR lo hi t p id).1 (.bool (putR lo hi t p id).2) w) := by
  have HL := hide Hl
  have HH := hide Hh
  clear Hl Hh
  have hp := fun W => pile_spec l h lo hi W
  have hq := fun W => at_spec l h lo hi t p W
  have hc := fun W H1 H2 n1 n2 => l6Copy_any l h lo hi W H1 H2 n1 n2
  unfold pileV at hp hq hc ⊢
  have HP := hide hp
  have HQ := hide hq
  have HC := hide hc
  clear hp hq hc
  go_enter Tryz.func115, Tryz.ntmps115
  go_wp2_with fail
  refine calls_at fun wx hwx => ?_
  have A_0 : RowL wx (w.heap.size) 29 [l, h] := by rw [hwx]; exact (((RowL.new _ 29 [l, h]).alloc _).alloc _)
  have S_0 : RowL wx (w.heap.size + 1) 128 [.bool t, .int .i64 p] := by rw [hwx]; simpa using ((RowL.new (World.alloc _ _) 128 [.bool t, .int .i64 p]).alloc _)
  have R_0 : RowL wx (w.heap.size + 1 + 1) 29 [.slice none 0 0, .slice none 0 0] := by rw [hwx]; simpa using (RowL.new (World.alloc (World.alloc _ _) _) 29 [.slice none 0 0, .slice none 0 0])
  have B_0 : Below w.heap.size w wx := by rw [hwx]; go_grown
  clear hwx
  have hL0 := R_0.lt
  have VL_0 := hide (HL.out.below B_0)
  have VH_0 := hide (HH.out.below B_0)
  have k1 := HP.out wx ((VL_0.out).mono (Nat.le_refl _) (VL_0.out).lt (Nat.le_refl _)) ((VH_0.out).mono (Nat.le_refl _) (VH_0.out).lt (Nat.le_refl _))
  cases c1 : pileB lo hi with
  | false =>
    rw [c1] at k1
    have HZ := hide (put_bad (t := t) (p := p) (id := id) c1)
    clear c1
    refine (k1).mono ?_
    rintro e w1 ⟨rfl, hb⟩
    have A_1 := A_0.below hb A_0.lt
    have S_1 := S_0.below hb S_0.lt
    have R_1 := R_0.below hb R_0.lt
    have VL_1 := hide (VL_0.out.below hb)
    have VH_1 := hide (VH_0.out.below hb)
    have B_1 := hide (Below.step B_0 hb (Nat.le_refl _))
    have hz1 := hb.size
    clear hb
    have cR0 := R_1.c 0 rfl
    have cR1 := R_1.c 1 rfl
    have fR0 := R_1.frozen 0
    have fR1 := R_1.frozen 1
    clear k1
    go_wp2_with fail
    refine bodyPost_ret (by simp [results, Tryz.results115, go_sem, cR0, cR1]; try rfl) rfl ?_
    rw [HZ.out]
    exact ⟨_, _, rfl, pileOwn_nil (by have := (B_1.out).size; simpa [World.setCell] using this), ((B_1.out).setCell (by simp; omega) _).setCell (by simp; omega) _⟩
  | true =>
    rw [c1] at k1
    obtain ⟨n1, n2⟩ := pile_lens c1
    have C1 := hide c1
    clear c1
    refine (k1).mono ?_
    rintro e w1 ⟨rfl, hb⟩
    have A_1 := A_0.below hb A_0.lt
    have S_1 := S_0.below hb S_0.lt
    have R_1 := R_0.below hb R_0.lt
    have VL_1 := hide (VL_0.out.below hb)
    have VH_1 := hide (VH_0.out.below hb)
    have B_1 := hide (Below.step B_0 hb (Nat.le_refl _))
    have hz1 := hb.size
    clear hb
    have cA0 := A_1.c 0 rfl
    have cA1 := A_1.c 1 rfl
    have cS0 := S_1.c 0 rfl
    have cS1 := S_1.c 1 rfl
    clear k1
    go_wp2_with fail
    have hzR := R_1.lt
    refine (HC.out w1 ((VL_1.out).mono (Nat.le_refl _) (VL_1.out).lt (Nat.le_refl _)) ((VH_1.out).mono (Nat.le_refl _) (VH_1.out).lt (Nat.le_refl _)) n1 n2).mono ?_
    rintro e w2 ⟨lc, hc, rfl, own, hb⟩
    have A_2 := A_1.below hb A_1.lt
    have S_2 := S_1.below hb S_1.lt
    have R_2 := R_1.below hb R_1.lt
    have VL_2 := hide (VL_1.out.below hb)
    have VH_2 := hide (VH_1.out.below hb)
    have B_2 := hide (Below.step B_1.out hb (Nat.le_refl _))
    have hz2 := hb.size
    clear hb
    have cA0 := A_2.c 0 rfl
    have cA1 := A_2.c 1 rfl
    have cS0 := S_2.c 0 rfl
    have cS1 := S_2.c 1 rfl
    have cR0 := R_2.c 0 rfl
    have cR1 := R_2.c 1 rfl
    have fR0 := R_2.frozen 0
    have fR1 := R_2.frozen 1
    simp only [pileV]
    have O_c := hide own
    obtain ⟨alc, clc, rfl, -, -⟩ := own.lo.form
    obtain ⟨ahc, chc, rfl, -, -⟩ := own.ho.form
    clear own
    have hzcc : w.heap.size + 1 + 1 + 1 ≤ w1.heap.size := hzR
    have hzR2 := R_2.lt
    have hzA2 := A_2.lt
    have hzS2 := S_2.lt
    go_wp2_with fail
    refine calls_at fun w4 hw4 => ?_
    have T_4 : RowL w4 w2.heap.size 29 [.slice alc lo.length clc, .slice ahc hi.length chc] := by rw [hw4]; exact RowL.new _ _ _
    have hb4 : Below w2.heap.size w2 w4 := by rw [hw4]; exact (Below.refl _ _).alloc (Nat.le_refl _) _
    have A_4 := A_2.below hb4 A_2.lt
    have S_4 := S_2.below hb4 S_2.lt
    have R_4 := R_2.below hb4 R_2.lt
    have VL_4 := hide (VL_2.out.below hb4)
    have VH_4 := hide (VH_2.out.below hb4)
    have B_4 := hide (Below.step B_2.out hb4 (Nat.le_refl _))
    have O_4 := hide (O_c.out.below hb4 (Nat.le_refl _))
    have hoT := O_c.out
    clear hw4 hb4 cA0 cA1 cS0 cS1 cR0 cR1 fR0 fR1
    have hT4 := T_4.lt
    refine (HQ.out w4 ((VL_4.out).mono (Nat.le_refl _) (VL_4.out).lt (Nat.le_refl _)) ((VH_4.out).mono (Nat.le_refl _) (VH_4.out).lt (Nat.le_refl _))).mono ?_
    rintro e w5 ⟨rfl, hb⟩
    have A_5 := A_4.below hb A_4.lt
    have S_5 := S_4.below hb S_4.lt
    have R_5 := R_4.below hb R_4.lt
    have T_5 := T_4.below hb T_4.lt
    have VL_5 := hide (VL_4.out.below hb)
    have VH_5 := hide (VH_4.out.below hb)
    have B_5 := hide (Below.step B_4.out hb (Nat.le_refl _))
    have hz5 := hb.size
    have O_5 := hide (O_4.out.below hb (Nat.le_refl _))
    clear hb
    have cT0 := T_5.c 0 rfl
    have cT1 := T_5.c 1 rfl
    have cS0 := S_5.c 0 rfl
    have cS1 := S_5.c 1 rfl
    have cR0 := R_5.c 0 rfl
    have cR1 := R_5.c 1 rfl
    have fR0 := R_5.frozen 0
    have fR1 := R_5.frozen 1
    by_cases hat : atR lo hi t p = 0
    rotate_left
    · have HZ := hide (put_full (id := id) C1.out hat)
      obtain ⟨a, ha⟩ : ∃ a, atR lo hi t p = a := ⟨_, rfl⟩
      rw [ha] at hat ⊢
      have hatB : (a != 0) = true := by simpa using hat
      clear ha hat hoT
      go_wp2_with fail
      refine bodyPost_ret (by simp [results, Tryz.results115, go_sem, cR0, cR1]; try rfl) rfl ?_
      rw [HZ.out]
      exact ⟨_, _, rfl, (O_5.out.other (((Other.refl (w.heap.size + 1 + 1) (w.heap.size + 1 + 1 + 1) w5).setCell (p := ⟨w.heap.size + 1 + 1, 0, none⟩) (Nat.le_refl _) (Nat.lt_succ_self _) _).setCell (p := ⟨w.heap.size + 1 + 1, 1, none⟩) (Nat.le_refl _) (Nat.lt_succ_self _) _) (by omega)).mono (by omega), ((B_5.out).setCell (by simp; omega) _).setCell (by simp; omega) _⟩
    by_cases hid : id < 1
    · have HZ := hide (put_low (t := t) (p := p) C1.out hid)
      rw [hat]
      clear hoT hat
      go_wp2_with fail
      refine bodyPost_ret (by simp [results, Tryz.results115, go_sem, cR0, cR1]; try rfl) rfl ?_
      rw [HZ.out]
      exact ⟨_, _, rfl, (O_5.out.other (((Other.refl (w.heap.size + 1 + 1) (w.heap.size + 1 + 1 + 1) w5).setCell (p := ⟨w.heap.size + 1 + 1, 0, none⟩) (Nat.le_refl _) (Nat.lt_succ_self _) _).setCell (p := ⟨w.heap.size + 1 + 1, 1, none⟩) (Nat.le_refl _) (Nat.lt_succ_self _) _) (by omega)).mono (by omega), ((B_5.out).setCell (by simp; omega) _).setCell (by simp; omega) _⟩
    have HAT := hide hat
    rw [hat]
    obtain ⟨-, j, rfl, hjl, -⟩ := at_row (show 0 ≤ atR lo hi t p by omega)
    clear hat
    clear cS0 cS1 fR0 fR1 cR0 cR1 cT0 cT1
    cases t with
    | false =>
      obtain ⟨gg, cg, er⟩ := O_5.out.form false hjl
      have er2 : Value.slice alc lo.length clc = .slice (some ⟨gg, 0, none⟩) lo.length cg := er
      simp only [Value.slice.injEq] at er2
      obtain ⟨rfl, -, rfl⟩ := er2
      have hgT : gg < w2.heap.size := (hoT.cellAt er hjl).2.2.2
      obtain ⟨cg0, fg0, hgb, hgl⟩ := O_5.out.cellAt er hjl
      have HER := hide er
      have hjl2 : j < lo.length := hjl
      have hjI : (j : Int) < (lo.length : Int) := by omega
      have hj0 : (0 : Int) ≤ (j : Int) := by omega
      clear er hoT
      have hneT : gg ≠ w2.heap.size := by omega
      have hneT2 : w2.heap.size ≠ gg := by omega
      have cT0 := T_5.c 0 rfl
      have cT1 := T_5.c 1 rfl
      have cS0 := S_5.c 0 rfl
      have cS1 := S_5.c 1 rfl
      go_wp2_with fail
      refine calls_at fun w6 hw6 => ?_
      obtain ⟨q1, ho6⟩ := O_5.out.set HER.out hjl id
      rw [← hw6] at q1 ho6
      have O_6 := hide q1
      clear q1 hw6 cg0 fg0
      have A_6 := A_5.other ho6 (by omega)
      have S_6 := S_5.other ho6 (by omega)
      have R_6 := R_5.other ho6 (by omega)
      have T_6 := T_5.other ho6 (by omega)
      have VL_6 := hide (VL_5.out.other ho6 (.inl (by omega)))
      have VH_6 := hide (VH_5.out.other ho6 (.inl (by omega)))
      have B_6 := hide (B_5.out.trans (ho6.below (B := w.heap.size) (by omega) (B_5.out).size))
      clear ho6 cT0 cT1 cS0 cS1
      have k3 := pile_spec (.slice (some ⟨gg, 0, none⟩) lo.length clc) (.slice ahc hi.length chc) _ _ w6 O_6.out.low0 O_6.out.high0
      unfold pileV at k3
      cases c3 : pileB (setR false lo hi (j : Int) id).1 (setR false lo hi (j : Int) id).2 with
      | false =>
        rw [c3] at k3
        have HZ := hide (put_not C1.out HAT.out c3)
        clear c3
        refine (k3).mono ?_
        rintro e w7 ⟨rfl, hb⟩
        have A_7 := A_6.below hb A_6.lt
        have S_7 := S_6.below hb S_6.lt
        have R_7 := R_6.below hb R_6.lt
        have T_7 := T_6.below hb T_6.lt
        have VL_7 := hide (VL_6.out.below hb)
        have VH_7 := hide (VH_6.out.below hb)
        have B_7 := hide (Below.step B_6.out hb (Nat.le_refl _))
        have hz7 := hb.size
        clear hb
        have cA0 := A_7.c 0 rfl
        have cA1 := A_7.c 1 rfl
        clear k3
        go_wp2_with fail
        have hzR := R_7.lt
        refine (HC.out w7 ((VL_7.out).mono (Nat.le_refl _) (VL_7.out).lt (Nat.le_refl _)) ((VH_7.out).mono (Nat.le_refl _) (VH_7.out).lt (Nat.le_refl _)) n1 n2).mono ?_
        rintro e w8 ⟨ld, hd, rfl, own, hb⟩
        have A_8 := A_7.below hb A_7.lt
        have S_8 := S_7.below hb S_7.lt
        have R_8 := R_7.below hb R_7.lt
        have T_8 := T_7.below hb T_7.lt
        have VL_8 := hide (VL_7.out.below hb)
        have VH_8 := hide (VH_7.out.below hb)
        have B_8 := hide (Below.step B_7.out hb (Nat.le_refl _))
        have hz8 := hb.size
        clear hb
        have cA0 := A_8.c 0 rfl
        have cA1 := A_8.c 1 rfl
        have cS0 := S_8.c 0 rfl
        have cS1 := S_8.c 1 rfl
        have cR0 := R_8.c 0 rfl
        have cR1 := R_8.c 1 rfl
        have fR0 := R_8.frozen 0
        have fR1 := R_8.frozen 1
        simp only [pileV]
        have O_d := hide own
        obtain ⟨ald, cld, rfl, -, -⟩ := own.lo.form
        obtain ⟨ahd, chd, rfl, -, -⟩ := own.ho.form
        clear own
        have hzcd : w.heap.size + 1 + 1 + 1 ≤ w7.heap.size := hzR
        go_wp2_with fail
        refine bodyPost_ret (by simp [results, Tryz.results115, go_sem, cR0, cR1]; try rfl) rfl ?_
        rw [HZ.out]
        exact ⟨_, _, rfl, (O_d.out.other (((Other.refl (w.heap.size + 1 + 1) (w.heap.size + 1 + 1 + 1) w8).setCell (p := ⟨w.heap.size + 1 + 1, 0, none⟩) (Nat.le_refl _) (Nat.lt_succ_self _) _).setCell (p := ⟨w.heap.size + 1 + 1, 1, none⟩) (Nat.le_refl _) (Nat.lt_succ_self _) _) (by omega)).mono (by omega), ((B_8.out).setCell (by simp; omega) _).setCell (by simp; omega) _⟩
      | true =>
        rw [c3] at k3
        have HZ := hide (put_yes C1.out (by omega) HAT.out c3)
        clear c3
        refine (k3).mono ?_
        rintro e w7 ⟨rfl, hb⟩
        have A_7 := A_6.below hb A_6.lt
        have S_7 := S_6.below hb S_6.lt
        have R_7 := R_6.below hb R_6.lt
        have T_7 := T_6.below hb T_6.lt
        have VL_7 := hide (VL_6.out.below hb)
        have VH_7 := hide (VH_6.out.below hb)
        have B_7 := hide (Below.step B_6.out hb (Nat.le_refl _))
        have hz7 := hb.size
        have O_7 := hide (O_6.out.below hb (Nat.le_refl _))
        clear hb
        have cT0 := T_7.c 0 rfl
        have cT1 := T_7.c 1 rfl
        have cR0 := R_7.c 0 rfl
        have cR1 := R_7.c 1 rfl
        have fR0 := R_7.frozen 0
        have fR1 := R_7.frozen 1
        clear k3
        go_wp2_with fail
        refine bodyPost_ret (by simp [results, Tryz.results115, go_sem, cR0, cR1]; try rfl) rfl ?_
        rw [HZ.out]
        exact ⟨_, _, rfl, (O_7.out.other (((Other.refl (w.heap.size + 1 + 1) (w.heap.size + 1 + 1 + 1) w7).setCell (p := ⟨w.heap.size + 1 + 1, 0, none⟩) (Nat.le_refl _) (Nat.lt_succ_self _) _).setCell (p := ⟨w.heap.size + 1 + 1, 1, none⟩) (Nat.le_refl _) (Nat.lt_succ_self _) _) (by omega)).mono (by omega), ((B_7.out).setCell (by simp; omega) _).setCell (by simp; omega) _⟩
    | true =>
      obtain ⟨gg, cg, er⟩ := O_5.out.form true hjl
      have er2 : Value.slice ahc hi.length chc = .slice (some ⟨gg, 0, none⟩) hi.length cg := er
      simp only [Value.slice.injEq] at er2
      obtain ⟨rfl, -, rfl⟩ := er2
      have hgT : gg < w2.heap.size := (hoT.cellAt er hjl).2.2.2
      obtain ⟨cg0, fg0, hgb, hgl⟩ := O_5.out.cellAt er hjl
      have HER := hide er
      have hjl2 : j < hi.length := hjl
      have hjI : (j : Int) < (hi.length : Int) := by omega
      have hj0 : (0 : Int) ≤ (j : Int) := by omega
      clear er hoT
      have hneT : gg ≠ w2.heap.size := by omega
      have hneT2 : w2.heap.size ≠ gg := by omega
      have cT0 := T_5.c 0 rfl
      have cT1 := T_5.c 1 rfl
      have cS0 := S_5.c 0 rfl
      have cS1 := S_5.c 1 rfl
      go_wp2_with fail
      refine calls_at fun w6 hw6 => ?_
      obtain ⟨q1, ho6⟩ := O_5.out.set HER.out hjl id
      rw [← hw6] at q1 ho6
      have O_6 := hide q1
      clear q1 hw6 cg0 fg0
      have A_6 := A_5.other ho6 (by omega)
      have S_6 := S_5.other ho6 (by omega)
      have R_6 := R_5.other ho6 (by omega)
      have T_6 := T_5.other ho6 (by omega)
      have VL_6 := hide (VL_5.out.other ho6 (.inl (by omega)))
      have VH_6 := hide (VH_5.out.other ho6 (.inl (by omega)))
      have B_6 := hide (B_5.out.trans (ho6.below (B := w.heap.size) (by omega) (B_5.out).size))
      clear ho6 cT0 cT1 cS0 cS1
      have k3 := pile_spec (.slice alc lo.length clc) (.slice (some ⟨gg, 0, none⟩) hi.length chc) _ _ w6 O_6.out.low0 O_6.out.high0
      unfold pileV at k3
      cases c3 : pileB (setR true lo hi (j : Int) id).1 (setR true lo hi (j : Int) id).2 with
      | false =>
        rw [c3] at k3
        have HZ := hide (put_not C1.out HAT.out c3)
        clear c3
        refine (k3).mono ?_
        rintro e w7 ⟨rfl, hb⟩
        have A_7 := A_6.below hb A_6.lt
        have S_7 := S_6.below hb S_6.lt
        have R_7 := R_6.below hb R_6.lt
        have T_7 := T_6.below hb T_6.lt
        have VL_7 := hide (VL_6.out.below hb)
        have VH_7 := hide (VH_6.out.below hb)
        have B_7 := hide (Below.step B_6.out hb (Nat.le_refl _))
        have hz7 := hb.size
        clear hb
        have cA0 := A_7.c 0 rfl
        have cA1 := A_7.c 1 rfl
        clear k3
        go_wp2_with fail
        have hzR := R_7.lt
        refine (HC.out w7 ((VL_7.out).mono (Nat.le_refl _) (VL_7.out).lt (Nat.le_refl _)) ((VH_7.out).mono (Nat.le_refl _) (VH_7.out).lt (Nat.le_refl _)) n1 n2).mono ?_
        rintro e w8 ⟨ld, hd, rfl, own, hb⟩
        have A_8 := A_7.below hb A_7.lt
        have S_8 := S_7.below hb S_7.lt
        have R_8 := R_7.below hb R_7.lt
        have T_8 := T_7.below hb T_7.lt
        have VL_8 := hide (VL_7.out.below hb)
        have VH_8 := hide (VH_7.out.below hb)
        have B_8 := hide (Below.step B_7.out hb (Nat.le_refl _))
        have hz8 := hb.size
        clear hb
        have cA0 := A_8.c 0 rfl
        have cA1 := A_8.c 1 rfl
        have cS0 := S_8.c 0 rfl
        have cS1 := S_8.c 1 rfl
        have cR0 := R_8.c 0 rfl
        have cR1 := R_8.c 1 rfl
        have fR0 := R_8.frozen 0
        have fR1 := R_8.frozen 1
        simp only [pileV]
        have O_d := hide own
        obtain ⟨ald, cld, rfl, -, -⟩ := own.lo.form
        obtain ⟨ahd, chd, rfl, -, -⟩ := own.ho.form
        clear own
        have hzcd : w.heap.size + 1 + 1 + 1 ≤ w7.heap.size := hzR
        go_wp2_with fail
        refine bodyPost_ret (by simp [results, Tryz.results115, go_sem, cR0, cR1]; try rfl) rfl ?_
        rw [HZ.out]
        exact ⟨_, _, rfl, (O_d.out.other (((Other.refl (w.heap.size + 1 + 1) (w.heap.size + 1 + 1 + 1) w8).setCell (p := ⟨w.heap.size + 1 + 1, 0, none⟩) (Nat.le_refl _) (Nat.lt_succ_self _) _).setCell (p := ⟨w.heap.size + 1 + 1, 1, none⟩) (Nat.le_refl _) (Nat.lt_succ_self _) _) (by omega)).mono (by omega), ((B_8.out).setCell (by simp; omega) _).setCell (by simp; omega) _⟩
      | true =>
        rw [c3] at k3
        have HZ := hide (put_yes C1.out (by omega) HAT.out c3)
        clear c3
        refine (k3).mono ?_
        rintro e w7 ⟨rfl, hb⟩
        have A_7 := A_6.below hb A_6.lt
        have S_7 := S_6.below hb S_6.lt
        have R_7 := R_6.below hb R_6.lt
        have T_7 := T_6.below hb T_6.lt
        have VL_7 := hide (VL_6.out.below hb)
        have VH_7 := hide (VH_6.out.below hb)
        have B_7 := hide (Below.step B_6.out hb (Nat.le_refl _))
        have hz7 := hb.size
        have O_7 := hide (O_6.out.below hb (Nat.le_refl _))
        clear hb
        have cT0 := T_7.c 0 rfl
        have cT1 := T_7.c 1 rfl
        have cR0 := R_7.c 0 rfl
        have cR1 := R_7.c 1 rfl
        have fR0 := R_7.frozen 0
        have fR1 := R_7.frozen 1
        clear k3
        go_wp2_with fail
        refine bodyPost_ret (by simp [results, Tryz.results115, go_sem, cR0, cR1]; try rfl) rfl ?_
        rw [HZ.out]
        exact ⟨_, _, rfl, (O_7.out.other (((Other.refl (w.heap.size + 1 + 1) (w.heap.size + 1 + 1 + 1) w7).setCell (p := ⟨w.heap.size + 1 + 1, 0, none⟩) (Nat.le_refl _) (Nat.lt_succ_self _) _).setCell (p := ⟨w.heap.size + 1 + 1, 1, none⟩) (Nat.le_refl _) (Nat.lt_succ_self _) _) (by omega)).mono (by omega), ((B_7.out).setCell (by simp; omega) _).setCell (by simp; omega) _⟩
theorem wpl_at {P : Program} {ops : Array Oper} {Q : Exit → Act → World → Prop} {rest : List Oper} {a : Act} {w : World} (h : ∀ wx, wx = w → wpList P ops Q rest a wx) : wpList P ops Q rest a w := h _ rfl
set_option maxHeartbeats 3200000 in
theorem l8Copy_any (s p l h : Value) (m : Mi) (w : World) (H : MillIn 0 w.heap.size w s p l h m) (n1 : m.store.length ≤ 1000000) (n2 : m.pieces.length ≤ 1000000) (n3 : m.low.length ≤ 1000000) (n4 : m.high.length ≤ 1000000) :
    Calls Tryz.prog 78 #[millV s p l h m] w (CopyGot w.heap.size m w) := by
  have HS := hide H.store
  have HP := hide H.pieces
  have HL := hide H.low
  have HH := hide H.high
  clear H
  unfold millV
  obtain ⟨aos, cps, hse, -, -, -, -⟩ := id HS.out
  obtain ⟨aop, cpp, hpe, -, -, -, -⟩ := id HP.out
  obtain ⟨aol, cpl, hle, -, -, -, -⟩ := id HL.out
  obtain ⟨aoh, cph, hhe, -, -, -, -⟩ := id HH.out
  subst hse hpe hle hhe
  obtain ⟨i0, hi0, hz0, hi1, hi2⟩ := info_parts info_St
  obtain ⟨j0, hj0, hy0, hj1, hj2⟩ := info_parts info_Pc
  go_enter Tryz.func78, Tryz.ntmps78
  have hpre : ∀ wx, wx = (((w.alloc (.cells #[.slice aos m.store.length cps, .int .i64 m.rule.lc, .int .i64 m.rule.hc, .int .i64 m.rule.lm, .int .i64 m.rule.hm, .int .i64 m.rule.ls, .int .i64 m.rule.hs, .int .i64 m.strand, .slice aop m.pieces.length cpp, .slice aol m.low.length cpl, .slice aoh m.high.length cph, .int .i64 m.scrap] 31)).alloc (.cells #[.slice none 0 0, .int .i64 0, .int .i64 0, .int .i64 0, .int .i64 0, .int .i64 0, .int .i64 0, .int .i64 0, .slice none 0 0, .slice none 0 0, .slice none 0 0, .int .i64 0] 31)).alloc (.cells #[.slice aos m.store.length cps, .int .i64 m.rule.lc, .int .i64 m.rule.hc, .int .i64 m.rule.lm, .int .i64 m.rule.hm, .int .i64 m.rule.ls, .int .i64 m.rule.hs, .int .i64 m.strand, .slice aop m.pieces.length cpp, .slice aol m.low.length cpl, .slice aoh m.high.length cph, .int .i64 m.scrap] 31)).alloc (.cells #[] 65) → RowL wx (w.heap.size) 31 [.slice aos m.store.length cps, .int .i64 m.rule.lc, .int .i64 m.rule.hc, .int .i64 m.rule.lm, .int .i64 m.rule.hm, .int .i64 m.rule.ls, .int .i64 m.rule.hs, .int .i64 m.strand, .slice aop m.pieces.length cpp, .slice aol m.low.length cpl, .slice aoh m.high.length cph, .int .i64 m.scrap] ∧ RowL wx (w.heap.size + 1) 31 [.slice none 0 0, .int .i64 0, .int .i64 0, .int .i64 0, .int .i64 0, .int .i64 0, .int .i64 0, .int .i64 0, .slice none 0 0, .slice none 0 0, .slice none 0 0, .int .i64 0] ∧ RowL wx (w.heap.size + 1 + 1) 31 [.slice aos m.store.length cps, .int .i64 m.rule.lc, .int .i64 m.rule.hc, .int .i64 m.rule.lm, .int .i64 m.rule.hm, .int .i64 m.rule.ls, .int .i64 m.rule.hs, .int .i64 m.strand, .slice aop m.pieces.length cpp, .slice aol m.low.length cpl, .slice aoh m.high.length cph, .int .i64 m.scrap] ∧ Below w.heap.size w wx ∧ wx.heap.size = w.heap.size + 1 + 1 + 1 + 1 := by
    intro wx hwx
    refine ⟨?_, ?_, ?_, ?_, ?_⟩
    · rw [hwx]; exact (((RowL.new _ _ _).alloc _).alloc _).alloc _
    · rw [hwx]; simpa using (((RowL.new (World.alloc w _) 31 [.slice none 0 0, .int .i64 0, .int .i64 0, .int .i64 0, .int .i64 0, .int .i64 0, .int .i64 0, .int .i64 0, .slice none 0 0, .slice none 0 0, .slice none 0 0, .int .i64 0]).alloc _).alloc _)
    · rw [hwx]; simpa using ((RowL.new (World.alloc (World.alloc w _) _) 31 [.slice aos m.store.length cps, .int .i64 m.rule.lc, .int .i64 m.rule.hc, .int .i64 m.rule.lm, .int .i64 m.rule.hm, .int .i64 m.rule.ls, .int .i64 m.rule.hs, .int .i64 m.strand, .slice aop m.pieces.length cpp, .slice aol m.low.length cpl, .slice aoh m.high.length cph, .int .i64 m.scrap]).alloc _)
    · rw [hwx]; go_grown
    · rw [hwx]; simp
  have HPRE := hide hpre
  clear hpre
  go_wp2_with (at_builtin; refine wpl_at fun wx hwx => ?_; obtain ⟨A_0, R_0, T_0, B_0, hz0q⟩ := HPRE.out wx hwx; clear hwx; refine wpList_append_E rfl (.tmp 5) (.tmp 7) 23 rfl (w.heap.size + 1 + 1 + 1) 65 i0 _ 5 40 Tryz.underlying23 hi0 hz0 hi1 hi2 rfl (by decide) _ 0 [] rfl ?c0 (.slice aos m.store.length cps) m.store.length (flatS m.store) rfl ?c1 ?c2 ?c3 ?c4 ?_)
  case c0 => exact OwnE.lit (Nat.le_refl _) (by omega)
  case c1 => exact HS.out.source.below B_0 (Nat.le_refl _)
  case c2 => unfold maxLen; omega
  case c3 => omega
  case c4 => omega
  intro v2 w2 own2 grow2 at2
  have hb2 : Below (w.heap.size + 1 + 1 + 1) wx w2 := Below.growE (base := w.heap.size + 1 + 1 + 1) (T := 65) (sz := 5) (n := 0) (cs := []) grow2 (OwnE.lit (Nat.le_refl _) (by omega)) (Nat.le_refl _) (by omega)
  obtain ⟨ao2, cp2, rfl, -, -⟩ := own2.form
  have O_s := hide own2
  clear own2 at2 grow2
  have A_1 := A_0.below hb2 (by omega)
  have R_1 := R_0.below hb2 (by omega)
  have T_1 := T_0.below hb2 (by omega)
  have B_1 := hide (B_0.trans (hb2.mono (by omega)))
  have hz1 := hb2.size
  have hlA := A_1.lt
  have hlR := R_1.lt
  have hlT := T_1.lt
  clear hb2 A_0 R_0 T_0 B_0
  have cA8 := A_1.c 8 rfl
  have cT0 := T_1.c 0 rfl
  have fT0 := T_1.frozen 0
  have hpre : ∀ wy, wy = (w2.setCell ⟨w.heap.size + 1 + 1, 0, none⟩ (.slice ao2 m.store.length cp2)).alloc (.cells #[] 73) → RowL wy (w.heap.size) 31 [.slice aos m.store.length cps, .int .i64 m.rule.lc, .int .i64 m.rule.hc, .int .i64 m.rule.lm, .int .i64 m.rule.hm, .int .i64 m.rule.ls, .int .i64 m.rule.hs, .int .i64 m.strand, .slice aop m.pieces.length cpp, .slice aol m.low.length cpl, .slice aoh m.high.length cph, .int .i64 m.scrap] ∧ RowL wy (w.heap.size + 1) 31 [.slice none 0 0, .int .i64 0, .int .i64 0, .int .i64 0, .int .i64 0, .int .i64 0, .int .i64 0, .int .i64 0, .slice none 0 0, .slice none 0 0, .slice none 0 0, .int .i64 0] ∧ RowL wy (w.heap.size + 1 + 1) 31 [.slice ao2 m.store.length cp2, .int .i64 m.rule.lc, .int .i64 m.rule.hc, .int .i64 m.rule.lm, .int .i64 m.rule.hm, .int .i64 m.rule.ls, .int .i64 m.rule.hs, .int .i64 m.strand, .slice aop m.pieces.length cpp, .slice aol m.low.length cpl, .slice aoh m.high.length cph, .int .i64 m.scrap] ∧ Below w.heap.size w wy ∧ wy.heap.size = w2.heap.size + 1 ∧ OwnE (w.heap.size + 1 + 1 + 1) 65 5 wy (.slice ao2 m.store.length cp2) m.store.length (flatS m.store) := by
    intro wy hwy
    refine ⟨?_, ?_, ?_, ?_, ?_, ?_⟩
    · rw [hwy]; exact (A_1.far (show w.heap.size + 1 + 1 ≠ w.heap.size by omega) _).alloc _
    · rw [hwy]; exact (R_1.far (show w.heap.size + 1 + 1 ≠ w.heap.size + 1 by omega) _).alloc _
    · rw [hwy]; exact (T_1.set 0 _ (by simp)).alloc _
    · rw [hwy]; exact (B_1.out.setCell (by simp; omega) _).alloc (by simp [World.setCell]; omega) _
    · rw [hwy]; simp [World.setCell]
    · rw [hwy]; exact (O_s.out.other ((Other.refl (w.heap.size + 1 + 1) (w.heap.size + 1 + 1 + 1) w2).setCell (p := ⟨w.heap.size + 1 + 1, 0, none⟩) (Nat.le_refl _) (Nat.lt_succ_self _) _) (fun g hg => by have := (O_s.out.lt g hg).1; omega)).alloc _
  have HPRE2 := hide hpre
  clear hpre
  go_wp2_with (at_builtin; refine wpl_at fun wy hwx => ?_; obtain ⟨A_2, R_2, T_2, B_2, hz2, own2⟩ := HPRE2.out wy hwx; clear hwx; refine wpList_append_E rfl (.tmp 10) (.tmp 12) 26 rfl (w2.heap.size) 73 j0 _ 2 16 Tryz.underlying26 hj0 hy0 hj1 hj2 rfl (by decide) _ 0 [] rfl ?c0 (.slice aop m.pieces.length cpp) m.pieces.length (flatP m.pieces) rfl ?c1 ?c2 ?c3 ?c4 ?_)
  case c0 => exact OwnE.lit (Nat.le_refl _) (by omega)
  case c1 => exact HP.out.source.below B_2 (Nat.le_refl _)
  case c2 => unfold maxLen; omega
  case c3 => omega
  case c4 => omega
  intro v4 w4 own4 grow4 at4
  have hb4 : Below w2.heap.size wy w4 := Below.growE (base := w2.heap.size) (T := 73) (sz := 2) (n := 0) (cs := []) grow4 (OwnE.lit (Nat.le_refl _) (by omega)) (Nat.le_refl _) (by omega)
  have own3 := own2.grown grow4 (fun g hg e => by have := (O_s.out.lt g hg).2; simp [Value.ownBlock] at e; omega)
  obtain ⟨ao4, cp4, rfl, -, -⟩ := own4.form
  have O_p := hide own4
  have O_s4 := hide own3
  have hap : Hid (Apart (.slice ao2 m.store.length cp2) (.slice ao4 m.pieces.length cp4)) := hide (O_s.out.apart own4 (Nat.le_refl _))
  clear own4 at4 grow4 own2 own3 HPRE HPRE2 cA8 cT0 fT0
  have A_4 := A_2.below hb4 (by omega)
  have R_4 := R_2.below hb4 (by omega)
  have T_4 := T_2.below hb4 (by omega)
  have B_4 := hide (B_2.trans (hb4.mono (by omega)))
  have hz4 := hb4.size
  have mlA := A_4.lt
  have mlR := R_4.lt
  have mlT := T_4.lt
  clear hb4 A_1 R_1 T_1 A_2 R_2 T_2 B_2 hlA hlR hlT
  have hcy := fun W H1 H2 => l6Copy_any (.slice aol m.low.length cpl) (.slice aoh m.high.length cph) m.low m.high W H1 H2 n3 n4
  unfold pileV at hcy
  have HCY := hide hcy
  clear hcy
  have cA9 := A_4.c 9 rfl
  have cA10 := A_4.c 10 rfl
  have cT8 := T_4.c 8 rfl
  have fT8 := T_4.frozen 8
  go_wp2_with fail
  refine calls_at fun w5 hw5 => ?_
  have T5 : Other (w.heap.size + 1 + 1) (w.heap.size + 1 + 1 + 1) w4 w5 := by rw [hw5]; exact (Other.refl _ _ _).setCell (p := ⟨w.heap.size + 1 + 1, 8, none⟩) (Nat.le_refl _) (Nat.lt_succ_self _) _
  have T_5 : RowL w5 (w.heap.size + 1 + 1) 31 [.slice ao2 m.store.length cp2, .int .i64 m.rule.lc, .int .i64 m.rule.hc, .int .i64 m.rule.lm, .int .i64 m.rule.hm, .int .i64 m.rule.ls, .int .i64 m.rule.hs, .int .i64 m.strand, .slice ao4 m.pieces.length cp4, .slice aol m.low.length cpl, .slice aoh m.high.length cph, .int .i64 m.scrap] := by rw [hw5]; exact T_4.set 8 _ (by simp)
  have A_5 := A_4.other T5 (by omega)
  have R_5 := R_4.other T5 (by omega)
  have O_s5 := hide (O_s4.out.other T5 (fun g hg => by have := (O_s.out.lt g hg).1; omega))
  have O_p5 := hide (O_p.out.other T5 (fun g hg => by have := (O_p.out.lt g hg).1; omega))
  have B_5 := hide (B_4.out.trans (T5.below (B := w.heap.size) (by omega) (by omega)))
  have hz5 := T5.size
  clear hw5 T5 cA9 cA10 cT8 fT8
  refine (HCY.out w5 (((HL.out.below B_5.out)).mono (Nat.le_refl _) (HL.out.below B_5.out).lt (Nat.le_refl _)) (((HH.out.below B_5.out)).mono (Nat.le_refl _) (HH.out.below B_5.out).lt (Nat.le_refl _))).mono ?_
  rintro e w6 ⟨vl, vh, rfl, own, hb⟩
  have A_6 := A_5.below hb A_5.lt
  have R_6 := R_5.below hb R_5.lt
  have T_6 := T_5.below hb T_5.lt
  have HG : Hid (MillGot (w.heap.size + 1 + 1 + 1) w6 (.slice ao2 m.store.length cp2) (.slice ao4 m.pieces.length cp4) vl vh m) := hide ⟨by have := hb.size; omega, O_s5.out.below hb (Nat.le_refl _), (O_p5.out.below hb (Nat.le_refl _)).mono (by omega), own.lo.mono (by omega), own.ho.mono (by omega), hap.out, O_s5.out.apart own.lo (Nat.le_refl _), O_s5.out.apart own.ho (Nat.le_refl _), O_p5.out.apart own.lo (Nat.le_refl _), O_p5.out.apart own.ho (Nat.le_refl _), own.ap⟩
  have B_6 := hide (Below.step B_5.out hb (Nat.le_refl _))
  simp only [pileV]
  obtain ⟨al6, cl6, rfl, -, -⟩ := own.lo.form
  obtain ⟨ah6, ch6, rfl, -, -⟩ := own.ho.form
  have nlA := A_6.lt
  have nlR := R_6.lt
  have nlT := T_6.lt
  clear own hb
  obtain ⟨cT0, cT1, cT2, cT3, cT4, cT5, cT6, cT7, cT8, cT9, cT10, cT11⟩ := row12_c T_6
  have fT9 := T_6.frozen 9
  have fT10 := T_6.frozen 10
  obtain ⟨cR0, cR1, cR2, cR3, cR4, cR5, cR6, cR7, cR8, cR9, cR10, cR11⟩ := row12_c R_6
  obtain ⟨fR0, fR1, fR2, fR3, fR4, fR5, fR6, fR7, fR8, fR9, fR10, fR11⟩ := row12_f R_6
  go_wp2_with fail
  refine bodyPost_ret (by simp [results, Tryz.results78, go_sem, cR0, cR1, cR2, cR3, cR4, cR5, cR6, cR7, cR8, cR9, cR10, cR11]; try rfl) rfl ?_
  have HF := fun W T => got_put (w := w) (base := w.heap.size) (a := w.heap.size + 1) (z := w.heap.size + 1 + 1 + 1) (W := W) HG.out B_6.out T (Nat.le_refl _) (Nat.le_succ _) (by omega) (Nat.le_refl _)
  exact ⟨_, _, _, _, rfl, HF _ (Other.setCell (p := ⟨w.heap.size + 1, 11, none⟩) (Other.setCell (p := ⟨w.heap.size + 1, 10, none⟩) (Other.setCell (p := ⟨w.heap.size + 1, 9, none⟩) (Other.setCell (p := ⟨w.heap.size + 1, 8, none⟩) (Other.setCell (p := ⟨w.heap.size + 1, 7, none⟩) (Other.setCell (p := ⟨w.heap.size + 1, 6, none⟩) (Other.setCell (p := ⟨w.heap.size + 1, 5, none⟩) (Other.setCell (p := ⟨w.heap.size + 1, 4, none⟩) (Other.setCell (p := ⟨w.heap.size + 1, 3, none⟩) (Other.setCell (p := ⟨w.heap.size + 1, 2, none⟩) (Other.setCell (p := ⟨w.heap.size + 1, 1, none⟩) (Other.setCell (p := ⟨w.heap.size + 1, 0, none⟩) (Other.setCell (p := ⟨w.heap.size + 1 + 1, 10, none⟩) (Other.setCell (p := ⟨w.heap.size + 1 + 1, 9, none⟩) (Other.refl _ _ _) (Nat.le_succ _) (Nat.lt_succ_self _) _) (Nat.le_succ _) (Nat.lt_succ_self _) _) (Nat.le_refl _) (Nat.lt_succ_of_lt (Nat.lt_succ_self _)) _) (Nat.le_refl _) (Nat.lt_succ_of_lt (Nat.lt_succ_self _)) _) (Nat.le_refl _) (Nat.lt_succ_of_lt (Nat.lt_succ_self _)) _) (Nat.le_refl _) (Nat.lt_succ_of_lt (Nat.lt_succ_self _)) _) (Nat.le_refl _) (Nat.lt_succ_of_lt (Nat.lt_succ_self _)) _) (Nat.le_refl _) (Nat.lt_succ_of_lt (Nat.lt_succ_self _)) _) (Nat.le_refl _) (Nat.lt_succ_of_lt (Nat.lt_succ_self _)) _) (Nat.le_refl _) (Nat.lt_succ_of_lt (Nat.lt_succ_self _)) _) (Nat.le_refl _) (Nat.lt_succ_of_lt (Nat.lt_succ_self _)) _) (Nat.le_refl _) (Nat.lt_succ_of_lt (Nat.lt_succ_self _)) _) (Nat.le_refl _) (Nat.lt_succ_of_lt (Nat.lt_succ_self _)) _) (Nat.le_refl _) (Nat.lt_succ_of_lt (Nat.lt_succ_self _)) _)⟩
end Go.Proofs.YtmemgbklgcjobaaGreatDoor
