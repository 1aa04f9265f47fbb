/-
  Parts of the proof, of 2 texts: what CoilPI, CoilPS show. Conditions: each theorem states its own.
-/
import Derived.Deep.RegionHeld
import Derived.Test.YtajjnciookhamaaGreatM21
namespace Go.Proofs.YtajjnciookhamaaGreat
open Go.RowKit
set_option linter.unusedSimpArgs false in
set_option maxRecDepth 10000 in
set_option maxHeartbeats 3200000 in
theorem put_impl (l h : Value) (lo hi : List Int) (t : Bool) (p id : Int) (w : World) (Hl : IntsAt 0 w.heap.size w l lo) (Hh : IntsAt 0 w.heap.size w h hi) :
    Calls Tryz.prog 87 #[pileV l h, .agg #[.bool t, .int .i64 p], .int .i64 id] w (PileGot2 w.heap.size (putR lo hi t p id).1 (.bool (putR lo hi t p id).2) w) := by
  have HL := hide Hl
  have HH := hide Hh
  clear Hl Hh
  have hp := fun W => pile_impl l h lo hi W
  have hq := fun W => at_impl l h lo hi t p W
  have hc := fun W H1 H2 n1 n2 => copyPile_any l h lo hi W H1 H2 n1 n2
  unfold pileV at hp hq hc ⊢
  have HP := hide hp
  have HQ := hide hq
  have HC := hide hc
  clear hp hq hc
  go_enter Tryz.func87, Tryz.ntmps87
  go_wp2_with fail
  refine calls_at fun wx hwx => ?_
  have A_0 : RowL wx (w.heap.size) 37 [l, h] := by rw [hwx]; exact (((RowL.new _ 37 [l, h]).alloc _).alloc _)
  have S_0 : RowL wx (w.heap.size + 1) 68 [.bool t, .int .i64 p] := by rw [hwx]; simpa using ((RowL.new (World.alloc _ _) 68 [.bool t, .int .i64 p]).alloc _)
  have R_0 : RowL wx (w.heap.size + 1 + 1) 37 [.slice none 0 0, .slice none 0 0] := by rw [hwx]; simpa using (RowL.new (World.alloc (World.alloc _ _) _) 37 [.slice none 0 0, .slice none 0 0])
  have B_0 : Below w.heap.size w wx := by rw [hwx]; go_grown
  clear hwx
  have hL0 := R_0.lt
  have VL_0 := hide (HL.out.below B_0)
  have VH_0 := hide (HH.out.below B_0)
  have k1 := HP.out wx ((VL_0.out).mono (Nat.le_refl _) (VL_0.out).lt (Nat.le_refl _)) ((VH_0.out).mono (Nat.le_refl _) (VH_0.out).lt (Nat.le_refl _))
  cases c1 : pileB lo hi with
  | false =>
    rw [c1] at k1
    have HZ := hide (put_bad (t := t) (p := p) (id := id) c1)
    clear c1
    refine (k1).mono ?_
    rintro e w1 ⟨rfl, hb⟩
    have A_1 := A_0.below hb A_0.lt
    have S_1 := S_0.below hb S_0.lt
    have R_1 := R_0.below hb R_0.lt
    have VL_1 := hide (VL_0.out.below hb)
    have VH_1 := hide (VH_0.out.below hb)
    have B_1 := hide (Below.step B_0 hb (Nat.le_refl _))
    have hz1 := hb.size
    clear hb
    have cR0 := R_1.c 0 rfl
    have cR1 := R_1.c 1 rfl
    have fR0 := R_1.frozen 0
    have fR1 := R_1.frozen 1
    clear k1
    go_wp2_with fail
    refine bodyPost_ret (by simp [results, Tryz.results87, go_sem, cR0, cR1]; try rfl) rfl ?_
    rw [HZ.out]
    exact ⟨_, _, rfl, pileOwn_nil (by have := (B_1.out).size; simpa [World.setCell] using this), ((B_1.out).setCell (by simp; omega) _).setCell (by simp; omega) _⟩
  | true =>
    rw [c1] at k1
    obtain ⟨n1, n2⟩ := pile_lens c1
    have C1 := hide c1
    clear c1
    refine (k1).mono ?_
    rintro e w1 ⟨rfl, hb⟩
    have A_1 := A_0.below hb A_0.lt
    have S_1 := S_0.below hb S_0.lt
    have R_1 := R_0.below hb R_0.lt
    have VL_1 := hide (VL_0.out.below hb)
    have VH_1 := hide (VH_0.out.below hb)
    have B_1 := hide (Below.step B_0 hb (Nat.le_refl _))
    have hz1 := hb.size
    clear hb
    have cA0 : w1.cell? ⟨w.heap.size, 0, none⟩ = some (l) := A_1.cell 0 (by simp)
    have cA1 : w1.cell? ⟨w.heap.size, 1, none⟩ = some (h) := A_1.cell 1 (by simp)
    have cS0 := S_1.c 0 rfl
    have cS1 := S_1.c 1 rfl
    clear k1
    by_cases hid : id < 1
    · have HZ := hide (put_low (t := t) (p := p) C1.out hid)
      go_wp2_with fail
      have hzR := R_1.lt
      refine (HC.out w1 ((VL_1.out).mono (Nat.le_refl _) (VL_1.out).lt (Nat.le_refl _)) ((VH_1.out).mono (Nat.le_refl _) (VH_1.out).lt (Nat.le_refl _)) n1 n2).mono ?_
      rintro e w2 ⟨la, ha, rfl, own, hb⟩
      have A_2 := A_1.below hb A_1.lt
      have S_2 := S_1.below hb S_1.lt
      have R_2 := R_1.below hb R_1.lt
      have VL_2 := hide (VL_1.out.below hb)
      have VH_2 := hide (VH_1.out.below hb)
      have B_2 := hide (Below.step B_1.out hb (Nat.le_refl _))
      have hz2 := hb.size
      clear hb
      have cA0 : w2.cell? ⟨w.heap.size, 0, none⟩ = some (l) := A_2.cell 0 (by simp)
      have cA1 : w2.cell? ⟨w.heap.size, 1, none⟩ = some (h) := A_2.cell 1 (by simp)
      have cS0 := S_2.c 0 rfl
      have cS1 := S_2.c 1 rfl
      have cR0 := R_2.c 0 rfl
      have cR1 := R_2.c 1 rfl
      have fR0 := R_2.frozen 0
      have fR1 := R_2.frozen 1
      simp only [pileV]
      have O_a := hide own
      obtain ⟨ala, cla, rfl, -, -⟩ := own.lo.form
      obtain ⟨aha, cha, rfl, -, -⟩ := own.ho.form
      clear own
      have hzca : w.heap.size + 1 + 1 + 1 ≤ w1.heap.size := hzR
      go_wp2_with fail
      refine bodyPost_ret (by simp [results, Tryz.results87, go_sem, cR0, cR1]; try rfl) rfl ?_
      rw [HZ.out]
      exact ⟨_, _, rfl, (O_a.out.other (((Other.refl (w.heap.size + 1 + 1) (w.heap.size + 1 + 1 + 1) w2).setCell (p := ⟨w.heap.size + 1 + 1, 0, none⟩) (Nat.le_refl _) (Nat.lt_succ_self _) _).setCell (p := ⟨w.heap.size + 1 + 1, 1, none⟩) (Nat.le_refl _) (Nat.lt_succ_self _) _) (by omega)).mono (by omega), ((B_2.out).setCell (by simp; omega) _).setCell (by simp; omega) _⟩
    go_wp2_with fail
    refine (HQ.out w1 ((VL_1.out).mono (Nat.le_refl _) (VL_1.out).lt (Nat.le_refl _)) ((VH_1.out).mono (Nat.le_refl _) (VH_1.out).lt (Nat.le_refl _))).mono ?_
    rintro e w2 ⟨rfl, hb⟩
    have A_2 := A_1.below hb A_1.lt
    have S_2 := S_1.below hb S_1.lt
    have R_2 := R_1.below hb R_1.lt
    have VL_2 := hide (VL_1.out.below hb)
    have VH_2 := hide (VH_1.out.below hb)
    have B_2 := hide (Below.step B_1.out hb (Nat.le_refl _))
    have hz2 := hb.size
    clear hb
    have cA0 : w2.cell? ⟨w.heap.size, 0, none⟩ = some (l) := A_2.cell 0 (by simp)
    have cA1 : w2.cell? ⟨w.heap.size, 1, none⟩ = some (h) := A_2.cell 1 (by simp)
    have cS0 := S_2.c 0 rfl
    have cS1 := S_2.c 1 rfl
    by_cases hat : atR lo hi t p = 0
    rotate_left
    · have HZ := hide (put_full (id := id) C1.out hat)
      obtain ⟨a, ha⟩ : ∃ a, atR lo hi t p = a := ⟨_, rfl⟩
      rw [ha] at hat ⊢
      have hatB : (a != 0) = true := by simpa using hat
      clear ha hat
      go_wp2_with fail
      have hzR := R_2.lt
      refine (HC.out w2 ((VL_2.out).mono (Nat.le_refl _) (VL_2.out).lt (Nat.le_refl _)) ((VH_2.out).mono (Nat.le_refl _) (VH_2.out).lt (Nat.le_refl _)) n1 n2).mono ?_
      rintro e w3 ⟨lb, hb, rfl, own, hb⟩
      have A_3 := A_2.below hb A_2.lt
      have S_3 := S_2.below hb S_2.lt
      have R_3 := R_2.below hb R_2.lt
      have VL_3 := hide (VL_2.out.below hb)
      have VH_3 := hide (VH_2.out.below hb)
      have B_3 := hide (Below.step B_2.out hb (Nat.le_refl _))
      have hz3 := hb.size
      clear hb
      have cA0 : w3.cell? ⟨w.heap.size, 0, none⟩ = some (l) := A_3.cell 0 (by simp)
      have cA1 : w3.cell? ⟨w.heap.size, 1, none⟩ = some (h) := A_3.cell 1 (by simp)
      have cS0 := S_3.c 0 rfl
      have cS1 := S_3.c 1 rfl
      have cR0 := R_3.c 0 rfl
      have cR1 := R_3.c 1 rfl
      have fR0 := R_3.frozen 0
      have fR1 := R_3.frozen 1
      simp only [pileV]
      have O_b := hide own
      obtain ⟨alb, clb, rfl, -, -⟩ := own.lo.form
      obtain ⟨ahb, chb, rfl, -, -⟩ := own.ho.form
      clear own
      have hzcb : w.heap.size + 1 + 1 + 1 ≤ w2.heap.size := hzR
      go_wp2_with fail
      refine bodyPost_ret (by simp [results, Tryz.results87, go_sem, cR0, cR1]; try rfl) rfl ?_
      rw [HZ.out]
      exact ⟨_, _, rfl, (O_b.out.other (((Other.refl (w.heap.size + 1 + 1) (w.heap.size + 1 + 1 + 1) w3).setCell (p := ⟨w.heap.size + 1 + 1, 0, none⟩) (Nat.le_refl _) (Nat.lt_succ_self _) _).setCell (p := ⟨w.heap.size + 1 + 1, 1, none⟩) (Nat.le_refl _) (Nat.lt_succ_self _) _) (by omega)).mono (by omega), ((B_3.out).setCell (by simp; omega) _).setCell (by simp; omega) _⟩
    have HAT := hide hat
    rw [hat]
    obtain ⟨-, j, rfl, hjl, -⟩ := at_row (show 0 ≤ atR lo hi t p by omega)
    clear hat
    have hzR := R_2.lt
    go_wp2_with fail
    refine (HC.out w2 ((VL_2.out).mono (Nat.le_refl _) (VL_2.out).lt (Nat.le_refl _)) ((VH_2.out).mono (Nat.le_refl _) (VH_2.out).lt (Nat.le_refl _)) n1 n2).mono ?_
    rintro e w3 ⟨lc, hc, rfl, own, hb⟩
    have A_3 := A_2.below hb A_2.lt
    have S_3 := S_2.below hb S_2.lt
    have R_3 := R_2.below hb R_2.lt
    have VL_3 := hide (VL_2.out.below hb)
    have VH_3 := hide (VH_2.out.below hb)
    have B_3 := hide (Below.step B_2.out hb (Nat.le_refl _))
    have hz3 := hb.size
    clear hb
    have cA0 : w3.cell? ⟨w.heap.size, 0, none⟩ = some (l) := A_3.cell 0 (by simp)
    have cA1 : w3.cell? ⟨w.heap.size, 1, none⟩ = some (h) := A_3.cell 1 (by simp)
    have cS0 := S_3.c 0 rfl
    have cS1 := S_3.c 1 rfl
    have cR0 := R_3.c 0 rfl
    have cR1 := R_3.c 1 rfl
    have fR0 := R_3.frozen 0
    have fR1 := R_3.frozen 1
    simp only [pileV]
    have O_c := hide own
    obtain ⟨alc, clc, rfl, -, -⟩ := own.lo.form
    obtain ⟨ahc, chc, rfl, -, -⟩ := own.ho.form
    clear own
    have hzcc : w.heap.size + 1 + 1 + 1 ≤ w2.heap.size := hzR
    go_wp2_with fail
    obtain ⟨w4, hw4⟩ : ∃ w4, w4 = w3.alloc (.cells #[.slice alc lo.length clc, .slice ahc hi.length chc] 37) := ⟨_, rfl⟩
    rw [← hw4]
    have T_4 : RowL w4 w3.heap.size 37 [.slice alc lo.length clc, .slice ahc hi.length chc] := by rw [hw4]; exact RowL.new _ _ _
    have hb4 : Below w3.heap.size w3 w4 := by rw [hw4]; exact (Below.refl _ _).alloc (Nat.le_refl _) _
    have A_4 := A_3.below hb4 A_3.lt
    have S_4 := S_3.below hb4 S_3.lt
    have R_4 := R_3.below hb4 R_3.lt
    have VL_4 := hide (VL_3.out.below hb4)
    have VH_4 := hide (VH_3.out.below hb4)
    have B_4 := hide (Below.step B_3.out hb4 (Nat.le_refl _))
    have O_4 := O_c.out.below hb4 (Nat.le_refl _)
    clear hw4 hb4 cA0 cA1 cS0 cS1 cR0 cR1 fR0 fR1
    obtain ⟨gg, cg, er⟩ := O_4.form t hjl
    obtain ⟨n, hn⟩ : ∃ n, (rowR t lo hi).length = n := ⟨_, rfl⟩
    rw [hn] at er
    have hjI : (j : Int) < (n : Int) := by omega
    have hj0 : (0 : Int) ≤ (j : Int) := by omega
    have HRW := hide (fun W => calls_val (row_any (.slice alc lo.length clc) (.slice ahc hi.length chc) t (j : Int) W) er)
    unfold pileV at HRW
    have HN := hide hn
    have HER := hide er
    clear hn er
    have hg4 := O_4.cellAt HER.out hjl
    have hgT : gg < w3.heap.size := (O_c.out.cellAt HER.out hjl).2.2.2
    have HO4 := hide O_4
    clear O_4
    have hI : (((World.drew w4).cell? ⟨w3.heap.size, 0, none⟩ = some (.slice alc lo.length clc) ∧ (World.drew w4).cell? ⟨w3.heap.size, 1, none⟩ = some (.slice ahc hi.length chc)) ∧ ((World.drew w4).cell? ⟨w.heap.size + 1, 0, none⟩ = some (.bool t) ∧ (World.drew w4).cell? ⟨w.heap.size + 1, 1, none⟩ = some (.int .i64 (j : Int)))) ∧ (((World.drew w4).cell? ⟨gg, j, none⟩).isSome = true ∧ (World.drew w4).frozen? ⟨gg, j, none⟩ = false) := ⟨⟨⟨T_4.cell 0 (by simp), T_4.cell 1 (by simp)⟩, ⟨S_4.cell 0 (by simp), S_4.cell 1 (by simp)⟩⟩, ⟨by rw [show (World.drew w4).cell? ⟨gg, j, none⟩ = _ from hg4.1]; rfl, hg4.2.1⟩⟩
    go_region_held (fun w' => ((w'.cell? ⟨w3.heap.size, 0, none⟩ = some (.slice alc lo.length clc) ∧ w'.cell? ⟨w3.heap.size, 1, none⟩ = some (.slice ahc hi.length chc)) ∧ (w'.cell? ⟨w.heap.size + 1, 0, none⟩ = some (.bool t) ∧ w'.cell? ⟨w.heap.size + 1, 1, none⟩ = some (.int .i64 (j : Int)))) ∧ ((w'.cell? ⟨gg, j, none⟩).isSome = true ∧ w'.frozen? ⟨gg, j, none⟩ = false)) (first | exact hI | exact hS5 | exact spot_put hS5 (by omega) (by omega) _) (first
      | (go_at_call 117; (with_reducible refine (HRW.out _).mono ?_); rintro e w5 ⟨rfl, hb0⟩; have hb := (Below.refl w4.heap.size w4).drew.trans hb0; have S_5 := S_4.below hb S_4.lt; have T_5 := T_4.below hb T_4.lt; have A_5 := A_4.below hb A_4.lt; have R_5 := R_4.below hb R_4.lt; have O_5 := HO4.out.below hb (Nat.le_refl _); obtain ⟨cg0, fg0, hgb, hgl⟩ := O_5.cellAt HER.out hjl; have hS5 : ((w5.cell? ⟨w3.heap.size, 0, none⟩ = some (.slice alc lo.length clc) ∧ w5.cell? ⟨w3.heap.size, 1, none⟩ = some (.slice ahc hi.length chc)) ∧ (w5.cell? ⟨w.heap.size + 1, 0, none⟩ = some (.bool t) ∧ w5.cell? ⟨w.heap.size + 1, 1, none⟩ = some (.int .i64 (j : Int)))) ∧ ((w5.cell? ⟨gg, j, none⟩).isSome = true ∧ w5.frozen? ⟨gg, j, none⟩ = false) := ⟨⟨⟨T_5.cell 0 (by simp), T_5.cell 1 (by simp)⟩, ⟨S_5.cell 0 (by simp), S_5.cell 1 (by simp)⟩⟩, ⟨by rw [cg0]; rfl, fg0⟩⟩))
    have VL_5 := hide (VL_4.out.below hb)
    have VH_5 := hide (VH_4.out.below hb)
    have B_5 := hide (Below.step B_4.out hb (Nat.le_refl _))
    have HO5 := hide O_5
    clear hb hb0 O_5 hg4 hI hS5
    have cT0 := T_5.c 0 rfl
    have cT1 := T_5.c 1 rfl
    go_wp2_with fail
    refine calls_at fun w6 hw6 => ?_
    obtain ⟨q1, ho6⟩ := HO5.out.set HER.out hjl id
    rw [← hw6] at q1 ho6
    have O_6 := hide q1
    clear q1 hw6 cg0 fg0
    have A_6 := A_5.other ho6 (by omega)
    have S_6 := S_5.other ho6 (by omega)
    have R_6 := R_5.other ho6 (by omega)
    have T_6 := T_5.other ho6 (by omega)
    have VL_6 := hide (VL_5.out.other ho6 (.inl (by omega)))
    have VH_6 := hide (VH_5.out.other ho6 (.inl (by omega)))
    have B_6 := hide (B_5.out.trans (ho6.below (B := w.heap.size) (by omega) B_5.out.size))
    clear ho6 cT0 cT1
    have k3 := pile_impl (.slice alc lo.length clc) (.slice ahc hi.length chc) _ _ w6 O_6.out.low0 O_6.out.high0
    unfold pileV at k3
    cases c3 : pileB (setR t lo hi (j : Int) id).1 (setR t lo hi (j : Int) id).2 with
    | false =>
      rw [c3] at k3
      have HZ := hide (put_not C1.out HAT.out c3)
      clear c3
      refine (k3).mono ?_
      rintro e w7 ⟨rfl, hb⟩
      have A_7 := A_6.below hb A_6.lt
      have S_7 := S_6.below hb S_6.lt
      have R_7 := R_6.below hb R_6.lt
      have T_7 := T_6.below hb T_6.lt
      have VL_7 := hide (VL_6.out.below hb)
      have VH_7 := hide (VH_6.out.below hb)
      have B_7 := hide (Below.step B_6.out hb (Nat.le_refl _))
      have hz7 := hb.size
      clear hb
      have cA0 : w7.cell? ⟨w.heap.size, 0, none⟩ = some (l) := A_7.cell 0 (by simp)
      have cA1 : w7.cell? ⟨w.heap.size, 1, none⟩ = some (h) := A_7.cell 1 (by simp)
      clear k3
      go_wp2_with fail
      have hzR := R_7.lt
      refine (HC.out w7 ((VL_7.out).mono (Nat.le_refl _) (VL_7.out).lt (Nat.le_refl _)) ((VH_7.out).mono (Nat.le_refl _) (VH_7.out).lt (Nat.le_refl _)) n1 n2).mono ?_
      rintro e w8 ⟨ld, hd, rfl, own, hb⟩
      have A_8 := A_7.below hb A_7.lt
      have S_8 := S_7.below hb S_7.lt
      have R_8 := R_7.below hb R_7.lt
      have T_8 := T_7.below hb T_7.lt
      have VL_8 := hide (VL_7.out.below hb)
      have VH_8 := hide (VH_7.out.below hb)
      have B_8 := hide (Below.step B_7.out hb (Nat.le_refl _))
      have hz8 := hb.size
      clear hb
      have cA0 : w8.cell? ⟨w.heap.size, 0, none⟩ = some (l) := A_8.cell 0 (by simp)
      have cA1 : w8.cell? ⟨w.heap.size, 1, none⟩ = some (h) := A_8.cell 1 (by simp)
      have cS0 := S_8.c 0 rfl
      have cS1 := S_8.c 1 rfl
      have cR0 := R_8.c 0 rfl
      have cR1 := R_8.c 1 rfl
      have fR0 := R_8.frozen 0
      have fR1 := R_8.frozen 1
      simp only [pileV]
      have O_d := hide own
      obtain ⟨ald, cld, rfl, -, -⟩ := own.lo.form
      obtain ⟨ahd, chd, rfl, -, -⟩ := own.ho.form
      clear own
      have hzcd : w.heap.size + 1 + 1 + 1 ≤ w7.heap.size := hzR
      go_wp2_with fail
      refine bodyPost_ret (by simp [results, Tryz.results87, go_sem, cR0, cR1]; try rfl) rfl ?_
      rw [HZ.out]
      exact ⟨_, _, rfl, (O_d.out.other (((Other.refl (w.heap.size + 1 + 1) (w.heap.size + 1 + 1 + 1) w8).setCell (p := ⟨w.heap.size + 1 + 1, 0, none⟩) (Nat.le_refl _) (Nat.lt_succ_self _) _).setCell (p := ⟨w.heap.size + 1 + 1, 1, none⟩) (Nat.le_refl _) (Nat.lt_succ_self _) _) (by omega)).mono (by omega), ((B_8.out).setCell (by simp; omega) _).setCell (by simp; omega) _⟩
    | true =>
      rw [c3] at k3
      have HZ := hide (put_yes C1.out (by omega) HAT.out c3)
      clear c3
      refine (k3).mono ?_
      rintro e w7 ⟨rfl, hb⟩
      have O_7 := hide (O_6.out.below hb (Nat.le_refl _))
      have A_7 := A_6.below hb A_6.lt
      have S_7 := S_6.below hb S_6.lt
      have R_7 := R_6.below hb R_6.lt
      have T_7 := T_6.below hb T_6.lt
      have VL_7 := hide (VL_6.out.below hb)
      have VH_7 := hide (VH_6.out.below hb)
      have B_7 := hide (Below.step B_6.out hb (Nat.le_refl _))
      have hz7 := hb.size
      clear hb
      have cT0 := T_7.c 0 rfl
      have cT1 := T_7.c 1 rfl
      have cR0 := R_7.c 0 rfl
      have cR1 := R_7.c 1 rfl
      have fR0 := R_7.frozen 0
      have fR1 := R_7.frozen 1
      clear k3
      go_wp2_with fail
      refine bodyPost_ret (by simp [results, Tryz.results87, go_sem, cR0, cR1]; try rfl) rfl ?_
      rw [HZ.out]
      exact ⟨_, _, rfl, (O_7.out.other (((Other.refl (w.heap.size + 1 + 1) (w.heap.size + 1 + 1 + 1) w7).setCell (p := ⟨w.heap.size + 1 + 1, 0, none⟩) (Nat.le_refl _) (Nat.lt_succ_self _) _).setCell (p := ⟨w.heap.size + 1 + 1, 1, none⟩) (Nat.le_refl _) (Nat.lt_succ_self _) _) (by omega)).mono (by omega), ((B_7.out).setCell (by simp; omega) _).setCell (by simp; omega) _⟩
end Go.Proofs.YtajjnciookhamaaGreat
namespace Go.Proofs.YtajjnciookhamaaGreat
open Go.RowKit
set_option linter.unusedSimpArgs false in
set_option maxRecDepth 10000 in
set_option maxHeartbeats 3200000 in
theorem put_spec (l h : Value) (lo hi : List Int) (t : Bool) (p id : Int) (w : World) (Hl : IntsAt 0 w.heap.size w l lo) (Hh : IntsAt 0 w.heap.size w h hi) :
    Calls Tryz.prog 27 #[pileV l h, .agg #[.bool t, .int .i64 p], .int .i64 id] w (PileGot2 w.heap.size (putR lo hi t p id).1 (.bool (putR lo hi t p id).2) w) := by
  have HL := hide Hl
  have HH := hide Hh
  clear Hl Hh
  have hp := fun W => pile_spec l h lo hi W
  have hq := fun W => at_spec l h lo hi t p W
  have hc := fun W H1 H2 n1 n2 => l6Copy_any l h lo hi W H1 H2 n1 n2
  unfold pileV at hp hq hc ⊢
  have HP := hide hp
  have HQ := hide hq
  have HC := hide hc
  clear hp hq hc
  go_enter Tryz.func27, Tryz.ntmps27
  go_wp2_with fail
  refine calls_at fun wx hwx => ?_
  have A_0 : RowL wx (w.heap.size) 37 [l, h] := by rw [hwx]; exact (((RowL.new _ 37 [l, h]).alloc _).alloc _)
  have S_0 : RowL wx (w.heap.size + 1) 68 [.bool t, .int .i64 p] := by rw [hwx]; simpa using ((RowL.new (World.alloc _ _) 68 [.bool t, .int .i64 p]).alloc _)
  have R_0 : RowL wx (w.heap.size + 1 + 1) 37 [.slice none 0 0, .slice none 0 0] := by rw [hwx]; simpa using (RowL.new (World.alloc (World.alloc _ _) _) 37 [.slice none 0 0, .slice none 0 0])
  have B_0 : Below w.heap.size w wx := by rw [hwx]; go_grown
  clear hwx
  have hL0 := R_0.lt
  have VL_0 := hide (HL.out.below B_0)
  have VH_0 := hide (HH.out.below B_0)
  have k1 := HP.out wx ((VL_0.out).mono (Nat.le_refl _) (VL_0.out).lt (Nat.le_refl _)) ((VH_0.out).mono (Nat.le_refl _) (VH_0.out).lt (Nat.le_refl _))
  cases c1 : pileB lo hi with
  | false =>
    rw [c1] at k1
    have HZ := hide (put_bad (t := t) (p := p) (id := id) c1)
    clear c1
    refine (k1).mono ?_
    rintro e w1 ⟨rfl, hb⟩
    have A_1 := A_0.below hb A_0.lt
    have S_1 := S_0.below hb S_0.lt
    have R_1 := R_0.below hb R_0.lt
    have VL_1 := hide (VL_0.out.below hb)
    have VH_1 := hide (VH_0.out.below hb)
    have B_1 := hide (Below.step B_0 hb (Nat.le_refl _))
    have hz1 := hb.size
    clear hb
    have cR0 := R_1.c 0 rfl
    have cR1 := R_1.c 1 rfl
    have fR0 := R_1.frozen 0
    have fR1 := R_1.frozen 1
    clear k1
    go_wp2_with fail
    refine bodyPost_ret (by simp [results, Tryz.results27, go_sem, cR0, cR1]; try rfl) rfl ?_
    rw [HZ.out]
    exact ⟨_, _, rfl, pileOwn_nil (by have := (B_1.out).size; simpa [World.setCell] using this), ((B_1.out).setCell (by simp; omega) _).setCell (by simp; omega) _⟩
  | true =>
    rw [c1] at k1
    obtain ⟨n1, n2⟩ := pile_lens c1
    have C1 := hide c1
    clear c1
    refine (k1).mono ?_
    rintro e w1 ⟨rfl, hb⟩
    have A_1 := A_0.below hb A_0.lt
    have S_1 := S_0.below hb S_0.lt
    have R_1 := R_0.below hb R_0.lt
    have VL_1 := hide (VL_0.out.below hb)
    have VH_1 := hide (VH_0.out.below hb)
    have B_1 := hide (Below.step B_0 hb (Nat.le_refl _))
    have hz1 := hb.size
    clear hb
    have cA0 : w1.cell? ⟨w.heap.size, 0, none⟩ = some (l) := A_1.cell 0 (by simp)
    have cA1 : w1.cell? ⟨w.heap.size, 1, none⟩ = some (h) := A_1.cell 1 (by simp)
    have cS0 := S_1.c 0 rfl
    have cS1 := S_1.c 1 rfl
    clear k1
    go_wp2_with fail
    have hzR := R_1.lt
    refine (HC.out w1 ((VL_1.out).mono (Nat.le_refl _) (VL_1.out).lt (Nat.le_refl _)) ((VH_1.out).mono (Nat.le_refl _) (VH_1.out).lt (Nat.le_refl _)) n1 n2).mono ?_
    rintro e w2 ⟨lc, hc, rfl, own, hb⟩
    have A_2 := A_1.below hb A_1.lt
    have S_2 := S_1.below hb S_1.lt
    have R_2 := R_1.below hb R_1.lt
    have VL_2 := hide (VL_1.out.below hb)
    have VH_2 := hide (VH_1.out.below hb)
    have B_2 := hide (Below.step B_1.out hb (Nat.le_refl _))
    have hz2 := hb.size
    clear hb
    have cA0 : w2.cell? ⟨w.heap.size, 0, none⟩ = some (l) := A_2.cell 0 (by simp)
    have cA1 : w2.cell? ⟨w.heap.size, 1, none⟩ = some (h) := A_2.cell 1 (by simp)
    have cS0 := S_2.c 0 rfl
    have cS1 := S_2.c 1 rfl
    have cR0 := R_2.c 0 rfl
    have cR1 := R_2.c 1 rfl
    have fR0 := R_2.frozen 0
    have fR1 := R_2.frozen 1
    simp only [pileV]
    have O_c := hide own
    obtain ⟨alc, clc, rfl, -, -⟩ := own.lo.form
    obtain ⟨ahc, chc, rfl, -, -⟩ := own.ho.form
    clear own
    have hzcc : w.heap.size + 1 + 1 + 1 ≤ w1.heap.size := hzR
    have hzR2 := R_2.lt
    have hzA2 := A_2.lt
    have hzS2 := S_2.lt
    go_wp2_with fail
    refine calls_at fun w4 hw4 => ?_
    have T_4 : RowL w4 w2.heap.size 37 [.slice alc lo.length clc, .slice ahc hi.length chc] := by rw [hw4]; exact RowL.new _ _ _
    have hb4 : Below w2.heap.size w2 w4 := by rw [hw4]; exact (Below.refl _ _).alloc (Nat.le_refl _) _
    have A_4 := A_2.below hb4 A_2.lt
    have S_4 := S_2.below hb4 S_2.lt
    have R_4 := R_2.below hb4 R_2.lt
    have VL_4 := hide (VL_2.out.below hb4)
    have VH_4 := hide (VH_2.out.below hb4)
    have B_4 := hide (Below.step B_2.out hb4 (Nat.le_refl _))
    have O_4 := hide (O_c.out.below hb4 (Nat.le_refl _))
    have hoT := O_c.out
    clear hw4 hb4 cA0 cA1 cS0 cS1 cR0 cR1 fR0 fR1
    have hT4 := T_4.lt
    refine (HQ.out w4 ((VL_4.out).mono (Nat.le_refl _) (VL_4.out).lt (Nat.le_refl _)) ((VH_4.out).mono (Nat.le_refl _) (VH_4.out).lt (Nat.le_refl _))).mono ?_
    rintro e w5 ⟨rfl, hb⟩
    have A_5 := A_4.below hb A_4.lt
    have S_5 := S_4.below hb S_4.lt
    have R_5 := R_4.below hb R_4.lt
    have T_5 := T_4.below hb T_4.lt
    have VL_5 := hide (VL_4.out.below hb)
    have VH_5 := hide (VH_4.out.below hb)
    have B_5 := hide (Below.step B_4.out hb (Nat.le_refl _))
    have hz5 := hb.size
    have O_5 := hide (O_4.out.below hb (Nat.le_refl _))
    clear hb
    have cT0 := T_5.c 0 rfl
    have cT1 := T_5.c 1 rfl
    have cS0 := S_5.c 0 rfl
    have cS1 := S_5.c 1 rfl
    have cR0 := R_5.c 0 rfl
    have cR1 := R_5.c 1 rfl
    have fR0 := R_5.frozen 0
    have fR1 := R_5.frozen 1
    by_cases hat : atR lo hi t p = 0
    rotate_left
    · have HZ := hide (put_full (id := id) C1.out hat)
      obtain ⟨a, ha⟩ : ∃ a, atR lo hi t p = a := ⟨_, rfl⟩
      rw [ha] at hat ⊢
      have hatB : (a != 0) = true := by simpa using hat
      clear ha hat hoT
      go_wp2_with fail
      refine bodyPost_ret (by simp [results, Tryz.results27, go_sem, cR0, cR1]; try rfl) rfl ?_
      rw [HZ.out]
      exact ⟨_, _, rfl, (O_5.out.other (((Other.refl (w.heap.size + 1 + 1) (w.heap.size + 1 + 1 + 1) w5).setCell (p := ⟨w.heap.size + 1 + 1, 0, none⟩) (Nat.le_refl _) (Nat.lt_succ_self _) _).setCell (p := ⟨w.heap.size + 1 + 1, 1, none⟩) (Nat.le_refl _) (Nat.lt_succ_self _) _) (by omega)).mono (by omega), ((B_5.out).setCell (by simp; omega) _).setCell (by simp; omega) _⟩
    by_cases hid : id < 1
    · have HZ := hide (put_low (t := t) (p := p) C1.out hid)
      rw [hat]
      clear hoT hat
      go_wp2_with fail
      refine bodyPost_ret (by simp [results, Tryz.results27, go_sem, cR0, cR1]; try rfl) rfl ?_
      rw [HZ.out]
      exact ⟨_, _, rfl, (O_5.out.other (((Other.refl (w.heap.size + 1 + 1) (w.heap.size + 1 + 1 + 1) w5).setCell (p := ⟨w.heap.size + 1 + 1, 0, none⟩) (Nat.le_refl _) (Nat.lt_succ_self _) _).setCell (p := ⟨w.heap.size + 1 + 1, 1, none⟩) (Nat.le_refl _) (Nat.lt_succ_self _) _) (by omega)).mono (by omega), ((B_5.out).setCell (by simp; omega) _).setCell (by simp; omega) _⟩
    have HAT := hide hat
    rw [hat]
    obtain ⟨-, j, rfl, hjl, -⟩ := at_row (show 0 ≤ atR lo hi t p by omega)
    clear hat
    clear cS0 cS1 fR0 fR1 cR0 cR1 cT0 cT1
    cases t with
    | false =>
      obtain ⟨gg, cg, er⟩ := O_5.out.form false hjl
      have er2 : Value.slice alc lo.length clc = .slice (some ⟨gg, 0, none⟩) lo.length cg := er
      simp only [Value.slice.injEq] at er2
      obtain ⟨rfl, -, rfl⟩ := er2
      have hgT : gg < w2.heap.size := (hoT.cellAt er hjl).2.2.2
      obtain ⟨cg0, fg0, hgb, hgl⟩ := O_5.out.cellAt er hjl
      have HER := hide er
      have hjl2 : j < lo.length := hjl
      have hjI : (j : Int) < (lo.length : Int) := by omega
      have hj0 : (0 : Int) ≤ (j : Int) := by omega
      clear er hoT
      have hneT : gg ≠ w2.heap.size := by omega
      have hneT2 : w2.heap.size ≠ gg := by omega
      have cT0 := T_5.c 0 rfl
      have cT1 := T_5.c 1 rfl
      have cS0 := S_5.c 0 rfl
      have cS1 := S_5.c 1 rfl
      go_wp2_with fail
      refine calls_at fun w6 hw6 => ?_
      obtain ⟨q1, ho6⟩ := O_5.out.set HER.out hjl id
      rw [← hw6] at q1 ho6
      have O_6 := hide q1
      clear q1 hw6 cg0 fg0
      have A_6 := A_5.other ho6 (by omega)
      have S_6 := S_5.other ho6 (by omega)
      have R_6 := R_5.other ho6 (by omega)
      have T_6 := T_5.other ho6 (by omega)
      have VL_6 := hide (VL_5.out.other ho6 (.inl (by omega)))
      have VH_6 := hide (VH_5.out.other ho6 (.inl (by omega)))
      have B_6 := hide (B_5.out.trans (ho6.below (B := w.heap.size) (by omega) (B_5.out).size))
      clear ho6 cT0 cT1 cS0 cS1
      have k3 := pile_spec (.slice (some ⟨gg, 0, none⟩) lo.length clc) (.slice ahc hi.length chc) _ _ w6 O_6.out.low0 O_6.out.high0
      unfold pileV at k3
      cases c3 : pileB (setR false lo hi (j : Int) id).1 (setR false lo hi (j : Int) id).2 with
      | false =>
        rw [c3] at k3
        have HZ := hide (put_not C1.out HAT.out c3)
        clear c3
        refine (k3).mono ?_
        rintro e w7 ⟨rfl, hb⟩
        have A_7 := A_6.below hb A_6.lt
        have S_7 := S_6.below hb S_6.lt
        have R_7 := R_6.below hb R_6.lt
        have T_7 := T_6.below hb T_6.lt
        have VL_7 := hide (VL_6.out.below hb)
        have VH_7 := hide (VH_6.out.below hb)
        have B_7 := hide (Below.step B_6.out hb (Nat.le_refl _))
        have hz7 := hb.size
        clear hb
        have cA0 : w7.cell? ⟨w.heap.size, 0, none⟩ = some (l) := A_7.cell 0 (by simp)
        have cA1 : w7.cell? ⟨w.heap.size, 1, none⟩ = some (h) := A_7.cell 1 (by simp)
        clear k3
        go_wp2_with fail
        have hzR := R_7.lt
        refine (HC.out w7 ((VL_7.out).mono (Nat.le_refl _) (VL_7.out).lt (Nat.le_refl _)) ((VH_7.out).mono (Nat.le_refl _) (VH_7.out).lt (Nat.le_refl _)) n1 n2).mono ?_
        rintro e w8 ⟨ld, hd, rfl, own, hb⟩
        have A_8 := A_7.below hb A_7.lt
        have S_8 := S_7.below hb S_7.lt
        have R_8 := R_7.below hb R_7.lt
        have T_8 := T_7.below hb T_7.lt
        have VL_8 := hide (VL_7.out.below hb)
        have VH_8 := hide (VH_7.out.below hb)
        have B_8 := hide (Below.step B_7.out hb (Nat.le_refl _))
        have hz8 := hb.size
        clear hb
        have cA0 : w8.cell? ⟨w.heap.size, 0, none⟩ = some (l) := A_8.cell 0 (by simp)
        have cA1 : w8.cell? ⟨w.heap.size, 1, none⟩ = some (h) := A_8.cell 1 (by simp)
        have cS0 := S_8.c 0 rfl
        have cS1 := S_8.c 1 rfl
        have cR0 := R_8.c 0 rfl
        have cR1 := R_8.c 1 rfl
        have fR0 := R_8.frozen 0
        have fR1 := R_8.frozen 1
        simp only [pileV]
        have O_d := hide own
        obtain ⟨ald, cld, rfl, -, -⟩ := own.lo.form
        obtain ⟨ahd, chd, rfl, -, -⟩ := own.ho.form
        clear own
        have hzcd : w.heap.size + 1 + 1 + 1 ≤ w7.heap.size := hzR
        go_wp2_with fail
        refine bodyPost_ret (by simp [results, Tryz.results27, go_sem, cR0, cR1]; try rfl) rfl ?_
        rw [HZ.out]
        exact ⟨_, _, rfl, (O_d.out.other (((Other.refl (w.heap.size + 1 + 1) (w.heap.size + 1 + 1 + 1) w8).setCell (p := ⟨w.heap.size + 1 + 1, 0, none⟩) (Nat.le_refl _) (Nat.lt_succ_self _) _).setCell (p := ⟨w.heap.size + 1 + 1, 1, none⟩) (Nat.le_refl _) (Nat.lt_succ_self _) _) (by omega)).mono (by omega), ((B_8.out).setCell (by simp; omega) _).setCell (by simp; omega) _⟩
      | true =>
        rw [c3] at k3
        have HZ := hide (put_yes C1.out (by omega) HAT.out c3)
        clear c3
        refine (k3).mono ?_
        rintro e w7 ⟨rfl, hb⟩
        have A_7 := A_6.below hb A_6.lt
        have S_7 := S_6.below hb S_6.lt
        have R_7 := R_6.below hb R_6.lt
        have T_7 := T_6.below hb T_6.lt
        have VL_7 := hide (VL_6.out.below hb)
        have VH_7 := hide (VH_6.out.below hb)
        have B_7 := hide (Below.step B_6.out hb (Nat.le_refl _))
        have hz7 := hb.size
        have O_7 := hide (O_6.out.below hb (Nat.le_refl _))
        clear hb
        have cT0 := T_7.c 0 rfl
        have cT1 := T_7.c 1 rfl
        have cR0 := R_7.c 0 rfl
        have cR1 := R_7.c 1 rfl
        have fR0 := R_7.frozen 0
        have fR1 := R_7.frozen 1
        clear k3
        go_wp2_with fail
        refine bodyPost_ret (by simp [results, Tryz.results27, go_sem, cR0, cR1]; try rfl) rfl ?_
        rw [HZ.out]
        exact ⟨_, _, rfl, (O_7.out.other (((Other.refl (w.heap.size + 1 + 1) (w.heap.size + 1 + 1 + 1) w7).setCell (p := ⟨w.heap.size + 1 + 1, 0, none⟩) (Nat.le_refl _) (Nat.lt_succ_self _) _).setCell (p := ⟨w.heap.size + 1 + 1, 1, none⟩) (Nat.le_refl _) (Nat.lt_succ_self _) _) (by omega)).mono (by omega), ((B_7.out).setCell (by simp; omega) _).setCell (by simp; omega) _⟩
    | true =>
      obtain ⟨gg, cg, er⟩ := O_5.out.form true hjl
      have er2 : Value.slice ahc hi.length chc = .slice (some ⟨gg, 0, none⟩) hi.length cg := er
      simp only [Value.slice.injEq] at er2
      obtain ⟨rfl, -, rfl⟩ := er2
      have hgT : gg < w2.heap.size := (hoT.cellAt er hjl).2.2.2
      obtain ⟨cg0, fg0, hgb, hgl⟩ := O_5.out.cellAt er hjl
      have HER := hide er
      have hjl2 : j < hi.length := hjl
      have hjI : (j : Int) < (hi.length : Int) := by omega
      have hj0 : (0 : Int) ≤ (j : Int) := by omega
      clear er hoT
      have hneT : gg ≠ w2.heap.size := by omega
      have hneT2 : w2.heap.size ≠ gg := by omega
      have cT0 := T_5.c 0 rfl
      have cT1 := T_5.c 1 rfl
      have cS0 := S_5.c 0 rfl
      have cS1 := S_5.c 1 rfl
      go_wp2_with fail
      refine calls_at fun w6 hw6 => ?_
      obtain ⟨q1, ho6⟩ := O_5.out.set HER.out hjl id
      rw [← hw6] at q1 ho6
      have O_6 := hide q1
      clear q1 hw6 cg0 fg0
      have A_6 := A_5.other ho6 (by omega)
      have S_6 := S_5.other ho6 (by omega)
      have R_6 := R_5.other ho6 (by omega)
      have T_6 := T_5.other ho6 (by omega)
      have VL_6 := hide (VL_5.out.other ho6 (.inl (by omega)))
      have VH_6 := hide (VH_5.out.other ho6 (.inl (by omega)))
      have B_6 := hide (B_5.out.trans (ho6.below (B := w.heap.size) (by omega) (B_5.out).size))
      clear ho6 cT0 cT1 cS0 cS1
      have k3 := pile_spec (.slice alc lo.length clc) (.slice (some ⟨gg, 0, none⟩) hi.length chc) _ _ w6 O_6.out.low0 O_6.out.high0
      unfold pileV at k3
      cases c3 : pileB (setR true lo hi (j : Int) id).1 (setR true lo hi (j : Int) id).2 with
      | false =>
        rw [c3] at k3
        have HZ := hide (put_not C1.out HAT.out c3)
        clear c3
        refine (k3).mono ?_
        rintro e w7 ⟨rfl, hb⟩
        have A_7 := A_6.below hb A_6.lt
        have S_7 := S_6.below hb S_6.lt
        have R_7 := R_6.below hb R_6.lt
        have T_7 := T_6.below hb T_6.lt
        have VL_7 := hide (VL_6.out.below hb)
        have VH_7 := hide (VH_6.out.below hb)
        have B_7 := hide (Below.step B_6.out hb (Nat.le_refl _))
        have hz7 := hb.size
        clear hb
        have cA0 : w7.cell? ⟨w.heap.size, 0, none⟩ = some (l) := A_7.cell 0 (by simp)
        have cA1 : w7.cell? ⟨w.heap.size, 1, none⟩ = some (h) := A_7.cell 1 (by simp)
        clear k3
        go_wp2_with fail
        have hzR := R_7.lt
        refine (HC.out w7 ((VL_7.out).mono (Nat.le_refl _) (VL_7.out).lt (Nat.le_refl _)) ((VH_7.out).mono (Nat.le_refl _) (VH_7.out).lt (Nat.le_refl _)) n1 n2).mono ?_
        rintro e w8 ⟨ld, hd, rfl, own, hb⟩
        have A_8 := A_7.below hb A_7.lt
        have S_8 := S_7.below hb S_7.lt
        have R_8 := R_7.below hb R_7.lt
        have T_8 := T_7.below hb T_7.lt
        have VL_8 := hide (VL_7.out.below hb)
        have VH_8 := hide (VH_7.out.below hb)
        have B_8 := hide (Below.step B_7.out hb (Nat.le_refl _))
        have hz8 := hb.size
        clear hb
        have cA0 : w8.cell? ⟨w.heap.size, 0, none⟩ = some (l) := A_8.cell 0 (by simp)
        have cA1 : w8.cell? ⟨w.heap.size, 1, none⟩ = some (h) := A_8.cell 1 (by simp)
        have cS0 := S_8.c 0 rfl
        have cS1 := S_8.c 1 rfl
        have cR0 := R_8.c 0 rfl
        have cR1 := R_8.c 1 rfl
        have fR0 := R_8.frozen 0
        have fR1 := R_8.frozen 1
        simp only [pileV]
        have O_d := hide own
        obtain ⟨ald, cld, rfl, -, -⟩ := own.lo.form
        obtain ⟨ahd, chd, rfl, -, -⟩ := own.ho.form
        clear own
        have hzcd : w.heap.size + 1 + 1 + 1 ≤ w7.heap.size := hzR
        go_wp2_with fail
        refine bodyPost_ret (by simp [results, Tryz.results27, go_sem, cR0, cR1]; try rfl) rfl ?_
        rw [HZ.out]
        exact ⟨_, _, rfl, (O_d.out.other (((Other.refl (w.heap.size + 1 + 1) (w.heap.size + 1 + 1 + 1) w8).setCell (p := ⟨w.heap.size + 1 + 1, 0, none⟩) (Nat.le_refl _) (Nat.lt_succ_self _) _).setCell (p := ⟨w.heap.size + 1 + 1, 1, none⟩) (Nat.le_refl _) (Nat.lt_succ_self _) _) (by omega)).mono (by omega), ((B_8.out).setCell (by simp; omega) _).setCell (by simp; omega) _⟩
      | true =>
        rw [c3] at k3
        have HZ := hide (put_yes C1.out (by omega) HAT.out c3)
        clear c3
        refine (k3).mono ?_
        rintro e w7 ⟨rfl, hb⟩
        have A_7 := A_6.below hb A_6.lt
        have S_7 := S_6.below hb S_6.lt
        have R_7 := R_6.below hb R_6.lt
        have T_7 := T_6.below hb T_6.lt
        have VL_7 := hide (VL_6.out.below hb)
        have VH_7 := hide (VH_6.out.below hb)
        have B_7 := hide (Below.step B_6.out hb (Nat.le_refl _))
        have hz7 := hb.size
        have O_7 := hide (O_6.out.below hb (Nat.le_refl _))
        clear hb
        have cT0 := T_7.c 0 rfl
        have cT1 := T_7.c 1 rfl
        have cR0 := R_7.c 0 rfl
        have cR1 := R_7.c 1 rfl
        have fR0 := R_7.frozen 0
        have fR1 := R_7.frozen 1
        clear k3
        go_wp2_with fail
        refine bodyPost_ret (by simp [results, Tryz.results27, go_sem, cR0, cR1]; try rfl) rfl ?_
        rw [HZ.out]
        exact ⟨_, _, rfl, (O_7.out.other (((Other.refl (w.heap.size + 1 + 1) (w.heap.size + 1 + 1 + 1) w7).setCell (p := ⟨w.heap.size + 1 + 1, 0, none⟩) (Nat.le_refl _) (Nat.lt_succ_self _) _).setCell (p := ⟨w.heap.size + 1 + 1, 1, none⟩) (Nat.le_refl _) (Nat.lt_succ_self _) _) (by omega)).mono (by omega), ((B_7.out).setCell (by simp; omega) _).setCell (by simp; omega) _⟩
end Go.Proofs.YtajjnciookhamaaGreat
