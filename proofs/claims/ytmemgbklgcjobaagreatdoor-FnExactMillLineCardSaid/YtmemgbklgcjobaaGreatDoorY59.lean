/-
  Parts of the proofs over mills, of: HelpM, MillOpen. Conditions: each theorem states its own.
-/
import Derived.Test.YtmemgbklgcjobaaGreatDoorY58
set_option linter.unusedSimpArgs false
set_option linter.unusedVariables false
set_option maxRecDepth 10000
set_option maxHeartbeats 64000000
namespace Go.Proofs.YtmemgbklgcjobaaGreatDoor
open Go.RowKit
theorem toGrade_any (g : Gr) (w : World) :
 Calls Tryz.prog 91 #[grV g] w fun e w' => e = .returned (grV g) ∧ Below w.heap.size w w' := by
 obtain ⟨a, b, c, d, f, h⟩ := g;unfold grV;go_enter Tryz.func91, Tryz.ntmps91
 go_wp2
 go_returns
 exact ⟨rfl, by go_grown⟩
def PileGot (lo hi : List Int) (w : World) (e : Ending) (w' : World) : Prop :=
 ∃ l' h' mid, e = .returned (pileV l' h') ∧ w.heap.size ≤ mid ∧ mid ≤ w'.heap.size ∧ IntsAt w.heap.size mid w' l' lo ∧ IntsAt mid w'.heap.size w' h' hi ∧ Below w.heap.size w w'
theorem toPile_any (l h : Value) (lo hi : List Int) (w : World) (Hl : IntsAt 0 w.heap.size w l lo) (Hh : IntsAt 0 w.heap.size w h hi) (n1 : lo.length ≤ 2097152) (n2 : hi.length ≤ 2097152) :
 Calls Tryz.prog 93 #[pileV l h] w (PileGot lo hi w) := by
 have HL := hide Hl;have HH := hide Hh;unfold pileV;clear Hl Hh;go_enter Tryz.func93, Tryz.ntmps93;go_wp2_with fail
 refine calls_at fun wx hwx => ?_;have R1 : RowL wx w.heap.size 54 [l, h] := by rw [hwx]; exact ((RowL.new _ _ _).alloc _).alloc _
 have R2 : RowL wx (w.heap.size + 1) 29 [.slice none 0 0, .slice none 0 0] := by rw [hwx]; simpa using (RowL.new (w.alloc _) 29 [.slice none 0 0, .slice none 0 0]).alloc _
 have R3 : RowL wx (w.heap.size + 1 + 1) 29 [.slice none 0 0, .slice none 0 0] := by rw [hwx]; simpa using (RowL.new ((w.alloc _).alloc _) 29 [.slice none 0 0, .slice none 0 0])
 have hb0 : Below w.heap.size w wx := by rw [hwx]; go_grown
 clear hwx;refine (toIntS_any l lo _ _ _ (HL.out.below hb0) n1).mono ?_;rintro e w1 ⟨l', rfl, hi1, hb1⟩;have R1b := R1.below hb1 R1.lt;have R2b := R2.below hb1 R2.lt;have R3b := R3.below hb1 R3.lt;have HI1 := hide hi1;have HB1 := hide hb1;have HZ := hide (Below.step hb0 hb1 nl);obtain ⟨ao1, cap1, rfl, -, -, -, -⟩ := hi1;have c1 : w1.cell? ⟨w.heap.size, 1, none⟩ = some h := R1b.cell 1 (by simp);have d0 := R3b.c 0 rfl;have f0 := R3b.frozen 0;clear hb1;go_wp2_with fail
 refine calls_at fun wy hwy => ?_;have hby : Below w.heap.size w wy := by rw [hwy]; exact HZ.out.setCell (by show w.heap.size ≤ w.heap.size + 1 + 1; omega) _
 have hoy : Other (w.heap.size + 1 + 1) (w.heap.size + 1 + 1 + 1) w1 wy := by rw [hwy]; exact Other.setCell (p := ⟨w.heap.size + 1 + 1, 0, none⟩) (Other.refl _ _ _) nl (Nat.lt_succ_self _) _
 have R3c : RowL wy (w.heap.size + 1 + 1) 29 [.slice ao1 lo.length cap1, .slice none 0 0] := by rw [hwy]; exact R3b.set 0 _ (by simp)
 have R2c := R2b.other hoy (.inl (by omega));have hx := R3.lt;have HI2 := hide (HI1.out.other hoy (.inr (by omega)));clear hwy c1 d0 f0;refine (toIntS_any h hi _ _ _ (HH.out.below hby) n2).mono ?_;rintro e w2 ⟨h', rfl, hi2, hb2⟩;have R3d := R3c.below hb2 R3c.lt;have R2d := R2c.below hb2 R2c.lt;have HI3 := hide (HI2.out.below hb2);have HI4 := hide hi2;have HB2 := hide (Below.step hby hb2 nl);obtain ⟨ao2, cap2, rfl, -, -, -, -⟩ := hi2;have d0 := R3d.c 0 rfl;have d1 := R3d.c 1 rfl;have f1 := R3d.frozen 1;have g0 := R2d.c 0 rfl;have g1 := R2d.c 1 rfl;have e0 := R2d.frozen 0;have e1 := R2d.frozen 1;have hz1 := hoy.size;have hz2 := hb2.size;have hz0 := HB1.out.size;clear hb2;go_wp2_with fail
 refine bodyPost_ret (by simp [results, Tryz.results93, go_sem, g0, g1]; try rfl) rfl ?_;have hoz : Other (w.heap.size + 1) (w.heap.size + 1 + 1 + 1) w2 (((w2.setCell ⟨w.heap.size + 1 + 1, 1, none⟩ (Value.slice ao2 hi.length cap2)).setCell ⟨w.heap.size + 1, 0, none⟩ (Value.slice ao1 lo.length cap1)).setCell ⟨w.heap.size + 1, 1, none⟩ (Value.slice ao2 hi.length cap2)) :=
  Other.setCell (p := ⟨w.heap.size + 1, 1, none⟩) (Other.setCell (p := ⟨w.heap.size + 1, 0, none⟩) (Other.setCell (p := ⟨w.heap.size + 1 + 1, 1, none⟩) (Other.refl _ _ _) (by simp) (by simp) _) (by simp) (by simp) _) (by simp) (by simp) _
 have hzz := hoz.size;have hmid : w1.heap.size ≤ w2.heap.size := by omega
 have hfin := hoz.below (B := w.heap.size) (by omega) (by omega);exact ⟨_, _, w1.heap.size, rfl, by omega, by omega, (HI3.out.other hoz (.inr (by omega))).mono (by omega) nl (by omega), (HI4.out.other hoz (.inr (by omega))).mono (by omega) (by omega) nl, HB2.out.trans hfin⟩
structure Small (m : Mi) : Prop where
 s : m.store.length ≤ 2097152
 p : m.pieces.length ≤ 2097152
 l : m.low.length ≤ 2097152
 h : m.high.length ≤ 2097152
def MillNew (m : Mi) (w : World) (e : Ending) (w' : World) : Prop :=
 ∃ s p l h, e = .returned (millV s p l h m) ∧ MillSep w.heap.size w'.heap.size w' s p l h m ∧ Below w.heap.size w w'
theorem toMill_any (s p l h : Value) (m : Mi) (w : World) (H : MillIn 0 w.heap.size w s p l h m) (hs : Small m) :
 Calls Tryz.prog 31 #[millV s p l h m] w (MillNew m w) := by
 have VS := hide H.store;have VP := hide H.pieces;have VL := hide H.low;have VH := hide H.high;have HS := hide hs;obtain ⟨n1, n2, n3, n4⟩ := hs;clear H;unfold millV;go_enter Tryz.func31, Tryz.ntmps31;go_wp2_with fail
 refine calls_at fun wx hwx => ?_;have A_0 : RowL wx (w.heap.size) 56 [s, .int .i64 m.rule.lc, .int .i64 m.rule.hc, .int .i64 m.rule.lm, .int .i64 m.rule.hm, .int .i64 m.rule.ls, .int .i64 m.rule.hs, .int .i64 m.strand, p, l, h, .int .i64 m.scrap] := by rw [hwx]; exact (((RowL.new _ _ _).alloc _).alloc _)
 have R_0 : RowL wx (w.heap.size + 1) 31 [.slice none 0 0, .int .i64 0, .int .i64 0, .int .i64 0, .int .i64 0, .int .i64 0, .int .i64 0, .int .i64 0, .slice none 0 0, .slice none 0 0, .slice none 0 0, .int .i64 0] := by rw [hwx]; simpa using ((RowL.new (World.alloc _ _) 31 [.slice none 0 0, .int .i64 0, .int .i64 0, .int .i64 0, .int .i64 0, .int .i64 0, .int .i64 0, .int .i64 0, .slice none 0 0, .slice none 0 0, .slice none 0 0, .int .i64 0]).alloc _)
 have O_0 : RowL wx (w.heap.size + 1 + 1) 31 [.slice none 0 0, .int .i64 0, .int .i64 0, .int .i64 0, .int .i64 0, .int .i64 0, .int .i64 0, .int .i64 0, .slice none 0 0, .slice none 0 0, .slice none 0 0, .int .i64 0] := by rw [hwx]; simpa using (RowL.new (World.alloc (World.alloc _ _) _) 31 [.slice none 0 0, .int .i64 0, .int .i64 0, .int .i64 0, .int .i64 0, .int .i64 0, .int .i64 0, .int .i64 0, .slice none 0 0, .slice none 0 0, .slice none 0 0, .int .i64 0])
 have B_0 : Below w.heap.size w wx := by rw [hwx]; go_grown
 clear hwx;have hL0 := O_0.lt;have VS_0 := hide (VS.out.below B_0);have VP_0 := hide (VP.out.below B_0);have VL_0 := hide (VL.out.below B_0);have VH_0 := hide (VH.out.below B_0);refine (toStuffS_any s m.store _ _ wx VS_0.out n1).mono ?_;rintro e w1 ⟨s', rfl, hn, hb⟩;have A_1 := A_0.below hb A_0.lt;have R_1 := R_0.below hb R_0.lt;have O_1 := O_0.below hb O_0.lt;have VS_1 := hide (VS_0.out.below hb);have VP_1 := hide (VP_0.out.below hb);have VL_1 := hide (VL_0.out.below hb);have VH_1 := hide (VH_0.out.below hb);have VS1_1 := hide hn;have ltS1 := (hn).lt;have B_1 := hide (Below.step B_0 hb nl);obtain ⟨ao1, cap1, rfl, -, -, -, -⟩ := id hn;have hz1 := hb.size;clear hb;have cA1 := A_1.c 1 rfl;have cA2 := A_1.c 2 rfl;have cA3 := A_1.c 3 rfl;have cA4 := A_1.c 4 rfl;have cA5 := A_1.c 5 rfl;have cA6 := A_1.c 6 rfl;have cO0 := O_1.c 0 rfl;have fO0 := O_1.frozen 0;go_wp2_with fail
 refine calls_at fun y1 hwy => ?_;have T_1 : Other (w.heap.size + 1 + 1) (w.heap.size + 1 + 1 + 1) w1 y1 := by rw [hwy]; exact (Other.setCell (p := ⟨w.heap.size + 1 + 1, 0, none⟩) (Other.refl _ _ _) nl (Nat.lt_succ_self _) _)
 have O_1y : RowL y1 (w.heap.size + 1 + 1) 31 [.slice ao1 m.store.length cap1, .int .i64 0, .int .i64 0, .int .i64 0, .int .i64 0, .int .i64 0, .int .i64 0, .int .i64 0, .slice none 0 0, .slice none 0 0, .slice none 0 0, .int .i64 0] := by rw [hwy]; exact (RowL.set O_1 0 _ (by simp))
 have A_1y := A_1.other T_1 (by omega);have R_1y := R_1.other T_1 (by omega);have hL1 := O_1y.lt;have VS_1y := hide (VS_1.out.other T_1 (by omega));have VP_1y := hide (VP_1.out.other T_1 (by omega));have VL_1y := hide (VL_1.out.other T_1 (by omega));have VH_1y := hide (VH_1.out.other T_1 (by omega));have VS1_1y := hide (VS1_1.out.other T_1 (by omega));have B_1y := hide (B_1.out.trans (T_1.below (B := w.heap.size) (by omega) (by omega)));have hzy1 := T_1.size;clear hwy T_1 cA1 cA2 cA3 cA4 cA5 cA6 cO0 fO0;refine (toGrade_any m.rule y1).mono ?_;rintro e w2 ⟨rfl, hb⟩;have A_2 := A_1y.below hb A_1y.lt;have R_2 := R_1y.below hb R_1y.lt;have O_2 := O_1y.below hb O_1y.lt;have VS_2 := hide (VS_1y.out.below hb);have VP_2 := hide (VP_1y.out.below hb);have VL_2 := hide (VL_1y.out.below hb);have VH_2 := hide (VH_1y.out.below hb);have VS1_2 := hide (VS1_1y.out.below hb);have B_2 := hide (Below.step B_1y.out hb nl);have hz2 := hb.size;clear hb;have cA7 := A_2.c 7 rfl;have cA8 := A_2.c 8 rfl;have cO1 := O_2.c 1 rfl;have cO2 := O_2.c 2 rfl;have cO3 := O_2.c 3 rfl;have cO4 := O_2.c 4 rfl;have cO5 := O_2.c 5 rfl;have cO6 := O_2.c 6 rfl;have cO7 := O_2.c 7 rfl;have fO1 := O_2.frozen 1;have fO2 := O_2.frozen 2;have fO3 := O_2.frozen 3;have fO4 := O_2.frozen 4;have fO5 := O_2.frozen 5;have fO6 := O_2.frozen 6;have fO7 := O_2.frozen 7;unfold grV;go_wp2_with fail
 refine calls_at fun y2 hwy => ?_;have T_2 : Other (w.heap.size + 1 + 1) (w.heap.size + 1 + 1 + 1) w2 y2 := by rw [hwy]; exact (Other.setCell (p := ⟨w.heap.size + 1 + 1, 7, none⟩) (Other.setCell (p := ⟨w.heap.size + 1 + 1, 6, none⟩) (Other.setCell (p := ⟨w.heap.size + 1 + 1, 5, none⟩) (Other.setCell (p := ⟨w.heap.size + 1 + 1, 4, none⟩) (Other.setCell (p := ⟨w.heap.size + 1 + 1, 3, none⟩) (Other.setCell (p := ⟨w.heap.size + 1 + 1, 2, none⟩) (Other.setCell (p := ⟨w.heap.size + 1 + 1, 1, none⟩) (Other.refl _ _ _) nl (Nat.lt_succ_self _) _) nl (Nat.lt_succ_self _) _) nl (Nat.lt_succ_self _) _) nl (Nat.lt_succ_self _) _) nl (Nat.lt_succ_self _) _) nl (Nat.lt_succ_self _) _) nl (Nat.lt_succ_self _) _)
 have O_2y : RowL y2 (w.heap.size + 1 + 1) 31 [.slice ao1 m.store.length cap1, .int .i64 m.rule.lc, .int .i64 m.rule.hc, .int .i64 m.rule.lm, .int .i64 m.rule.hm, .int .i64 m.rule.ls, .int .i64 m.rule.hs, .int .i64 m.strand, .slice none 0 0, .slice none 0 0, .slice none 0 0, .int .i64 0] := by rw [hwy]; exact (RowL.set (RowL.set (RowL.set (RowL.set (RowL.set (RowL.set (RowL.set O_2 1 _ (by simp)) 2 _ (by simp)) 3 _ (by simp)) 4 _ (by simp)) 5 _ (by simp)) 6 _ (by simp)) 7 _ (by simp))
 have A_2y := A_2.other T_2 (by omega);have R_2y := R_2.other T_2 (by omega);have hL2 := O_2y.lt;have VS_2y := hide (VS_2.out.other T_2 (by omega));have VP_2y := hide (VP_2.out.other T_2 (by omega));have VL_2y := hide (VL_2.out.other T_2 (by omega));have VH_2y := hide (VH_2.out.other T_2 (by omega));have VS1_2y := hide (VS1_2.out.other T_2 (by omega));have B_2y := hide (B_2.out.trans (T_2.below (B := w.heap.size) (by omega) (by omega)));have hzy2 := T_2.size;clear hwy T_2 cA7 cA8 cO1 cO2 cO3 cO4 cO5 cO6 cO7 fO1 fO2 fO3 fO4 fO5 fO6 fO7;refine (toPieceS_any p m.pieces _ _ y2 VP_2y.out n2).mono ?_;rintro e w3 ⟨p', rfl, hn, hb⟩;have A_3 := A_2y.below hb A_2y.lt;have R_3 := R_2y.below hb R_2y.lt;have O_3 := O_2y.below hb O_2y.lt;have VS_3 := hide (VS_2y.out.below hb);have VP_3 := hide (VP_2y.out.below hb);have VL_3 := hide (VL_2y.out.below hb);have VH_3 := hide (VH_2y.out.below hb);have VS1_3 := hide (VS1_2y.out.below hb);have VP1_3 := hide hn;have ltP1 := (hn).lt;have B_3 := hide (Below.step B_2y.out hb nl);obtain ⟨ao2, cap2, rfl, -, -, -, -⟩ := id hn;have hz3 := hb.size;clear hb;have cA9 := A_3.c 9 rfl;have cA10 := A_3.c 10 rfl;have cO8 := O_3.c 8 rfl;have fO8 := O_3.frozen 8;go_wp2_with fail
 refine calls_at fun y3 hwy => ?_;have T_3 : Other (w.heap.size + 1 + 1) (w.heap.size + 1 + 1 + 1) w3 y3 := by rw [hwy]; exact (Other.setCell (p := ⟨w.heap.size + 1 + 1, 8, none⟩) (Other.refl _ _ _) nl (Nat.lt_succ_self _) _)
 have O_3y : RowL y3 (w.heap.size + 1 + 1) 31 [.slice ao1 m.store.length cap1, .int .i64 m.rule.lc, .int .i64 m.rule.hc, .int .i64 m.rule.lm, .int .i64 m.rule.hm, .int .i64 m.rule.ls, .int .i64 m.rule.hs, .int .i64 m.strand, .slice ao2 m.pieces.length cap2, .slice none 0 0, .slice none 0 0, .int .i64 0] := by rw [hwy]; exact (RowL.set O_3 8 _ (by simp))
 have A_3y := A_3.other T_3 (by omega);have R_3y := R_3.other T_3 (by omega);have hL3 := O_3y.lt;have VS_3y := hide (VS_3.out.other T_3 (by omega));have VP_3y := hide (VP_3.out.other T_3 (by omega));have VL_3y := hide (VL_3.out.other T_3 (by omega));have VH_3y := hide (VH_3.out.other T_3 (by omega));have VS1_3y := hide (VS1_3.out.other T_3 (by omega));have VP1_3y := hide (VP1_3.out.other T_3 (by omega));have B_3y := hide (B_3.out.trans (T_3.below (B := w.heap.size) (by omega) (by omega)));have hzy3 := T_3.size;clear hwy T_3 cA9 cA10 cO8 fO8;have hq0 := trivial;have VL9 := hide ((VL_3y.out).mono nl (VL_3y.out).lt nl);have VH9 := hide ((VH_3y.out).mono nl (VH_3y.out).lt nl);refine (toPile_any l h m.low m.high y3 VL9.out VH9.out n3 n4).mono ?_;rintro e w4 ⟨l', h', mid, rfl, hm1, hm2, hl, hh, hb⟩;have A_4 := A_3y.below hb A_3y.lt;have R_4 := R_3y.below hb R_3y.lt;have O_4 := O_3y.below hb O_3y.lt;have VS_4 := hide (VS_3y.out.below hb);have VP_4 := hide (VP_3y.out.below hb);have VL_4 := hide (VL_3y.out.below hb);have VH_4 := hide (VH_3y.out.below hb);have VS1_4 := hide (VS1_3y.out.below hb);have VP1_4 := hide (VP1_3y.out.below hb);have VL1_4 := hide hl;have ltL1 := (hl).lt;have VH1_4 := hide hh;have ltH1 := (hh).lt;have B_4 := hide (Below.step B_3y.out hb nl);obtain ⟨ao3, cap3, rfl, -, -, -, -⟩ := id hl;obtain ⟨ao4, cap4, rfl, -, -, -, -⟩ := id hh;have hz4 := hb.size;clear hb;have cA11 := A_4.c 11 rfl;obtain ⟨cO0, cO1, cO2, cO3, cO4, cO5, cO6, cO7, cO8, cO9, cO10, cO11⟩ := row12_c O_4;obtain ⟨cR0, cR1, cR2, cR3, cR4, cR5, cR6, cR7, cR8, cR9, cR10, cR11⟩ := row12_c R_4;have fO9 := O_4.frozen 9;have fO10 := O_4.frozen 10;have fO11 := O_4.frozen 11;obtain ⟨fR0, fR1, fR2, fR3, fR4, fR5, fR6, fR7, fR8, fR9, fR10, fR11⟩ := row12_f R_4;unfold pileV;go_wp2_with fail
 refine bodyPost_ret (by simp [results, Tryz.results31, go_sem, cR0, cR1, cR2, cR3, cR4, cR5, cR6, cR7, cR8, cR9, cR10, cR11]; try rfl) rfl ?_;obtain ⟨wz, hwz⟩ : ∃ wz, wz = (((((((((((((((w4.setCell ⟨w.heap.size + 1 + 1, 9, none⟩ (.slice ao3 m.low.length cap3)).setCell ⟨w.heap.size + 1 + 1, 10, none⟩ (.slice ao4 m.high.length cap4)).setCell ⟨w.heap.size + 1 + 1, 11, none⟩ (.int .i64 m.scrap)).setCell ⟨w.heap.size + 1, 0, none⟩ (.slice ao1 m.store.length cap1)).setCell ⟨w.heap.size + 1, 1, none⟩ (.int .i64 m.rule.lc)).setCell ⟨w.heap.size + 1, 2, none⟩ (.int .i64 m.rule.hc)).setCell ⟨w.heap.size + 1, 3, none⟩ (.int .i64 m.rule.lm)).setCell ⟨w.heap.size + 1, 4, none⟩ (.int .i64 m.rule.hm)).setCell ⟨w.heap.size + 1, 5, none⟩ (.int .i64 m.rule.ls)).setCell ⟨w.heap.size + 1, 6, none⟩ (.int .i64 m.rule.hs)).setCell ⟨w.heap.size + 1, 7, none⟩ (.int .i64 m.strand)).setCell ⟨w.heap.size + 1, 8, none⟩ (.slice ao2 m.pieces.length cap2)).setCell ⟨w.heap.size + 1, 9, none⟩ (.slice ao3 m.low.length cap3)).setCell ⟨w.heap.size + 1, 10, none⟩ (.slice ao4 m.high.length cap4)).setCell ⟨w.heap.size + 1, 11, none⟩ (.int .i64 m.scrap)) := ⟨_, rfl⟩;rw [← hwz];have OZ : Other (w.heap.size + 1) (w.heap.size + 1 + 1 + 1) w4 wz := by rw [hwz]; exact (Other.setCell (p := ⟨w.heap.size + 1, 11, none⟩) (Other.setCell (p := ⟨w.heap.size + 1, 10, none⟩) (Other.setCell (p := ⟨w.heap.size + 1, 9, none⟩) (Other.setCell (p := ⟨w.heap.size + 1, 8, none⟩) (Other.setCell (p := ⟨w.heap.size + 1, 7, none⟩) (Other.setCell (p := ⟨w.heap.size + 1, 6, none⟩) (Other.setCell (p := ⟨w.heap.size + 1, 5, none⟩) (Other.setCell (p := ⟨w.heap.size + 1, 4, none⟩) (Other.setCell (p := ⟨w.heap.size + 1, 3, none⟩) (Other.setCell (p := ⟨w.heap.size + 1, 2, none⟩) (Other.setCell (p := ⟨w.heap.size + 1, 1, none⟩) (Other.setCell (p := ⟨w.heap.size + 1, 0, none⟩) (Other.setCell (p := ⟨w.heap.size + 1 + 1, 11, none⟩) (Other.setCell (p := ⟨w.heap.size + 1 + 1, 10, none⟩) (Other.setCell (p := ⟨w.heap.size + 1 + 1, 9, none⟩) (Other.refl _ _ _) (by simp) (by simp) _) (by simp) (by simp) _) (by simp) (by simp) _) (by simp) (by simp) _) (by simp) (by simp) _) (by simp) (by simp) _) (by simp) (by simp) _) (by simp) (by simp) _) (by simp) (by simp) _) (by simp) (by simp) _) (by simp) (by simp) _) (by simp) (by simp) _) (by simp) (by simp) _) (by simp) (by simp) _) (by simp) (by simp) _)
 have hzz := OZ.size;clear hwz;have X1 := (VS1_4.out).other OZ (by omega);have X2 := (VP1_4.out).other OZ (by omega);have X3 := (VL1_4.out).other OZ (by omega);have X4 := (VH1_4.out).other OZ (by omega);have BZ := (B_4.out).trans (OZ.below (B := w.heap.size) (by omega) (by omega));refine ⟨_, _, _, _, rfl, ⟨_, _, _, _, _, _, _, _, ?_, ?_, ?_, ?_, ?_, X1, X2, X3, X4, Nat.le_refl _⟩, BZ⟩
 ·exact ⟨by omega, by omega⟩
 ·exact ⟨by omega, by omega⟩
 ·exact ⟨by omega, by omega⟩
 ·exact ⟨by omega, by omega⟩
 ·exact ⟨by omega, by omega, by omega, by omega, by omega, by omega⟩
end Go.Proofs.YtmemgbklgcjobaaGreatDoor
namespace Go.Proofs.YtmemgbklgcjobaaGreatDoor
open Go.ChangeShapes Go.WideShapes Go.Deep Go.RowKit
section
variable {H : Type} {enc : TypeId × Value → H} {P : Program}
theorem open_StAt {t e : TypeId} {f0 f1 f2 f3 f4 : Field} {w : World} {v : Value} {d : DataW H} {ps before : List MemPlace} (ht : P.underlying t = some (.slice e)) (he : P.underlying e = some (.struct #[f0, f1, f2, f3, f4])) (hone : oneCellFields P #[f0, f1, f2, f3, f4] = true) (hc : P.cellsOf e = 5)
 (t0 : P.underlying f0.type = some (.int .i64)) (t1 : P.underlying f1.type = some (.int .i64)) (t2 : P.underlying f2.type = some (.int .i64)) (t3 : P.underlying f3.type = some (.int .i64)) (t4 : P.underlying f4.type = some (.int .i64))
 (h : DataW.Trod enc P w 0 (fun _ => true) true t v d ps) (hvs : ∃ ao n c, v = .slice ao n c) (hz : w.noneFrozen before) (hp : ∀ x ∈ ps, x ∈ before) :
 ∃ js : List St, StAt 0 w.heap.size w v js := by
 obtain ⟨ao, n0, c0, rfl⟩ := hvs;obtain ⟨fuel, hf⟩ := h;rcases open_slice ht hf with ⟨hcs, hx⟩ | ⟨a, len, cap, m, n, D, Pl, hcs, hb, hl, hm, hmm, hx, hi⟩
 ·simp only [Value.cells, List.cons.injEq, and_true] at hcs
  rw [hcs];exact ⟨[], ⟨none, 0, rfl, Nat.le_refl _, by omega, Nat.le_refl _, fun h => absurd h (Nat.not_lt_zero _)⟩⟩
 ·simp only [Value.cells, List.cons.injEq, and_true] at hcs
  rw [hcs];simp only [↓reduceIte] at hmm;subst hmm;simp only [Prod.mk.injEq] at hx;rw [hc] at hx hi;have hint : ∀ i, i < m → ∃ j : St, w.cell? (a.add (i * 5)) = some (.int .i64 j.c) ∧ w.cell? (a.add (i * 5 + 1)) = some (.int .i64 j.m) ∧ w.cell? (a.add (i * 5 + 2)) = some (.int .i64 j.s) ∧ w.cell? (a.add (i * 5 + 3)) = some (.int .i64 j.p) ∧ w.cell? (a.add (i * 5 + 4)) = some (.int .i64 j.k) := fun i him => by
   obtain ⟨cs', hcc, ht'⟩ := hi i him;obtain ⟨ys, n', hn', hy, hlen, hyl, hfl⟩ := DataW.trod_struct he ht';obtain ⟨_, hcl, hat⟩ := World.cells?_some hcc
   match cs', hcl with
   | [c0, c1, c2, c3, c4], _ =>
    obtain ⟨o0, k0⟩ := hone_of hone 0 f0 rfl;obtain ⟨o1, k1⟩ := hone_of hone 1 f1 rfl;obtain ⟨o2, k2⟩ := hone_of hone 2 f2 rfl;obtain ⟨o3, k3⟩ := hone_of hone 3 f3 rfl;obtain ⟨o4, k4⟩ := hone_of hone 4 f4 rfl;have a0 := hat 0 (by omega);have a1 := hat 1 (by omega);have a2 := hat 2 (by omega);have a3 := hat 3 (by omega);have a4 := hat 4 (by omega);have g0 := hfl 0 f0 rfl;have g1 := hfl 1 f1 rfl;have g2 := hfl 2 f2 rfl;have g3 := hfl 3 f3 rfl;have g4 := hfl 4 f4 rfl;simp only [o0, k0, o1, k1, o2, k2, o3, k3, o4, k4, List.drop_zero, List.drop_succ_cons, List.take_succ_cons, List.take_zero] at g0 g1 g2 g3 g4
    match ys, hyl with
    | [y0, y1, y2, y3, y4], _ =>
     obtain ⟨x0, e0, _, w0⟩ := DataW.trod_int t0 (by simpa using g0);obtain ⟨x1, e1, _, w1⟩ := DataW.trod_int t1 (by simpa using g1);obtain ⟨x2, e2, _, w2⟩ := DataW.trod_int t2 (by simpa using g2);obtain ⟨x3, e3, _, w3⟩ := DataW.trod_int t3 (by simpa using g3);obtain ⟨x4, e4, _, w4⟩ := DataW.trod_int t4 (by simpa using g4);simp only [List.cons.injEq, and_true] at e0 e1 e2 e3 e4;subst e0 e1 e2 e3 e4;rw [add_add] at a0 a1 a2 a3 a4;exact ⟨⟨x0, x1, x2, x3, x4⟩, by simpa using a0, by simpa using a1, by simpa using a2, by simpa using a3, by simpa using a4⟩
  have : Inhabited St := ⟨st0⟩;obtain ⟨X, hX⟩ := choose_lt hint;refine ⟨(List.range len).map X, ⟨some a, m, by simp, by simpa using hl, by unfold maxLen at hm; omega, Nat.le_refl _, fun hn => ?_⟩⟩;have hn' : 0 < len := by simpa using hn
  obtain ⟨h0, _⟩ := hX 0 (by omega);have ha0 : a.add (0 * 5) = a := by simp [Addr.add]
  rw [ha0] at h0;obtain ⟨hs, hblt⟩ := cell_spot h0;obtain ⟨b, o, sp⟩ := a;simp only at hs hblt;subst hs;have hadd : ∀ i, (⟨b, o, none⟩ : Addr).add i = ⟨b, o + i, none⟩ := fun i => by
   unfold Addr.add;split
   ·next h => subst h; rfl
   ·rfl
  refine ⟨b, o, rfl, Nat.zero_le _, hblt, fun i hi' => ?_⟩;have hi'' : i < len := by simpa using hi'
  obtain ⟨h1, h2, h3, h4, h5⟩ := hX i (by omega);rw [hadd] at h1 h2 h3 h4 h5;have hfr : ∀ k, k < m * 5 → w.frozen? ⟨b, o + k, none⟩ = false := fun k hk => by
   refine hz b (o + k) (hp _ ?_);rw [hx.2];exact List.mem_append_left _ (MemPlace.mem_row.2 ⟨k, by omega, rfl⟩)
  refine ⟨⟨?_, ?_, ?_, ?_, ?_⟩, ?_, ?_, ?_, ?_, ?_⟩
  ·rw [h1]; simp
  ·rw [show o + i * 5 + 1 = o + (i * 5 + 1) by omega, h2]; simp
  ·rw [show o + i * 5 + 2 = o + (i * 5 + 2) by omega, h3]; simp
  ·rw [show o + i * 5 + 3 = o + (i * 5 + 3) by omega, h4]; simp
  ·rw [show o + i * 5 + 4 = o + (i * 5 + 4) by omega, h5]; simp
  ·exact hfr _ (by omega)
  ·rw [show o + i * 5 + 1 = o + (i * 5 + 1) by omega]; exact hfr _ (by omega)
  ·rw [show o + i * 5 + 2 = o + (i * 5 + 2) by omega]; exact hfr _ (by omega)
  ·rw [show o + i * 5 + 3 = o + (i * 5 + 3) by omega]; exact hfr _ (by omega)
  ·rw [show o + i * 5 + 4 = o + (i * 5 + 4) by omega]; exact hfr _ (by omega)
theorem open_PcAt {t e : TypeId} {f0 f1 : Field} {w : World} {v : Value} {d : DataW H} {ps before : List MemPlace} (ht : P.underlying t = some (.slice e)) (he : P.underlying e = some (.struct #[f0, f1])) (hone : oneCellFields P #[f0, f1] = true) (hc : P.cellsOf e = 2)
 (t0 : P.underlying f0.type = some (.int .i64)) (t1 : P.underlying f1.type = some (.int .i64))
 (h : DataW.Trod enc P w 0 (fun _ => true) true t v d ps) (hvs : ∃ ao n c, v = .slice ao n c) (hz : w.noneFrozen before) (hp : ∀ x ∈ ps, x ∈ before) :
 ∃ js : List Pc, PcAt 0 w.heap.size w v js := by
 obtain ⟨ao, n0, c0, rfl⟩ := hvs;obtain ⟨fuel, hf⟩ := h;rcases open_slice ht hf with ⟨hcs, hx⟩ | ⟨a, len, cap, m, n, D, Pl, hcs, hb, hl, hm, hmm, hx, hi⟩
 ·simp only [Value.cells, List.cons.injEq, and_true] at hcs
  rw [hcs];exact ⟨[], ⟨none, 0, rfl, Nat.le_refl _, by omega, Nat.le_refl _, fun h => absurd h (Nat.not_lt_zero _)⟩⟩
 ·simp only [Value.cells, List.cons.injEq, and_true] at hcs
  rw [hcs];simp only [↓reduceIte] at hmm;subst hmm;simp only [Prod.mk.injEq] at hx;rw [hc] at hx hi;have hint : ∀ i, i < m → ∃ j : Pc, w.cell? (a.add (i * 2)) = some (.int .i64 j.l) ∧ w.cell? (a.add (i * 2 + 1)) = some (.int .i64 j.s) := fun i him => by
   obtain ⟨cs', hcc, ht'⟩ := hi i him;obtain ⟨ys, n', hn', hy, hlen, hyl, hfl⟩ := DataW.trod_struct he ht';obtain ⟨_, hcl, hat⟩ := World.cells?_some hcc
   match cs', hcl with
   | [c0, c1], _ =>
    obtain ⟨o0, k0⟩ := hone_of hone 0 f0 rfl;obtain ⟨o1, k1⟩ := hone_of hone 1 f1 rfl;have a0 := hat 0 (by omega);have a1 := hat 1 (by omega);have g0 := hfl 0 f0 rfl;have g1 := hfl 1 f1 rfl;simp only [o0, k0, o1, k1, List.drop_zero, List.drop_succ_cons, List.take_succ_cons, List.take_zero] at g0 g1
    match ys, hyl with
    | [y0, y1], _ =>
     obtain ⟨x0, e0, _, w0⟩ := DataW.trod_int t0 (by simpa using g0);obtain ⟨x1, e1, _, w1⟩ := DataW.trod_int t1 (by simpa using g1);simp only [List.cons.injEq, and_true] at e0 e1;subst e0 e1;rw [add_add] at a0 a1;exact ⟨⟨x0, x1⟩, by simpa using a0, by simpa using a1⟩
  have : Inhabited Pc := ⟨pc0⟩;obtain ⟨X, hX⟩ := choose_lt hint;refine ⟨(List.range len).map X, ⟨some a, m, by simp, by simpa using hl, by unfold maxLen at hm; omega, Nat.le_refl _, fun hn => ?_⟩⟩;have hn' : 0 < len := by simpa using hn
  obtain ⟨h0, _⟩ := hX 0 (by omega);have ha0 : a.add (0 * 2) = a := by simp [Addr.add]
  rw [ha0] at h0;obtain ⟨hs, hblt⟩ := cell_spot h0;obtain ⟨b, o, sp⟩ := a;simp only at hs hblt;subst hs;have hadd : ∀ i, (⟨b, o, none⟩ : Addr).add i = ⟨b, o + i, none⟩ := fun i => by
   unfold Addr.add;split
   ·next h => subst h; rfl
   ·rfl
  refine ⟨b, o, rfl, Nat.zero_le _, hblt, fun i hi' => ?_⟩;have hi'' : i < len := by simpa using hi'
  obtain ⟨h1, h2⟩ := hX i (by omega);rw [hadd] at h1 h2;have hfr : ∀ k, k < m * 2 → w.frozen? ⟨b, o + k, none⟩ = false := fun k hk => by
   refine hz b (o + k) (hp _ ?_);rw [hx.2];exact List.mem_append_left _ (MemPlace.mem_row.2 ⟨k, by omega, rfl⟩)
  refine ⟨⟨?_, ?_⟩, ?_, ?_⟩
  ·rw [h1]; simp
  ·rw [show o + i * 2 + 1 = o + (i * 2 + 1) by omega, h2]; simp
  ·exact hfr _ (by omega)
  ·rw [show o + i * 2 + 1 = o + (i * 2 + 1) by omega]; exact hfr _ (by omega)
theorem open_millAt {T eS eP tI : TypeId} {f0 f1 f2 f3 f4 f5 s0 s1 s2 s3 s4 p0 p1 r0 r1 r2 r3 r4 r5 y0 y1 : Field} {w : World} {v : Value} {d : DataW H} {ps before : List MemPlace} {base : Nat}
 (he : P.underlying T = some (.struct #[f0, f1, f2, f3, f4, f5])) (hC : P.cellsOf T = 12)
 (ho : [f0, f1, f2, f3, f4, f5].map (fun f => (f.offset, P.cellsOf f.type)) = [(0, 1), (1, 6), (7, 1), (8, 1), (9, 2), (11, 1)])
 (g0 : P.underlying f0.type = some (.slice eS)) (q0 : P.underlying eS = some (.struct #[s0, s1, s2, s3, s4])) (u0 : oneCellFields P #[s0, s1, s2, s3, s4] = true) (c0 : P.cellsOf eS = 5)
 (i0 : P.underlying s0.type = some (.int .i64)) (i1 : P.underlying s1.type = some (.int .i64)) (i2 : P.underlying s2.type = some (.int .i64)) (i3 : P.underlying s3.type = some (.int .i64)) (i4 : P.underlying s4.type = some (.int .i64))
 (g1 : P.underlying f1.type = some (.struct #[r0, r1, r2, r3, r4, r5])) (u1 : oneCellFields P #[r0, r1, r2, r3, r4, r5] = true)
 (j0 : P.underlying r0.type = some (.int .i64)) (j1 : P.underlying r1.type = some (.int .i64)) (j2 : P.underlying r2.type = some (.int .i64)) (j3 : P.underlying r3.type = some (.int .i64)) (j4 : P.underlying r4.type = some (.int .i64)) (j5 : P.underlying r5.type = some (.int .i64))
 (g2 : P.underlying f2.type = some (.int .i64)) (g3 : P.underlying f3.type = some (.slice eP)) (q3 : P.underlying eP = some (.struct #[p0, p1])) (u3 : oneCellFields P #[p0, p1] = true) (c3 : P.cellsOf eP = 2)
 (k0 : P.underlying p0.type = some (.int .i64)) (k1 : P.underlying p1.type = some (.int .i64))
 (g4 : P.underlying f4.type = some (.struct #[y0, y1])) (u4 : oneCellFields P #[y0, y1] = true) (l0 : P.underlying y0.type = some (.slice tI)) (l1 : P.underlying y1.type = some (.slice tI)) (hI : P.underlying tI = some (.int .i64)) (cI : P.cellsOf tI = 1)
 (g5 : P.underlying f5.type = some (.int .i64))
 (hv : Value.okWide P w .any base T v) (h : DataW.Trod enc P w 0 (fun _ => true) true T v d ps) (hz : w.noneFrozen before) (hp : ∀ x ∈ ps, x ∈ before) :
 ∃ s p l hh m, v = millV s p l hh m ∧ MillIn 0 w.heap.size w s p l hh m := by
 obtain ⟨cs, rfl, hsz⟩ := okWide_struct he hv;rw [hC] at hsz;obtain ⟨fuel, hf⟩ := h;obtain ⟨ys, n', -, hx, -, hyl, hfl⟩ := DataW.trod_struct he hf;simp only [List.map_cons, List.map_nil, List.cons.injEq, Prod.mk.injEq, and_true] at ho;obtain ⟨⟨a0, b0⟩, ⟨a1, b1⟩, ⟨a2, b2⟩, ⟨a3, b3⟩, ⟨a4, b4⟩, a5, b5⟩ := ho;obtain ⟨cl⟩ := cs
 match cl, hsz with
 | [v0, v1, v2, v3, v4, v5, v6, v7, v8, v9, v10, v11], _ =>
 match ys, hyl with
 | [z0, z1, z2, z3, z4, z5], _ =>
 have h0 := hfl 0 f0 rfl;have h1 := hfl 1 f1 rfl;have h2 := hfl 2 f2 rfl;have h3 := hfl 3 f3 rfl;have h4 := hfl 4 f4 rfl;have h5 := hfl 5 f5 rfl;simp only [Value.cells, a0, b0, a1, b1, a2, b2, a3, b3, a4, b4, a5, b5, List.drop_zero, List.drop_succ_cons, List.take_succ_cons, List.take_zero, List.getElem?_cons_zero, List.getElem?_cons_succ] at h0 h1 h2 h3 h4 h5;have hps : ps = z0.2 ++ (z1.2 ++ (z2.2 ++ (z3.2 ++ (z4.2 ++ z5.2)))) := by
  have := congrArg Prod.snd hx;simpa using this
 subst hps;have isl : ∀ {t e : TypeId} {n : Nat} {u : Value} {y : DataW H × List MemPlace}, P.underlying t = some (.slice e) → DataW.trod enc P w 0 (fun _ => true) true n t [u] = some y → (∃ ao m c, u = .slice ao m c) ∧ DataW.Trod enc P w 0 (fun _ => true) true t u y.1 y.2 := fun {t e n u y} ht hu => by
  have hs : ∃ ao m c, u = .slice ao m c := by
   rcases open_slice ht hu with ⟨hcs, _⟩ | ⟨a, len, cap, _, _, _, _, hcs, _⟩
   ·simp only [List.cons.injEq, and_true] at hcs; exact ⟨_, _, _, hcs⟩
   ·simp only [List.cons.injEq, and_true] at hcs; exact ⟨_, _, _, hcs⟩
  refine ⟨hs, n, ?_⟩;obtain ⟨ao, m, c, rfl⟩ := hs;exact hu
 obtain ⟨s0', t0'⟩ := isl g0 h0;obtain ⟨xs, hxs⟩ := open_StAt g0 q0 u0 c0 i0 i1 i2 i3 i4 t0' s0' hz (fun x hx => hp x (by simp [hx]));obtain ⟨s3', t3'⟩ := isl g3 h3;obtain ⟨pcs, hpcs⟩ := open_PcAt g3 q3 u3 c3 k0 k1 t3' s3' hz (fun x hx => hp x (by simp [hx]));obtain ⟨m2, e2, -, -⟩ := DataW.trod_int g2 h2;obtain ⟨m5, e5, -, -⟩ := DataW.trod_int g5 h5;simp only [List.cons.injEq, and_true] at e2 e5;subst e2 e5;obtain ⟨w1, n1, -, -, -, wl1, wf1⟩ := DataW.trod_struct g1 h1
 match w1, wl1 with
 | [d0, d1, d2, d3, d4, d5], _ =>
 obtain ⟨o0, x0⟩ := hone_of u1 0 r0 rfl;obtain ⟨o1, x1⟩ := hone_of u1 1 r1 rfl;obtain ⟨o2, x2⟩ := hone_of u1 2 r2 rfl;obtain ⟨o3, x3⟩ := hone_of u1 3 r3 rfl;obtain ⟨o4, x4⟩ := hone_of u1 4 r4 rfl;obtain ⟨o5, x5⟩ := hone_of u1 5 r5 rfl;have m0 := wf1 0 r0 rfl;have m1 := wf1 1 r1 rfl;have m2' := wf1 2 r2 rfl;have m3 := wf1 3 r3 rfl;have m4 := wf1 4 r4 rfl;have m5' := wf1 5 r5 rfl;simp only [o0, x0, o1, x1, o2, x2, o3, x3, o4, x4, o5, x5, List.drop_zero, List.drop_succ_cons, List.take_succ_cons, List.take_zero, List.getElem?_cons_zero, List.getElem?_cons_succ] at m0 m1 m2' m3 m4 m5';obtain ⟨n0, e0, -, -⟩ := DataW.trod_int j0 m0;obtain ⟨n1', e1, -, -⟩ := DataW.trod_int j1 m1;obtain ⟨n2, e2, -, -⟩ := DataW.trod_int j2 m2';obtain ⟨n3, e3, -, -⟩ := DataW.trod_int j3 m3;obtain ⟨n4, e4, -, -⟩ := DataW.trod_int j4 m4;obtain ⟨n5, e5, -, -⟩ := DataW.trod_int j5 m5';simp only [List.cons.injEq, and_true] at e0 e1 e2 e3 e4 e5;subst e0 e1 e2 e3 e4 e5;obtain ⟨w4, nn4, -, hx4, -, wl4, wf4⟩ := DataW.trod_struct g4 h4
 match w4, wl4 with
 | [b0', b1'], _ =>
 obtain ⟨oo0, xx0⟩ := hone_of u4 0 y0 rfl;obtain ⟨oo1, xx1⟩ := hone_of u4 1 y1 rfl;have mm0 := wf4 0 y0 rfl;have mm1 := wf4 1 y1 rfl;simp only [oo0, xx0, oo1, xx1, List.drop_zero, List.drop_succ_cons, List.take_succ_cons, List.take_zero, List.getElem?_cons_zero, List.getElem?_cons_succ] at mm0 mm1;have hz4 : z4.2 = b0'.2 ++ b1'.2 := by rw [hx4]; simp
 obtain ⟨sl, tl⟩ := isl l0 mm0;obtain ⟨sh, th⟩ := isl l1 mm1;obtain ⟨lo, hlo, -⟩ := open_intsAt l0 hI cI tl sl hz (fun x hx => hp x (by simp [hz4, hx]));obtain ⟨hi, hhi, -⟩ := open_intsAt l1 hI cI th sh hz (fun x hx => hp x (by simp [hz4, hx]));exact ⟨v0, v8, v9, v10, ⟨xs, ⟨n0, n1', n2, n3, n4, n5⟩, m2, pcs, lo, hi, m5⟩, rfl, hxs, hpcs, hlo, hhi⟩
end
end Go.Proofs.YtmemgbklgcjobaaGreatDoor
