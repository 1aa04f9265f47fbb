/-
  Parts of the proof, of 1 texts: what HelpM show. Conditions: each theorem states its own.
-/
import Derived.Outline
import Derived.Test.YtajjnciookhamaaGreatM12
import Derived.Test.YtajjnciookhamaaGreatM08
import Derived.Test.YtajjnciookhamaaGreatM11
import Derived.Test.YtajjnciookhamaaGreatM07
import Derived.Test.YtajjnciookhamaaGreatM09
namespace Go.Proofs.YtajjnciookhamaaGreat
open Go.RowKit
theorem toGrade_any (g : Gr) (w : World) :
    Calls Tryz.prog 33 #[grV g] w fun e w' => e = .returned (grV g) ∧ Below w.heap.size w w' := by
  obtain ⟨a, b, c, d, f, h⟩ := g
  unfold grV
  go_enter Tryz.func33, Tryz.ntmps33
  go_wp2
  go_returns
  exact ⟨rfl, by go_grown⟩
/-- A pile was copied. -/
def PileGot (lo hi : List Int) (w : World) (e : Ending) (w' : World) : Prop :=
  ∃ l' h' mid, e = .returned (pileV l' h') ∧ w.heap.size ≤ mid ∧ mid ≤ w'.heap.size ∧ IntsAt w.heap.size mid w' l' lo ∧ IntsAt mid w'.heap.size w' h' hi ∧ Below w.heap.size w w'
set_option maxRecDepth 10000 in
theorem toPile_any (l h : Value) (lo hi : List Int) (w : World) (Hl : IntsAt 0 w.heap.size w l lo) (Hh : IntsAt 0 w.heap.size w h hi) (n1 : lo.length ≤ 2097152) (n2 : hi.length ≤ 2097152) :
    Calls Tryz.prog 35 #[pileV l h] w (PileGot lo hi w) := by
  have HL := hide Hl
  have HH := hide Hh
  unfold pileV
  clear Hl Hh
  go_enter Tryz.func35, Tryz.ntmps35
  go_wp2_with fail
  refine calls_at fun wx hwx => ?_
  have R1 : RowL wx w.heap.size 28 [l, h] := by rw [hwx]; exact ((RowL.new _ _ _).alloc _).alloc _
  have R2 : RowL wx (w.heap.size + 1) 37 [.slice none 0 0, .slice none 0 0] := by rw [hwx]; simpa using (RowL.new (w.alloc _) 37 [.slice none 0 0, .slice none 0 0]).alloc _
  have R3 : RowL wx (w.heap.size + 1 + 1) 37 [.slice none 0 0, .slice none 0 0] := by rw [hwx]; simpa using (RowL.new ((w.alloc _).alloc _) 37 [.slice none 0 0, .slice none 0 0])
  have hb0 : Below w.heap.size w wx := by rw [hwx]; go_grown
  clear hwx
  refine (toIntS_any l lo _ _ _ (HL.out.below hb0) n1).mono ?_
  rintro e w1 ⟨l', rfl, hi1, hb1⟩
  have R1b := R1.below hb1 R1.lt
  have R2b := R2.below hb1 R2.lt
  have R3b := R3.below hb1 R3.lt
  have HI1 := hide hi1
  have HB1 := hide hb1
  have HZ := hide (Below.step hb0 hb1 (Nat.le_refl _))
  obtain ⟨ao1, cap1, rfl, -, -, -, -⟩ := hi1
  have c1 : w1.cell? ⟨w.heap.size, 1, none⟩ = some h := R1b.cell 1 (by simp)
  have d0 : w1.cell? ⟨w.heap.size + 1 + 1, 0, none⟩ = some (.slice none 0 0) := R3b.cell 0 (by simp)
  have f0 := R3b.frozen 0
  clear hb1
  go_wp2_with fail
  refine calls_at fun wy hwy => ?_
  have hby : Below w.heap.size w wy := by rw [hwy]; exact HZ.out.setCell (by show w.heap.size ≤ w.heap.size + 1 + 1; omega) _
  have hoy : Other (w.heap.size + 1 + 1) (w.heap.size + 1 + 1 + 1) w1 wy := by rw [hwy]; exact Other.setCell (p := ⟨w.heap.size + 1 + 1, 0, none⟩) (Other.refl _ _ _) (Nat.le_refl _) (Nat.lt_succ_self _) _
  have R3c : RowL wy (w.heap.size + 1 + 1) 37 [.slice ao1 lo.length cap1, .slice none 0 0] := by rw [hwy]; exact R3b.set 0 _ (by simp)
  have R2c := R2b.other hoy (.inl (by omega))
  have hx := R3.lt
  have HI2 := hide (HI1.out.other hoy (.inr (by omega)))
  clear hwy c1 d0 f0
  refine (toIntS_any h hi _ _ _ (HH.out.below hby) n2).mono ?_
  rintro e w2 ⟨h', rfl, hi2, hb2⟩
  have R3d := R3c.below hb2 R3c.lt
  have R2d := R2c.below hb2 R2c.lt
  have HI3 := hide (HI2.out.below hb2)
  have HI4 := hide hi2
  have HB2 := hide (Below.step hby hb2 (Nat.le_refl _))
  obtain ⟨ao2, cap2, rfl, -, -, -, -⟩ := hi2
  have d0 : w2.cell? ⟨w.heap.size + 1 + 1, 0, none⟩ = some (.slice ao1 lo.length cap1) := R3d.cell 0 (by simp)
  have d1 : w2.cell? ⟨w.heap.size + 1 + 1, 1, none⟩ = some (.slice none 0 0) := R3d.cell 1 (by simp)
  have f1 := R3d.frozen 1
  have g0 : w2.cell? ⟨w.heap.size + 1, 0, none⟩ = some (.slice none 0 0) := R2d.cell 0 (by simp)
  have g1 : w2.cell? ⟨w.heap.size + 1, 1, none⟩ = some (.slice none 0 0) := R2d.cell 1 (by simp)
  have e0 := R2d.frozen 0
  have e1 := R2d.frozen 1
  have hz1 := hoy.size
  have hz2 := hb2.size
  have hz0 := HB1.out.size
  clear hb2
  go_wp2_with fail
  refine bodyPost_ret (by simp [results, Tryz.results35, go_sem, g0, g1]; try rfl) rfl ?_
  have hoz : Other (w.heap.size + 1) (w.heap.size + 1 + 1 + 1) w2 (((w2.setCell ⟨w.heap.size + 1 + 1, 1, none⟩ (Value.slice ao2 hi.length cap2)).setCell ⟨w.heap.size + 1, 0, none⟩ (Value.slice ao1 lo.length cap1)).setCell ⟨w.heap.size + 1, 1, none⟩ (Value.slice ao2 hi.length cap2)) :=
    Other.setCell (p := ⟨w.heap.size + 1, 1, none⟩) (Other.setCell (p := ⟨w.heap.size + 1, 0, none⟩) (Other.setCell (p := ⟨w.heap.size + 1 + 1, 1, none⟩) (Other.refl _ _ _) (by simp) (by simp) _) (by simp) (by simp) _) (by simp) (by simp) _
  have hzz := hoz.size
  have hmid : w1.heap.size ≤ w2.heap.size := by omega
  have hfin := hoz.below (B := w.heap.size) (by omega) (by omega)
  exact ⟨_, _, w1.heap.size, rfl, by omega, by omega, (HI3.out.other hoz (.inr (by omega))).mono (by omega) (Nat.le_refl _) (by omega), (HI4.out.other hoz (.inr (by omega))).mono (by omega) (by omega) (Nat.le_refl _), HB2.out.trans hfin⟩
/-- The lists of a mill are not too long. -/
structure Small (m : Mi) : Prop where
  s : m.store.length ≤ 2097152
  p : m.pieces.length ≤ 2097152
  l : m.low.length ≤ 2097152
  h : m.high.length ≤ 2097152
/-- A mill was copied. -/
def MillNew (m : Mi) (w : World) (e : Ending) (w' : World) : Prop :=
  ∃ s p l h, e = .returned (millV s p l h m) ∧ MillSep w.heap.size w'.heap.size w' s p l h m ∧ Below w.heap.size w w'
set_option maxRecDepth 10000 in
set_option maxHeartbeats 1600000 in
theorem toMill_any (s p l h : Value) (m : Mi) (w : World) (H : MillIn 0 w.heap.size w s p l h m) (hs : Small m) :
    Calls Tryz.prog 7 #[millV s p l h m] w (MillNew m w) := by
  have VS := hide H.store
  have VP := hide H.pieces
  have VL := hide H.low
  have VH := hide H.high
  have HS := hide hs
  obtain ⟨n1, n2, n3, n4⟩ := hs
  clear H
  unfold millV
  go_enter Tryz.func7, Tryz.ntmps7
  go_wp2_with fail
  refine calls_at fun wx hwx => ?_
  have A_0 : RowL wx (w.heap.size) 30 [s, .int .i64 m.rule.lc, .int .i64 m.rule.hc, .int .i64 m.rule.lm, .int .i64 m.rule.hm, .int .i64 m.rule.ls, .int .i64 m.rule.hs, .int .i64 m.strand, p, l, h, .int .i64 m.scrap] := by rw [hwx]; exact (((RowL.new _ 30 [s, .int .i64 m.rule.lc, .int .i64 m.rule.hc, .int .i64 m.rule.lm, .int .i64 m.rule.hm, .int .i64 m.rule.ls, .int .i64 m.rule.hs, .int .i64 m.strand, p, l, h, .int .i64 m.scrap]).alloc _).alloc _)
  have R_0 : RowL wx (w.heap.size + 1) 39 [.slice none 0 0, .int .i64 0, .int .i64 0, .int .i64 0, .int .i64 0, .int .i64 0, .int .i64 0, .int .i64 0, .slice none 0 0, .slice none 0 0, .slice none 0 0, .int .i64 0] := by rw [hwx]; simpa using ((RowL.new (World.alloc _ _) 39 [.slice none 0 0, .int .i64 0, .int .i64 0, .int .i64 0, .int .i64 0, .int .i64 0, .int .i64 0, .int .i64 0, .slice none 0 0, .slice none 0 0, .slice none 0 0, .int .i64 0]).alloc _)
  have O_0 : RowL wx (w.heap.size + 1 + 1) 39 [.slice none 0 0, .int .i64 0, .int .i64 0, .int .i64 0, .int .i64 0, .int .i64 0, .int .i64 0, .int .i64 0, .slice none 0 0, .slice none 0 0, .slice none 0 0, .int .i64 0] := by rw [hwx]; simpa using (RowL.new (World.alloc (World.alloc _ _) _) 39 [.slice none 0 0, .int .i64 0, .int .i64 0, .int .i64 0, .int .i64 0, .int .i64 0, .int .i64 0, .int .i64 0, .slice none 0 0, .slice none 0 0, .slice none 0 0, .int .i64 0])
  have B_0 : Below w.heap.size w wx := by rw [hwx]; go_grown
  clear hwx
  have hL0 := O_0.lt
  have VS_0 := hide (VS.out.below B_0)
  have VP_0 := hide (VP.out.below B_0)
  have VL_0 := hide (VL.out.below B_0)
  have VH_0 := hide (VH.out.below B_0)
  refine (toStuffS_any s m.store _ _ wx VS_0.out n1).mono ?_
  rintro e w1 ⟨s', rfl, hn, hb⟩
  have A_1 := A_0.below hb A_0.lt
  have R_1 := R_0.below hb R_0.lt
  have O_1 := O_0.below hb O_0.lt
  have VS_1 := hide (VS_0.out.below hb)
  have VP_1 := hide (VP_0.out.below hb)
  have VL_1 := hide (VL_0.out.below hb)
  have VH_1 := hide (VH_0.out.below hb)
  have VS1_1 := hide hn
  have ltS1 := (hn).lt
  have B_1 := hide (Below.step B_0 hb (Nat.le_refl _))
  obtain ⟨ao1, cap1, rfl, -, -, -, -⟩ := id hn
  have hz1 := hb.size
  clear hb
  have cA1 : w1.cell? ⟨w.heap.size, 1, none⟩ = some (.int .i64 m.rule.lc) := A_1.cell 1 (by simp)
  have cA2 : w1.cell? ⟨w.heap.size, 2, none⟩ = some (.int .i64 m.rule.hc) := A_1.cell 2 (by simp)
  have cA3 : w1.cell? ⟨w.heap.size, 3, none⟩ = some (.int .i64 m.rule.lm) := A_1.cell 3 (by simp)
  have cA4 : w1.cell? ⟨w.heap.size, 4, none⟩ = some (.int .i64 m.rule.hm) := A_1.cell 4 (by simp)
  have cA5 : w1.cell? ⟨w.heap.size, 5, none⟩ = some (.int .i64 m.rule.ls) := A_1.cell 5 (by simp)
  have cA6 : w1.cell? ⟨w.heap.size, 6, none⟩ = some (.int .i64 m.rule.hs) := A_1.cell 6 (by simp)
  have cO0 := O_1.c 0 rfl
  have fO0 := O_1.frozen 0
  go_wp2_with fail
  refine calls_at fun y1 hwy => ?_
  have T_1 : Other (w.heap.size + 1 + 1) (w.heap.size + 1 + 1 + 1) w1 y1 := by rw [hwy]; exact (Other.setCell (p := ⟨w.heap.size + 1 + 1, 0, none⟩) (Other.refl _ _ _) (Nat.le_refl _) (Nat.lt_succ_self _) _)
  have O_1y : RowL y1 (w.heap.size + 1 + 1) 39 [.slice ao1 m.store.length cap1, .int .i64 0, .int .i64 0, .int .i64 0, .int .i64 0, .int .i64 0, .int .i64 0, .int .i64 0, .slice none 0 0, .slice none 0 0, .slice none 0 0, .int .i64 0] := by rw [hwy]; exact (RowL.set O_1 0 _ (by simp))
  have A_1y := A_1.other T_1 (by omega)
  have R_1y := R_1.other T_1 (by omega)
  have hL1 := O_1y.lt
  have VS_1y := hide (VS_1.out.other T_1 (by omega))
  have VP_1y := hide (VP_1.out.other T_1 (by omega))
  have VL_1y := hide (VL_1.out.other T_1 (by omega))
  have VH_1y := hide (VH_1.out.other T_1 (by omega))
  have VS1_1y := hide (VS1_1.out.other T_1 (by omega))
  have B_1y := hide (B_1.out.trans (T_1.below (B := w.heap.size) (by omega) (by omega)))
  have hzy1 := T_1.size
  clear hwy T_1 cA1 cA2 cA3 cA4 cA5 cA6 cO0 fO0
  refine (toGrade_any m.rule y1).mono ?_
  rintro e w2 ⟨rfl, hb⟩
  have A_2 := A_1y.below hb A_1y.lt
  have R_2 := R_1y.below hb R_1y.lt
  have O_2 := O_1y.below hb O_1y.lt
  have VS_2 := hide (VS_1y.out.below hb)
  have VP_2 := hide (VP_1y.out.below hb)
  have VL_2 := hide (VL_1y.out.below hb)
  have VH_2 := hide (VH_1y.out.below hb)
  have VS1_2 := hide (VS1_1y.out.below hb)
  have B_2 := hide (Below.step B_1y.out hb (Nat.le_refl _))
  have hz2 := hb.size
  clear hb
  have cA7 : w2.cell? ⟨w.heap.size, 7, none⟩ = some (.int .i64 m.strand) := A_2.cell 7 (by simp)
  have cA8 : w2.cell? ⟨w.heap.size, 8, none⟩ = some (p) := A_2.cell 8 (by simp)
  have cO1 := O_2.c 1 rfl
  have cO2 := O_2.c 2 rfl
  have cO3 := O_2.c 3 rfl
  have cO4 := O_2.c 4 rfl
  have cO5 := O_2.c 5 rfl
  have cO6 := O_2.c 6 rfl
  have cO7 := O_2.c 7 rfl
  have fO1 := O_2.frozen 1
  have fO2 := O_2.frozen 2
  have fO3 := O_2.frozen 3
  have fO4 := O_2.frozen 4
  have fO5 := O_2.frozen 5
  have fO6 := O_2.frozen 6
  have fO7 := O_2.frozen 7
  unfold grV
  go_wp2_with fail
  refine calls_at fun y2 hwy => ?_
  have T_2 : Other (w.heap.size + 1 + 1) (w.heap.size + 1 + 1 + 1) w2 y2 := by rw [hwy]; exact (Other.setCell (p := ⟨w.heap.size + 1 + 1, 7, none⟩) (Other.setCell (p := ⟨w.heap.size + 1 + 1, 6, none⟩) (Other.setCell (p := ⟨w.heap.size + 1 + 1, 5, none⟩) (Other.setCell (p := ⟨w.heap.size + 1 + 1, 4, none⟩) (Other.setCell (p := ⟨w.heap.size + 1 + 1, 3, none⟩) (Other.setCell (p := ⟨w.heap.size + 1 + 1, 2, none⟩) (Other.setCell (p := ⟨w.heap.size + 1 + 1, 1, none⟩) (Other.refl _ _ _) (Nat.le_refl _) (Nat.lt_succ_self _) _) (Nat.le_refl _) (Nat.lt_succ_self _) _) (Nat.le_refl _) (Nat.lt_succ_self _) _) (Nat.le_refl _) (Nat.lt_succ_self _) _) (Nat.le_refl _) (Nat.lt_succ_self _) _) (Nat.le_refl _) (Nat.lt_succ_self _) _) (Nat.le_refl _) (Nat.lt_succ_self _) _)
  have O_2y : RowL y2 (w.heap.size + 1 + 1) 39 [.slice ao1 m.store.length cap1, .int .i64 m.rule.lc, .int .i64 m.rule.hc, .int .i64 m.rule.lm, .int .i64 m.rule.hm, .int .i64 m.rule.ls, .int .i64 m.rule.hs, .int .i64 m.strand, .slice none 0 0, .slice none 0 0, .slice none 0 0, .int .i64 0] := by rw [hwy]; exact (RowL.set (RowL.set (RowL.set (RowL.set (RowL.set (RowL.set (RowL.set O_2 1 _ (by simp)) 2 _ (by simp)) 3 _ (by simp)) 4 _ (by simp)) 5 _ (by simp)) 6 _ (by simp)) 7 _ (by simp))
  have A_2y := A_2.other T_2 (by omega)
  have R_2y := R_2.other T_2 (by omega)
  have hL2 := O_2y.lt
  have VS_2y := hide (VS_2.out.other T_2 (by omega))
  have VP_2y := hide (VP_2.out.other T_2 (by omega))
  have VL_2y := hide (VL_2.out.other T_2 (by omega))
  have VH_2y := hide (VH_2.out.other T_2 (by omega))
  have VS1_2y := hide (VS1_2.out.other T_2 (by omega))
  have B_2y := hide (B_2.out.trans (T_2.below (B := w.heap.size) (by omega) (by omega)))
  have hzy2 := T_2.size
  clear hwy T_2 cA7 cA8 cO1 cO2 cO3 cO4 cO5 cO6 cO7 fO1 fO2 fO3 fO4 fO5 fO6 fO7
  refine (toPieceS_any p m.pieces _ _ y2 VP_2y.out n2).mono ?_
  rintro e w3 ⟨p', rfl, hn, hb⟩
  have A_3 := A_2y.below hb A_2y.lt
  have R_3 := R_2y.below hb R_2y.lt
  have O_3 := O_2y.below hb O_2y.lt
  have VS_3 := hide (VS_2y.out.below hb)
  have VP_3 := hide (VP_2y.out.below hb)
  have VL_3 := hide (VL_2y.out.below hb)
  have VH_3 := hide (VH_2y.out.below hb)
  have VS1_3 := hide (VS1_2y.out.below hb)
  have VP1_3 := hide hn
  have ltP1 := (hn).lt
  have B_3 := hide (Below.step B_2y.out hb (Nat.le_refl _))
  obtain ⟨ao2, cap2, rfl, -, -, -, -⟩ := id hn
  have hz3 := hb.size
  clear hb
  have cA9 : w3.cell? ⟨w.heap.size, 9, none⟩ = some (l) := A_3.cell 9 (by simp)
  have cA10 : w3.cell? ⟨w.heap.size, 10, none⟩ = some (h) := A_3.cell 10 (by simp)
  have cO8 := O_3.c 8 rfl
  have fO8 := O_3.frozen 8
  go_wp2_with fail
  refine calls_at fun y3 hwy => ?_
  have T_3 : Other (w.heap.size + 1 + 1) (w.heap.size + 1 + 1 + 1) w3 y3 := by rw [hwy]; exact (Other.setCell (p := ⟨w.heap.size + 1 + 1, 8, none⟩) (Other.refl _ _ _) (Nat.le_refl _) (Nat.lt_succ_self _) _)
  have O_3y : RowL y3 (w.heap.size + 1 + 1) 39 [.slice ao1 m.store.length cap1, .int .i64 m.rule.lc, .int .i64 m.rule.hc, .int .i64 m.rule.lm, .int .i64 m.rule.hm, .int .i64 m.rule.ls, .int .i64 m.rule.hs, .int .i64 m.strand, .slice ao2 m.pieces.length cap2, .slice none 0 0, .slice none 0 0, .int .i64 0] := by rw [hwy]; exact (RowL.set O_3 8 _ (by simp))
  have A_3y := A_3.other T_3 (by omega)
  have R_3y := R_3.other T_3 (by omega)
  have hL3 := O_3y.lt
  have VS_3y := hide (VS_3.out.other T_3 (by omega))
  have VP_3y := hide (VP_3.out.other T_3 (by omega))
  have VL_3y := hide (VL_3.out.other T_3 (by omega))
  have VH_3y := hide (VH_3.out.other T_3 (by omega))
  have VS1_3y := hide (VS1_3.out.other T_3 (by omega))
  have VP1_3y := hide (VP1_3.out.other T_3 (by omega))
  have B_3y := hide (B_3.out.trans (T_3.below (B := w.heap.size) (by omega) (by omega)))
  have hzy3 := T_3.size
  clear hwy T_3 cA9 cA10 cO8 fO8
  have hq0 := trivial
  have VL9 := hide ((VL_3y.out).mono (Nat.le_refl _) (VL_3y.out).lt (Nat.le_refl _))
  have VH9 := hide ((VH_3y.out).mono (Nat.le_refl _) (VH_3y.out).lt (Nat.le_refl _))
  refine (toPile_any l h m.low m.high y3 VL9.out VH9.out n3 n4).mono ?_
  rintro e w4 ⟨l', h', mid, rfl, hm1, hm2, hl, hh, hb⟩
  have A_4 := A_3y.below hb A_3y.lt
  have R_4 := R_3y.below hb R_3y.lt
  have O_4 := O_3y.below hb O_3y.lt
  have VS_4 := hide (VS_3y.out.below hb)
  have VP_4 := hide (VP_3y.out.below hb)
  have VL_4 := hide (VL_3y.out.below hb)
  have VH_4 := hide (VH_3y.out.below hb)
  have VS1_4 := hide (VS1_3y.out.below hb)
  have VP1_4 := hide (VP1_3y.out.below hb)
  have VL1_4 := hide hl
  have ltL1 := (hl).lt
  have VH1_4 := hide hh
  have ltH1 := (hh).lt
  have B_4 := hide (Below.step B_3y.out hb (Nat.le_refl _))
  obtain ⟨ao3, cap3, rfl, -, -, -, -⟩ := id hl
  obtain ⟨ao4, cap4, rfl, -, -, -, -⟩ := id hh
  have hz4 := hb.size
  clear hb
  have cA11 : w4.cell? ⟨w.heap.size, 11, none⟩ = some (.int .i64 m.scrap) := A_4.cell 11 (by simp)
  have cO0 := O_4.c 0 rfl
  have cO1 := O_4.c 1 rfl
  have cO2 := O_4.c 2 rfl
  have cO3 := O_4.c 3 rfl
  have cO4 := O_4.c 4 rfl
  have cO5 := O_4.c 5 rfl
  have cO6 := O_4.c 6 rfl
  have cO7 := O_4.c 7 rfl
  have cO8 := O_4.c 8 rfl
  have cO9 := O_4.c 9 rfl
  have cO10 := O_4.c 10 rfl
  have cO11 := O_4.c 11 rfl
  have cR0 := R_4.c 0 rfl
  have cR1 := R_4.c 1 rfl
  have cR2 := R_4.c 2 rfl
  have cR3 := R_4.c 3 rfl
  have cR4 := R_4.c 4 rfl
  have cR5 := R_4.c 5 rfl
  have cR6 := R_4.c 6 rfl
  have cR7 := R_4.c 7 rfl
  have cR8 := R_4.c 8 rfl
  have cR9 := R_4.c 9 rfl
  have cR10 := R_4.c 10 rfl
  have cR11 := R_4.c 11 rfl
  have fO9 := O_4.frozen 9
  have fO10 := O_4.frozen 10
  have fO11 := O_4.frozen 11
  have fR0 := R_4.frozen 0
  have fR1 := R_4.frozen 1
  have fR2 := R_4.frozen 2
  have fR3 := R_4.frozen 3
  have fR4 := R_4.frozen 4
  have fR5 := R_4.frozen 5
  have fR6 := R_4.frozen 6
  have fR7 := R_4.frozen 7
  have fR8 := R_4.frozen 8
  have fR9 := R_4.frozen 9
  have fR10 := R_4.frozen 10
  have fR11 := R_4.frozen 11
  unfold pileV
  go_wp2_with fail
  refine bodyPost_ret (by simp [results, Tryz.results7, go_sem, cR0, cR1, cR2, cR3, cR4, cR5, cR6, cR7, cR8, cR9, cR10, cR11]; try rfl) rfl ?_
  obtain ⟨wz, hwz⟩ : ∃ wz, wz = (((((((((((((((w4.setCell ⟨w.heap.size + 1 + 1, 9, none⟩ (.slice ao3 m.low.length cap3)).setCell ⟨w.heap.size + 1 + 1, 10, none⟩ (.slice ao4 m.high.length cap4)).setCell ⟨w.heap.size + 1 + 1, 11, none⟩ (.int .i64 m.scrap)).setCell ⟨w.heap.size + 1, 0, none⟩ (.slice ao1 m.store.length cap1)).setCell ⟨w.heap.size + 1, 1, none⟩ (.int .i64 m.rule.lc)).setCell ⟨w.heap.size + 1, 2, none⟩ (.int .i64 m.rule.hc)).setCell ⟨w.heap.size + 1, 3, none⟩ (.int .i64 m.rule.lm)).setCell ⟨w.heap.size + 1, 4, none⟩ (.int .i64 m.rule.hm)).setCell ⟨w.heap.size + 1, 5, none⟩ (.int .i64 m.rule.ls)).setCell ⟨w.heap.size + 1, 6, none⟩ (.int .i64 m.rule.hs)).setCell ⟨w.heap.size + 1, 7, none⟩ (.int .i64 m.strand)).setCell ⟨w.heap.size + 1, 8, none⟩ (.slice ao2 m.pieces.length cap2)).setCell ⟨w.heap.size + 1, 9, none⟩ (.slice ao3 m.low.length cap3)).setCell ⟨w.heap.size + 1, 10, none⟩ (.slice ao4 m.high.length cap4)).setCell ⟨w.heap.size + 1, 11, none⟩ (.int .i64 m.scrap)) := ⟨_, rfl⟩
  rw [← hwz]
  have OZ : Other (w.heap.size + 1) (w.heap.size + 1 + 1 + 1) w4 wz := by rw [hwz]; exact (Other.setCell (p := ⟨w.heap.size + 1, 11, none⟩) (Other.setCell (p := ⟨w.heap.size + 1, 10, none⟩) (Other.setCell (p := ⟨w.heap.size + 1, 9, none⟩) (Other.setCell (p := ⟨w.heap.size + 1, 8, none⟩) (Other.setCell (p := ⟨w.heap.size + 1, 7, none⟩) (Other.setCell (p := ⟨w.heap.size + 1, 6, none⟩) (Other.setCell (p := ⟨w.heap.size + 1, 5, none⟩) (Other.setCell (p := ⟨w.heap.size + 1, 4, none⟩) (Other.setCell (p := ⟨w.heap.size + 1, 3, none⟩) (Other.setCell (p := ⟨w.heap.size + 1, 2, none⟩) (Other.setCell (p := ⟨w.heap.size + 1, 1, none⟩) (Other.setCell (p := ⟨w.heap.size + 1, 0, none⟩) (Other.setCell (p := ⟨w.heap.size + 1 + 1, 11, none⟩) (Other.setCell (p := ⟨w.heap.size + 1 + 1, 10, none⟩) (Other.setCell (p := ⟨w.heap.size + 1 + 1, 9, none⟩) (Other.refl _ _ _) (by simp) (by simp) _) (by simp) (by simp) _) (by simp) (by simp) _) (by simp) (by simp) _) (by simp) (by simp) _) (by simp) (by simp) _) (by simp) (by simp) _) (by simp) (by simp) _) (by simp) (by simp) _) (by simp) (by simp) _) (by simp) (by simp) _) (by simp) (by simp) _) (by simp) (by simp) _) (by simp) (by simp) _) (by simp) (by simp) _)
  have hzz := OZ.size
  clear hwz
  have X1 := (VS1_4.out).other OZ (by omega)
  have X2 := (VP1_4.out).other OZ (by omega)
  have X3 := (VL1_4.out).other OZ (by omega)
  have X4 := (VH1_4.out).other OZ (by omega)
  have BZ := (B_4.out).trans (OZ.below (B := w.heap.size) (by omega) (by omega))
  refine ⟨_, _, _, _, rfl, ⟨_, _, _, _, _, _, _, _, ?_, ?_, ?_, ?_, ?_, X1, X2, X3, X4, Nat.le_refl _⟩, BZ⟩
  · exact ⟨by omega, by omega⟩
  · exact ⟨by omega, by omega⟩
  · exact ⟨by omega, by omega⟩
  · exact ⟨by omega, by omega⟩
  · exact ⟨by omega, by omega, by omega, by omega, by omega, by omega⟩
end Go.Proofs.YtajjnciookhamaaGreat
