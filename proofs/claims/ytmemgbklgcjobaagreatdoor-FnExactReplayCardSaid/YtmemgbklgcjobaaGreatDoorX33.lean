/-
  Parts of the proofs over mills, of: CopyM, MethE, HelpM. Conditions: each theorem states its own.
-/
import Derived.Test.YtmemgbklgcjobaaGreatDoorX26
import Derived.Test.YtmemgbklgcjobaaGreatDoorX28
set_option linter.unusedSimpArgs false
set_option linter.unusedVariables false
set_option maxRecDepth 10000
namespace Go.Proofs.YtmemgbklgcjobaaGreatDoor
open Go.RowKit
set_option maxHeartbeats 3200000 in
theorem copyMill_any (s p l h : Value) (m : Mi) (w : World) (H : MillIn 0 w.heap.size w s p l h m) (n1 : m.store.length ≤ 1000000) (n2 : m.pieces.length ≤ 1000000) (n3 : m.low.length ≤ 1000000) (n4 : m.high.length ≤ 1000000) :
    Calls Tryz.prog 75 #[millV s p l h m] w (CopyGot w.heap.size m w) := by
  have HS := hide H.store
  have HP := hide H.pieces
  have HL := hide H.low
  have HH := hide H.high
  clear H
  unfold millV
  go_enter Tryz.func75, Tryz.ntmps75
  go_wp2_with fail
  refine calls_at fun wx hwx => ?_
  have A_0 : RowL wx (w.heap.size) 31 [s, .int .i64 m.rule.lc, .int .i64 m.rule.hc, .int .i64 m.rule.lm, .int .i64 m.rule.hm, .int .i64 m.rule.ls, .int .i64 m.rule.hs, .int .i64 m.strand, p, l, h, .int .i64 m.scrap] := by rw [hwx]; exact ((RowL.new _ 31 [s, .int .i64 m.rule.lc, .int .i64 m.rule.hc, .int .i64 m.rule.lm, .int .i64 m.rule.hm, .int .i64 m.rule.ls, .int .i64 m.rule.hs, .int .i64 m.strand, p, l, h, .int .i64 m.scrap]).alloc _)
  have R_0 : RowL wx (w.heap.size + 1) 31 [.slice none 0 0, .int .i64 0, .int .i64 0, .int .i64 0, .int .i64 0, .int .i64 0, .int .i64 0, .int .i64 0, .slice none 0 0, .slice none 0 0, .slice none 0 0, .int .i64 0] := by rw [hwx]; simpa using (RowL.new (World.alloc _ _) 31 [.slice none 0 0, .int .i64 0, .int .i64 0, .int .i64 0, .int .i64 0, .int .i64 0, .int .i64 0, .int .i64 0, .slice none 0 0, .slice none 0 0, .slice none 0 0, .int .i64 0])
  have B_0 : Below w.heap.size w wx := by rw [hwx]; go_grown
  clear hwx
  have hL0 := R_0.lt
  have VS_0 := hide (HS.out.below B_0)
  have VP_0 := hide (HP.out.below B_0)
  have VL_0 := hide (HL.out.below B_0)
  have VH_0 := hide (HH.out.below B_0)
  refine (cloneS_any s m.store 0 w.heap.size wx VS_0.out n1).mono ?_
  rintro e w1 ⟨vs, rfl, own, hb⟩
  have A_1 := A_0.below hb A_0.lt
  have R_1 := R_0.below hb R_0.lt
  have VS_1 := hide (VS_0.out.below hb)
  have VP_1 := hide (VP_0.out.below hb)
  have VL_1 := hide (VL_0.out.below hb)
  have VH_1 := hide (VH_0.out.below hb)
  have B_1 := hide (Below.step B_0 hb (Nat.le_refl _))
  have hz1 := hb.size
  clear hb
  have cA8 := A_1.c 8 rfl
  have cA0 := A_1.c 0 rfl
  have fA0 := A_1.frozen 0
  have Cs := hide own
  obtain ⟨aos, cps, rfl, -, -⟩ := own_slice own
  have Os_1 : Hid (OwnV wx.heap.size 65 5 w1 (.slice aos m.store.length cps) m.store.length (flatS m.store)) := hide ⟨.own own, by have := hz1; omega⟩
  clear own
  go_wp2_with fail
  refine calls_at fun y1 hwy => ?_
  have T_1 : Other (w.heap.size) (w.heap.size + 1) w1 y1 := by rw [hwy]; exact (Other.setCell (p := ⟨w.heap.size, 0, none⟩) (Other.refl _ _ _) (Nat.le_refl _) (Nat.lt_succ_self _) _)
  have A_1y : RowL y1 (w.heap.size) 31 [.slice aos m.store.length cps, .int .i64 m.rule.lc, .int .i64 m.rule.hc, .int .i64 m.rule.lm, .int .i64 m.rule.hm, .int .i64 m.rule.ls, .int .i64 m.rule.hs, .int .i64 m.strand, p, l, h, .int .i64 m.scrap] := by rw [hwy]; exact (RowL.set A_1 0 _ (by simp))
  have R_1y := R_1.other T_1 (by omega)
  have hL1 := A_1y.lt
  have VS_1y := hide (VS_1.out.other T_1 (by omega))
  have VP_1y := hide (VP_1.out.other T_1 (by omega))
  have VL_1y := hide (VL_1.out.other T_1 (by omega))
  have VH_1y := hide (VH_1.out.other T_1 (by omega))
  have Vos_1y := hide (Os_1.out.other T_1 (by omega))
  have B_1y := hide (B_1.out.trans (T_1.below (B := w.heap.size) (by omega) (by omega)))
  have hzy1 := T_1.size
  clear hwy T_1 cA8 cA0 fA0
  refine (cloneP_any p m.pieces 0 w.heap.size y1 VP_1y.out n2).mono ?_
  rintro e w2 ⟨vp, rfl, own, hb⟩
  have A_2 := A_1y.below hb A_1y.lt
  have R_2 := R_1y.below hb R_1y.lt
  have VS_2 := hide (VS_1y.out.below hb)
  have VP_2 := hide (VP_1y.out.below hb)
  have VL_2 := hide (VL_1y.out.below hb)
  have VH_2 := hide (VH_1y.out.below hb)
  have Vos_2 := hide (Vos_1y.out.below hb)
  have B_2 := hide (Below.step B_1y.out hb (Nat.le_refl _))
  have hz2 := hb.size
  clear hb
  have cA9 := A_2.c 9 rfl
  have cA10 := A_2.c 10 rfl
  have cA8 := A_2.c 8 rfl
  have fA8 := A_2.frozen 8
  have Cp := hide own
  obtain ⟨aop, cpp, rfl, -, -⟩ := own_slice own
  have Op_2 : Hid (OwnV y1.heap.size 73 2 w2 (.slice aop m.pieces.length cpp) m.pieces.length (flatP m.pieces)) := hide ⟨.own own, by have := hz2; omega⟩
  clear own
  go_wp2_with fail
  refine calls_at fun y2 hwy => ?_
  have T_2 : Other (w.heap.size) (w.heap.size + 1) w2 y2 := by rw [hwy]; exact (Other.setCell (p := ⟨w.heap.size, 8, none⟩) (Other.refl _ _ _) (Nat.le_refl _) (Nat.lt_succ_self _) _)
  have A_2y : RowL y2 (w.heap.size) 31 [.slice aos m.store.length cps, .int .i64 m.rule.lc, .int .i64 m.rule.hc, .int .i64 m.rule.lm, .int .i64 m.rule.hm, .int .i64 m.rule.ls, .int .i64 m.rule.hs, .int .i64 m.strand, .slice aop m.pieces.length cpp, l, h, .int .i64 m.scrap] := by rw [hwy]; exact (RowL.set A_2 8 _ (by simp))
  have R_2y := R_2.other T_2 (by omega)
  have hL2 := A_2y.lt
  have VS_2y := hide (VS_2.out.other T_2 (by omega))
  have VP_2y := hide (VP_2.out.other T_2 (by omega))
  have VL_2y := hide (VL_2.out.other T_2 (by omega))
  have VH_2y := hide (VH_2.out.other T_2 (by omega))
  have Vos_2y := hide (Vos_2.out.other T_2 (by omega))
  have Vop_2y := hide (Op_2.out.other T_2 (by omega))
  have B_2y := hide (B_2.out.trans (T_2.below (B := w.heap.size) (by omega) (by omega)))
  have hzy2 := T_2.size
  clear hwy T_2 cA9 cA10 cA8 fA8
  have hcy := copyPile_any l h m.low m.high y2 ((VL_2y.out).mono (Nat.le_refl _) (VL_2y.out).lt (Nat.le_refl _)) ((VH_2y.out).mono (Nat.le_refl _) (VH_2y.out).lt (Nat.le_refl _)) n3 n4
  unfold pileV at hcy
  refine (hcy).mono ?_
  rintro e w3 ⟨vl, vh, rfl, own, hb⟩
  have A_3 := A_2y.below hb A_2y.lt
  have R_3 := R_2y.below hb R_2y.lt
  have VS_3 := hide (VS_2y.out.below hb)
  have VP_3 := hide (VP_2y.out.below hb)
  have VL_3 := hide (VL_2y.out.below hb)
  have VH_3 := hide (VH_2y.out.below hb)
  have Vos_3 := hide (Vos_2y.out.below hb)
  have Vop_3 := hide (Vop_2y.out.below hb)
  have B_3 := hide (Below.step B_2y.out hb (Nat.le_refl _))
  have hz3 := hb.size
  clear hb
  obtain ⟨cA0, cA1, cA2, cA3, cA4, cA5, cA6, cA7, cA8, cA9, cA10, cA11⟩ := row12_c A_3
  obtain ⟨cR0, cR1, cR2, cR3, cR4, cR5, cR6, cR7, cR8, cR9, cR10, cR11⟩ := row12_c R_3
  have fA9 := A_3.frozen 9
  have fA10 := A_3.frozen 10
  obtain ⟨fR0, fR1, fR2, fR3, fR4, fR5, fR6, fR7, fR8, fR9, fR10, fR11⟩ := row12_f R_3
  simp only [pileV]
  clear hcy
  have Cy := hide own
  obtain ⟨aol, cpl, rfl, -, -⟩ := own.lo.form
  obtain ⟨aoh, cph, rfl, -, -⟩ := own.ho.form
  have HG : Hid (MillGot (w.heap.size + 2) w3 (.slice aos m.store.length cps) (.slice aop m.pieces.length cpp) (.slice aol m.low.length cpl) (.slice aoh m.high.length cph) m) := hide ⟨by omega, (Vos_3.out).own.mono (by omega), (Vop_3.out).own.mono (by omega), own.lo.mono (by omega), own.ho.mono (by omega), OwnE.apart (OwnE.own Cs.out) (OwnE.own Cp.out) (by omega), OwnE.apart (OwnE.own Cs.out) own.lo (by omega), OwnE.apart (OwnE.own Cs.out) own.ho (by omega), OwnE.apart (OwnE.own Cp.out) own.lo (by omega), OwnE.apart (OwnE.own Cp.out) own.ho (by omega), own.ap⟩
  clear own
  go_wp2_with fail
  refine bodyPost_ret (by simp [results, Tryz.results75, go_sem, cR0, cR1, cR2, cR3, cR4, cR5, cR6, cR7, cR8, cR9, cR10, cR11]; try rfl) rfl ?_
  have HF := fun W T => got_put (w := w) (base := w.heap.size) (a := w.heap.size) (z := w.heap.size + 1 + 1) (W := W) HG.out B_3.out T (by omega) (Nat.le_refl _) (by omega) (Nat.le_refl _)
  exact ⟨_, _, _, _, rfl, HF _ (Other.setCell (p := ⟨w.heap.size + 1, 11, none⟩) (Other.setCell (p := ⟨w.heap.size + 1, 10, none⟩) (Other.setCell (p := ⟨w.heap.size + 1, 9, none⟩) (Other.setCell (p := ⟨w.heap.size + 1, 8, none⟩) (Other.setCell (p := ⟨w.heap.size + 1, 7, none⟩) (Other.setCell (p := ⟨w.heap.size + 1, 6, none⟩) (Other.setCell (p := ⟨w.heap.size + 1, 5, none⟩) (Other.setCell (p := ⟨w.heap.size + 1, 4, none⟩) (Other.setCell (p := ⟨w.heap.size + 1, 3, none⟩) (Other.setCell (p := ⟨w.heap.size + 1, 2, none⟩) (Other.setCell (p := ⟨w.heap.size + 1, 1, none⟩) (Other.setCell (p := ⟨w.heap.size + 1, 0, none⟩) (Other.setCell (p := ⟨w.heap.size, 10, none⟩) (Other.setCell (p := ⟨w.heap.size, 9, none⟩) (Other.refl _ _ _) (Nat.le_refl _) (Nat.lt_succ_of_lt (Nat.lt_succ_self _)) _) (Nat.le_refl _) (Nat.lt_succ_of_lt (Nat.lt_succ_self _)) _) (Nat.le_succ _) (Nat.lt_succ_self _) _) (Nat.le_succ _) (Nat.lt_succ_self _) _) (Nat.le_succ _) (Nat.lt_succ_self _) _) (Nat.le_succ _) (Nat.lt_succ_self _) _) (Nat.le_succ _) (Nat.lt_succ_self _) _) (Nat.le_succ _) (Nat.lt_succ_self _) _) (Nat.le_succ _) (Nat.lt_succ_self _) _) (Nat.le_succ _) (Nat.lt_succ_self _) _) (Nat.le_succ _) (Nat.lt_succ_self _) _) (Nat.le_succ _) (Nat.lt_succ_self _) _) (Nat.le_succ _) (Nat.lt_succ_self _) _) (Nat.le_succ _) (Nat.lt_succ_self _) _)⟩
theorem MillGot.far {base a z : Nat} {w w' : World} {s p l h : Value} {m : Mi} (H : MillGot base w s p l h m) (k : Other a z w w') (hs : ∀ g, s.ownBlock = some g → g < a ∨ z ≤ g) (hp : ∀ g, p.ownBlock = some g → g < a ∨ z ≤ g) (hl : ∀ g, l.ownBlock = some g → g < a ∨ z ≤ g) (hh : ∀ g, h.ownBlock = some g → g < a ∨ z ≤ g) : MillGot base w' s p l h m :=
  ⟨Nat.le_trans H.hb k.size, H.so.other k hs, H.po.other k hp, H.lo.other k hl, H.ho.other k hh, H.sp, H.sl, H.sh, H.pl, H.ph, H.lh⟩
theorem spec_got {base : Nat} {w w' : World} {p : Value} {x : Mi × Bool} {e : Ending} (hb : base ≤ w.heap.size) (k : Below w.heap.size w w') {s' p' l' h' : Value} (he : e = .returned (.tuple #[millV s' p' l' h' x.1, .bool x.2])) (G : MillGot base w' s' p' l' h' x.1) : SpecGot base p x w e w' :=
  ⟨⟨_, _, _, _, he, G, k.mono hb⟩, fun _ _ _ r _ => r.below k r.lt⟩
theorem other_two {g : Nat} {w w1 w2 : World} (h : Other g (g + 1) w w1) (k : Other (g + 1) (g + 1 + 1) w1 w2) : Other g (g + 1 + 1) w w2 :=
  ⟨k.os.trans h.os, k.tape.trans h.tape, k.output.trans h.output, Nat.le_trans h.size k.size, fun q hq hd => (k.block q (Nat.lt_of_lt_of_le hq h.size) (by omega)).trans (h.block q hq (by omega))⟩
theorem fail_got {base g : Nat} {w w1 : World} {s p l h : Value} {m : Mi} (H : MillGot base w s p l h m) (hb : Below w.heap.size w w1) (hg : w.heap.size ≤ g) (v0 v1 v2 v3 v4 v5 v6 v7 v8 v9 v10 v11 : Value) :
    SpecGot base p (m, false) w (.returned (.tuple #[millV s p l h m, .bool false])) (((((((((((((w1).setCell ⟨g, 0, none⟩ v0).setCell ⟨g, 1, none⟩ v1).setCell ⟨g, 2, none⟩ v2).setCell ⟨g, 3, none⟩ v3).setCell ⟨g, 4, none⟩ v4).setCell ⟨g, 5, none⟩ v5).setCell ⟨g, 6, none⟩ v6).setCell ⟨g, 7, none⟩ v7).setCell ⟨g, 8, none⟩ v8).setCell ⟨g, 9, none⟩ v9).setCell ⟨g, 10, none⟩ v10).setCell ⟨g, 11, none⟩ v11) := by
  have K := hb.trans ((other12 g w1 v0 v1 v2 v3 v4 v5 v6 v7 v8 v9 v10 v11).below (B := w.heap.size) hg hb.size)
  exact spec_got H.hb K rfl (H.below K)
theorem done_got {base : Nat} {w wk wz : World} {s' p p' l' h' : Value} {x : Mi} (hb : base ≤ w.heap.size) (K : Below w.heap.size w wk) (G : MillGot base wk s' p' l' h' x) (T : Other w.heap.size (w.heap.size + 1) wk wz)
    (hs : ∀ g, s'.ownBlock = some g → g < w.heap.size ∨ w.heap.size + 1 + 1 ≤ g) (hp : ∀ g, p'.ownBlock = some g → g < w.heap.size ∨ w.heap.size + 1 + 1 ≤ g) (hl : ∀ g, l'.ownBlock = some g → g < w.heap.size ∨ w.heap.size + 1 + 1 ≤ g) (hh : ∀ g, h'.ownBlock = some g → g < w.heap.size ∨ w.heap.size + 1 + 1 ≤ g) (v0 v1 v2 v3 v4 v5 v6 v7 v8 v9 v10 v11 : Value) :
    SpecGot base p (x, true) w (.returned (.tuple #[millV s' p' l' h' x, .bool true])) (((((((((((((wz).setCell ⟨w.heap.size + 1, 0, none⟩ v0).setCell ⟨w.heap.size + 1, 1, none⟩ v1).setCell ⟨w.heap.size + 1, 2, none⟩ v2).setCell ⟨w.heap.size + 1, 3, none⟩ v3).setCell ⟨w.heap.size + 1, 4, none⟩ v4).setCell ⟨w.heap.size + 1, 5, none⟩ v5).setCell ⟨w.heap.size + 1, 6, none⟩ v6).setCell ⟨w.heap.size + 1, 7, none⟩ v7).setCell ⟨w.heap.size + 1, 8, none⟩ v8).setCell ⟨w.heap.size + 1, 9, none⟩ v9).setCell ⟨w.heap.size + 1, 10, none⟩ v10).setCell ⟨w.heap.size + 1, 11, none⟩ v11) := by
  have T2 := other_two T (other12 (w.heap.size + 1) wz v0 v1 v2 v3 v4 v5 v6 v7 v8 v9 v10 v11)
  exact spec_got hb (K.trans (T2.below (B := w.heap.size) (Nat.le_refl _) K.size)) rfl (G.far T2 hs hp hl hh)
set_option maxHeartbeats 3200000 in
theorem melt_spec {base : Nat} {w : World} {s p l h : Value} {m : Mi} (tons : Int) (H : MillGot base w s p l h m) (hm : MillV m) :
    Calls Tryz.prog 112 #[millV s p l h m, .int .i64 tons] w (SpecGot base p (orOld m (meltD m tons)) w) := by
  have HH := hide H
  have hst0 := hm.st0
  have hbz := H.hb
  obtain ⟨aS, cs, rfl, -, -⟩ := H.so.form
  obtain ⟨ap, cp, rfl, -, -⟩ := H.po.form
  obtain ⟨al, cl, rfl, -, -⟩ := H.lo.form
  obtain ⟨ah, ch, rfl, -, -⟩ := H.ho.form
  have hbest := fun W (K : StAt 0 W.heap.size W (.slice aS m.store.length cs) m.store) => best_spec (.slice aS m.store.length cs) m.store m.rule tons W K
  unfold grV at hbest
  have HBT := hide hbest
  clear hbest H
  unfold millV
  go_enter Tryz.func112, Tryz.ntmps112
  go_wp2_with fail
  refine calls_at fun wx hwx => ?_
  have A_0 : RowL wx w.heap.size 31 (millC (.slice aS m.store.length cs) (.slice ap m.pieces.length cp) (.slice al m.low.length cl) (.slice ah m.high.length ch) m) := by rw [hwx]; exact (RowL.new _ 31 (millC (.slice aS m.store.length cs) (.slice ap m.pieces.length cp) (.slice al m.low.length cl) (.slice ah m.high.length ch) m)).alloc _
  have R_0 : RowL wx (w.heap.size + 1) 31 [.slice none 0 0, .int .i64 0, .int .i64 0, .int .i64 0, .int .i64 0, .int .i64 0, .int .i64 0, .int .i64 0, .slice none 0 0, .slice none 0 0, .slice none 0 0, .int .i64 0] := by rw [hwx]; simpa using (RowL.new (World.alloc _ _) 31 [.slice none 0 0, .int .i64 0, .int .i64 0, .int .i64 0, .int .i64 0, .int .i64 0, .int .i64 0, .int .i64 0, .slice none 0 0, .slice none 0 0, .slice none 0 0, .int .i64 0])
  have B_0 : Below w.heap.size w wx := by rw [hwx]; go_grown
  clear hwx
  have hL0 := R_0.lt
  refine (HBT.out wx (HH.out.below B_0).all.store).mono ?_
  rintro e w1 ⟨ao1, n1, cap1, rfl, hmix, hb⟩
  have A_1 := A_0.below hb A_0.lt
  have R_1 := R_0.below hb R_0.lt
  have B_1 := hide (Below.step B_0 hb (Nat.le_refl _))
  have hz1 := hb.size
  clear hb
  by_cases hs : m.strand = 0
  · have hsB : decide (0 < m.strand) = false := by simp [hs]
    have HS0 := hide hs
    cases hmb : mixBest m.store m.rule tons with
    | none =>
      have HN := hide (melt_no2 hmb)
      clear hmix hmb hs
      obtain ⟨cA0, cA1, cA2, cA3, cA4, cA5, cA6, cA7, cA8, cA9, cA10, cA11⟩ := row12_c A_1
      obtain ⟨cR0, cR1, cR2, cR3, cR4, cR5, cR6, cR7, cR8, cR9, cR10, cR11⟩ := row12_c R_1
      obtain ⟨fR0, fR1, fR2, fR3, fR4, fR5, fR6, fR7, fR8, fR9, fR10, fR11⟩ := row12_f R_1
      go_wp2_with fail
      refine bodyPost_ret (by simp [results, Tryz.results112, go_sem, cR0, cR1, cR2, cR3, cR4, cR5, cR6, cR7, cR8, cR9, cR10, cR11]; try rfl) rfl ?_
      rw [HN.out]
      exact fail_got HH.out B_1.out (by omega) _ _ _ _ _ _ _ _ _ _ _ _
    | some mix =>
      have HM := hide hmb
      obtain ⟨hmv, -, ht1, ht2⟩ := best_ok hmb
      have HMB := hide hmv
      have HI := hide (hmix mix hmb)
      have hw4 : IntKind.i64.wrap (4 * tons) = 4 * tons := IntWalk.i64_in _ (by omega)
      clear hmix hmb hmv hs
      have cA0 := A_1.c 0 rfl
      have cA7 := A_1.c 7 rfl
      go_wp2_with fail
      refine (take_spec (.slice aS m.store.length cs) (.slice ao1 n1 cap1) m.store mix w1 ((HH.out.below B_1.out).all.store) (HI.out.mono (Nat.zero_le _) (Nat.le_refl _) (Nat.le_refl _)) HMB.out).mono ?_
      rintro e w2 ⟨v, rfl, own, hb2⟩
      have A_2 := A_1.below hb2 A_1.lt
      have R_2 := R_1.below hb2 R_1.lt
      have B_2 := hide (Below.step B_1.out hb2 (Nat.le_refl _))
      have hz2 := hb2.size
      have G_2 := hide (HH.out.store B_2.out (show w.heap.size ≤ w1.heap.size by have := B_1.out.size; omega) (OwnE.own own) (4 * tons))
      have HO := hide own
      obtain ⟨av, cv, rfl, -, -⟩ := own_slice own
      clear own hb2 cA0 cA7
      obtain ⟨cA0, cA1, cA2, cA3, cA4, cA5, cA6, cA7, cA8, cA9, cA10, cA11⟩ := row12_c A_2
      obtain ⟨fA0, fA1, fA2, fA3, fA4, fA5, fA6, fA7, fA8, fA9, fA10, fA11⟩ := row12_f A_2
      obtain ⟨cR0, cR1, cR2, cR3, cR4, cR5, cR6, cR7, cR8, cR9, cR10, cR11⟩ := row12_c R_2
      obtain ⟨fR0, fR1, fR2, fR3, fR4, fR5, fR6, fR7, fR8, fR9, fR10, fR11⟩ := row12_f R_2
      go_wp2_with fail
      refine bodyPost_ret (by simp [results, Tryz.results112, go_sem, cR0, cR1, cR2, cR3, cR4, cR5, cR6, cR7, cR8, cR9, cR10, cR11]; try rfl) rfl ?_
      rw [melt_yes HS0.out HM.out]
      have T : Other w.heap.size (w.heap.size + 1) w2 ((w2.setCell ⟨w.heap.size, 0, none⟩ (.slice av (takeM m.store mix).length cv)).setCell ⟨w.heap.size, 7, none⟩ (.int .i64 (4 * tons))) := Other.setCell (p := ⟨w.heap.size, 7, none⟩) (Other.setCell (p := ⟨w.heap.size, 0, none⟩) (Other.refl _ _ _) (Nat.le_refl _) (Nat.lt_succ_self _) _) (Nat.le_refl _) (Nat.lt_succ_self _) _
      exact done_got (x := { m with store := takeM m.store mix, strand := 4 * tons }) hbz B_2.out G_2.out T (fun g hg => .inr (by have := (OwnE.own HO.out).lt g hg; omega)) (fun g hg => .inl (HH.out.po.lt g hg).2) (fun g hg => .inl (HH.out.lo.lt g hg).2) (fun g hg => .inl (HH.out.ho.lt g hg).2) _ _ _ _ _ _ _ _ _ _ _ _
  · have hsB : decide (0 < m.strand) = true := by simp; omega
    have HN := hide (melt_no1 (t := tons) hs)
    clear hmix hs
    obtain ⟨cA0, cA1, cA2, cA3, cA4, cA5, cA6, cA7, cA8, cA9, cA10, cA11⟩ := row12_c A_1
    obtain ⟨cR0, cR1, cR2, cR3, cR4, cR5, cR6, cR7, cR8, cR9, cR10, cR11⟩ := row12_c R_1
    obtain ⟨fR0, fR1, fR2, fR3, fR4, fR5, fR6, fR7, fR8, fR9, fR10, fR11⟩ := row12_f R_1
    go_wp2_with fail
    refine bodyPost_ret (by simp [results, Tryz.results112, go_sem, cR0, cR1, cR2, cR3, cR4, cR5, cR6, cR7, cR8, cR9, cR10, cR11]; try rfl) rfl ?_
    rw [HN.out]
    exact fail_got HH.out B_1.out (by omega) _ _ _ _ _ _ _ _ _ _ _ _
theorem toGrade_any (g : Gr) (w : World) :
    Calls Tryz.prog 91 #[grV g] w fun e w' => e = .returned (grV g) ∧ Below w.heap.size w w' := by
  obtain ⟨a, b, c, d, f, h⟩ := g
  unfold grV
  go_enter Tryz.func91, Tryz.ntmps91
  go_wp2
  go_returns
  exact ⟨rfl, by go_grown⟩
def PileGot (lo hi : List Int) (w : World) (e : Ending) (w' : World) : Prop :=
  ∃ l' h' mid, e = .returned (pileV l' h') ∧ w.heap.size ≤ mid ∧ mid ≤ w'.heap.size ∧ IntsAt w.heap.size mid w' l' lo ∧ IntsAt mid w'.heap.size w' h' hi ∧ Below w.heap.size w w'
theorem toPile_any (l h : Value) (lo hi : List Int) (w : World) (Hl : IntsAt 0 w.heap.size w l lo) (Hh : IntsAt 0 w.heap.size w h hi) (n1 : lo.length ≤ 2097152) (n2 : hi.length ≤ 2097152) :
    Calls Tryz.prog 93 #[pileV l h] w (PileGot lo hi w) := by
  have HL := hide Hl
  have HH := hide Hh
  unfold pileV
  clear Hl Hh
  go_enter Tryz.func93, Tryz.ntmps93
  go_wp2_with fail
  refine calls_at fun wx hwx => ?_
  have R1 : RowL wx w.heap.size 54 [l, h] := by rw [hwx]; exact ((RowL.new _ _ _).alloc _).alloc _
  have R2 : RowL wx (w.heap.size + 1) 29 [.slice none 0 0, .slice none 0 0] := by rw [hwx]; simpa using (RowL.new (w.alloc _) 29 [.slice none 0 0, .slice none 0 0]).alloc _
  have R3 : RowL wx (w.heap.size + 1 + 1) 29 [.slice none 0 0, .slice none 0 0] := by rw [hwx]; simpa using (RowL.new ((w.alloc _).alloc _) 29 [.slice none 0 0, .slice none 0 0])
  have hb0 : Below w.heap.size w wx := by rw [hwx]; go_grown
  clear hwx
  refine (toIntS_any l lo _ _ _ (HL.out.below hb0) n1).mono ?_
  rintro e w1 ⟨l', rfl, hi1, hb1⟩
  have R1b := R1.below hb1 R1.lt
  have R2b := R2.below hb1 R2.lt
  have R3b := R3.below hb1 R3.lt
  have HI1 := hide hi1
  have HB1 := hide hb1
  have HZ := hide (Below.step hb0 hb1 (Nat.le_refl _))
  obtain ⟨ao1, cap1, rfl, -, -, -, -⟩ := hi1
  have c1 : w1.cell? ⟨w.heap.size, 1, none⟩ = some h := R1b.cell 1 (by simp)
  have d0 := R3b.c 0 rfl
  have f0 := R3b.frozen 0
  clear hb1
  go_wp2_with fail
  refine calls_at fun wy hwy => ?_
  have hby : Below w.heap.size w wy := by rw [hwy]; exact HZ.out.setCell (by show w.heap.size ≤ w.heap.size + 1 + 1; omega) _
  have hoy : Other (w.heap.size + 1 + 1) (w.heap.size + 1 + 1 + 1) w1 wy := by rw [hwy]; exact Other.setCell (p := ⟨w.heap.size + 1 + 1, 0, none⟩) (Other.refl _ _ _) (Nat.le_refl _) (Nat.lt_succ_self _) _
  have R3c : RowL wy (w.heap.size + 1 + 1) 29 [.slice ao1 lo.length cap1, .slice none 0 0] := by rw [hwy]; exact R3b.set 0 _ (by simp)
  have R2c := R2b.other hoy (.inl (by omega))
  have hx := R3.lt
  have HI2 := hide (HI1.out.other hoy (.inr (by omega)))
  clear hwy c1 d0 f0
  refine (toIntS_any h hi _ _ _ (HH.out.below hby) n2).mono ?_
  rintro e w2 ⟨h', rfl, hi2, hb2⟩
  have R3d := R3c.below hb2 R3c.lt
  have R2d := R2c.below hb2 R2c.lt
  have HI3 := hide (HI2.out.below hb2)
  have HI4 := hide hi2
  have HB2 := hide (Below.step hby hb2 (Nat.le_refl _))
  obtain ⟨ao2, cap2, rfl, -, -, -, -⟩ := hi2
  have d0 := R3d.c 0 rfl
  have d1 := R3d.c 1 rfl
  have f1 := R3d.frozen 1
  have g0 := R2d.c 0 rfl
  have g1 := R2d.c 1 rfl
  have e0 := R2d.frozen 0
  have e1 := R2d.frozen 1
  have hz1 := hoy.size
  have hz2 := hb2.size
  have hz0 := HB1.out.size
  clear hb2
  go_wp2_with fail
  refine bodyPost_ret (by simp [results, Tryz.results93, go_sem, g0, g1]; try rfl) rfl ?_
  have hoz : Other (w.heap.size + 1) (w.heap.size + 1 + 1 + 1) w2 (((w2.setCell ⟨w.heap.size + 1 + 1, 1, none⟩ (Value.slice ao2 hi.length cap2)).setCell ⟨w.heap.size + 1, 0, none⟩ (Value.slice ao1 lo.length cap1)).setCell ⟨w.heap.size + 1, 1, none⟩ (Value.slice ao2 hi.length cap2)) :=
    Other.setCell (p := ⟨w.heap.size + 1, 1, none⟩) (Other.setCell (p := ⟨w.heap.size + 1, 0, none⟩) (Other.setCell (p := ⟨w.heap.size + 1 + 1, 1, none⟩) (Other.refl _ _ _) (by simp) (by simp) _) (by simp) (by simp) _) (by simp) (by simp) _
  have hzz := hoz.size
  have hmid : w1.heap.size ≤ w2.heap.size := by omega
  have hfin := hoz.below (B := w.heap.size) (by omega) (by omega)
  exact ⟨_, _, w1.heap.size, rfl, by omega, by omega, (HI3.out.other hoz (.inr (by omega))).mono (by omega) (Nat.le_refl _) (by omega), (HI4.out.other hoz (.inr (by omega))).mono (by omega) (by omega) (Nat.le_refl _), HB2.out.trans hfin⟩
structure Small (m : Mi) : Prop where
  s : m.store.length ≤ 2097152
  p : m.pieces.length ≤ 2097152
  l : m.low.length ≤ 2097152
  h : m.high.length ≤ 2097152
def MillNew (m : Mi) (w : World) (e : Ending) (w' : World) : Prop :=
  ∃ s p l h, e = .returned (millV s p l h m) ∧ MillSep w.heap.size w'.heap.size w' s p l h m ∧ Below w.heap.size w w'
set_option maxHeartbeats 1600000 in
theorem toMill_any (s p l h : Value) (m : Mi) (w : World) (H : MillIn 0 w.heap.size w s p l h m) (hs : Small m) :
    Calls Tryz.prog 31 #[millV s p l h m] w (MillNew m w) := by
  have VS := hide H.store
  have VP := hide H.pieces
  have VL := hide H.low
  have VH := hide H.high
  have HS := hide hs
  obtain ⟨n1, n2, n3, n4⟩ := hs
  clear H
  unfold millV
  go_enter Tryz.func31, Tryz.ntmps31
  go_wp2_with fail
  refine calls_at fun wx hwx => ?_
  have A_0 : RowL wx (w.heap.size) 56 [s, .int .i64 m.rule.lc, .int .i64 m.rule.hc, .int .i64 m.rule.lm, .int .i64 m.rule.hm, .int .i64 m.rule.ls, .int .i64 m.rule.hs, .int .i64 m.strand, p, l, h, .int .i64 m.scrap] := by rw [hwx]; exact (((RowL.new _ 56 [s, .int .i64 m.rule.lc, .int .i64 m.rule.hc, .int .i64 m.rule.lm, .int .i64 m.rule.hm, .int .i64 m.rule.ls, .int .i64 m.rule.hs, .int .i64 m.strand, p, l, h, .int .i64 m.scrap]).alloc _).alloc _)
  have R_0 : RowL wx (w.heap.size + 1) 31 [.slice none 0 0, .int .i64 0, .int .i64 0, .int .i64 0, .int .i64 0, .int .i64 0, .int .i64 0, .int .i64 0, .slice none 0 0, .slice none 0 0, .slice none 0 0, .int .i64 0] := by rw [hwx]; simpa using ((RowL.new (World.alloc _ _) 31 [.slice none 0 0, .int .i64 0, .int .i64 0, .int .i64 0, .int .i64 0, .int .i64 0, .int .i64 0, .int .i64 0, .slice none 0 0, .slice none 0 0, .slice none 0 0, .int .i64 0]).alloc _)
  have O_0 : RowL wx (w.heap.size + 1 + 1) 31 [.slice none 0 0, .int .i64 0, .int .i64 0, .int .i64 0, .int .i64 0, .int .i64 0, .int .i64 0, .int .i64 0, .slice none 0 0, .slice none 0 0, .slice none 0 0, .int .i64 0] := by rw [hwx]; simpa using (RowL.new (World.alloc (World.alloc _ _) _) 31 [.slice none 0 0, .int .i64 0, .int .i64 0, .int .i64 0, .int .i64 0, .int .i64 0, .int .i64 0, .int .i64 0, .slice none 0 0, .slice none 0 0, .slice none 0 0, .int .i64 0])
  have B_0 : Below w.heap.size w wx := by rw [hwx]; go_grown
  clear hwx
  have hL0 := O_0.lt
  have VS_0 := hide (VS.out.below B_0)
  have VP_0 := hide (VP.out.below B_0)
  have VL_0 := hide (VL.out.below B_0)
  have VH_0 := hide (VH.out.below B_0)
  refine (toStuffS_any s m.store _ _ wx VS_0.out n1).mono ?_
  rintro e w1 ⟨s', rfl, hn, hb⟩
  have A_1 := A_0.below hb A_0.lt
  have R_1 := R_0.below hb R_0.lt
  have O_1 := O_0.below hb O_0.lt
  have VS_1 := hide (VS_0.out.below hb)
  have VP_1 := hide (VP_0.out.below hb)
  have VL_1 := hide (VL_0.out.below hb)
  have VH_1 := hide (VH_0.out.below hb)
  have VS1_1 := hide hn
  have ltS1 := (hn).lt
  have B_1 := hide (Below.step B_0 hb (Nat.le_refl _))
  obtain ⟨ao1, cap1, rfl, -, -, -, -⟩ := id hn
  have hz1 := hb.size
  clear hb
  have cA1 := A_1.c 1 rfl
  have cA2 := A_1.c 2 rfl
  have cA3 := A_1.c 3 rfl
  have cA4 := A_1.c 4 rfl
  have cA5 := A_1.c 5 rfl
  have cA6 := A_1.c 6 rfl
  have cO0 := O_1.c 0 rfl
  have fO0 := O_1.frozen 0
  go_wp2_with fail
  refine calls_at fun y1 hwy => ?_
  have T_1 : Other (w.heap.size + 1 + 1) (w.heap.size + 1 + 1 + 1) w1 y1 := by rw [hwy]; exact (Other.setCell (p := ⟨w.heap.size + 1 + 1, 0, none⟩) (Other.refl _ _ _) (Nat.le_refl _) (Nat.lt_succ_self _) _)
  have O_1y : RowL y1 (w.heap.size + 1 + 1) 31 [.slice ao1 m.store.length cap1, .int .i64 0, .int .i64 0, .int .i64 0, .int .i64 0, .int .i64 0, .int .i64 0, .int .i64 0, .slice none 0 0, .slice none 0 0, .slice none 0 0, .int .i64 0] := by rw [hwy]; exact (RowL.set O_1 0 _ (by simp))
  have A_1y := A_1.other T_1 (by omega)
  have R_1y := R_1.other T_1 (by omega)
  have hL1 := O_1y.lt
  have VS_1y := hide (VS_1.out.other T_1 (by omega))
  have VP_1y := hide (VP_1.out.other T_1 (by omega))
  have VL_1y := hide (VL_1.out.other T_1 (by omega))
  have VH_1y := hide (VH_1.out.other T_1 (by omega))
  have VS1_1y := hide (VS1_1.out.other T_1 (by omega))
  have B_1y := hide (B_1.out.trans (T_1.below (B := w.heap.size) (by omega) (by omega)))
  have hzy1 := T_1.size
  clear hwy T_1 cA1 cA2 cA3 cA4 cA5 cA6 cO0 fO0
  refine (toGrade_any m.rule y1).mono ?_
  rintro e w2 ⟨rfl, hb⟩
  have A_2 := A_1y.below hb A_1y.lt
  have R_2 := R_1y.below hb R_1y.lt
  have O_2 := O_1y.below hb O_1y.lt
  have VS_2 := hide (VS_1y.out.below hb)
  have VP_2 := hide (VP_1y.out.below hb)
  have VL_2 := hide (VL_1y.out.below hb)
  have VH_2 := hide (VH_1y.out.below hb)
  have VS1_2 := hide (VS1_1y.out.below hb)
  have B_2 := hide (Below.step B_1y.out hb (Nat.le_refl _))
  have hz2 := hb.size
  clear hb
  have cA7 := A_2.c 7 rfl
  have cA8 := A_2.c 8 rfl
  have cO1 := O_2.c 1 rfl
  have cO2 := O_2.c 2 rfl
  have cO3 := O_2.c 3 rfl
  have cO4 := O_2.c 4 rfl
  have cO5 := O_2.c 5 rfl
  have cO6 := O_2.c 6 rfl
  have cO7 := O_2.c 7 rfl
  have fO1 := O_2.frozen 1
  have fO2 := O_2.frozen 2
  have fO3 := O_2.frozen 3
  have fO4 := O_2.frozen 4
  have fO5 := O_2.frozen 5
  have fO6 := O_2.frozen 6
  have fO7 := O_2.frozen 7
  unfold grV
  go_wp2_with fail
  refine calls_at fun y2 hwy => ?_
  have T_2 : Other (w.heap.size + 1 + 1) (w.heap.size + 1 + 1 + 1) w2 y2 := by rw [hwy]; exact (Other.setCell (p := ⟨w.heap.size + 1 + 1, 7, none⟩) (Other.setCell (p := ⟨w.heap.size + 1 + 1, 6, none⟩) (Other.setCell (p := ⟨w.heap.size + 1 + 1, 5, none⟩) (Other.setCell (p := ⟨w.heap.size + 1 + 1, 4, none⟩) (Other.setCell (p := ⟨w.heap.size + 1 + 1, 3, none⟩) (Other.setCell (p := ⟨w.heap.size + 1 + 1, 2, none⟩) (Other.setCell (p := ⟨w.heap.size + 1 + 1, 1, none⟩) (Other.refl _ _ _) (Nat.le_refl _) (Nat.lt_succ_self _) _) (Nat.le_refl _) (Nat.lt_succ_self _) _) (Nat.le_refl _) (Nat.lt_succ_self _) _) (Nat.le_refl _) (Nat.lt_succ_self _) _) (Nat.le_refl _) (Nat.lt_succ_self _) _) (Nat.le_refl _) (Nat.lt_succ_self _) _) (Nat.le_refl _) (Nat.lt_succ_self _) _)
  have O_2y : RowL y2 (w.heap.size + 1 + 1) 31 [.slice ao1 m.store.length cap1, .int .i64 m.rule.lc, .int .i64 m.rule.hc, .int .i64 m.rule.lm, .int .i64 m.rule.hm, .int .i64 m.rule.ls, .int .i64 m.rule.hs, .int .i64 m.strand, .slice none 0 0, .slice none 0 0, .slice none 0 0, .int .i64 0] := by rw [hwy]; exact (RowL.set (RowL.set (RowL.set (RowL.set (RowL.set (RowL.set (RowL.set O_2 1 _ (by simp)) 2 _ (by simp)) 3 _ (by simp)) 4 _ (by simp)) 5 _ (by simp)) 6 _ (by simp)) 7 _ (by simp))
  have A_2y := A_2.other T_2 (by omega)
  have R_2y := R_2.other T_2 (by omega)
  have hL2 := O_2y.lt
  have VS_2y := hide (VS_2.out.other T_2 (by omega))
  have VP_2y := hide (VP_2.out.other T_2 (by omega))
  have VL_2y := hide (VL_2.out.other T_2 (by omega))
  have VH_2y := hide (VH_2.out.other T_2 (by omega))
  have VS1_2y := hide (VS1_2.out.other T_2 (by omega))
  have B_2y := hide (B_2.out.trans (T_2.below (B := w.heap.size) (by omega) (by omega)))
  have hzy2 := T_2.size
  clear hwy T_2 cA7 cA8 cO1 cO2 cO3 cO4 cO5 cO6 cO7 fO1 fO2 fO3 fO4 fO5 fO6 fO7
  refine (toPieceS_any p m.pieces _ _ y2 VP_2y.out n2).mono ?_
  rintro e w3 ⟨p', rfl, hn, hb⟩
  have A_3 := A_2y.below hb A_2y.lt
  have R_3 := R_2y.below hb R_2y.lt
  have O_3 := O_2y.below hb O_2y.lt
  have VS_3 := hide (VS_2y.out.below hb)
  have VP_3 := hide (VP_2y.out.below hb)
  have VL_3 := hide (VL_2y.out.below hb)
  have VH_3 := hide (VH_2y.out.below hb)
  have VS1_3 := hide (VS1_2y.out.below hb)
  have VP1_3 := hide hn
  have ltP1 := (hn).lt
  have B_3 := hide (Below.step B_2y.out hb (Nat.le_refl _))
  obtain ⟨ao2, cap2, rfl, -, -, -, -⟩ := id hn
  have hz3 := hb.size
  clear hb
  have cA9 := A_3.c 9 rfl
  have cA10 := A_3.c 10 rfl
  have cO8 := O_3.c 8 rfl
  have fO8 := O_3.frozen 8
  go_wp2_with fail
  refine calls_at fun y3 hwy => ?_
  have T_3 : Other (w.heap.size + 1 + 1) (w.heap.size + 1 + 1 + 1) w3 y3 := by rw [hwy]; exact (Other.setCell (p := ⟨w.heap.size + 1 + 1, 8, none⟩) (Other.refl _ _ _) (Nat.le_refl _) (Nat.lt_succ_self _) _)
  have O_3y : RowL y3 (w.heap.size + 1 + 1) 31 [.slice ao1 m.store.length cap1, .int .i64 m.rule.lc, .int .i64 m.rule.hc, .int .i64 m.rule.lm, .int .i64 m.rule.hm, .int .i64 m.rule.ls, .int .i64 m.rule.hs, .int .i64 m.strand, .slice ao2 m.pieces.length cap2, .slice none 0 0, .slice none 0 0, .int .i64 0] := by rw [hwy]; exact (RowL.set O_3 8 _ (by simp))
  have A_3y := A_3.other T_3 (by omega)
  have R_3y := R_3.other T_3 (by omega)
  have hL3 := O_3y.lt
  have VS_3y := hide (VS_3.out.other T_3 (by omega))
  have VP_3y := hide (VP_3.out.other T_3 (by omega))
  have VL_3y := hide (VL_3.out.other T_3 (by omega))
  have VH_3y := hide (VH_3.out.other T_3 (by omega))
  have VS1_3y := hide (VS1_3.out.other T_3 (by omega))
  have VP1_3y := hide (VP1_3.out.other T_3 (by omega))
  have B_3y := hide (B_3.out.trans (T_3.below (B := w.heap.size) (by omega) (by omega)))
  have hzy3 := T_3.size
  clear hwy T_3 cA9 cA10 cO8 fO8
  have hq0 := trivial
  have VL9 := hide ((VL_3y.out).mono (Nat.le_refl _) (VL_3y.out).lt (Nat.le_refl _))
  have VH9 := hide ((VH_3y.out).mono (Nat.le_refl _) (VH_3y.out).lt (Nat.le_refl _))
  refine (toPile_any l h m.low m.high y3 VL9.out VH9.out n3 n4).mono ?_
  rintro e w4 ⟨l', h', mid, rfl, hm1, hm2, hl, hh, hb⟩
  have A_4 := A_3y.below hb A_3y.lt
  have R_4 := R_3y.below hb R_3y.lt
  have O_4 := O_3y.below hb O_3y.lt
  have VS_4 := hide (VS_3y.out.below hb)
  have VP_4 := hide (VP_3y.out.below hb)
  have VL_4 := hide (VL_3y.out.below hb)
  have VH_4 := hide (VH_3y.out.below hb)
  have VS1_4 := hide (VS1_3y.out.below hb)
  have VP1_4 := hide (VP1_3y.out.below hb)
  have VL1_4 := hide hl
  have ltL1 := (hl).lt
  have VH1_4 := hide hh
  have ltH1 := (hh).lt
  have B_4 := hide (Below.step B_3y.out hb (Nat.le_refl _))
  obtain ⟨ao3, cap3, rfl, -, -, -, -⟩ := id hl
  obtain ⟨ao4, cap4, rfl, -, -, -, -⟩ := id hh
  have hz4 := hb.size
  clear hb
  have cA11 := A_4.c 11 rfl
  obtain ⟨cO0, cO1, cO2, cO3, cO4, cO5, cO6, cO7, cO8, cO9, cO10, cO11⟩ := row12_c O_4
  obtain ⟨cR0, cR1, cR2, cR3, cR4, cR5, cR6, cR7, cR8, cR9, cR10, cR11⟩ := row12_c R_4
  have fO9 := O_4.frozen 9
  have fO10 := O_4.frozen 10
  have fO11 := O_4.frozen 11
  obtain ⟨fR0, fR1, fR2, fR3, fR4, fR5, fR6, fR7, fR8, fR9, fR10, fR11⟩ := row12_f R_4
  unfold pileV
  go_wp2_with fail
  refine bodyPost_ret (by simp [results, Tryz.results31, go_sem, cR0, cR1, cR2, cR3, cR4, cR5, cR6, cR7, cR8, cR9, cR10, cR11]; try rfl) rfl ?_
  obtain ⟨wz, hwz⟩ : ∃ wz, wz = (((((((((((((((w4.setCell ⟨w.heap.size + 1 + 1, 9, none⟩ (.slice ao3 m.low.length cap3)).setCell ⟨w.heap.size + 1 + 1, 10, none⟩ (.slice ao4 m.high.length cap4)).setCell ⟨w.heap.size + 1 + 1, 11, none⟩ (.int .i64 m.scrap)).setCell ⟨w.heap.size + 1, 0, none⟩ (.slice ao1 m.store.length cap1)).setCell ⟨w.heap.size + 1, 1, none⟩ (.int .i64 m.rule.lc)).setCell ⟨w.heap.size + 1, 2, none⟩ (.int .i64 m.rule.hc)).setCell ⟨w.heap.size + 1, 3, none⟩ (.int .i64 m.rule.lm)).setCell ⟨w.heap.size + 1, 4, none⟩ (.int .i64 m.rule.hm)).setCell ⟨w.heap.size + 1, 5, none⟩ (.int .i64 m.rule.ls)).setCell ⟨w.heap.size + 1, 6, none⟩ (.int .i64 m.rule.hs)).setCell ⟨w.heap.size + 1, 7, none⟩ (.int .i64 m.strand)).setCell ⟨w.heap.size + 1, 8, none⟩ (.slice ao2 m.pieces.length cap2)).setCell ⟨w.heap.size + 1, 9, none⟩ (.slice ao3 m.low.length cap3)).setCell ⟨w.heap.size + 1, 10, none⟩ (.slice ao4 m.high.length cap4)).setCell ⟨w.heap.size + 1, 11, none⟩ (.int .i64 m.scrap)) := ⟨_, rfl⟩
  rw [← hwz]
  have OZ : Other (w.heap.size + 1) (w.heap.size + 1 + 1 + 1) w4 wz := by rw [hwz]; exact (Other.setCell (p := ⟨w.heap.size + 1, 11, none⟩) (Other.setCell (p := ⟨w.heap.size + 1, 10, none⟩) (Other.setCell (p := ⟨w.heap.size + 1, 9, none⟩) (Other.setCell (p := ⟨w.heap.size + 1, 8, none⟩) (Other.setCell (p := ⟨w.heap.size + 1, 7, none⟩) (Other.setCell (p := ⟨w.heap.size + 1, 6, none⟩) (Other.setCell (p := ⟨w.heap.size + 1, 5, none⟩) (Other.setCell (p := ⟨w.heap.size + 1, 4, none⟩) (Other.setCell (p := ⟨w.heap.size + 1, 3, none⟩) (Other.setCell (p := ⟨w.heap.size + 1, 2, none⟩) (Other.setCell (p := ⟨w.heap.size + 1, 1, none⟩) (Other.setCell (p := ⟨w.heap.size + 1, 0, none⟩) (Other.setCell (p := ⟨w.heap.size + 1 + 1, 11, none⟩) (Other.setCell (p := ⟨w.heap.size + 1 + 1, 10, none⟩) (Other.setCell (p := ⟨w.heap.size + 1 + 1, 9, none⟩) (Other.refl _ _ _) (by simp) (by simp) _) (by simp) (by simp) _) (by simp) (by simp) _) (by simp) (by simp) _) (by simp) (by simp) _) (by simp) (by simp) _) (by simp) (by simp) _) (by simp) (by simp) _) (by simp) (by simp) _) (by simp) (by simp) _) (by simp) (by simp) _) (by simp) (by simp) _) (by simp) (by simp) _) (by simp) (by simp) _) (by simp) (by simp) _)
  have hzz := OZ.size
  clear hwz
  have X1 := (VS1_4.out).other OZ (by omega)
  have X2 := (VP1_4.out).other OZ (by omega)
  have X3 := (VL1_4.out).other OZ (by omega)
  have X4 := (VH1_4.out).other OZ (by omega)
  have BZ := (B_4.out).trans (OZ.below (B := w.heap.size) (by omega) (by omega))
  refine ⟨_, _, _, _, rfl, ⟨_, _, _, _, _, _, _, _, ?_, ?_, ?_, ?_, ?_, X1, X2, X3, X4, Nat.le_refl _⟩, BZ⟩
  · exact ⟨by omega, by omega⟩
  · exact ⟨by omega, by omega⟩
  · exact ⟨by omega, by omega⟩
  · exact ⟨by omega, by omega⟩
  · exact ⟨by omega, by omega, by omega, by omega, by omega, by omega⟩
end Go.Proofs.YtmemgbklgcjobaaGreatDoor
