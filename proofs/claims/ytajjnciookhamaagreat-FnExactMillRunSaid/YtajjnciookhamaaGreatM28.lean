/-
  Parts of the proof, of 3 texts: what CopyM, CopyMS, CutW show. Conditions: each theorem states its own.
-/
import Derived.Test.YtajjnciookhamaaGreatM16
import Derived.Test.YtajjnciookhamaaGreatM13
import Derived.Test.YtajjnciookhamaaGreatM20
namespace Go.Proofs.YtajjnciookhamaaGreat
open Go.RowKit
set_option linter.unusedSimpArgs false in
set_option maxRecDepth 10000 in
set_option maxHeartbeats 3200000 in
theorem copyMill_any (s p l h : Value) (m : Mi) (w : World) (H : MillIn 0 w.heap.size w s p l h m) (n1 : m.store.length ≤ 1000000) (n2 : m.pieces.length ≤ 1000000) (n3 : m.low.length ≤ 1000000) (n4 : m.high.length ≤ 1000000) :
    Calls Tryz.prog 37 #[millV s p l h m] w (CopyGot w.heap.size m w) := by
  have HS := hide H.store
  have HP := hide H.pieces
  have HL := hide H.low
  have HH := hide H.high
  clear H
  unfold millV
  go_enter Tryz.func37, Tryz.ntmps37
  go_wp2_with fail
  refine calls_at fun wx hwx => ?_
  have A_0 : RowL wx (w.heap.size) 39 [s, .int .i64 m.rule.lc, .int .i64 m.rule.hc, .int .i64 m.rule.lm, .int .i64 m.rule.hm, .int .i64 m.rule.ls, .int .i64 m.rule.hs, .int .i64 m.strand, p, l, h, .int .i64 m.scrap] := by rw [hwx]; exact ((RowL.new _ 39 [s, .int .i64 m.rule.lc, .int .i64 m.rule.hc, .int .i64 m.rule.lm, .int .i64 m.rule.hm, .int .i64 m.rule.ls, .int .i64 m.rule.hs, .int .i64 m.strand, p, l, h, .int .i64 m.scrap]).alloc _)
  have R_0 : RowL wx (w.heap.size + 1) 39 [.slice none 0 0, .int .i64 0, .int .i64 0, .int .i64 0, .int .i64 0, .int .i64 0, .int .i64 0, .int .i64 0, .slice none 0 0, .slice none 0 0, .slice none 0 0, .int .i64 0] := by rw [hwx]; simpa using (RowL.new (World.alloc _ _) 39 [.slice none 0 0, .int .i64 0, .int .i64 0, .int .i64 0, .int .i64 0, .int .i64 0, .int .i64 0, .int .i64 0, .slice none 0 0, .slice none 0 0, .slice none 0 0, .int .i64 0])
  have B_0 : Below w.heap.size w wx := by rw [hwx]; go_grown
  clear hwx
  have hL0 := R_0.lt
  have VS_0 := hide (HS.out.below B_0)
  have VP_0 := hide (HP.out.below B_0)
  have VL_0 := hide (HL.out.below B_0)
  have VH_0 := hide (HH.out.below B_0)
  refine (cloneS_any s m.store 0 w.heap.size wx VS_0.out n1).mono ?_
  rintro e w1 ⟨vs, rfl, own, hb⟩
  have A_1 := A_0.below hb A_0.lt
  have R_1 := R_0.below hb R_0.lt
  have VS_1 := hide (VS_0.out.below hb)
  have VP_1 := hide (VP_0.out.below hb)
  have VL_1 := hide (VL_0.out.below hb)
  have VH_1 := hide (VH_0.out.below hb)
  have B_1 := hide (Below.step B_0 hb (Nat.le_refl _))
  have hz1 := hb.size
  clear hb
  have cA8 := A_1.c 8 rfl
  have cA0 := A_1.c 0 rfl
  have fA0 := A_1.frozen 0
  have Cs := hide own
  obtain ⟨aos, cps, rfl, -, -⟩ := own_slice own
  have Os_1 : Hid (OwnV wx.heap.size 110 5 w1 (.slice aos m.store.length cps) m.store.length (flatS m.store)) := hide ⟨.own own, by have := hz1; omega⟩
  clear own
  go_wp2_with fail
  refine calls_at fun y1 hwy => ?_
  have T_1 : Other (w.heap.size) (w.heap.size + 1) w1 y1 := by rw [hwy]; exact (Other.setCell (p := ⟨w.heap.size, 0, none⟩) (Other.refl _ _ _) (Nat.le_refl _) (Nat.lt_succ_self _) _)
  have A_1y : RowL y1 (w.heap.size) 39 [.slice aos m.store.length cps, .int .i64 m.rule.lc, .int .i64 m.rule.hc, .int .i64 m.rule.lm, .int .i64 m.rule.hm, .int .i64 m.rule.ls, .int .i64 m.rule.hs, .int .i64 m.strand, p, l, h, .int .i64 m.scrap] := by rw [hwy]; exact (RowL.set A_1 0 _ (by simp))
  have R_1y := R_1.other T_1 (by omega)
  have hL1 := A_1y.lt
  have VS_1y := hide (VS_1.out.other T_1 (by omega))
  have VP_1y := hide (VP_1.out.other T_1 (by omega))
  have VL_1y := hide (VL_1.out.other T_1 (by omega))
  have VH_1y := hide (VH_1.out.other T_1 (by omega))
  have Vos_1y := hide (Os_1.out.other T_1 (by omega))
  have B_1y := hide (B_1.out.trans (T_1.below (B := w.heap.size) (by omega) (by omega)))
  have hzy1 := T_1.size
  clear hwy T_1 cA8 cA0 fA0
  refine (cloneP_any p m.pieces 0 w.heap.size y1 VP_1y.out n2).mono ?_
  rintro e w2 ⟨vp, rfl, own, hb⟩
  have A_2 := A_1y.below hb A_1y.lt
  have R_2 := R_1y.below hb R_1y.lt
  have VS_2 := hide (VS_1y.out.below hb)
  have VP_2 := hide (VP_1y.out.below hb)
  have VL_2 := hide (VL_1y.out.below hb)
  have VH_2 := hide (VH_1y.out.below hb)
  have Vos_2 := hide (Vos_1y.out.below hb)
  have B_2 := hide (Below.step B_1y.out hb (Nat.le_refl _))
  have hz2 := hb.size
  clear hb
  have cA9 := A_2.c 9 rfl
  have cA10 := A_2.c 10 rfl
  have cA8 := A_2.c 8 rfl
  have fA8 := A_2.frozen 8
  have Cp := hide own
  obtain ⟨aop, cpp, rfl, -, -⟩ := own_slice own
  have Op_2 : Hid (OwnV y1.heap.size 71 2 w2 (.slice aop m.pieces.length cpp) m.pieces.length (flatP m.pieces)) := hide ⟨.own own, by have := hz2; omega⟩
  clear own
  go_wp2_with fail
  refine calls_at fun y2 hwy => ?_
  have T_2 : Other (w.heap.size) (w.heap.size + 1) w2 y2 := by rw [hwy]; exact (Other.setCell (p := ⟨w.heap.size, 8, none⟩) (Other.refl _ _ _) (Nat.le_refl _) (Nat.lt_succ_self _) _)
  have A_2y : RowL y2 (w.heap.size) 39 [.slice aos m.store.length cps, .int .i64 m.rule.lc, .int .i64 m.rule.hc, .int .i64 m.rule.lm, .int .i64 m.rule.hm, .int .i64 m.rule.ls, .int .i64 m.rule.hs, .int .i64 m.strand, .slice aop m.pieces.length cpp, l, h, .int .i64 m.scrap] := by rw [hwy]; exact (RowL.set A_2 8 _ (by simp))
  have R_2y := R_2.other T_2 (by omega)
  have hL2 := A_2y.lt
  have VS_2y := hide (VS_2.out.other T_2 (by omega))
  have VP_2y := hide (VP_2.out.other T_2 (by omega))
  have VL_2y := hide (VL_2.out.other T_2 (by omega))
  have VH_2y := hide (VH_2.out.other T_2 (by omega))
  have Vos_2y := hide (Vos_2.out.other T_2 (by omega))
  have Vop_2y := hide (Op_2.out.other T_2 (by omega))
  have B_2y := hide (B_2.out.trans (T_2.below (B := w.heap.size) (by omega) (by omega)))
  have hzy2 := T_2.size
  clear hwy T_2 cA9 cA10 cA8 fA8
  have hcy := copyPile_any l h m.low m.high y2 ((VL_2y.out).mono (Nat.le_refl _) (VL_2y.out).lt (Nat.le_refl _)) ((VH_2y.out).mono (Nat.le_refl _) (VH_2y.out).lt (Nat.le_refl _)) n3 n4
  unfold pileV at hcy
  refine (hcy).mono ?_
  rintro e w3 ⟨vl, vh, rfl, own, hb⟩
  have A_3 := A_2y.below hb A_2y.lt
  have R_3 := R_2y.below hb R_2y.lt
  have VS_3 := hide (VS_2y.out.below hb)
  have VP_3 := hide (VP_2y.out.below hb)
  have VL_3 := hide (VL_2y.out.below hb)
  have VH_3 := hide (VH_2y.out.below hb)
  have Vos_3 := hide (Vos_2y.out.below hb)
  have Vop_3 := hide (Vop_2y.out.below hb)
  have B_3 := hide (Below.step B_2y.out hb (Nat.le_refl _))
  have hz3 := hb.size
  clear hb
  have cA0 := A_3.c 0 rfl
  have cA1 := A_3.c 1 rfl
  have cA2 := A_3.c 2 rfl
  have cA3 := A_3.c 3 rfl
  have cA4 := A_3.c 4 rfl
  have cA5 := A_3.c 5 rfl
  have cA6 := A_3.c 6 rfl
  have cA7 := A_3.c 7 rfl
  have cA8 := A_3.c 8 rfl
  have cA9 := A_3.c 9 rfl
  have cA10 := A_3.c 10 rfl
  have cA11 := A_3.c 11 rfl
  have cR0 := R_3.c 0 rfl
  have cR1 := R_3.c 1 rfl
  have cR2 := R_3.c 2 rfl
  have cR3 := R_3.c 3 rfl
  have cR4 := R_3.c 4 rfl
  have cR5 := R_3.c 5 rfl
  have cR6 := R_3.c 6 rfl
  have cR7 := R_3.c 7 rfl
  have cR8 := R_3.c 8 rfl
  have cR9 := R_3.c 9 rfl
  have cR10 := R_3.c 10 rfl
  have cR11 := R_3.c 11 rfl
  have fA9 := A_3.frozen 9
  have fA10 := A_3.frozen 10
  have fR0 := R_3.frozen 0
  have fR1 := R_3.frozen 1
  have fR2 := R_3.frozen 2
  have fR3 := R_3.frozen 3
  have fR4 := R_3.frozen 4
  have fR5 := R_3.frozen 5
  have fR6 := R_3.frozen 6
  have fR7 := R_3.frozen 7
  have fR8 := R_3.frozen 8
  have fR9 := R_3.frozen 9
  have fR10 := R_3.frozen 10
  have fR11 := R_3.frozen 11
  simp only [pileV]
  clear hcy
  have Cy := hide own
  obtain ⟨aol, cpl, rfl, -, -⟩ := own.lo.form
  obtain ⟨aoh, cph, rfl, -, -⟩ := own.ho.form
  have HG : Hid (MillGot (w.heap.size + 2) w3 (.slice aos m.store.length cps) (.slice aop m.pieces.length cpp) (.slice aol m.low.length cpl) (.slice aoh m.high.length cph) m) := hide ⟨by omega, (Vos_3.out).own.mono (by omega), (Vop_3.out).own.mono (by omega), own.lo.mono (by omega), own.ho.mono (by omega), OwnE.apart (OwnE.own Cs.out) (OwnE.own Cp.out) (by omega), OwnE.apart (OwnE.own Cs.out) own.lo (by omega), OwnE.apart (OwnE.own Cs.out) own.ho (by omega), OwnE.apart (OwnE.own Cp.out) own.lo (by omega), OwnE.apart (OwnE.own Cp.out) own.ho (by omega), own.ap⟩
  clear own
  go_wp2_with fail
  refine bodyPost_ret (by simp [results, Tryz.results37, go_sem, cR0, cR1, cR2, cR3, cR4, cR5, cR6, cR7, cR8, cR9, cR10, cR11]; try rfl) rfl ?_
  have HF := fun W T => got_put (w := w) (base := w.heap.size) (a := w.heap.size) (z := w.heap.size + 1 + 1) (W := W) HG.out B_3.out T (by omega) (Nat.le_refl _) (by omega) (Nat.le_refl _)
  exact ⟨_, _, _, _, rfl, HF _ (Other.setCell (p := ⟨w.heap.size + 1, 11, none⟩) (Other.setCell (p := ⟨w.heap.size + 1, 10, none⟩) (Other.setCell (p := ⟨w.heap.size + 1, 9, none⟩) (Other.setCell (p := ⟨w.heap.size + 1, 8, none⟩) (Other.setCell (p := ⟨w.heap.size + 1, 7, none⟩) (Other.setCell (p := ⟨w.heap.size + 1, 6, none⟩) (Other.setCell (p := ⟨w.heap.size + 1, 5, none⟩) (Other.setCell (p := ⟨w.heap.size + 1, 4, none⟩) (Other.setCell (p := ⟨w.heap.size + 1, 3, none⟩) (Other.setCell (p := ⟨w.heap.size + 1, 2, none⟩) (Other.setCell (p := ⟨w.heap.size + 1, 1, none⟩) (Other.setCell (p := ⟨w.heap.size + 1, 0, none⟩) (Other.setCell (p := ⟨w.heap.size, 10, none⟩) (Other.setCell (p := ⟨w.heap.size, 9, none⟩) (Other.refl _ _ _) (Nat.le_refl _) (Nat.lt_succ_of_lt (Nat.lt_succ_self _)) _) (Nat.le_refl _) (Nat.lt_succ_of_lt (Nat.lt_succ_self _)) _) (Nat.le_succ _) (Nat.lt_succ_self _) _) (Nat.le_succ _) (Nat.lt_succ_self _) _) (Nat.le_succ _) (Nat.lt_succ_self _) _) (Nat.le_succ _) (Nat.lt_succ_self _) _) (Nat.le_succ _) (Nat.lt_succ_self _) _) (Nat.le_succ _) (Nat.lt_succ_self _) _) (Nat.le_succ _) (Nat.lt_succ_self _) _) (Nat.le_succ _) (Nat.lt_succ_self _) _) (Nat.le_succ _) (Nat.lt_succ_self _) _) (Nat.le_succ _) (Nat.lt_succ_self _) _) (Nat.le_succ _) (Nat.lt_succ_self _) _) (Nat.le_succ _) (Nat.lt_succ_self _) _)⟩
end Go.Proofs.YtajjnciookhamaaGreat
namespace Go.Proofs.YtajjnciookhamaaGreat
open Go.RowKit
/-- The world of an operation under a name. -/
theorem wpl_at {P : Program} {ops : Array Oper} {Q : Exit → Act → World → Prop} {rest : List Oper} {a : Act} {w : World} (h : ∀ wx, wx = w → wpList P ops Q rest a wx) : wpList P ops Q rest a w := h _ rfl
set_option linter.unusedSimpArgs false in
set_option maxRecDepth 10000 in
set_option maxHeartbeats 3200000 in
theorem l8Copy_any (s p l h : Value) (m : Mi) (w : World) (H : MillIn 0 w.heap.size w s p l h m) (n1 : m.store.length ≤ 1000000) (n2 : m.pieces.length ≤ 1000000) (n3 : m.low.length ≤ 1000000) (n4 : m.high.length ≤ 1000000) :
    Calls Tryz.prog 23 #[millV s p l h m] w (CopyGot w.heap.size m w) := by
  have HS := hide H.store
  have HP := hide H.pieces
  have HL := hide H.low
  have HH := hide H.high
  clear H
  unfold millV
  obtain ⟨aos, cps, hse, -, -, -, -⟩ := id HS.out
  obtain ⟨aop, cpp, hpe, -, -, -, -⟩ := id HP.out
  obtain ⟨aol, cpl, hle, -, -, -, -⟩ := id HL.out
  obtain ⟨aoh, cph, hhe, -, -, -, -⟩ := id HH.out
  subst hse hpe hle hhe
  obtain ⟨i0, hi0, hz0, hi1, hi2⟩ := info_parts info_St
  obtain ⟨j0, hj0, hy0, hj1, hj2⟩ := info_parts info_Pc
  go_enter Tryz.func23, Tryz.ntmps23
  have hpre : ∀ wx, wx = (((w.alloc (.cells #[.slice aos m.store.length cps, .int .i64 m.rule.lc, .int .i64 m.rule.hc, .int .i64 m.rule.lm, .int .i64 m.rule.hm, .int .i64 m.rule.ls, .int .i64 m.rule.hs, .int .i64 m.strand, .slice aop m.pieces.length cpp, .slice aol m.low.length cpl, .slice aoh m.high.length cph, .int .i64 m.scrap] 39)).alloc (.cells #[.slice none 0 0, .int .i64 0, .int .i64 0, .int .i64 0, .int .i64 0, .int .i64 0, .int .i64 0, .int .i64 0, .slice none 0 0, .slice none 0 0, .slice none 0 0, .int .i64 0] 39)).alloc (.cells #[.slice aos m.store.length cps, .int .i64 m.rule.lc, .int .i64 m.rule.hc, .int .i64 m.rule.lm, .int .i64 m.rule.hm, .int .i64 m.rule.ls, .int .i64 m.rule.hs, .int .i64 m.strand, .slice aop m.pieces.length cpp, .slice aol m.low.length cpl, .slice aoh m.high.length cph, .int .i64 m.scrap] 39)).alloc (.cells #[] 110) → RowL wx (w.heap.size) 39 [.slice aos m.store.length cps, .int .i64 m.rule.lc, .int .i64 m.rule.hc, .int .i64 m.rule.lm, .int .i64 m.rule.hm, .int .i64 m.rule.ls, .int .i64 m.rule.hs, .int .i64 m.strand, .slice aop m.pieces.length cpp, .slice aol m.low.length cpl, .slice aoh m.high.length cph, .int .i64 m.scrap] ∧ RowL wx (w.heap.size + 1) 39 [.slice none 0 0, .int .i64 0, .int .i64 0, .int .i64 0, .int .i64 0, .int .i64 0, .int .i64 0, .int .i64 0, .slice none 0 0, .slice none 0 0, .slice none 0 0, .int .i64 0] ∧ RowL wx (w.heap.size + 1 + 1) 39 [.slice aos m.store.length cps, .int .i64 m.rule.lc, .int .i64 m.rule.hc, .int .i64 m.rule.lm, .int .i64 m.rule.hm, .int .i64 m.rule.ls, .int .i64 m.rule.hs, .int .i64 m.strand, .slice aop m.pieces.length cpp, .slice aol m.low.length cpl, .slice aoh m.high.length cph, .int .i64 m.scrap] ∧ Below w.heap.size w wx ∧ wx.heap.size = w.heap.size + 1 + 1 + 1 + 1 := by
    intro wx hwx
    refine ⟨?_, ?_, ?_, ?_, ?_⟩
    · rw [hwx]; exact (((RowL.new _ _ _).alloc _).alloc _).alloc _
    · rw [hwx]; simpa using (((RowL.new (World.alloc w _) 39 [.slice none 0 0, .int .i64 0, .int .i64 0, .int .i64 0, .int .i64 0, .int .i64 0, .int .i64 0, .int .i64 0, .slice none 0 0, .slice none 0 0, .slice none 0 0, .int .i64 0]).alloc _).alloc _)
    · rw [hwx]; simpa using ((RowL.new (World.alloc (World.alloc w _) _) 39 [.slice aos m.store.length cps, .int .i64 m.rule.lc, .int .i64 m.rule.hc, .int .i64 m.rule.lm, .int .i64 m.rule.hm, .int .i64 m.rule.ls, .int .i64 m.rule.hs, .int .i64 m.strand, .slice aop m.pieces.length cpp, .slice aol m.low.length cpl, .slice aoh m.high.length cph, .int .i64 m.scrap]).alloc _)
    · rw [hwx]; go_grown
    · rw [hwx]; simp
  have HPRE := hide hpre
  clear hpre
  go_wp2_with (at_builtin; refine wpl_at fun wx hwx => ?_; obtain ⟨A_0, R_0, T_0, B_0, hz0q⟩ := HPRE.out wx hwx; clear hwx; refine wpList_append_E rfl (.tmp 5) (.tmp 7) 34 rfl (w.heap.size + 1 + 1 + 1) 110 i0 _ 5 40 Tryz.underlying34 hi0 hz0 hi1 hi2 rfl (by decide) _ 0 [] rfl ?c0 (.slice aos m.store.length cps) m.store.length (flatS m.store) rfl ?c1 ?c2 ?c3 ?c4 ?_)
  case c0 => exact OwnE.lit (Nat.le_refl _) (by omega)
  case c1 => exact HS.out.source.below B_0 (Nat.le_refl _)
  case c2 => unfold maxLen; omega
  case c3 => omega
  case c4 => omega
  intro v2 w2 own2 grow2 at2
  have hb2 : Below (w.heap.size + 1 + 1 + 1) wx w2 := Below.growE (base := w.heap.size + 1 + 1 + 1) (T := 110) (sz := 5) (n := 0) (cs := []) grow2 (OwnE.lit (Nat.le_refl _) (by omega)) (Nat.le_refl _) (by omega)
  obtain ⟨ao2, cp2, rfl, -, -⟩ := own2.form
  have O_s := hide own2
  clear own2 at2 grow2
  have A_1 := A_0.below hb2 (by omega)
  have R_1 := R_0.below hb2 (by omega)
  have T_1 := T_0.below hb2 (by omega)
  have B_1 := hide (B_0.trans (hb2.mono (by omega)))
  have hz1 := hb2.size
  have hlA := A_1.lt
  have hlR := R_1.lt
  have hlT := T_1.lt
  clear hb2 A_0 R_0 T_0 B_0
  have cA8 : w2.cell? ⟨w.heap.size, 8, none⟩ = some (.slice aop m.pieces.length cpp) := A_1.cell 8 (by simp)
  have cT0 := T_1.c 0 rfl
  have fT0 := T_1.frozen 0
  have hpre : ∀ wy, wy = (w2.setCell ⟨w.heap.size + 1 + 1, 0, none⟩ (.slice ao2 m.store.length cp2)).alloc (.cells #[] 71) → RowL wy (w.heap.size) 39 [.slice aos m.store.length cps, .int .i64 m.rule.lc, .int .i64 m.rule.hc, .int .i64 m.rule.lm, .int .i64 m.rule.hm, .int .i64 m.rule.ls, .int .i64 m.rule.hs, .int .i64 m.strand, .slice aop m.pieces.length cpp, .slice aol m.low.length cpl, .slice aoh m.high.length cph, .int .i64 m.scrap] ∧ RowL wy (w.heap.size + 1) 39 [.slice none 0 0, .int .i64 0, .int .i64 0, .int .i64 0, .int .i64 0, .int .i64 0, .int .i64 0, .int .i64 0, .slice none 0 0, .slice none 0 0, .slice none 0 0, .int .i64 0] ∧ RowL wy (w.heap.size + 1 + 1) 39 [.slice ao2 m.store.length cp2, .int .i64 m.rule.lc, .int .i64 m.rule.hc, .int .i64 m.rule.lm, .int .i64 m.rule.hm, .int .i64 m.rule.ls, .int .i64 m.rule.hs, .int .i64 m.strand, .slice aop m.pieces.length cpp, .slice aol m.low.length cpl, .slice aoh m.high.length cph, .int .i64 m.scrap] ∧ Below w.heap.size w wy ∧ wy.heap.size = w2.heap.size + 1 ∧ OwnE (w.heap.size + 1 + 1 + 1) 110 5 wy (.slice ao2 m.store.length cp2) m.store.length (flatS m.store) := by
    intro wy hwy
    refine ⟨?_, ?_, ?_, ?_, ?_, ?_⟩
    · rw [hwy]; exact (A_1.far (show w.heap.size + 1 + 1 ≠ w.heap.size by omega) _).alloc _
    · rw [hwy]; exact (R_1.far (show w.heap.size + 1 + 1 ≠ w.heap.size + 1 by omega) _).alloc _
    · rw [hwy]; exact (T_1.set 0 _ (by simp)).alloc _
    · rw [hwy]; exact (B_1.out.setCell (by simp; omega) _).alloc (by simp [World.setCell]; omega) _
    · rw [hwy]; simp [World.setCell]
    · rw [hwy]; exact (O_s.out.other ((Other.refl (w.heap.size + 1 + 1) (w.heap.size + 1 + 1 + 1) w2).setCell (p := ⟨w.heap.size + 1 + 1, 0, none⟩) (Nat.le_refl _) (Nat.lt_succ_self _) _) (fun g hg => by have := (O_s.out.lt g hg).1; omega)).alloc _
  have HPRE2 := hide hpre
  clear hpre
  go_wp2_with (at_builtin; refine wpl_at fun wy hwx => ?_; obtain ⟨A_2, R_2, T_2, B_2, hz2, own2⟩ := HPRE2.out wy hwx; clear hwx; refine wpList_append_E rfl (.tmp 10) (.tmp 12) 36 rfl (w2.heap.size) 71 j0 _ 2 16 Tryz.underlying36 hj0 hy0 hj1 hj2 rfl (by decide) _ 0 [] rfl ?c0 (.slice aop m.pieces.length cpp) m.pieces.length (flatP m.pieces) rfl ?c1 ?c2 ?c3 ?c4 ?_)
  case c0 => exact OwnE.lit (Nat.le_refl _) (by omega)
  case c1 => exact HP.out.source.below B_2 (Nat.le_refl _)
  case c2 => unfold maxLen; omega
  case c3 => omega
  case c4 => omega
  intro v4 w4 own4 grow4 at4
  have hb4 : Below w2.heap.size wy w4 := Below.growE (base := w2.heap.size) (T := 71) (sz := 2) (n := 0) (cs := []) grow4 (OwnE.lit (Nat.le_refl _) (by omega)) (Nat.le_refl _) (by omega)
  have own3 := own2.grown grow4 (fun g hg e => by have := (O_s.out.lt g hg).2; simp [Value.ownBlock] at e; omega)
  obtain ⟨ao4, cp4, rfl, -, -⟩ := own4.form
  have O_p := hide own4
  have O_s4 := hide own3
  have hap : Hid (Apart (.slice ao2 m.store.length cp2) (.slice ao4 m.pieces.length cp4)) := hide (O_s.out.apart own4 (Nat.le_refl _))
  clear own4 at4 grow4 own2 own3 HPRE HPRE2 cA8 cT0 fT0
  have A_4 := A_2.below hb4 (by omega)
  have R_4 := R_2.below hb4 (by omega)
  have T_4 := T_2.below hb4 (by omega)
  have B_4 := hide (B_2.trans (hb4.mono (by omega)))
  have hz4 := hb4.size
  have mlA := A_4.lt
  have mlR := R_4.lt
  have mlT := T_4.lt
  clear hb4 A_1 R_1 T_1 A_2 R_2 T_2 B_2 hlA hlR hlT
  have hcy := fun W H1 H2 => l6Copy_any (.slice aol m.low.length cpl) (.slice aoh m.high.length cph) m.low m.high W H1 H2 n3 n4
  unfold pileV at hcy
  have HCY := hide hcy
  clear hcy
  have cA9 : w4.cell? ⟨w.heap.size, 9, none⟩ = some (.slice aol m.low.length cpl) := A_4.cell 9 (by simp)
  have cA10 : w4.cell? ⟨w.heap.size, 10, none⟩ = some (.slice aoh m.high.length cph) := A_4.cell 10 (by simp)
  have cT8 := T_4.c 8 rfl
  have fT8 := T_4.frozen 8
  go_wp2_with fail
  refine calls_at fun w5 hw5 => ?_
  have T5 : Other (w.heap.size + 1 + 1) (w.heap.size + 1 + 1 + 1) w4 w5 := by rw [hw5]; exact (Other.refl _ _ _).setCell (p := ⟨w.heap.size + 1 + 1, 8, none⟩) (Nat.le_refl _) (Nat.lt_succ_self _) _
  have T_5 : RowL w5 (w.heap.size + 1 + 1) 39 [.slice ao2 m.store.length cp2, .int .i64 m.rule.lc, .int .i64 m.rule.hc, .int .i64 m.rule.lm, .int .i64 m.rule.hm, .int .i64 m.rule.ls, .int .i64 m.rule.hs, .int .i64 m.strand, .slice ao4 m.pieces.length cp4, .slice aol m.low.length cpl, .slice aoh m.high.length cph, .int .i64 m.scrap] := by rw [hw5]; exact T_4.set 8 _ (by simp)
  have A_5 := A_4.other T5 (by omega)
  have R_5 := R_4.other T5 (by omega)
  have O_s5 := hide (O_s4.out.other T5 (fun g hg => by have := (O_s.out.lt g hg).1; omega))
  have O_p5 := hide (O_p.out.other T5 (fun g hg => by have := (O_p.out.lt g hg).1; omega))
  have B_5 := hide (B_4.out.trans (T5.below (B := w.heap.size) (by omega) (by omega)))
  have hz5 := T5.size
  clear hw5 T5 cA9 cA10 cT8 fT8
  refine (HCY.out w5 (((HL.out.below B_5.out)).mono (Nat.le_refl _) (HL.out.below B_5.out).lt (Nat.le_refl _)) (((HH.out.below B_5.out)).mono (Nat.le_refl _) (HH.out.below B_5.out).lt (Nat.le_refl _))).mono ?_
  rintro e w6 ⟨vl, vh, rfl, own, hb⟩
  have A_6 := A_5.below hb A_5.lt
  have R_6 := R_5.below hb R_5.lt
  have T_6 := T_5.below hb T_5.lt
  have HG : Hid (MillGot (w.heap.size + 1 + 1 + 1) w6 (.slice ao2 m.store.length cp2) (.slice ao4 m.pieces.length cp4) vl vh m) := hide ⟨by have := hb.size; omega, O_s5.out.below hb (Nat.le_refl _), (O_p5.out.below hb (Nat.le_refl _)).mono (by omega), own.lo.mono (by omega), own.ho.mono (by omega), hap.out, O_s5.out.apart own.lo (Nat.le_refl _), O_s5.out.apart own.ho (Nat.le_refl _), O_p5.out.apart own.lo (Nat.le_refl _), O_p5.out.apart own.ho (Nat.le_refl _), own.ap⟩
  have B_6 := hide (Below.step B_5.out hb (Nat.le_refl _))
  simp only [pileV]
  obtain ⟨al6, cl6, rfl, -, -⟩ := own.lo.form
  obtain ⟨ah6, ch6, rfl, -, -⟩ := own.ho.form
  have nlA := A_6.lt
  have nlR := R_6.lt
  have nlT := T_6.lt
  clear own hb
  have cT0 := T_6.c 0 rfl
  have cT1 := T_6.c 1 rfl
  have cT2 := T_6.c 2 rfl
  have cT3 := T_6.c 3 rfl
  have cT4 := T_6.c 4 rfl
  have cT5 := T_6.c 5 rfl
  have cT6 := T_6.c 6 rfl
  have cT7 := T_6.c 7 rfl
  have cT8 := T_6.c 8 rfl
  have cT9 := T_6.c 9 rfl
  have cT10 := T_6.c 10 rfl
  have cT11 := T_6.c 11 rfl
  have fT9 := T_6.frozen 9
  have fT10 := T_6.frozen 10
  have cR0 : w6.cell? ⟨w.heap.size + 1, 0, none⟩ = some (.slice none 0 0) := R_6.cell 0 (by simp)
  have cR1 : w6.cell? ⟨w.heap.size + 1, 1, none⟩ = some (.int .i64 0) := R_6.cell 1 (by simp)
  have cR2 : w6.cell? ⟨w.heap.size + 1, 2, none⟩ = some (.int .i64 0) := R_6.cell 2 (by simp)
  have cR3 : w6.cell? ⟨w.heap.size + 1, 3, none⟩ = some (.int .i64 0) := R_6.cell 3 (by simp)
  have cR4 : w6.cell? ⟨w.heap.size + 1, 4, none⟩ = some (.int .i64 0) := R_6.cell 4 (by simp)
  have cR5 : w6.cell? ⟨w.heap.size + 1, 5, none⟩ = some (.int .i64 0) := R_6.cell 5 (by simp)
  have cR6 : w6.cell? ⟨w.heap.size + 1, 6, none⟩ = some (.int .i64 0) := R_6.cell 6 (by simp)
  have cR7 : w6.cell? ⟨w.heap.size + 1, 7, none⟩ = some (.int .i64 0) := R_6.cell 7 (by simp)
  have cR8 : w6.cell? ⟨w.heap.size + 1, 8, none⟩ = some (.slice none 0 0) := R_6.cell 8 (by simp)
  have cR9 : w6.cell? ⟨w.heap.size + 1, 9, none⟩ = some (.slice none 0 0) := R_6.cell 9 (by simp)
  have cR10 : w6.cell? ⟨w.heap.size + 1, 10, none⟩ = some (.slice none 0 0) := R_6.cell 10 (by simp)
  have cR11 : w6.cell? ⟨w.heap.size + 1, 11, none⟩ = some (.int .i64 0) := R_6.cell 11 (by simp)
  have fR0 := R_6.frozen 0
  have fR1 := R_6.frozen 1
  have fR2 := R_6.frozen 2
  have fR3 := R_6.frozen 3
  have fR4 := R_6.frozen 4
  have fR5 := R_6.frozen 5
  have fR6 := R_6.frozen 6
  have fR7 := R_6.frozen 7
  have fR8 := R_6.frozen 8
  have fR9 := R_6.frozen 9
  have fR10 := R_6.frozen 10
  have fR11 := R_6.frozen 11
  go_wp2_with fail
  refine bodyPost_ret (by simp [results, Tryz.results23, go_sem, cR0, cR1, cR2, cR3, cR4, cR5, cR6, cR7, cR8, cR9, cR10, cR11]; try rfl) rfl ?_
  have HF := fun W T => got_put (w := w) (base := w.heap.size) (a := w.heap.size + 1) (z := w.heap.size + 1 + 1 + 1) (W := W) HG.out B_6.out T (Nat.le_refl _) (Nat.le_succ _) (by omega) (Nat.le_refl _)
  exact ⟨_, _, _, _, rfl, HF _ (Other.setCell (p := ⟨w.heap.size + 1, 11, none⟩) (Other.setCell (p := ⟨w.heap.size + 1, 10, none⟩) (Other.setCell (p := ⟨w.heap.size + 1, 9, none⟩) (Other.setCell (p := ⟨w.heap.size + 1, 8, none⟩) (Other.setCell (p := ⟨w.heap.size + 1, 7, none⟩) (Other.setCell (p := ⟨w.heap.size + 1, 6, none⟩) (Other.setCell (p := ⟨w.heap.size + 1, 5, none⟩) (Other.setCell (p := ⟨w.heap.size + 1, 4, none⟩) (Other.setCell (p := ⟨w.heap.size + 1, 3, none⟩) (Other.setCell (p := ⟨w.heap.size + 1, 2, none⟩) (Other.setCell (p := ⟨w.heap.size + 1, 1, none⟩) (Other.setCell (p := ⟨w.heap.size + 1, 0, none⟩) (Other.setCell (p := ⟨w.heap.size + 1 + 1, 10, none⟩) (Other.setCell (p := ⟨w.heap.size + 1 + 1, 9, none⟩) (Other.refl _ _ _) (Nat.le_succ _) (Nat.lt_succ_self _) _) (Nat.le_succ _) (Nat.lt_succ_self _) _) (Nat.le_refl _) (Nat.lt_succ_of_lt (Nat.lt_succ_self _)) _) (Nat.le_refl _) (Nat.lt_succ_of_lt (Nat.lt_succ_self _)) _) (Nat.le_refl _) (Nat.lt_succ_of_lt (Nat.lt_succ_self _)) _) (Nat.le_refl _) (Nat.lt_succ_of_lt (Nat.lt_succ_self _)) _) (Nat.le_refl _) (Nat.lt_succ_of_lt (Nat.lt_succ_self _)) _) (Nat.le_refl _) (Nat.lt_succ_of_lt (Nat.lt_succ_self _)) _) (Nat.le_refl _) (Nat.lt_succ_of_lt (Nat.lt_succ_self _)) _) (Nat.le_refl _) (Nat.lt_succ_of_lt (Nat.lt_succ_self _)) _) (Nat.le_refl _) (Nat.lt_succ_of_lt (Nat.lt_succ_self _)) _) (Nat.le_refl _) (Nat.lt_succ_of_lt (Nat.lt_succ_self _)) _) (Nat.le_refl _) (Nat.lt_succ_of_lt (Nat.lt_succ_self _)) _) (Nat.le_refl _) (Nat.lt_succ_of_lt (Nat.lt_succ_self _)) _)⟩
end Go.Proofs.YtajjnciookhamaaGreat
namespace Go.Proofs.YtajjnciookhamaaGreat
open Go.RowKit
/-- What the numbers of slabs tell of the lengths. -/
theorem many_sums {L : Nat} {a b : Int} (h : lensB a b = true) : 0 ≤ (many0 L a b : Int) * a ∧ 0 ≤ (many1 L a b : Int) * b ∧ (many0 L a b : Int) * a + (many1 L a b : Int) * b ≤ L := by
  obtain ⟨⟨h1, h2⟩, h3, h4⟩ := lensB_iff.1 h
  obtain ⟨-, e0⟩ := many_le h (show (0 : Int) ≤ L by omega)
  exact ⟨Int.mul_nonneg (by omega) (by omega), Int.mul_nonneg (by omega) (by omega), e0⟩
/-- A quotient that is not less than a number. -/
theorem tdiv_ge {n : Nat} {x y : Int} (hx : 0 ≤ x) (hy : 1 ≤ y) (h : (n : Int) * y ≤ x) (hl : x ≤ 60) : (n : Int) ≤ x.tdiv y ∧ 0 ≤ x.tdiv y ∧ x.tdiv y ≤ 60 := by
  rw [Int.tdiv_eq_ediv_of_nonneg hx]
  have h1 : (n : Int) ≤ x / y := Int.le_ediv_of_mul_le (by omega) h
  have h2 : x / y ≤ x := Int.ediv_le_self _ hx
  have h3 : 0 ≤ x / y := Int.ediv_nonneg hx (by omega)
  omega
set_option linter.unusedSimpArgs false in
set_option maxRecDepth 10000 in
set_option maxHeartbeats 1600000 in
theorem cutWaste_impl (v mv : Value) (a b : Int) (lo hi lo2 hi2 L : Nat) (hL : L ≤ 60) (hv : lensB a b = true) (w : World) (H : IntsAt lo hi w v [a, b]) (H2 : IntsAt lo2 hi2 w mv (manyL L a b)) :
    Calls Tryz.prog 84 #[.int .i64 (L : Int), v, mv] w fun e w' => e = .returned (.int .i64 (wasteR L a b)) ∧ w = w' := by
  have HV := hide hv
  obtain ⟨⟨ha1, ha2⟩, hb1, hb2⟩ := lensB_iff.1 hv
  obtain ⟨hn0, hn1⟩ := many_bd hv (show (0 : Int) ≤ L by omega)
  obtain ⟨hs0, hs1, hs2⟩ := many_sums (L := L) hv
  have hlen := lens_impl v a b lo hi w H
  rw [hv] at hlen
  have HLN := hide hlen
  obtain ⟨b0, o0, cap, rfl, -, -, c0, c1⟩ := two_at H
  have hR : wasteR L a b = L - many0 L a b * a - many1 L a b * b := rfl
  unfold manyL at H2
  obtain ⟨n0, hn0e⟩ : ∃ n : Nat, many0 L a b = n := ⟨_, rfl⟩
  obtain ⟨n1, hn1e⟩ : ∃ n : Nat, many1 L a b = n := ⟨_, rfl⟩
  rw [hn0e, hn1e] at H2 hR
  rw [hn0e] at hn1 hs0 hs2
  rw [hn1e] at hn0 hs1 hs2
  obtain ⟨b2, o2, cap2, rfl, -, -, m0, m1⟩ := two_at H2
  have hq := fun W => within_any (L : Int) 0 60 W
  rw [show wi (L : Int) 0 60 = true from wi_iff.2 (by omega)] at hq
  have hq0 := fun W => within_any (n0 : Int) 0 (L : Int) W
  rw [show wi (n0 : Int) 0 (L : Int) = true from wi_iff.2 (by omega)] at hq0
  have hq1 := fun W => within_any (n1 : Int) 0 (L : Int) W
  rw [show wi (n1 : Int) 0 (L : Int) = true from wi_iff.2 (by omega)] at hq1
  have HQ := hide hq
  have HQ0 := hide hq0
  have HQ1 := hide hq1
  obtain ⟨p0, hp0⟩ : ∃ p, (n0 : Int) * a = p := ⟨_, rfl⟩
  obtain ⟨p1, hp1⟩ : ∃ p, (n1 : Int) * b = p := ⟨_, rfl⟩
  rw [hp0] at hs0 hs2
  rw [hp1] at hs1 hs2
  have hR2 : wasteR L a b = L - p0 - p1 := by rw [hR, hp0, hp1]
  rw [hR2]
  have w0 : IntKind.i64.wrap ((n0 : Int) * a) = p0 := by rw [hp0]; exact IntWalk.i64_in _ (by omega)
  have w1 : IntKind.i64.wrap ((n1 : Int) * b) = p1 := by rw [hp1]; exact IntWalk.i64_in _ (by omega)
  have w2 : IntKind.i64.wrap ((L : Int) - p0) = (L : Int) - p0 := IntWalk.i64_in _ (by omega)
  have w3 : IntKind.i64.wrap ((L : Int) - p0 - p1) = (L : Int) - p0 - p1 := IntWalk.i64_in _ (by omega)
  have hnn : ¬ (L : Int) - p0 - p1 < -1 := by omega
  clear hn0e hn1e hR hR2 hp0 hp1 H H2 hlen hq hq0 hq1 hv
  go_enter Tryz.func84, Tryz.ntmps84
  go_wp2_with fail
  refine (HQ.out w).mono ?_
  rintro e w1 ⟨rfl, rfl⟩
  go_wp2_with fail
  refine HLN.out.mono ?_
  rintro e w1 ⟨rfl, rfl⟩
  go_wp2_with fail
  go_loop [7, 8, 9, 28] (fun x _ _ i => (i = .int .i64 0 ∧ x = .int .i64 (L : Int)) ∨ (i = .int .i64 1 ∧ x = .int .i64 ((L : Int) - p0)) ∨ (i = .int .i64 2 ∧ x = .int .i64 ((L : Int) - p0 - p1))) (fun _ _ _ i => 2 - (intOf i).toNat)
  case atStart => exact .inl ⟨rfl, rfl⟩
  case round =>
    rcases hrel with ⟨rfl, rfl⟩ | ⟨rfl, rfl⟩ | ⟨rfl, rfl⟩
    · go_wp2_with fail
      refine (HQ0.out w).mono ?_
      rintro e w1 ⟨rfl, rfl⟩
      go_wp2_with fail
      go_round
      case rel => exact .inr (.inl ⟨rfl, rfl⟩)
      case measure => simp [intOf]
    · go_wp2_with fail
      refine (HQ1.out w).mono ?_
      rintro e w1 ⟨rfl, rfl⟩
      go_wp2_with fail
      go_round
      case rel => exact .inr (.inr ⟨rfl, rfl⟩)
      case measure => simp [intOf]
    · go_wp2_with fail
      go_ret
      have hmx : max ((L : Int) - p0 - p1) (-1) = (L : Int) - p0 - p1 := by omega
      simp [hmx]
set_option linter.unusedSimpArgs false in
set_option maxRecDepth 10000 in
set_option maxHeartbeats 1600000 in
theorem cutWaste_spec (v mv : Value) (a b : Int) (lo hi lo2 hi2 L : Nat) (hL : L ≤ 60) (hv : lensB a b = true) (w : World) (H : IntsAt lo hi w v [a, b]) (H2 : IntsAt lo2 hi2 w mv (manyL L a b)) :
    Calls Tryz.prog 64 #[.int .i64 (L : Int), v, mv] w fun e w' => e = .returned (.int .i64 (wasteR L a b)) ∧ Below w.heap.size w w' := by
  have HV := hide hv
  obtain ⟨⟨ha1, ha2⟩, hb1, hb2⟩ := lensB_iff.1 hv
  obtain ⟨hs0, hs1, hs2⟩ := many_sums (L := L) hv
  have hlen := lens_spec v a b lo hi w H
  rw [hv] at hlen
  have HLN := hide hlen
  have HH := hide H
  have HH2 := hide H2
  obtain ⟨b0, o0, cap, rfl, -, -, -, -⟩ := two_at H
  have hR : wasteR L a b = L - many0 L a b * a - many1 L a b * b := rfl
  unfold manyL at H2 HH2
  obtain ⟨n0, hn0e⟩ : ∃ n : Nat, many0 L a b = n := ⟨_, rfl⟩
  obtain ⟨n1, hn1e⟩ : ∃ n : Nat, many1 L a b = n := ⟨_, rfl⟩
  rw [hn0e, hn1e] at H2 HH2 hR
  rw [hn0e] at hs0 hs2
  rw [hn1e] at hs1 hs2
  obtain ⟨b2, o2, cap2, rfl, -, -, -, -⟩ := two_at H2
  obtain ⟨d1, d2, d3⟩ := tdiv_ge (n := n0) (x := (L : Int)) (y := a) (by omega) ha1 (by omega) (by omega)
  obtain ⟨q0, hq0e⟩ : ∃ q, (L : Int).tdiv a = q := ⟨_, rfl⟩
  rw [hq0e] at d1 d2 d3
  obtain ⟨p0, hp0⟩ : ∃ p, (n0 : Int) * a = p := ⟨_, rfl⟩
  rw [hp0] at hs0 hs2
  obtain ⟨e1, e2, e3⟩ := tdiv_ge (n := n1) (x := (L : Int) - p0) (y := b) (by omega) (by omega) (by omega) (by omega)
  obtain ⟨q1, hq1e⟩ : ∃ q, ((L : Int) - p0).tdiv b = q := ⟨_, rfl⟩
  rw [hq1e] at e1 e2 e3
  obtain ⟨p1, hp1⟩ : ∃ p, (n1 : Int) * b = p := ⟨_, rfl⟩
  rw [hp1] at hs1 hs2
  have hR2 : wasteR L a b = L - p0 - p1 := by rw [hR, hp0, hp1]
  rw [hR2]
  have hq := fun W => l1In_any (L : Int) 0 60 W
  rw [show wi (L : Int) 0 60 = true from wi_iff.2 (by omega)] at hq
  have hq0 := fun W => l1In_any (n0 : Int) 0 q0 W
  rw [show wi (n0 : Int) 0 q0 = true from wi_iff.2 (by omega)] at hq0
  have hq1 := fun W => l1In_any (n1 : Int) 0 q1 W
  rw [show wi (n1 : Int) 0 q1 = true from wi_iff.2 (by omega)] at hq1
  have HQ := hide hq
  have HQ0 := hide hq0
  have HQ1 := hide hq1
  have w0 : IntKind.i64.wrap ((n0 : Int) * a) = p0 := by rw [hp0]; exact IntWalk.i64_in _ (by omega)
  have w1 : IntKind.i64.wrap ((n1 : Int) * b) = p1 := by rw [hp1]; exact IntWalk.i64_in _ (by omega)
  have w2 : IntKind.i64.wrap ((L : Int) - p0) = (L : Int) - p0 := IntWalk.i64_in _ (by omega)
  have w3 : IntKind.i64.wrap ((L : Int) - p0 - p1) = (L : Int) - p0 - p1 := IntWalk.i64_in _ (by omega)
  have w4 : IntKind.i64.wrap q0 = q0 := IntWalk.i64_in _ (by omega)
  have w5 : IntKind.i64.wrap q1 = q1 := IntWalk.i64_in _ (by omega)
  have hne0 : (a == 0) = false := by rw [beq_eq_false_iff_ne]; omega
  have hne1 : (b == 0) = false := by rw [beq_eq_false_iff_ne]; omega
  clear hn0e hn1e hR hR2 hp0 hp1 H H2 hlen hq hq0 hq1 hv
  go_enter Tryz.func64, Tryz.ntmps64
  go_wp2_with fail
  refine HLN.out.mono ?_
  rintro e wa ⟨rfl, hb⟩
  have HB := hide hb
  clear hb
  go_wp2_with fail
  refine (HQ.out wa).mono ?_
  rintro e wb ⟨rfl, rfl⟩
  go_wp2_with fail
  go_loopw [7, 8] (fun x i wr => Below w.heap.size w wr ∧ ((i = .int .i64 0 ∧ x = .int .i64 (L : Int)) ∨ (i = .int .i64 1 ∧ x = .int .i64 ((L : Int) - p0)) ∨ (i = .int .i64 2 ∧ x = .int .i64 ((L : Int) - p0 - p1)))) (fun _ i _ => 2 - (intOf i).toNat)
  case atStart => exact ⟨HB.out, .inl ⟨rfl, rfl⟩⟩
  case round =>
    obtain ⟨hb, hcase⟩ := hrel
    obtain ⟨b1, o1, cap1, e1, -, -, c0, c1⟩ := two_at (HH.out.below hb)
    cases e1
    obtain ⟨b3, o3, cap3, e3, -, -, m0, m1⟩ := two_at (HH2.out.below hb)
    cases e3
    have HBr := hide hb
    clear hb
    rcases hcase with ⟨rfl, rfl⟩ | ⟨rfl, rfl⟩ | ⟨rfl, rfl⟩
    · go_wp2_with fail
      go_quiet ((go_at_call 57; exact quiet_left (HQ0.out _)))
      go_wp2_with fail
      go_quiet (fail)
      go_wp2_with fail
      go_roundw
      case rel => exact ⟨below_drewN HBr.out _, .inr (.inl ⟨rfl, rfl⟩)⟩
      case measure => simp [intOf]
    · go_wp2_with fail
      go_quiet ((go_at_call 57; exact quiet_left (HQ1.out _)))
      go_wp2_with fail
      go_quiet (fail)
      go_wp2_with fail
      go_roundw
      case rel => exact ⟨below_drewN HBr.out _, .inr (.inr ⟨rfl, rfl⟩)⟩
      case measure => simp [intOf]
    · go_wp2_with fail
      go_ret
      exact ⟨rfl, HBr.out⟩
end Go.Proofs.YtajjnciookhamaaGreat
