/-
  Parts of the proofs over mills, of: CopyMS, CutL. Conditions: each theorem states its own.
-/
import Derived.Test.YtmemgbklgcjobaaGreatDoorX17
import Derived.Test.YtmemgbklgcjobaaGreatDoorX19
set_option linter.unusedSimpArgs false
set_option linter.unusedVariables false
set_option maxRecDepth 10000
namespace Go.Proofs.YtmemgbklgcjobaaGreatDoor
open Go.RowKit
theorem wpl_at {P : Program} {ops : Array Oper} {Q : Exit → Act → World → Prop} {rest : List Oper} {a : Act} {w : World} (h : ∀ wx, wx = w → wpList P ops Q rest a wx) : wpList P ops Q rest a w := h _ rfl
set_option maxHeartbeats 3200000 in
theorem l8Copy_any (s p l h : Value) (m : Mi) (w : World) (H : MillIn 0 w.heap.size w s p l h m) (n1 : m.store.length ≤ 1000000) (n2 : m.pieces.length ≤ 1000000) (n3 : m.low.length ≤ 1000000) (n4 : m.high.length ≤ 1000000) :
    Calls Tryz.prog 78 #[millV s p l h m] w (CopyGot w.heap.size m w) := by
  have HS := hide H.store
  have HP := hide H.pieces
  have HL := hide H.low
  have HH := hide H.high
  clear H
  unfold millV
  obtain ⟨aos, cps, hse, -, -, -, -⟩ := id HS.out
  obtain ⟨aop, cpp, hpe, -, -, -, -⟩ := id HP.out
  obtain ⟨aol, cpl, hle, -, -, -, -⟩ := id HL.out
  obtain ⟨aoh, cph, hhe, -, -, -, -⟩ := id HH.out
  subst hse hpe hle hhe
  obtain ⟨i0, hi0, hz0, hi1, hi2⟩ := info_parts info_St
  obtain ⟨j0, hj0, hy0, hj1, hj2⟩ := info_parts info_Pc
  go_enter Tryz.func78, Tryz.ntmps78
  have hpre : ∀ wx, wx = (((w.alloc (.cells #[.slice aos m.store.length cps, .int .i64 m.rule.lc, .int .i64 m.rule.hc, .int .i64 m.rule.lm, .int .i64 m.rule.hm, .int .i64 m.rule.ls, .int .i64 m.rule.hs, .int .i64 m.strand, .slice aop m.pieces.length cpp, .slice aol m.low.length cpl, .slice aoh m.high.length cph, .int .i64 m.scrap] 31)).alloc (.cells #[.slice none 0 0, .int .i64 0, .int .i64 0, .int .i64 0, .int .i64 0, .int .i64 0, .int .i64 0, .int .i64 0, .slice none 0 0, .slice none 0 0, .slice none 0 0, .int .i64 0] 31)).alloc (.cells #[.slice aos m.store.length cps, .int .i64 m.rule.lc, .int .i64 m.rule.hc, .int .i64 m.rule.lm, .int .i64 m.rule.hm, .int .i64 m.rule.ls, .int .i64 m.rule.hs, .int .i64 m.strand, .slice aop m.pieces.length cpp, .slice aol m.low.length cpl, .slice aoh m.high.length cph, .int .i64 m.scrap] 31)).alloc (.cells #[] 65) → RowL wx (w.heap.size) 31 [.slice aos m.store.length cps, .int .i64 m.rule.lc, .int .i64 m.rule.hc, .int .i64 m.rule.lm, .int .i64 m.rule.hm, .int .i64 m.rule.ls, .int .i64 m.rule.hs, .int .i64 m.strand, .slice aop m.pieces.length cpp, .slice aol m.low.length cpl, .slice aoh m.high.length cph, .int .i64 m.scrap] ∧ RowL wx (w.heap.size + 1) 31 [.slice none 0 0, .int .i64 0, .int .i64 0, .int .i64 0, .int .i64 0, .int .i64 0, .int .i64 0, .int .i64 0, .slice none 0 0, .slice none 0 0, .slice none 0 0, .int .i64 0] ∧ RowL wx (w.heap.size + 1 + 1) 31 [.slice aos m.store.length cps, .int .i64 m.rule.lc, .int .i64 m.rule.hc, .int .i64 m.rule.lm, .int .i64 m.rule.hm, .int .i64 m.rule.ls, .int .i64 m.rule.hs, .int .i64 m.strand, .slice aop m.pieces.length cpp, .slice aol m.low.length cpl, .slice aoh m.high.length cph, .int .i64 m.scrap] ∧ Below w.heap.size w wx ∧ wx.heap.size = w.heap.size + 1 + 1 + 1 + 1 := by
    intro wx hwx
    refine ⟨?_, ?_, ?_, ?_, ?_⟩
    · rw [hwx]; exact (((RowL.new _ _ _).alloc _).alloc _).alloc _
    · rw [hwx]; simpa using (((RowL.new (World.alloc w _) 31 [.slice none 0 0, .int .i64 0, .int .i64 0, .int .i64 0, .int .i64 0, .int .i64 0, .int .i64 0, .int .i64 0, .slice none 0 0, .slice none 0 0, .slice none 0 0, .int .i64 0]).alloc _).alloc _)
    · rw [hwx]; simpa using ((RowL.new (World.alloc (World.alloc w _) _) 31 [.slice aos m.store.length cps, .int .i64 m.rule.lc, .int .i64 m.rule.hc, .int .i64 m.rule.lm, .int .i64 m.rule.hm, .int .i64 m.rule.ls, .int .i64 m.rule.hs, .int .i64 m.strand, .slice aop m.pieces.length cpp, .slice aol m.low.length cpl, .slice aoh m.high.length cph, .int .i64 m.scrap]).alloc _)
    · rw [hwx]; go_grown
    · rw [hwx]; simp
  have HPRE := hide hpre
  clear hpre
  go_wp2_with (at_builtin; refine wpl_at fun wx hwx => ?_; obtain ⟨A_0, R_0, T_0, B_0, hz0q⟩ := HPRE.out wx hwx; clear hwx; refine wpList_append_E rfl (.tmp 5) (.tmp 7) 23 rfl (w.heap.size + 1 + 1 + 1) 65 i0 _ 5 40 Tryz.underlying23 hi0 hz0 hi1 hi2 rfl (by decide) _ 0 [] rfl ?c0 (.slice aos m.store.length cps) m.store.length (flatS m.store) rfl ?c1 ?c2 ?c3 ?c4 ?_)
  case c0 => exact OwnE.lit (Nat.le_refl _) (by omega)
  case c1 => exact HS.out.source.below B_0 (Nat.le_refl _)
  case c2 => unfold maxLen; omega
  case c3 => omega
  case c4 => omega
  intro v2 w2 own2 grow2 at2
  have hb2 : Below (w.heap.size + 1 + 1 + 1) wx w2 := Below.growE (base := w.heap.size + 1 + 1 + 1) (T := 65) (sz := 5) (n := 0) (cs := []) grow2 (OwnE.lit (Nat.le_refl _) (by omega)) (Nat.le_refl _) (by omega)
  obtain ⟨ao2, cp2, rfl, -, -⟩ := own2.form
  have O_s := hide own2
  clear own2 at2 grow2
  have A_1 := A_0.below hb2 (by omega)
  have R_1 := R_0.below hb2 (by omega)
  have T_1 := T_0.below hb2 (by omega)
  have B_1 := hide (B_0.trans (hb2.mono (by omega)))
  have hz1 := hb2.size
  have hlA := A_1.lt
  have hlR := R_1.lt
  have hlT := T_1.lt
  clear hb2 A_0 R_0 T_0 B_0
  have cA8 := A_1.c 8 rfl
  have cT0 := T_1.c 0 rfl
  have fT0 := T_1.frozen 0
  have hpre : ∀ wy, wy = (w2.setCell ⟨w.heap.size + 1 + 1, 0, none⟩ (.slice ao2 m.store.length cp2)).alloc (.cells #[] 73) → RowL wy (w.heap.size) 31 [.slice aos m.store.length cps, .int .i64 m.rule.lc, .int .i64 m.rule.hc, .int .i64 m.rule.lm, .int .i64 m.rule.hm, .int .i64 m.rule.ls, .int .i64 m.rule.hs, .int .i64 m.strand, .slice aop m.pieces.length cpp, .slice aol m.low.length cpl, .slice aoh m.high.length cph, .int .i64 m.scrap] ∧ RowL wy (w.heap.size + 1) 31 [.slice none 0 0, .int .i64 0, .int .i64 0, .int .i64 0, .int .i64 0, .int .i64 0, .int .i64 0, .int .i64 0, .slice none 0 0, .slice none 0 0, .slice none 0 0, .int .i64 0] ∧ RowL wy (w.heap.size + 1 + 1) 31 [.slice ao2 m.store.length cp2, .int .i64 m.rule.lc, .int .i64 m.rule.hc, .int .i64 m.rule.lm, .int .i64 m.rule.hm, .int .i64 m.rule.ls, .int .i64 m.rule.hs, .int .i64 m.strand, .slice aop m.pieces.length cpp, .slice aol m.low.length cpl, .slice aoh m.high.length cph, .int .i64 m.scrap] ∧ Below w.heap.size w wy ∧ wy.heap.size = w2.heap.size + 1 ∧ OwnE (w.heap.size + 1 + 1 + 1) 65 5 wy (.slice ao2 m.store.length cp2) m.store.length (flatS m.store) := by
    intro wy hwy
    refine ⟨?_, ?_, ?_, ?_, ?_, ?_⟩
    · rw [hwy]; exact (A_1.far (show w.heap.size + 1 + 1 ≠ w.heap.size by omega) _).alloc _
    · rw [hwy]; exact (R_1.far (show w.heap.size + 1 + 1 ≠ w.heap.size + 1 by omega) _).alloc _
    · rw [hwy]; exact (T_1.set 0 _ (by simp)).alloc _
    · rw [hwy]; exact (B_1.out.setCell (by simp; omega) _).alloc (by simp [World.setCell]; omega) _
    · rw [hwy]; simp [World.setCell]
    · rw [hwy]; exact (O_s.out.other ((Other.refl (w.heap.size + 1 + 1) (w.heap.size + 1 + 1 + 1) w2).setCell (p := ⟨w.heap.size + 1 + 1, 0, none⟩) (Nat.le_refl _) (Nat.lt_succ_self _) _) (fun g hg => by have := (O_s.out.lt g hg).1; omega)).alloc _
  have HPRE2 := hide hpre
  clear hpre
  go_wp2_with (at_builtin; refine wpl_at fun wy hwx => ?_; obtain ⟨A_2, R_2, T_2, B_2, hz2, own2⟩ := HPRE2.out wy hwx; clear hwx; refine wpList_append_E rfl (.tmp 10) (.tmp 12) 26 rfl (w2.heap.size) 73 j0 _ 2 16 Tryz.underlying26 hj0 hy0 hj1 hj2 rfl (by decide) _ 0 [] rfl ?c0 (.slice aop m.pieces.length cpp) m.pieces.length (flatP m.pieces) rfl ?c1 ?c2 ?c3 ?c4 ?_)
  case c0 => exact OwnE.lit (Nat.le_refl _) (by omega)
  case c1 => exact HP.out.source.below B_2 (Nat.le_refl _)
  case c2 => unfold maxLen; omega
  case c3 => omega
  case c4 => omega
  intro v4 w4 own4 grow4 at4
  have hb4 : Below w2.heap.size wy w4 := Below.growE (base := w2.heap.size) (T := 73) (sz := 2) (n := 0) (cs := []) grow4 (OwnE.lit (Nat.le_refl _) (by omega)) (Nat.le_refl _) (by omega)
  have own3 := own2.grown grow4 (fun g hg e => by have := (O_s.out.lt g hg).2; simp [Value.ownBlock] at e; omega)
  obtain ⟨ao4, cp4, rfl, -, -⟩ := own4.form
  have O_p := hide own4
  have O_s4 := hide own3
  have hap : Hid (Apart (.slice ao2 m.store.length cp2) (.slice ao4 m.pieces.length cp4)) := hide (O_s.out.apart own4 (Nat.le_refl _))
  clear own4 at4 grow4 own2 own3 HPRE HPRE2 cA8 cT0 fT0
  have A_4 := A_2.below hb4 (by omega)
  have R_4 := R_2.below hb4 (by omega)
  have T_4 := T_2.below hb4 (by omega)
  have B_4 := hide (B_2.trans (hb4.mono (by omega)))
  have hz4 := hb4.size
  have mlA := A_4.lt
  have mlR := R_4.lt
  have mlT := T_4.lt
  clear hb4 A_1 R_1 T_1 A_2 R_2 T_2 B_2 hlA hlR hlT
  have hcy := fun W H1 H2 => l6Copy_any (.slice aol m.low.length cpl) (.slice aoh m.high.length cph) m.low m.high W H1 H2 n3 n4
  unfold pileV at hcy
  have HCY := hide hcy
  clear hcy
  have cA9 := A_4.c 9 rfl
  have cA10 := A_4.c 10 rfl
  have cT8 := T_4.c 8 rfl
  have fT8 := T_4.frozen 8
  go_wp2_with fail
  refine calls_at fun w5 hw5 => ?_
  have T5 : Other (w.heap.size + 1 + 1) (w.heap.size + 1 + 1 + 1) w4 w5 := by rw [hw5]; exact (Other.refl _ _ _).setCell (p := ⟨w.heap.size + 1 + 1, 8, none⟩) (Nat.le_refl _) (Nat.lt_succ_self _) _
  have T_5 : RowL w5 (w.heap.size + 1 + 1) 31 [.slice ao2 m.store.length cp2, .int .i64 m.rule.lc, .int .i64 m.rule.hc, .int .i64 m.rule.lm, .int .i64 m.rule.hm, .int .i64 m.rule.ls, .int .i64 m.rule.hs, .int .i64 m.strand, .slice ao4 m.pieces.length cp4, .slice aol m.low.length cpl, .slice aoh m.high.length cph, .int .i64 m.scrap] := by rw [hw5]; exact T_4.set 8 _ (by simp)
  have A_5 := A_4.other T5 (by omega)
  have R_5 := R_4.other T5 (by omega)
  have O_s5 := hide (O_s4.out.other T5 (fun g hg => by have := (O_s.out.lt g hg).1; omega))
  have O_p5 := hide (O_p.out.other T5 (fun g hg => by have := (O_p.out.lt g hg).1; omega))
  have B_5 := hide (B_4.out.trans (T5.below (B := w.heap.size) (by omega) (by omega)))
  have hz5 := T5.size
  clear hw5 T5 cA9 cA10 cT8 fT8
  refine (HCY.out w5 (((HL.out.below B_5.out)).mono (Nat.le_refl _) (HL.out.below B_5.out).lt (Nat.le_refl _)) (((HH.out.below B_5.out)).mono (Nat.le_refl _) (HH.out.below B_5.out).lt (Nat.le_refl _))).mono ?_
  rintro e w6 ⟨vl, vh, rfl, own, hb⟩
  have A_6 := A_5.below hb A_5.lt
  have R_6 := R_5.below hb R_5.lt
  have T_6 := T_5.below hb T_5.lt
  have HG : Hid (MillGot (w.heap.size + 1 + 1 + 1) w6 (.slice ao2 m.store.length cp2) (.slice ao4 m.pieces.length cp4) vl vh m) := hide ⟨by have := hb.size; omega, O_s5.out.below hb (Nat.le_refl _), (O_p5.out.below hb (Nat.le_refl _)).mono (by omega), own.lo.mono (by omega), own.ho.mono (by omega), hap.out, O_s5.out.apart own.lo (Nat.le_refl _), O_s5.out.apart own.ho (Nat.le_refl _), O_p5.out.apart own.lo (Nat.le_refl _), O_p5.out.apart own.ho (Nat.le_refl _), own.ap⟩
  have B_6 := hide (Below.step B_5.out hb (Nat.le_refl _))
  simp only [pileV]
  obtain ⟨al6, cl6, rfl, -, -⟩ := own.lo.form
  obtain ⟨ah6, ch6, rfl, -, -⟩ := own.ho.form
  have nlA := A_6.lt
  have nlR := R_6.lt
  have nlT := T_6.lt
  clear own hb
  obtain ⟨cT0, cT1, cT2, cT3, cT4, cT5, cT6, cT7, cT8, cT9, cT10, cT11⟩ := row12_c T_6
  have fT9 := T_6.frozen 9
  have fT10 := T_6.frozen 10
  obtain ⟨cR0, cR1, cR2, cR3, cR4, cR5, cR6, cR7, cR8, cR9, cR10, cR11⟩ := row12_c R_6
  obtain ⟨fR0, fR1, fR2, fR3, fR4, fR5, fR6, fR7, fR8, fR9, fR10, fR11⟩ := row12_f R_6
  go_wp2_with fail
  refine bodyPost_ret (by simp [results, Tryz.results78, go_sem, cR0, cR1, cR2, cR3, cR4, cR5, cR6, cR7, cR8, cR9, cR10, cR11]; try rfl) rfl ?_
  have HF := fun W T => got_put (w := w) (base := w.heap.size) (a := w.heap.size + 1) (z := w.heap.size + 1 + 1 + 1) (W := W) HG.out B_6.out T (Nat.le_refl _) (Nat.le_succ _) (by omega) (Nat.le_refl _)
  exact ⟨_, _, _, _, rfl, HF _ (Other.setCell (p := ⟨w.heap.size + 1, 11, none⟩) (Other.setCell (p := ⟨w.heap.size + 1, 10, none⟩) (Other.setCell (p := ⟨w.heap.size + 1, 9, none⟩) (Other.setCell (p := ⟨w.heap.size + 1, 8, none⟩) (Other.setCell (p := ⟨w.heap.size + 1, 7, none⟩) (Other.setCell (p := ⟨w.heap.size + 1, 6, none⟩) (Other.setCell (p := ⟨w.heap.size + 1, 5, none⟩) (Other.setCell (p := ⟨w.heap.size + 1, 4, none⟩) (Other.setCell (p := ⟨w.heap.size + 1, 3, none⟩) (Other.setCell (p := ⟨w.heap.size + 1, 2, none⟩) (Other.setCell (p := ⟨w.heap.size + 1, 1, none⟩) (Other.setCell (p := ⟨w.heap.size + 1, 0, none⟩) (Other.setCell (p := ⟨w.heap.size + 1 + 1, 10, none⟩) (Other.setCell (p := ⟨w.heap.size + 1 + 1, 9, none⟩) (Other.refl _ _ _) (Nat.le_succ _) (Nat.lt_succ_self _) _) (Nat.le_succ _) (Nat.lt_succ_self _) _) (Nat.le_refl _) (Nat.lt_succ_of_lt (Nat.lt_succ_self _)) _) (Nat.le_refl _) (Nat.lt_succ_of_lt (Nat.lt_succ_self _)) _) (Nat.le_refl _) (Nat.lt_succ_of_lt (Nat.lt_succ_self _)) _) (Nat.le_refl _) (Nat.lt_succ_of_lt (Nat.lt_succ_self _)) _) (Nat.le_refl _) (Nat.lt_succ_of_lt (Nat.lt_succ_self _)) _) (Nat.le_refl _) (Nat.lt_succ_of_lt (Nat.lt_succ_self _)) _) (Nat.le_refl _) (Nat.lt_succ_of_lt (Nat.lt_succ_self _)) _) (Nat.le_refl _) (Nat.lt_succ_of_lt (Nat.lt_succ_self _)) _) (Nat.le_refl _) (Nat.lt_succ_of_lt (Nat.lt_succ_self _)) _) (Nat.le_refl _) (Nat.lt_succ_of_lt (Nat.lt_succ_self _)) _) (Nat.le_refl _) (Nat.lt_succ_of_lt (Nat.lt_succ_self _)) _) (Nat.le_refl _) (Nat.lt_succ_of_lt (Nat.lt_succ_self _)) _)⟩
set_option maxHeartbeats 1600000 in
theorem lens_spec (v : Value) (a b : Int) (lo hi : Nat) (w : World) (H : IntsAt lo hi w v [a, b]) :
    Calls Tryz.prog 209 #[v] w fun e w' => e = .returned (.bool (lensB a b)) ∧ Below w.heap.size w w' := by
  have HH := hide H
  obtain ⟨b0, o0, cap, rfl, -, -, -, -⟩ := two_at H
  clear H
  go_enter Tryz.func209, Tryz.ntmps209
  go_wp2_with fail
  go_loopw [3] (fun i wr => Below w.heap.size w wr ∧ ((i = .int .i64 0) ∨ (i = .int .i64 1 ∧ wi a 1 60 = true) ∨ (i = .int .i64 2 ∧ lensB a b = true))) (fun i _ => 2 - (intOf i).toNat)
  case atStart => exact ⟨Below.refl _ _, .inl rfl⟩
  case round =>
    obtain ⟨hb, hcase⟩ := hrel
    have HB := hide hb
    obtain ⟨b1, o1, cap1, e1, -, -, c0, c1⟩ := two_at (HH.out.below hb)
    cases e1
    clear hb
    rcases hcase with rfl | ⟨rfl, h⟩ | ⟨rfl, h⟩
    · cases h : wi a 1 60 with
      | false =>
        have HF := hide (show lensB a b = false by simp [lensB, h])
        have hq := fun W => l1In_any a 1 60 W
        rw [h] at hq
        have HQ := hide hq
        have HA := hide h
        clear h hq
        go_wp2_with fail
        go_quiet ((go_at_call 68; exact quiet_left (HQ.out _)))
        go_wp2_with fail
        go_ret
        exact ⟨by rw [HF.out]; rfl, below_drewN HB.out _⟩
      | true =>
        have hq := fun W => l1In_any a 1 60 W
        rw [h] at hq
        have HQ := hide hq
        have HA := hide h
        clear h hq
        go_wp2_with fail
        go_quiet ((go_at_call 68; exact quiet_left (HQ.out _)))
        go_wp2_with fail
        go_roundw
        case rel => exact ⟨below_drewN HB.out _, .inr (.inl ⟨rfl, by first | trivial | exact HA.out⟩)⟩
        case measure => simp [intOf]
    · have ha := wi_iff.1 h
      cases h1 : wi b 1 60 with
      | false =>
        have HF := hide (show lensB a b = false by
          rw [← Bool.not_eq_true, lensB_iff]
          intro hh
          have : wi b 1 60 = true := wi_iff.2 (by omega)
          rw [this] at h1; cases h1)
        have hq := fun W => l1In_any b 1 60 W
        rw [h1] at hq
        have HQ := hide hq
        clear h h1 hq
        go_wp2_with fail
        go_quiet ((go_at_call 68; exact quiet_left (HQ.out _)))
        go_wp2_with fail
        go_ret
        exact ⟨by rw [HF.out]; rfl, below_drewN HB.out _⟩
      | true =>
        have hb1 := wi_iff.1 h1
        by_cases hab : b ≤ a
        · have HF := hide (show lensB a b = false by
            rw [← Bool.not_eq_true, lensB_iff]
            omega)
          have hq := fun W => l1In_any b 1 60 W
          rw [h1] at hq
          have HQ := hide hq
          have habd : decide (b ≤ a) = true := by simpa using hab
          clear h h1 hq
          go_wp2_with fail
          go_quiet ((go_at_call 68; exact quiet_left (HQ.out _)))
          go_wp2_with fail
          go_ret
          exact ⟨by rw [HF.out]; rfl, below_drewN HB.out _⟩
        · have HF := hide (show lensB a b = true from lensB_iff.2 (by omega))
          have hq := fun W => l1In_any b 1 60 W
          rw [h1] at hq
          have HQ := hide hq
          have habd : decide (b ≤ a) = false := by simpa using hab
          clear h h1 hq
          go_wp2_with fail
          go_quiet ((go_at_call 68; exact quiet_left (HQ.out _)))
          go_wp2_with fail
          go_roundw
          case rel => exact ⟨below_drewN HB.out _, .inr (.inr ⟨rfl, HF.out⟩)⟩
          case measure => simp [intOf]
    · go_wp2_with fail
      refine (l1In_any 2 1 4 wr).mono ?_
      rintro e w1 ⟨rfl, rfl⟩
      have hw : wi 2 1 4 = true := by decide
      rw [hw]
      go_wp2_with fail
      go_ret
      exact ⟨by rw [h]; rfl, HB.out⟩
set_option maxHeartbeats 1600000 in
theorem table_spec (v : Value) (a b : Int) (lo hi L : Nat) (hL : L ≤ 60) (hv : lensB a b = true) (w : World) (H : IntsAt lo hi w v [a, b]) :
    Calls Tryz.prog 208 #[.int .i64 (L : Int), v] w (IntsNew w.heap.size (tab a b (L + 1)) w) := by
  have HH := hide H
  have hlt := H.lt
  obtain ⟨⟨ha1, ha2⟩, hb1, hb2⟩ := lensB_iff.1 hv
  have HV := hide hv
  obtain ⟨b0, o0, cap, rfl, h1, h2, -, -⟩ := two_at H
  obtain ⟨j0, hj0, hy0, hj1, hj2⟩ := info_parts info_int
  clear H hv
  go_enter Tryz.func208, Tryz.ntmps208
  go_wp2_with fail
  go_loopw [5, 6, 7, 8] (fun o i _ _ wr => ∃ k : Nat, k ≤ L + 1 ∧ i = .int .i64 (k : Int) ∧ Below w.heap.size w wr ∧ wr.ownsRow w.heap.size 3 1 o k (flatI (tab a b k))) (fun _ i _ _ _ => L + 1 - (intOf i).toNat)
  case atStart =>
    exact ⟨0, Nat.zero_le _, rfl, by go_grown, by simpa [tab, flatI] using World.ownsRow_lit (e := 3) (size := 1) (base := w.heap.size) w #[] 0 (Nat.le_refl _) (by unfold maxLen; omega) (by simp)⟩
  case round =>
    obtain ⟨k, hk, rfl, hb, hown⟩ := hrel
    have hzr := hb.size
    obtain ⟨aov, capv, rfl, -, -⟩ := own_slice hown
    have hat := ownI_at hown (tab_len a b k).symm hzr
    have HB := hide hb
    have HO := hide hown
    clear hown
    by_cases hltk : k < L + 1
    · have hkI : (k : Int) ≤ (L : Int) := by omega
      have hk0 : (0 : Int) ≤ (k : Int) := by omega
      have HAT := hide hat
      have HC := hide (two_at (HH.out.below hb))
      clear hb hat
      obtain ⟨wo, hwo⟩ : ∃ wo : World, wo = wr := ⟨_, rfl⟩
      subst hwo
      go_wp2_with fail
      go_loop [7, 8] (fun x i => ∃ y : Int, x = .int .i64 y ∧ ((i = .int .i64 0 ∧ y = k) ∨ (i = .int .i64 1 ∧ y = wst1 (tab a b k) a k) ∨ (i = .int .i64 2 ∧ y = wst2 (tab a b k) a b k))) (fun _ i => 2 - (intOf i).toNat)
      case atStart => exact ⟨k, rfl, .inl ⟨rfl, rfl⟩⟩
      case round =>
        obtain ⟨y, rfl, hcase⟩ := hrel
        obtain ⟨b1, o1, cap1, e1, -, -, c0, c1⟩ := HC.out
        cases e1
        rcases hcase with ⟨rfl, rfl⟩ | ⟨rfl, rfl⟩ | ⟨rfl, rfl⟩
        · by_cases hle : a ≤ (k : Int)
          · obtain ⟨d, hd⟩ : ∃ d : Nat, (k : Int) - a = d := ⟨((k : Int) - a).toNat, by omega⟩
            have hdk : d < k := by omega
            have hdI : (d : Int) < (k : Int) := by omega
            have hd0 : (0 : Int) ≤ (d : Int) := by omega
            have hwd : IntKind.i64.wrap ((k : Int) - a) = (d : Int) := by rw [hd]; exact IntWalk.i64_in _ (by omega)
            obtain ⟨b2, o2, cap2, e2, -, -, gd, -⟩ := ints_at HAT.out (k := d) (by rw [tab_len]; exact hdk)
            rw [tab_len] at e2
            cases e2
            obtain ⟨z, hz⟩ : ∃ z, (tab a b k).getD d 0 = z := ⟨_, rfl⟩
            rw [hz] at gd
            have HX := hide (show wst1 (tab a b k) a k = min (k : Int) z by
              unfold wst1
              rw [if_pos hle, hd]
              simp [← hz])
            clear hz hd
            go_wp2_with fail
            go_round
            case rel => exact ⟨_, by rw [HX.out], .inr (.inl ⟨rfl, rfl⟩)⟩
            case measure => simp [intOf]
          · have HX := hide (show wst1 (tab a b k) a k = k by unfold wst1; rw [if_neg hle])
            go_wp2_with fail
            go_round
            case rel => exact ⟨_, rfl, .inr (.inl ⟨rfl, HX.out.symm⟩)⟩
            case measure => simp [intOf]
        · by_cases hle : b ≤ (k : Int)
          · obtain ⟨d, hd⟩ : ∃ d : Nat, (k : Int) - b = d := ⟨((k : Int) - b).toNat, by omega⟩
            have hdk : d < k := by omega
            have hdI : (d : Int) < (k : Int) := by omega
            have hd0 : (0 : Int) ≤ (d : Int) := by omega
            have hwd : IntKind.i64.wrap ((k : Int) - b) = (d : Int) := by rw [hd]; exact IntWalk.i64_in _ (by omega)
            obtain ⟨b2, o2, cap2, e2, -, -, gd, -⟩ := ints_at HAT.out (k := d) (by rw [tab_len]; exact hdk)
            rw [tab_len] at e2
            cases e2
            obtain ⟨z, hz⟩ : ∃ z, (tab a b k).getD d 0 = z := ⟨_, rfl⟩
            obtain ⟨x1, hx1⟩ : ∃ x1, wst1 (tab a b k) a k = x1 := ⟨_, rfl⟩
            rw [hz] at gd
            have HX := hide (show wst2 (tab a b k) a b k = min x1 z by
              unfold wst2
              rw [if_pos hle, hd, hx1]
              simp [← hz])
            have HX1 := hide hx1
            rw [hx1]
            clear hz hd hx1
            go_wp2_with fail
            go_round
            case rel => exact ⟨_, by rw [HX.out], .inr (.inr ⟨rfl, rfl⟩)⟩
            case measure => simp [intOf]
          · have HX := hide (show wst2 (tab a b k) a b k = wst1 (tab a b k) a k by unfold wst2; rw [if_neg hle])
            go_wp2_with fail
            go_round
            case rel => exact ⟨_, rfl, .inr (.inr ⟨rfl, HX.out.symm⟩)⟩
            case measure => simp [intOf]
        · obtain ⟨z, hz⟩ : ∃ z, wst2 (tab a b k) a b k = z := ⟨_, rfl⟩
          have HT := hide (show tab a b (k + 1) = tab a b k ++ [z] by rw [← hz]; rfl)
          rw [hz]
          clear hz
          go_wp2_with (at_builtin; refine wpList_append_view rfl _ _ 27 rfl w.heap.size 3 j0 (.int .i64 0) 1 8 Tryz.underlying27 hj0 hy0 hj1 hj2 rfl (by decide) _ _ _ rfl (HO.out.alloc _) (.slice (some ⟨wo.heap.size, 0, none⟩) 1 1) 1 [.int .i64 z] rfl ?c0 ?c1 ?c2 ?c3 ?_)
          case c0 => simpa using Source.lit wo [.int .i64 z] 1 3 1 rfl (fun u hu => by simp at hu; subst hu; rfl) 1
          case c1 => unfold maxLen; omega
          case c2 => omega
          case c3 => first | omega | (simp; omega)
          intro v2 w2 hown2 hgrow2 _
          have hb2 : Below w.heap.size w w2 := (HB.out.alloc hzr _).trans (Below.grow hgrow2 (HO.out.alloc _) (Nat.le_refl _) (by simp; omega))
          have HB2 := hide hb2
          have HO2 := hide (show w2.ownsRow w.heap.size 3 1 v2 (k + 1) (flatI (tab a b (k + 1))) by rw [HT.out]; simpa [flatI] using hown2)
          clear hown2 hgrow2 hb2
          go_wp2_with fail
          go_roundw
          case rel => exact ⟨k + 1, by omega, by go_num, HB2.out, HO2.out⟩
          case measure => simp [intOf]; omega
    · obtain rfl : k = L + 1 := by omega
      clear hb
      have hkk : ¬ ((L + 1 : Nat) : Int) ≤ (L : Int) := by omega
      go_wp2_with fail
      go_ret
      exact ⟨_, rfl, by rw [tab_len]; exact HO.out, HB.out⟩
set_option maxHeartbeats 1600000 in
theorem cutLeast_spec (v : Value) (a b : Int) (lo hi L : Nat) (hL : L ≤ 60) (w : World) (H : IntsAt lo hi w v [a, b]) :
    Calls Tryz.prog 207 #[.int .i64 (L : Int), v] w fun e w' => ∃ x : Int, e = .returned (.int .i64 x) ∧ (lensB a b = false → x = -1) ∧ (lensB a b = true → 0 ≤ x) ∧ Below w.heap.size w w' := by
  have HH := hide H
  have hl := fun (W : World) (k : Below w.heap.size w W) => lens_spec v a b lo hi W (H.below k)
  obtain ⟨b0, o0, cap, rfl, -, -, -, -⟩ := two_at H
  have hq := fun W => l1In_any (L : Int) 0 60 W
  rw [show wi (L : Int) 0 60 = true from wi_iff.2 (by omega)] at hq
  cases hv : lensB a b with
  | false =>
    rw [hv] at hl
    have HL := hide hl
    clear hl hv H hq
    go_enter Tryz.func207, Tryz.ntmps207
    go_wp2_with fail
    refine (HL.out w (Below.refl _ _)).mono ?_
    rintro e w1 ⟨rfl, hb⟩
    have HB := hide hb
    clear hb
    go_wp2_with fail
    go_ret
    exact ⟨-1, rfl, fun _ => rfl, (fun h => by cases h), HB.out⟩
  | true =>
    have HTS := hide (fun (W : World) (k : Below w.heap.size w W) => table_spec (.slice (some ⟨b0, o0, none⟩) 2 cap) a b lo hi L hL hv W (H.below k))
    have HTB := hide (tab_bd (a := a) (b := b) (L + 1) L (Nat.lt_succ_self L))
    rw [hv] at hl
    have HL := hide hl
    have HQ := hide hq
    clear hl hv H hq
    go_enter Tryz.func207, Tryz.ntmps207
    go_wp2_with fail
    refine (HL.out w (Below.refl _ _)).mono ?_
    rintro e w1 ⟨rfl, hb⟩
    have HB := hide hb
    clear hb
    go_wp2_with fail
    refine (HQ.out w1).mono ?_
    rintro e w2 ⟨rfl, rfl⟩
    go_wp2_with fail
    refine (HTS.out w1 HB.out).mono ?_
    rintro e w3 ⟨v3, rfl, hown, hb⟩
    have HB3 := hide (Below.step HB.out hb (Nat.le_refl _))
    have hat := ownI_at hown rfl hb.size
    obtain ⟨b3, o3, cap3, rfl, -, -, g3, -⟩ := ints_at hat (k := L) (by rw [tab_len]; omega)
    obtain ⟨x, hx⟩ : ∃ x, (tab a b (L + 1)).getD L 0 = x := ⟨_, rfl⟩
    rw [hx] at g3
    have HX := hide hx
    obtain ⟨n, hn⟩ : ∃ n, (tab a b (L + 1)).length = n := ⟨_, rfl⟩
    rw [hn]
    have hn2 := hn
    rw [tab_len] at hn2
    have hLn : (L : Int) < (n : Int) := by omega
    have hL0 : (0 : Int) ≤ (L : Int) := by omega
    clear hb hown hat hx hn hn2
    go_wp2_with fail
    go_ret
    exact ⟨x, rfl, (fun h => by cases h), fun _ => by have := HTB.out.1; rw [HX.out] at this; exact this, HB3.out⟩
end Go.Proofs.YtmemgbklgcjobaaGreatDoor
