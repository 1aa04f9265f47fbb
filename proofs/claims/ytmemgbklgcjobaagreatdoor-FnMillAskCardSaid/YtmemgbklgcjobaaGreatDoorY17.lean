/-
  Parts of the proofs over mills, of: CopyMS, DoP, MethE, CutC. Conditions: each theorem states its own.
-/
import Derived.Test.YtmemgbklgcjobaaGreatDoorY16
set_option linter.unusedSimpArgs false
set_option linter.unusedVariables false
set_option maxRecDepth 10000
set_option maxHeartbeats 64000000
namespace Go.Proofs.YtmemgbklgcjobaaGreatDoor
open Go.RowKit
theorem wpl_at {P : Program} {ops : Array Oper} {Q : Exit → Act → World → Prop} {rest : List Oper} {a : Act} {w : World} (h : ∀ wx, wx = w → wpList P ops Q rest a wx) : wpList P ops Q rest a w := h _ rfl
theorem l8Copy_any (s p l h : Value) (m : Mi) (w : World) (H : MillIn 0 w.heap.size w s p l h m) (n1 : m.store.length ≤ 1000000) (n2 : m.pieces.length ≤ 1000000) (n3 : m.low.length ≤ 1000000) (n4 : m.high.length ≤ 1000000) :
 Calls Tryz.prog 78 #[millV s p l h m] w (CopyGot w.heap.size m w) := by
 have HS := hide H.store;have HP := hide H.pieces;have HL := hide H.low;have HH := hide H.high;clear H;unfold millV;obtain ⟨aos, cps, hse, -, -, -, -⟩ := id HS.out;obtain ⟨aop, cpp, hpe, -, -, -, -⟩ := id HP.out;obtain ⟨aol, cpl, hle, -, -, -, -⟩ := id HL.out;obtain ⟨aoh, cph, hhe, -, -, -, -⟩ := id HH.out;subst hse hpe hle hhe;obtain ⟨i0, hi0, hz0, hi1, hi2⟩ := info_parts info_St;obtain ⟨j0, hj0, hy0, hj1, hj2⟩ := info_parts info_Pc;go_enter Tryz.func78, Tryz.ntmps78;have hpre : ∀ wx, wx = (((w.alloc (.cells #[.slice aos m.store.length cps, .int .i64 m.rule.lc, .int .i64 m.rule.hc, .int .i64 m.rule.lm, .int .i64 m.rule.hm, .int .i64 m.rule.ls, .int .i64 m.rule.hs, .int .i64 m.strand, .slice aop m.pieces.length cpp, .slice aol m.low.length cpl, .slice aoh m.high.length cph, .int .i64 m.scrap] 31)).alloc (.cells #[.slice none 0 0, .int .i64 0, .int .i64 0, .int .i64 0, .int .i64 0, .int .i64 0, .int .i64 0, .int .i64 0, .slice none 0 0, .slice none 0 0, .slice none 0 0, .int .i64 0] 31)).alloc (.cells #[.slice aos m.store.length cps, .int .i64 m.rule.lc, .int .i64 m.rule.hc, .int .i64 m.rule.lm, .int .i64 m.rule.hm, .int .i64 m.rule.ls, .int .i64 m.rule.hs, .int .i64 m.strand, .slice aop m.pieces.length cpp, .slice aol m.low.length cpl, .slice aoh m.high.length cph, .int .i64 m.scrap] 31)).alloc (.cells #[] 65) → RowL wx (w.heap.size) 31 [.slice aos m.store.length cps, .int .i64 m.rule.lc, .int .i64 m.rule.hc, .int .i64 m.rule.lm, .int .i64 m.rule.hm, .int .i64 m.rule.ls, .int .i64 m.rule.hs, .int .i64 m.strand, .slice aop m.pieces.length cpp, .slice aol m.low.length cpl, .slice aoh m.high.length cph, .int .i64 m.scrap] ∧ RowL wx (w.heap.size + 1) 31 [.slice none 0 0, .int .i64 0, .int .i64 0, .int .i64 0, .int .i64 0, .int .i64 0, .int .i64 0, .int .i64 0, .slice none 0 0, .slice none 0 0, .slice none 0 0, .int .i64 0] ∧ RowL wx (w.heap.size + 1 + 1) 31 [.slice aos m.store.length cps, .int .i64 m.rule.lc, .int .i64 m.rule.hc, .int .i64 m.rule.lm, .int .i64 m.rule.hm, .int .i64 m.rule.ls, .int .i64 m.rule.hs, .int .i64 m.strand, .slice aop m.pieces.length cpp, .slice aol m.low.length cpl, .slice aoh m.high.length cph, .int .i64 m.scrap] ∧ Below w.heap.size w wx ∧ wx.heap.size = w.heap.size + 1 + 1 + 1 + 1 := by
  intro wx hwx;refine ⟨?_, ?_, ?_, ?_, ?_⟩
  ·rw [hwx]; exact (((RowL.new _ _ _).alloc _).alloc _).alloc _
  ·rw [hwx]; simpa using (((RowL.new (World.alloc w _) 31 [.slice none 0 0, .int .i64 0, .int .i64 0, .int .i64 0, .int .i64 0, .int .i64 0, .int .i64 0, .int .i64 0, .slice none 0 0, .slice none 0 0, .slice none 0 0, .int .i64 0]).alloc _).alloc _)
  ·rw [hwx]; simpa using ((RowL.new (World.alloc (World.alloc w _) _) 31 [.slice aos m.store.length cps, .int .i64 m.rule.lc, .int .i64 m.rule.hc, .int .i64 m.rule.lm, .int .i64 m.rule.hm, .int .i64 m.rule.ls, .int .i64 m.rule.hs, .int .i64 m.strand, .slice aop m.pieces.length cpp, .slice aol m.low.length cpl, .slice aoh m.high.length cph, .int .i64 m.scrap]).alloc _)
  ·rw [hwx]; go_grown
  ·rw [hwx]; simp
 have HPRE := hide hpre;clear hpre;go_wp2_with (at_builtin; refine wpl_at fun wx hwx => ?_; obtain ⟨A_0, R_0, T_0, B_0, hz0q⟩ := HPRE.out wx hwx; clear hwx; refine wpList_append_E rfl (.tmp 5) (.tmp 7) 23 rfl (w.heap.size + 1 + 1 + 1) 65 i0 _ 5 40 Tryz.underlying23 hi0 hz0 hi1 hi2 rfl (by decide) _ 0 [] rfl ?c0 (.slice aos m.store.length cps) m.store.length (flatS m.store) rfl ?c1 ?c2 ?c3 ?c4 ?_)
 case c0 => exact OwnE.lit nl (by omega)
 case c1 => exact HS.out.source.below B_0 nl
 case c2 => unfold maxLen; omega
 case c3 => omega
 case c4 => omega
 intro v2 w2 own2 grow2 at2;have hb2 : Below (w.heap.size + 1 + 1 + 1) wx w2 := Below.growE (base := w.heap.size + 1 + 1 + 1) (T := 65) (sz := 5) (n := 0) (cs := []) grow2 (OwnE.lit nl (by omega)) nl (by omega);obtain ⟨ao2, cp2, rfl, -, -⟩ := own2.form;have O_s := hide own2;clear own2 at2 grow2;have A_1 := A_0.below hb2 (by omega);have R_1 := R_0.below hb2 (by omega);have T_1 := T_0.below hb2 (by omega);have B_1 := hide (B_0.trans (hb2.mono (by omega)));have hz1 := hb2.size;have hlA := A_1.lt;have hlR := R_1.lt;have hlT := T_1.lt;clear hb2 A_0 R_0 T_0 B_0;have cA8 := A_1.c 8 rfl;have cT0 := T_1.c 0 rfl;have fT0 := T_1.frozen 0;have hpre : ∀ wy, wy = (w2.setCell ⟨w.heap.size + 1 + 1, 0, none⟩ (.slice ao2 m.store.length cp2)).alloc (.cells #[] 73) → RowL wy (w.heap.size) 31 [.slice aos m.store.length cps, .int .i64 m.rule.lc, .int .i64 m.rule.hc, .int .i64 m.rule.lm, .int .i64 m.rule.hm, .int .i64 m.rule.ls, .int .i64 m.rule.hs, .int .i64 m.strand, .slice aop m.pieces.length cpp, .slice aol m.low.length cpl, .slice aoh m.high.length cph, .int .i64 m.scrap] ∧ RowL wy (w.heap.size + 1) 31 [.slice none 0 0, .int .i64 0, .int .i64 0, .int .i64 0, .int .i64 0, .int .i64 0, .int .i64 0, .int .i64 0, .slice none 0 0, .slice none 0 0, .slice none 0 0, .int .i64 0] ∧ RowL wy (w.heap.size + 1 + 1) 31 [.slice ao2 m.store.length cp2, .int .i64 m.rule.lc, .int .i64 m.rule.hc, .int .i64 m.rule.lm, .int .i64 m.rule.hm, .int .i64 m.rule.ls, .int .i64 m.rule.hs, .int .i64 m.strand, .slice aop m.pieces.length cpp, .slice aol m.low.length cpl, .slice aoh m.high.length cph, .int .i64 m.scrap] ∧ Below w.heap.size w wy ∧ wy.heap.size = w2.heap.size + 1 ∧ OwnE (w.heap.size + 1 + 1 + 1) 65 5 wy (.slice ao2 m.store.length cp2) m.store.length (flatS m.store) := by
  intro wy hwy;refine ⟨?_, ?_, ?_, ?_, ?_, ?_⟩
  ·rw [hwy]; exact (A_1.far (show w.heap.size + 1 + 1 ≠ w.heap.size by omega) _).alloc _
  ·rw [hwy]; exact (R_1.far (show w.heap.size + 1 + 1 ≠ w.heap.size + 1 by omega) _).alloc _
  ·rw [hwy]; exact (T_1.set 0 _ (by simp)).alloc _
  ·rw [hwy]; exact (B_1.out.setCell (by simp; omega) _).alloc (by simp [World.setCell]; omega) _
  ·rw [hwy]; simp [World.setCell]
  ·rw [hwy]; exact (O_s.out.other ((Other.refl (w.heap.size + 1 + 1) (w.heap.size + 1 + 1 + 1) w2).setCell (p := ⟨w.heap.size + 1 + 1, 0, none⟩) nl (Nat.lt_succ_self _) _) (fun g hg => by have := (O_s.out.lt g hg).1; omega)).alloc _
 have HPRE2 := hide hpre;clear hpre;go_wp2_with (at_builtin; refine wpl_at fun wy hwx => ?_; obtain ⟨A_2, R_2, T_2, B_2, hz2, own2⟩ := HPRE2.out wy hwx; clear hwx; refine wpList_append_E rfl (.tmp 10) (.tmp 12) 26 rfl (w2.heap.size) 73 j0 _ 2 16 Tryz.underlying26 hj0 hy0 hj1 hj2 rfl (by decide) _ 0 [] rfl ?c0 (.slice aop m.pieces.length cpp) m.pieces.length (flatP m.pieces) rfl ?c1 ?c2 ?c3 ?c4 ?_)
 case c0 => exact OwnE.lit nl (by omega)
 case c1 => exact HP.out.source.below B_2 nl
 case c2 => unfold maxLen; omega
 case c3 => omega
 case c4 => omega
 intro v4 w4 own4 grow4 at4;have hb4 : Below w2.heap.size wy w4 := Below.growE (base := w2.heap.size) (T := 73) (sz := 2) (n := 0) (cs := []) grow4 (OwnE.lit nl (by omega)) nl (by omega);have own3 := own2.grown grow4 (fun g hg e => by have := (O_s.out.lt g hg).2; simp [Value.ownBlock] at e; omega);obtain ⟨ao4, cp4, rfl, -, -⟩ := own4.form;have O_p := hide own4;have O_s4 := hide own3;have hap : Hid (Apart (.slice ao2 m.store.length cp2) (.slice ao4 m.pieces.length cp4)) := hide (O_s.out.apart own4 nl);clear own4 at4 grow4 own2 own3 HPRE HPRE2 cA8 cT0 fT0;have A_4 := A_2.below hb4 (by omega);have R_4 := R_2.below hb4 (by omega);have T_4 := T_2.below hb4 (by omega);have B_4 := hide (B_2.trans (hb4.mono (by omega)));have hz4 := hb4.size;have mlA := A_4.lt;have mlR := R_4.lt;have mlT := T_4.lt;clear hb4 A_1 R_1 T_1 A_2 R_2 T_2 B_2 hlA hlR hlT;have hcy := fun W H1 H2 => l6Copy_any (.slice aol m.low.length cpl) (.slice aoh m.high.length cph) m.low m.high W H1 H2 n3 n4;unfold pileV at hcy;have HCY := hide hcy;clear hcy;have cA9 := A_4.c 9 rfl;have cA10 := A_4.c 10 rfl;have cT8 := T_4.c 8 rfl;have fT8 := T_4.frozen 8;go_wp2_with fail
 refine calls_at fun w5 hw5 => ?_;have T5 : Other (w.heap.size + 1 + 1) (w.heap.size + 1 + 1 + 1) w4 w5 := by rw [hw5]; exact (Other.refl _ _ _).setCell (p := ⟨w.heap.size + 1 + 1, 8, none⟩) nl (Nat.lt_succ_self _) _
 have T_5 : RowL w5 (w.heap.size + 1 + 1) 31 [.slice ao2 m.store.length cp2, .int .i64 m.rule.lc, .int .i64 m.rule.hc, .int .i64 m.rule.lm, .int .i64 m.rule.hm, .int .i64 m.rule.ls, .int .i64 m.rule.hs, .int .i64 m.strand, .slice ao4 m.pieces.length cp4, .slice aol m.low.length cpl, .slice aoh m.high.length cph, .int .i64 m.scrap] := by rw [hw5]; exact T_4.set 8 _ (by simp)
 have A_5 := A_4.other T5 (by omega);have R_5 := R_4.other T5 (by omega);have O_s5 := hide (O_s4.out.other T5 (fun g hg => by have := (O_s.out.lt g hg).1; omega));have O_p5 := hide (O_p.out.other T5 (fun g hg => by have := (O_p.out.lt g hg).1; omega));have B_5 := hide (B_4.out.trans (T5.below (B := w.heap.size) (by omega) (by omega)));have hz5 := T5.size;clear hw5 T5 cA9 cA10 cT8 fT8;refine (HCY.out w5 (((HL.out.below B_5.out)).mono nl (HL.out.below B_5.out).lt nl) (((HH.out.below B_5.out)).mono nl (HH.out.below B_5.out).lt nl)).mono ?_;rintro e w6 ⟨vl, vh, rfl, own, hb⟩;have A_6 := A_5.below hb A_5.lt;have R_6 := R_5.below hb R_5.lt;have T_6 := T_5.below hb T_5.lt;have HG : Hid (MillGot (w.heap.size + 1 + 1 + 1) w6 (.slice ao2 m.store.length cp2) (.slice ao4 m.pieces.length cp4) vl vh m) := hide ⟨by have := hb.size; omega, O_s5.out.below hb nl, (O_p5.out.below hb nl).mono (by omega), own.lo.mono (by omega), own.ho.mono (by omega), hap.out, O_s5.out.apart own.lo nl, O_s5.out.apart own.ho nl, O_p5.out.apart own.lo nl, O_p5.out.apart own.ho nl, own.ap⟩;have B_6 := hide (Below.step B_5.out hb nl);simp only [pileV];obtain ⟨al6, cl6, rfl, -, -⟩ := own.lo.form;obtain ⟨ah6, ch6, rfl, -, -⟩ := own.ho.form;have nlA := A_6.lt;have nlR := R_6.lt;have nlT := T_6.lt;clear own hb;obtain ⟨cT0, cT1, cT2, cT3, cT4, cT5, cT6, cT7, cT8, cT9, cT10, cT11⟩ := row12_c T_6;have fT9 := T_6.frozen 9;have fT10 := T_6.frozen 10;obtain ⟨cR0, cR1, cR2, cR3, cR4, cR5, cR6, cR7, cR8, cR9, cR10, cR11⟩ := row12_c R_6;obtain ⟨fR0, fR1, fR2, fR3, fR4, fR5, fR6, fR7, fR8, fR9, fR10, fR11⟩ := row12_f R_6;go_wp2_with fail
 refine bodyPost_ret (by simp [results, Tryz.results78, go_sem, cR0, cR1, cR2, cR3, cR4, cR5, cR6, cR7, cR8, cR9, cR10, cR11]; try rfl) rfl ?_;have HF := fun W T => got_put (w := w) (base := w.heap.size) (a := w.heap.size + 1) (z := w.heap.size + 1 + 1 + 1) (W := W) HG.out B_6.out T nl (Nat.le_succ _) (by omega) nl;exact ⟨_, _, _, _, rfl, HF _ (Other.setCell (p := ⟨w.heap.size + 1, 11, none⟩) (Other.setCell (p := ⟨w.heap.size + 1, 10, none⟩) (Other.setCell (p := ⟨w.heap.size + 1, 9, none⟩) (Other.setCell (p := ⟨w.heap.size + 1, 8, none⟩) (Other.setCell (p := ⟨w.heap.size + 1, 7, none⟩) (Other.setCell (p := ⟨w.heap.size + 1, 6, none⟩) (Other.setCell (p := ⟨w.heap.size + 1, 5, none⟩) (Other.setCell (p := ⟨w.heap.size + 1, 4, none⟩) (Other.setCell (p := ⟨w.heap.size + 1, 3, none⟩) (Other.setCell (p := ⟨w.heap.size + 1, 2, none⟩) (Other.setCell (p := ⟨w.heap.size + 1, 1, none⟩) (Other.setCell (p := ⟨w.heap.size + 1, 0, none⟩) (Other.setCell (p := ⟨w.heap.size + 1 + 1, 10, none⟩) (Other.setCell (p := ⟨w.heap.size + 1 + 1, 9, none⟩) (Other.refl _ _ _) (Nat.le_succ _) (Nat.lt_succ_self _) _) (Nat.le_succ _) (Nat.lt_succ_self _) _) nl (Nat.lt_succ_of_lt (Nat.lt_succ_self _)) _) nl (Nat.lt_succ_of_lt (Nat.lt_succ_self _)) _) nl (Nat.lt_succ_of_lt (Nat.lt_succ_self _)) _) nl (Nat.lt_succ_of_lt (Nat.lt_succ_self _)) _) nl (Nat.lt_succ_of_lt (Nat.lt_succ_self _)) _) nl (Nat.lt_succ_of_lt (Nat.lt_succ_self _)) _) nl (Nat.lt_succ_of_lt (Nat.lt_succ_self _)) _) nl (Nat.lt_succ_of_lt (Nat.lt_succ_self _)) _) nl (Nat.lt_succ_of_lt (Nat.lt_succ_self _)) _) nl (Nat.lt_succ_of_lt (Nat.lt_succ_self _)) _) nl (Nat.lt_succ_of_lt (Nat.lt_succ_self _)) _) nl (Nat.lt_succ_of_lt (Nat.lt_succ_self _)) _)⟩
theorem do_good {m : Mi} (h : millB m = true) (k a b : Int) : doR m ⟨k, a, b⟩ = orOld m (stepD m k a b) := by
 unfold doR;rw [if_pos h];rfl
theorem step_0 (m : Mi) (a b : Int) : stepD m 0 a b = meltD m a := rfl
theorem step_1 (m : Mi) (a b : Int) : stepD m 1 a b = cutD m a b := rfl
theorem step_2 (m : Mi) (a b : Int) : stepD m 2 a b = rollD m a b := rfl
theorem step_3 (m : Mi) (a b : Int) : stepD m 3 a b = liftD m a b := rfl
theorem step_4 (m : Mi) (a b : Int) : stepD m 4 a b = shipD m a := rfl
theorem step_x {m : Mi} {k a b : Int} (h0 : (k == 0) = false) (h1 : (k == 1) = false) (h2 : (k == 2) = false) (h3 : (k == 3) = false) (h4 : (k == 4) = false) : stepD m k a b = none := by
 simp [stepD, h0, h1, h2, h3, h4]
theorem found_take {lo hi : List Int} {id p x : Int} {t : Bool} {q : List Int × List Int} (h : findR lo hi id = some (t, p)) (h2 : takeR lo hi t p = (q, x)) : 1 ≤ id ∧ (x = 0 ∨ x = id) := by
 obtain ⟨f1, f2, kk, rfl, f3, f4⟩ := find_at h;refine ⟨f2, ?_⟩;by_cases h0 : x = 0
 ·exact .inl h0
 ·obtain ⟨p1, p2, p3, p4, p5, -, k', e', p6, p7⟩ := take_ok h2 h0
  have hkk : kk = k' := by omega
  subst hkk;exact .inr (by rw [← p7, f4])
theorem OwnE.past {base T T' sz n C : Nat} {w w' : World} {v : Value} {cs vs : List Value} (h : OwnE base T sz w v n cs) (r : RowL w C T' vs) (hT : T ≠ T') (k : Other C (C + 1) w w') : OwnE base T sz w' v n cs := by
 rcases h with h | ⟨g, h1, h2, h3, h4, h5⟩
 ·exact .inl (ownsRow_other h k fun g hg => by
   have := own_ne_row h r hT g hg;omega)
 ·exact .inr ⟨g, h1, h2, Nat.lt_of_lt_of_le h3 k.size, h4, h5⟩
theorem MillGot.past {base C : Nat} {w w' : World} {s p l h : Value} {m : Mi} {vs : List Value} (H : MillGot base w s p l h m) (r : RowL w C 31 vs) (k : Other C (C + 1) w w') : MillGot base w' s p l h m :=
 ⟨Nat.le_trans H.hb k.size, H.so.past r (by decide) k, H.po.past r (by decide) k, H.lo.past r (by decide) k, H.ho.past r (by decide) k, H.sp, H.sl, H.sh, H.pl, H.ph, H.lh⟩
theorem heldD_call {w W W' : World} {A D : Nat} {l h x y : Value} (hA : A < w.heap.size) (hD : D < w.heap.size) (k : Below W.heap.size W W') (H : ((W.cell? ⟨A, 9, none⟩ = some l ∧ W.cell? ⟨A, 10, none⟩ = some h) ∧ (W.cell? ⟨D, 1, none⟩ = some x ∧ W.cell? ⟨D, 2, none⟩ = some y)) ∧ Below w.heap.size w W) :
 ((W'.cell? ⟨A, 9, none⟩ = some l ∧ W'.cell? ⟨A, 10, none⟩ = some h) ∧ (W'.cell? ⟨D, 1, none⟩ = some x ∧ W'.cell? ⟨D, 2, none⟩ = some y)) ∧ Below w.heap.size w W' := by
 have hz := H.2.size;exact ⟨⟨⟨(k.cell (p := ⟨A, 9, none⟩) (show A < W.heap.size by omega)).trans H.1.1.1, (k.cell (p := ⟨A, 10, none⟩) (show A < W.heap.size by omega)).trans H.1.1.2⟩, (k.cell (p := ⟨D, 1, none⟩) (show D < W.heap.size by omega)).trans H.1.2.1, (k.cell (p := ⟨D, 2, none⟩) (show D < W.heap.size by omega)).trans H.1.2.2⟩, H.2.trans (k.mono hz)⟩
theorem heldD_alloc {w W : World} {A D : Nat} {l h x y : Value} {o : Obj} (hA : A < w.heap.size) (hD : D < w.heap.size) (H : ((W.cell? ⟨A, 9, none⟩ = some l ∧ W.cell? ⟨A, 10, none⟩ = some h) ∧ (W.cell? ⟨D, 1, none⟩ = some x ∧ W.cell? ⟨D, 2, none⟩ = some y)) ∧ Below w.heap.size w W) :
 (((W.alloc o).cell? ⟨A, 9, none⟩ = some l ∧ (W.alloc o).cell? ⟨A, 10, none⟩ = some h) ∧ ((W.alloc o).cell? ⟨D, 1, none⟩ = some x ∧ (W.alloc o).cell? ⟨D, 2, none⟩ = some y)) ∧ Below w.heap.size w (W.alloc o) :=
 heldD_call hA hD ((Below.refl _ _).alloc nl o) H
theorem heldD_store {w W : World} {A D G : Nat} {l h x y u v : Value} (hA : A < w.heap.size) (hD : D < w.heap.size) (hG : w.heap.size ≤ G) (H : ((W.cell? ⟨A, 9, none⟩ = some l ∧ W.cell? ⟨A, 10, none⟩ = some h) ∧ (W.cell? ⟨D, 1, none⟩ = some x ∧ W.cell? ⟨D, 2, none⟩ = some y)) ∧ Below w.heap.size w W) :
 ((((W.setCell ⟨G, 0, none⟩ u).setCell ⟨G, 1, none⟩ v).cell? ⟨A, 9, none⟩ = some l ∧ ((W.setCell ⟨G, 0, none⟩ u).setCell ⟨G, 1, none⟩ v).cell? ⟨A, 10, none⟩ = some h) ∧ (((W.setCell ⟨G, 0, none⟩ u).setCell ⟨G, 1, none⟩ v).cell? ⟨D, 1, none⟩ = some x ∧ ((W.setCell ⟨G, 0, none⟩ u).setCell ⟨G, 1, none⟩ v).cell? ⟨D, 2, none⟩ = some y)) ∧ Below w.heap.size w ((W.setCell ⟨G, 0, none⟩ u).setCell ⟨G, 1, none⟩ v) := by
 have k : Below w.heap.size W ((W.setCell ⟨G, 0, none⟩ u).setCell ⟨G, 1, none⟩ v) := ((Below.refl _ _).setCell (p := ⟨G, 0, none⟩) hG _).setCell (p := ⟨G, 1, none⟩) hG _;exact ⟨⟨⟨(k.cell (p := ⟨A, 9, none⟩) hA).trans H.1.1.1, (k.cell (p := ⟨A, 10, none⟩) hA).trans H.1.1.2⟩, (k.cell (p := ⟨D, 1, none⟩) hD).trans H.1.2.1, (k.cell (p := ⟨D, 2, none⟩) hD).trans H.1.2.2⟩, H.2.trans k⟩
theorem below_other {B : Nat} {w w' : World} (h : Below B w w') : Other B w.heap.size w w' :=
 ⟨h.os, h.tape, h.output, h.size, fun k h1 h2 => h.block k (by omega)⟩
theorem MillIn.low_keep {hi B : Nat} {w w' : World} {s p l h : Value} {m : Mi} (H : MillIn 0 hi w s p l h m) (k : Below B w w') (hB : hi ≤ B) : MillIn 0 hi w' s p l h m :=
 H.other (below_other k) (.inl hB)
theorem few_of {m : Mi} (h : millB m = true) : m.store.length ≤ 1000000 ∧ m.pieces.length ≤ 1000000 ∧ m.low.length ≤ 1000000 ∧ m.high.length ≤ 1000000 := by
 have hv := millB_iff.1 h;have h1 := stsB_len hv.store;have h2 := hv.len;have h3 := hv.pile.l6;have h4 := hv.pile.lh;omega
theorem two_lit {g : Nat} (W : World) (a b : Int) (T : Nat) (hg : W.heap.size = g) : IntsAt g (W.alloc (.cells #[.int .i64 a, .int .i64 b] T)).heap.size (W.alloc (.cells #[.int .i64 a, .int .i64 b] T)) (.slice (some ⟨g, 0, none⟩) 2 2) [a, b] := by
 subst hg;exact IntsAt.of_row (xs := [a, b]) (RowL.new W T [.int .i64 a, .int .i64 b]) nl (by simp) (fun i hi => by
  have : i = 0 ∨ i = 1 := by simp at hi; omega
  rcases this with rfl | rfl <;> simp) nl
theorem other12 (g : Nat) (w : World) (v0 v1 v2 v3 v4 v5 v6 v7 v8 v9 v10 v11 : Value) : Other g (g + 1) w (((((((((((((w).setCell ⟨g, 0, none⟩ v0).setCell ⟨g, 1, none⟩ v1).setCell ⟨g, 2, none⟩ v2).setCell ⟨g, 3, none⟩ v3).setCell ⟨g, 4, none⟩ v4).setCell ⟨g, 5, none⟩ v5).setCell ⟨g, 6, none⟩ v6).setCell ⟨g, 7, none⟩ v7).setCell ⟨g, 8, none⟩ v8).setCell ⟨g, 9, none⟩ v9).setCell ⟨g, 10, none⟩ v10).setCell ⟨g, 11, none⟩ v11) :=
 Other.setCell (p := ⟨g, 11, none⟩) (Other.setCell (p := ⟨g, 10, none⟩) (Other.setCell (p := ⟨g, 9, none⟩) (Other.setCell (p := ⟨g, 8, none⟩) (Other.setCell (p := ⟨g, 7, none⟩) (Other.setCell (p := ⟨g, 6, none⟩) (Other.setCell (p := ⟨g, 5, none⟩) (Other.setCell (p := ⟨g, 4, none⟩) (Other.setCell (p := ⟨g, 3, none⟩) (Other.setCell (p := ⟨g, 2, none⟩) (Other.setCell (p := ⟨g, 1, none⟩) (Other.setCell (p := ⟨g, 0, none⟩) (Other.refl _ _ _) nl (Nat.lt_succ_self _) _) nl (Nat.lt_succ_self _) _) nl (Nat.lt_succ_self _) _) nl (Nat.lt_succ_self _) _) nl (Nat.lt_succ_self _) _) nl (Nat.lt_succ_self _) _) nl (Nat.lt_succ_self _) _) nl (Nat.lt_succ_self _) _) nl (Nat.lt_succ_self _) _) nl (Nat.lt_succ_self _) _) nl (Nat.lt_succ_self _) _) nl (Nat.lt_succ_self _) _
theorem row12 {w : World} {g T : Nat} {us : List Value} (h : RowL w g T us) (hl : us.length = 12) (v0 v1 v2 v3 v4 v5 v6 v7 v8 v9 v10 v11 : Value) : RowL (((((((((((((w).setCell ⟨g, 0, none⟩ v0).setCell ⟨g, 1, none⟩ v1).setCell ⟨g, 2, none⟩ v2).setCell ⟨g, 3, none⟩ v3).setCell ⟨g, 4, none⟩ v4).setCell ⟨g, 5, none⟩ v5).setCell ⟨g, 6, none⟩ v6).setCell ⟨g, 7, none⟩ v7).setCell ⟨g, 8, none⟩ v8).setCell ⟨g, 9, none⟩ v9).setCell ⟨g, 10, none⟩ v10).setCell ⟨g, 11, none⟩ v11) g T [v0, v1, v2, v3, v4, v5, v6, v7, v8, v9, v10, v11] := by
 obtain ⟨u0, u1, u2, u3, u4, u5, u6, u7, u8, u9, u10, u11, rfl⟩ : ∃ u0 u1 u2 u3 u4 u5 u6 u7 u8 u9 u10 u11, us = [u0, u1, u2, u3, u4, u5, u6, u7, u8, u9, u10, u11] := by
  match us, hl with
  | [u0, u1, u2, u3, u4, u5, u6, u7, u8, u9, u10, u11], _ => exact ⟨_, _, _, _, _, _, _, _, _, _, _, _, rfl⟩
 exact ((((((((((((h).set 0 v0 (by simp)).set 1 v1 (by simp)).set 2 v2 (by simp)).set 3 v3 (by simp)).set 4 v4 (by simp)).set 5 v5 (by simp)).set 6 v6 (by simp)).set 7 v7 (by simp)).set 8 v8 (by simp)).set 9 v9 (by simp)).set 10 v10 (by simp)).set 11 v11 (by simp)
theorem zero_got {base g : Nat} {w0 w : World} (h : Below base w0 w) (hb : base ≤ w0.heap.size) (hg : base ≤ g) (v0 v1 v2 v3 v4 v5 v6 v7 v8 v9 v10 v11 : Value) :
 MillGot base (((((((((((((w).setCell ⟨g, 0, none⟩ v0).setCell ⟨g, 1, none⟩ v1).setCell ⟨g, 2, none⟩ v2).setCell ⟨g, 3, none⟩ v3).setCell ⟨g, 4, none⟩ v4).setCell ⟨g, 5, none⟩ v5).setCell ⟨g, 6, none⟩ v6).setCell ⟨g, 7, none⟩ v7).setCell ⟨g, 8, none⟩ v8).setCell ⟨g, 9, none⟩ v9).setCell ⟨g, 10, none⟩ v10).setCell ⟨g, 11, none⟩ v11) (.slice none 0 0) (.slice none 0 0) (.slice none 0 0) (.slice none 0 0) mi0 ∧ Below base w0 (((((((((((((w).setCell ⟨g, 0, none⟩ v0).setCell ⟨g, 1, none⟩ v1).setCell ⟨g, 2, none⟩ v2).setCell ⟨g, 3, none⟩ v3).setCell ⟨g, 4, none⟩ v4).setCell ⟨g, 5, none⟩ v5).setCell ⟨g, 6, none⟩ v6).setCell ⟨g, 7, none⟩ v7).setCell ⟨g, 8, none⟩ v8).setCell ⟨g, 9, none⟩ v9).setCell ⟨g, 10, none⟩ v10).setCell ⟨g, 11, none⟩ v11) := by
 have k := h.trans ((other12 g w v0 v1 v2 v3 v4 v5 v6 v7 v8 v9 v10 v11).below (B := base) hg (Nat.le_trans hb h.size));exact ⟨millGot_zero (Nat.le_trans hb k.size) mi0 rfl rfl rfl rfl, k⟩
theorem put_got {base b g : Nat} {w0 wk : World} {s p l h : Value} {m : Mi} (H : MillGot b wk s p l h m) (hB : Below base w0 wk) (h1 : g + 1 ≤ b) (h2 : base ≤ g) (h4 : base ≤ w0.heap.size) (v0 v1 v2 v3 v4 v5 v6 v7 v8 v9 v10 v11 : Value) :
 MillGot base (((((((((((((wk).setCell ⟨g, 0, none⟩ v0).setCell ⟨g, 1, none⟩ v1).setCell ⟨g, 2, none⟩ v2).setCell ⟨g, 3, none⟩ v3).setCell ⟨g, 4, none⟩ v4).setCell ⟨g, 5, none⟩ v5).setCell ⟨g, 6, none⟩ v6).setCell ⟨g, 7, none⟩ v7).setCell ⟨g, 8, none⟩ v8).setCell ⟨g, 9, none⟩ v9).setCell ⟨g, 10, none⟩ v10).setCell ⟨g, 11, none⟩ v11) s p l h m ∧ Below base w0 (((((((((((((wk).setCell ⟨g, 0, none⟩ v0).setCell ⟨g, 1, none⟩ v1).setCell ⟨g, 2, none⟩ v2).setCell ⟨g, 3, none⟩ v3).setCell ⟨g, 4, none⟩ v4).setCell ⟨g, 5, none⟩ v5).setCell ⟨g, 6, none⟩ v6).setCell ⟨g, 7, none⟩ v7).setCell ⟨g, 8, none⟩ v8).setCell ⟨g, 9, none⟩ v9).setCell ⟨g, 10, none⟩ v10).setCell ⟨g, 11, none⟩ v11) :=
 got_put H hB (other12 g wk v0 v1 v2 v3 v4 v5 v6 v7 v8 v9 v10 v11) h1 h2 (by omega) h4
theorem MillGot.far {base a z : Nat} {w w' : World} {s p l h : Value} {m : Mi} (H : MillGot base w s p l h m) (k : Other a z w w') (hs : ∀ g, s.ownBlock = some g → g < a ∨ z ≤ g) (hp : ∀ g, p.ownBlock = some g → g < a ∨ z ≤ g) (hl : ∀ g, l.ownBlock = some g → g < a ∨ z ≤ g) (hh : ∀ g, h.ownBlock = some g → g < a ∨ z ≤ g) : MillGot base w' s p l h m :=
 ⟨Nat.le_trans H.hb k.size, H.so.other k hs, H.po.other k hp, H.lo.other k hl, H.ho.other k hh, H.sp, H.sl, H.sh, H.pl, H.ph, H.lh⟩
theorem spec_got {base : Nat} {w w' : World} {p : Value} {x : Mi × Bool} {e : Ending} (hb : base ≤ w.heap.size) (k : Below w.heap.size w w') {s' p' l' h' : Value} (he : e = .returned (.tuple #[millV s' p' l' h' x.1, .bool x.2])) (G : MillGot base w' s' p' l' h' x.1) : SpecGot base p x w e w' :=
 ⟨⟨_, _, _, _, he, G, k.mono hb⟩, fun _ _ _ r _ => r.below k r.lt⟩
theorem other_two {g : Nat} {w w1 w2 : World} (h : Other g (g + 1) w w1) (k : Other (g + 1) (g + 1 + 1) w1 w2) : Other g (g + 1 + 1) w w2 :=
 ⟨k.os.trans h.os, k.tape.trans h.tape, k.output.trans h.output, Nat.le_trans h.size k.size, fun q hq hd => (k.block q (Nat.lt_of_lt_of_le hq h.size) (by omega)).trans (h.block q hq (by omega))⟩
theorem fail_got {base g : Nat} {w w1 : World} {s p l h : Value} {m : Mi} (H : MillGot base w s p l h m) (hb : Below w.heap.size w w1) (hg : w.heap.size ≤ g) (v0 v1 v2 v3 v4 v5 v6 v7 v8 v9 v10 v11 : Value) :
 SpecGot base p (m, false) w (.returned (.tuple #[millV s p l h m, .bool false])) (((((((((((((w1).setCell ⟨g, 0, none⟩ v0).setCell ⟨g, 1, none⟩ v1).setCell ⟨g, 2, none⟩ v2).setCell ⟨g, 3, none⟩ v3).setCell ⟨g, 4, none⟩ v4).setCell ⟨g, 5, none⟩ v5).setCell ⟨g, 6, none⟩ v6).setCell ⟨g, 7, none⟩ v7).setCell ⟨g, 8, none⟩ v8).setCell ⟨g, 9, none⟩ v9).setCell ⟨g, 10, none⟩ v10).setCell ⟨g, 11, none⟩ v11) := by
 have K := hb.trans ((other12 g w1 v0 v1 v2 v3 v4 v5 v6 v7 v8 v9 v10 v11).below (B := w.heap.size) hg hb.size);exact spec_got H.hb K rfl (H.below K)
theorem done_got {base : Nat} {w wk wz : World} {s' p p' l' h' : Value} {x : Mi} (hb : base ≤ w.heap.size) (K : Below w.heap.size w wk) (G : MillGot base wk s' p' l' h' x) (T : Other w.heap.size (w.heap.size + 1) wk wz)
 (hs : ∀ g, s'.ownBlock = some g → g < w.heap.size ∨ w.heap.size + 1 + 1 ≤ g) (hp : ∀ g, p'.ownBlock = some g → g < w.heap.size ∨ w.heap.size + 1 + 1 ≤ g) (hl : ∀ g, l'.ownBlock = some g → g < w.heap.size ∨ w.heap.size + 1 + 1 ≤ g) (hh : ∀ g, h'.ownBlock = some g → g < w.heap.size ∨ w.heap.size + 1 + 1 ≤ g) (v0 v1 v2 v3 v4 v5 v6 v7 v8 v9 v10 v11 : Value) :
 SpecGot base p (x, true) w (.returned (.tuple #[millV s' p' l' h' x, .bool true])) (((((((((((((wz).setCell ⟨w.heap.size + 1, 0, none⟩ v0).setCell ⟨w.heap.size + 1, 1, none⟩ v1).setCell ⟨w.heap.size + 1, 2, none⟩ v2).setCell ⟨w.heap.size + 1, 3, none⟩ v3).setCell ⟨w.heap.size + 1, 4, none⟩ v4).setCell ⟨w.heap.size + 1, 5, none⟩ v5).setCell ⟨w.heap.size + 1, 6, none⟩ v6).setCell ⟨w.heap.size + 1, 7, none⟩ v7).setCell ⟨w.heap.size + 1, 8, none⟩ v8).setCell ⟨w.heap.size + 1, 9, none⟩ v9).setCell ⟨w.heap.size + 1, 10, none⟩ v10).setCell ⟨w.heap.size + 1, 11, none⟩ v11) := by
 have T2 := other_two T (other12 (w.heap.size + 1) wz v0 v1 v2 v3 v4 v5 v6 v7 v8 v9 v10 v11);exact spec_got hb (K.trans (T2.below (B := w.heap.size) nl K.size)) rfl (G.far T2 hs hp hl hh)
theorem melt_spec {base : Nat} {w : World} {s p l h : Value} {m : Mi} (tons : Int) (H : MillGot base w s p l h m) (hm : MillV m) :
 Calls Tryz.prog 112 #[millV s p l h m, .int .i64 tons] w (SpecGot base p (orOld m (meltD m tons)) w) := by
 have HH := hide H;have hst0 := hm.st0;have hbz := H.hb;obtain ⟨aS, cs, rfl, -, -⟩ := H.so.form;obtain ⟨ap, cp, rfl, -, -⟩ := H.po.form;obtain ⟨al, cl, rfl, -, -⟩ := H.lo.form;obtain ⟨ah, ch, rfl, -, -⟩ := H.ho.form;have hbest := fun W (K : StAt 0 W.heap.size W (.slice aS m.store.length cs) m.store) => best_spec (.slice aS m.store.length cs) m.store m.rule tons W K;unfold grV at hbest;have HBT := hide hbest;clear hbest H;unfold millV;go_enter Tryz.func112, Tryz.ntmps112;go_wp2_with fail
 refine calls_at fun wx hwx => ?_;have A_0 : RowL wx w.heap.size 31 (millC (.slice aS m.store.length cs) (.slice ap m.pieces.length cp) (.slice al m.low.length cl) (.slice ah m.high.length ch) m) := by rw [hwx]; exact (RowL.new _ 31 (millC (.slice aS m.store.length cs) (.slice ap m.pieces.length cp) (.slice al m.low.length cl) (.slice ah m.high.length ch) m)).alloc _
 have R_0 : RowL wx (w.heap.size + 1) 31 [.slice none 0 0, .int .i64 0, .int .i64 0, .int .i64 0, .int .i64 0, .int .i64 0, .int .i64 0, .int .i64 0, .slice none 0 0, .slice none 0 0, .slice none 0 0, .int .i64 0] := by rw [hwx]; simpa using (RowL.new (World.alloc _ _) 31 [.slice none 0 0, .int .i64 0, .int .i64 0, .int .i64 0, .int .i64 0, .int .i64 0, .int .i64 0, .int .i64 0, .slice none 0 0, .slice none 0 0, .slice none 0 0, .int .i64 0])
 have B_0 : Below w.heap.size w wx := by rw [hwx]; go_grown
 clear hwx;have hL0 := R_0.lt;refine (HBT.out wx (HH.out.below B_0).all.store).mono ?_;rintro e w1 ⟨ao1, n1, cap1, rfl, hmix, hb⟩;have A_1 := A_0.below hb A_0.lt;have R_1 := R_0.below hb R_0.lt;have B_1 := hide (Below.step B_0 hb nl);have hz1 := hb.size;clear hb;by_cases hs : m.strand = 0
 ·have hsB : decide (0 < m.strand) = false := by simp [hs]
  have HS0 := hide hs;cases hmb : mixBest m.store m.rule tons with
  | none =>
   have HN := hide (melt_no2 hmb);clear hmix hmb hs;obtain ⟨cA0, cA1, cA2, cA3, cA4, cA5, cA6, cA7, cA8, cA9, cA10, cA11⟩ := row12_c A_1;obtain ⟨cR0, cR1, cR2, cR3, cR4, cR5, cR6, cR7, cR8, cR9, cR10, cR11⟩ := row12_c R_1;obtain ⟨fR0, fR1, fR2, fR3, fR4, fR5, fR6, fR7, fR8, fR9, fR10, fR11⟩ := row12_f R_1;go_wp2_with fail
   refine bodyPost_ret (by simp [results, Tryz.results112, go_sem, cR0, cR1, cR2, cR3, cR4, cR5, cR6, cR7, cR8, cR9, cR10, cR11]; try rfl) rfl ?_;rw [HN.out];exact fail_got HH.out B_1.out (by omega) _ _ _ _ _ _ _ _ _ _ _ _
  | some mix =>
   have HM := hide hmb;obtain ⟨hmv, -, ht1, ht2⟩ := best_ok hmb;have HMB := hide hmv;have HI := hide (hmix mix hmb);have hw4 : IntKind.i64.wrap (4 * tons) = 4 * tons := IntWalk.i64_in _ (by omega);clear hmix hmb hmv hs;have cA0 := A_1.c 0 rfl;have cA7 := A_1.c 7 rfl;go_wp2_with fail
   refine (take_spec (.slice aS m.store.length cs) (.slice ao1 n1 cap1) m.store mix w1 ((HH.out.below B_1.out).all.store) (HI.out.mono (Nat.zero_le _) nl nl) HMB.out).mono ?_;rintro e w2 ⟨v, rfl, own, hb2⟩;have A_2 := A_1.below hb2 A_1.lt;have R_2 := R_1.below hb2 R_1.lt;have B_2 := hide (Below.step B_1.out hb2 nl);have hz2 := hb2.size;have G_2 := hide (HH.out.store B_2.out (show w.heap.size ≤ w1.heap.size by have := B_1.out.size; omega) (OwnE.own own) (4 * tons));have HO := hide own;obtain ⟨av, cv, rfl, -, -⟩ := own_slice own;clear own hb2 cA0 cA7;obtain ⟨cA0, cA1, cA2, cA3, cA4, cA5, cA6, cA7, cA8, cA9, cA10, cA11⟩ := row12_c A_2;obtain ⟨fA0, fA1, fA2, fA3, fA4, fA5, fA6, fA7, fA8, fA9, fA10, fA11⟩ := row12_f A_2;obtain ⟨cR0, cR1, cR2, cR3, cR4, cR5, cR6, cR7, cR8, cR9, cR10, cR11⟩ := row12_c R_2;obtain ⟨fR0, fR1, fR2, fR3, fR4, fR5, fR6, fR7, fR8, fR9, fR10, fR11⟩ := row12_f R_2;go_wp2_with fail
   refine bodyPost_ret (by simp [results, Tryz.results112, go_sem, cR0, cR1, cR2, cR3, cR4, cR5, cR6, cR7, cR8, cR9, cR10, cR11]; try rfl) rfl ?_;rw [melt_yes HS0.out HM.out];have T : Other w.heap.size (w.heap.size + 1) w2 ((w2.setCell ⟨w.heap.size, 0, none⟩ (.slice av (takeM m.store mix).length cv)).setCell ⟨w.heap.size, 7, none⟩ (.int .i64 (4 * tons))) := Other.setCell (p := ⟨w.heap.size, 7, none⟩) (Other.setCell (p := ⟨w.heap.size, 0, none⟩) (Other.refl _ _ _) nl (Nat.lt_succ_self _) _) nl (Nat.lt_succ_self _) _;exact done_got (x := { m with store := takeM m.store mix, strand := 4 * tons }) hbz B_2.out G_2.out T (fun g hg => .inr (by have := (OwnE.own HO.out).lt g hg; omega)) (fun g hg => .inl (HH.out.po.lt g hg).2) (fun g hg => .inl (HH.out.lo.lt g hg).2) (fun g hg => .inl (HH.out.ho.lt g hg).2) _ _ _ _ _ _ _ _ _ _ _ _
 ·have hsB : decide (0 < m.strand) = true := by simp; omega
  have HN := hide (melt_no1 (t := tons) hs);clear hmix hs;obtain ⟨cA0, cA1, cA2, cA3, cA4, cA5, cA6, cA7, cA8, cA9, cA10, cA11⟩ := row12_c A_1;obtain ⟨cR0, cR1, cR2, cR3, cR4, cR5, cR6, cR7, cR8, cR9, cR10, cR11⟩ := row12_c R_1;obtain ⟨fR0, fR1, fR2, fR3, fR4, fR5, fR6, fR7, fR8, fR9, fR10, fR11⟩ := row12_f R_1;go_wp2_with fail
  refine bodyPost_ret (by simp [results, Tryz.results112, go_sem, cR0, cR1, cR2, cR3, cR4, cR5, cR6, cR7, cR8, cR9, cR10, cR11]; try rfl) rfl ?_;rw [HN.out];exact fail_got HH.out B_1.out (by omega) _ _ _ _ _ _ _ _ _ _ _ _
theorem cutBest_spec (v : Value) (a b : Int) (lo hi L : Nat) (hL : L ≤ 60) (hv : lensB a b = true) (w : World) (H : IntsAt lo hi w v [a, b]) :
 Calls Tryz.prog 172 #[.int .i64 (L : Int), v] w (IntsNew w.heap.size (manyL L a b) w) := by
 have HH := hide H;have HV := hide hv;have hlt := H.lt;obtain ⟨⟨ha1, ha2⟩, hb1, hb2⟩ := lensB_iff.1 hv;obtain ⟨hn0, hn1⟩ := many_60 hv hL;obtain ⟨b0, o0, cap, rfl, h1, h2, -, -⟩ := two_at H;have hmk : ∀ W : World, (Instr.makeSlice 27 (.int .i64 2) (.int .i64 2)).run Tryz.prog W = .ok (.slice (some ⟨W.heap.size, 0, none⟩) 2 2) (W.alloc (.cells (madeCells #[.int .i64 0] 2) 3)) := fun W =>
  make_rowN (P := Tryz.prog) 27 3 _ _ _ Tryz.underlying27 info_int .i64 .i64 2 (by omega) (by omega) W
 have hs1 : CutSt (tab a b (L + 1)) L b (many1 L a b) 0 L := CutSt.start;have hnx : ∀ l : Int, CutSt (tab a b (L + 1)) L b (many1 L a b) (many1 L a b) l → l = L - many1 L a b * b → CutSt (tab a b (L + 1)) L a (many0 L a b) 0 l := fun l => CutSt.next;have HC := hide (fun (W : World) (k : Below w.heap.size w W) => cutLeast_spec (.slice (some ⟨b0, o0, none⟩) 2 cap) a b lo hi L hL W (H.below k));have HT := hide (fun (W : World) (k : Below w.heap.size w W) => table_spec (.slice (some ⟨b0, o0, none⟩) 2 cap) a b lo hi L hL hv W (H.below k));clear H hv;go_enter Tryz.func172, Tryz.ntmps172;go_wp2_with fail
 refine (HC.out w (Below.refl _ _)).mono ?_;rintro e w0 ⟨x, rfl, -, hx, hb0⟩;have hx0 : ¬ x < 0 := by have := hx HV.out; omega
 have HB0 := hide hb0;clear hx hb0;go_wp2_with fail
 refine (HT.out w0 HB0.out).mono ?_;rintro e w2 ⟨v1, rfl, hown, hb2⟩;have hb2 := Below.step HB0.out hb2 nl;have hown := ownsRow_mono hown HB0.out.size;have hz2 := hb2.size;have HB2 := hide hb2;have h12 := ownI_at hown rfl (by omega);obtain ⟨T, hT⟩ : ∃ T, tab a b (L + 1) = T := ⟨_, rfl⟩;have HTL := hide (show T.length = L + 1 by rw [← hT, tab_len]);rw [hT] at h12 hs1 hnx;have HS1 := hide hs1;have HNX := hide hnx;have HI := hide h12;obtain ⟨ao1, cap1, rfl, -⟩ := h12;clear hown hb2 hT hs1 hnx;go_wp2_with fail
 clear hmk;obtain ⟨G, hG⟩ : ∃ G, w2.heap.size = G := ⟨_, rfl⟩;obtain ⟨wa, hwa⟩ : ∃ wa, wa = w2.alloc (.cells (madeCells #[.int .i64 0] 2) 3) := ⟨_, rfl⟩;have HR := hide (show Row2 wa G 0 0 by
  rw [← hG, hwa];exact ⟨_, World.rowIs_made w2 (.int .i64 0) 2 3, rfl, rfl⟩)
 have HB := hide (show Below w2.heap.size w2 wa by rw [hwa]; exact (Below.refl _ _).alloc nl _);rw [← hwa, hG];have HGZ := hide hG;have hbG : b0 ≠ G := by omega
 have hGb : G ≠ b0 := by omega
 clear hwa hG
 go_loopw [7, 8] (fun left i wr => Below w2.heap.size w2 wr ∧ ((i = .int .i64 1 ∧ left = .int .i64 (L : Int) ∧ Row2 wr G 0 0) ∨ (∃ l : Int, i = .int .i64 0 ∧ left = .int .i64 l ∧ CutSt T L a (many0 L a b) 0 l ∧ Row2 wr G 0 (many1 L a b)) ∨ (i = .int .i64 (-1) ∧ Row2 wr G (many0 L a b) (many1 L a b)))) (fun _ i _ => (intOf i + 1).toNat)
 case atStart => exact ⟨HB.out, .inl ⟨rfl, rfl, HR.out⟩⟩
 case round =>
  obtain ⟨hb, hcase⟩ := hrel;clear HB HR;have HB := hide hb;obtain ⟨wo, rfl⟩ : ∃ wo : World, wo = wr := ⟨_, rfl⟩;rcases hcase with ⟨rfl, rfl, hr⟩ | ⟨l, rfl, rfl, hst, hr⟩ | ⟨rfl, hr⟩
  ·have HR := hide hr
   clear hr hb;go_wp2_with fail
   go_loopw [7] (fun left wr => ∃ (c : Nat) (l : Int), left = .int .i64 l ∧ Below w2.heap.size w2 wr ∧ CutSt T L b (many1 L a b) c l ∧ Row2 wr G 0 c ∧ l = L - c * b) (fun left _ => (intOf left).toNat)
   case atStart => exact ⟨0, _, rfl, HB.out, HS1.out, HR.out, by simp⟩
   case round =>
    obtain ⟨c, l, rfl, hb, hst, hrow, hlx⟩ := hrel;have HB := hide hb;have HC := hide hst;have HR := hide hrow;have HLX := hide hlx;obtain ⟨b1, o1, cap1, e1, -, -, c0, c1⟩ := two_at (HH.out.below (HB2.out.trans (hb.mono hz2)));cases e1;obtain ⟨g0, g1, f0, f1, hGz⟩ := hrow.cell;have hl0 := hst.pos;have hl1 := hst.le;have HAT := hide (HI.out.below hb);clear hb hst hrow hlx;by_cases hle : b ≤ l
    ·obtain ⟨d, hd⟩ : ∃ d : Nat, l - b = d := ⟨(l - b).toNat, by omega⟩
     have hwd : IntKind.i64.wrap (l - b) = (d : Int) := by rw [hd]; exact IntWalk.i64_in _ (by omega)
     have hTl := HTL.out;have hdT : (d : Int) < (T.length : Int) := by omega
     have hd0 : (0 : Int) ≤ (d : Int) := by omega
     obtain ⟨q, rfl⟩ : ∃ q : Nat, l = q := ⟨l.toNat, by omega⟩;have hLT : (q : Int) < (T.length : Int) := by omega
     have hL0 : (0 : Int) ≤ (q : Int) := by omega
     obtain ⟨b3, o3, cap3, e3, -, -, gL, -⟩ := ints_at HAT.out (k := q) (by omega);cases e3;obtain ⟨b4, o4, cap4, e4, -, -, gd, -⟩ := ints_at HAT.out (k := d) (by omega);cases e4;obtain ⟨y, hy⟩ : ∃ y, T.getD d 0 = y := ⟨_, rfl⟩;obtain ⟨z, hz⟩ : ∃ z, T.getD q 0 = z := ⟨_, rfl⟩;rw [hy] at gd;rw [hz] at gL;have HM := hide (show moreB T b (q : Int) = (y == z) by
      unfold moreB;rw [hd, show ((d : Int)).toNat = d by omega, hy, show ((q : Int)).toNat = q by omega, hz];simp [hle])
     have HD := hide hd;clear hy hz hd hTl;by_cases hyz : y = z
     ·subst hyz
      have HM2 := HC.out.more (by omega) (HM.out.trans (by simp));rw [HD.out] at HM2;obtain ⟨hst2, -, hcn⟩ := HM2;have hw1 : IntKind.i64.wrap ((c : Int) + 1) = ((c + 1 : Nat) : Int) := by rw [show (c : Int) + 1 = ((c + 1 : Nat) : Int) by omega]; exact IntWalk.i64_in _ (by omega)
      have HST := hide hst2;clear hst2 HM HC;go_wp2_with fail
      go_quiet (fail)
      go_wp2_with fail
      go_roundw
      case rel => exact ⟨c + 1, d, rfl, (below_drewN HB.out _).setCell (by have := HGZ.out; show w2.heap.size ≤ G; omega) _, HST.out, by simpa using Row2.drewN HR.out _ |>.set1 (c + 1), by have h1 := HLX.out; have h2 := HD.out; rw [Int.natCast_add, Int.add_mul]; omega⟩
      case measure => have hD := HD.out; simp [intOf]; omega
     ·obtain rfl := HC.out.done (HM.out.trans (by simpa using hyz))
      have hyzb : (y == z) = false := by simpa using hyz
      clear HM;go_wp2_with fail
      go_quiet (fail)
      go_wp2_with fail
      go_roundw
      case rel => exact ⟨below_drewN HB.out _, .inr (.inl ⟨_, rfl, rfl, HNX.out _ HC.out HLX.out, Row2.drewN HR.out _⟩)⟩
      case measure => simp [intOf]
    ·obtain rfl := HC.out.done (show moreB T b l = false by unfold moreB; simp [hle])
     have hleb : decide (b ≤ l) = false := by simpa using hle
     go_wp2_with fail
     go_quiet (fail)
     go_wp2_with fail
     go_roundw
     case rel => exact ⟨below_drewN HB.out _, .inr (.inl ⟨l, rfl, rfl, HNX.out l HC.out HLX.out, Row2.drewN HR.out _⟩)⟩
     case measure => simp [intOf]
  ·have HR := hide hr
   have HS0 := hide hst;clear hr hst hb;go_wp2_with fail
   go_loopw [7] (fun left wr => ∃ (c : Nat) (l : Int), left = .int .i64 l ∧ Below w2.heap.size w2 wr ∧ CutSt T L a (many0 L a b) c l ∧ Row2 wr G c (many1 L a b) ∧ True) (fun left _ => (intOf left).toNat)
   case atStart => exact ⟨0, _, rfl, HB.out, HS0.out, HR.out, trivial⟩
   case round =>
    obtain ⟨c, l, rfl, hb, hst, hrow, hlx⟩ := hrel;have HB := hide hb;have HC := hide hst;have HR := hide hrow;have HLX := hide hlx;obtain ⟨b1, o1, cap1, e1, -, -, c0, c1⟩ := two_at (HH.out.below (HB2.out.trans (hb.mono hz2)));cases e1;obtain ⟨g0, g1, f0, f1, hGz⟩ := hrow.cell;have hl0 := hst.pos;have hl1 := hst.le;have HAT := hide (HI.out.below hb);clear hb hst hrow hlx;by_cases hle : a ≤ l
    ·obtain ⟨d, hd⟩ : ∃ d : Nat, l - a = d := ⟨(l - a).toNat, by omega⟩
     have hwd : IntKind.i64.wrap (l - a) = (d : Int) := by rw [hd]; exact IntWalk.i64_in _ (by omega)
     have hTl := HTL.out;have hdT : (d : Int) < (T.length : Int) := by omega
     have hd0 : (0 : Int) ≤ (d : Int) := by omega
     obtain ⟨q, rfl⟩ : ∃ q : Nat, l = q := ⟨l.toNat, by omega⟩;have hLT : (q : Int) < (T.length : Int) := by omega
     have hL0 : (0 : Int) ≤ (q : Int) := by omega
     obtain ⟨b3, o3, cap3, e3, -, -, gL, -⟩ := ints_at HAT.out (k := q) (by omega);cases e3;obtain ⟨b4, o4, cap4, e4, -, -, gd, -⟩ := ints_at HAT.out (k := d) (by omega);cases e4;obtain ⟨y, hy⟩ : ∃ y, T.getD d 0 = y := ⟨_, rfl⟩;obtain ⟨z, hz⟩ : ∃ z, T.getD q 0 = z := ⟨_, rfl⟩;rw [hy] at gd;rw [hz] at gL;have HM := hide (show moreB T a (q : Int) = (y == z) by
      unfold moreB;rw [hd, show ((d : Int)).toNat = d by omega, hy, show ((q : Int)).toNat = q by omega, hz];simp [hle])
     have HD := hide hd;clear hy hz hd hTl;by_cases hyz : y = z
     ·subst hyz
      have HM2 := HC.out.more (by omega) (HM.out.trans (by simp));rw [HD.out] at HM2;obtain ⟨hst2, -, hcn⟩ := HM2;have hw1 : IntKind.i64.wrap ((c : Int) + 1) = ((c + 1 : Nat) : Int) := by rw [show (c : Int) + 1 = ((c + 1 : Nat) : Int) by omega]; exact IntWalk.i64_in _ (by omega)
      have HST := hide hst2;clear hst2 HM HC;go_wp2_with fail
      go_quiet (fail)
      go_wp2_with fail
      go_roundw
      case rel => exact ⟨c + 1, d, rfl, (below_drewN HB.out _).setCell (by have := HGZ.out; show w2.heap.size ≤ G; omega) _, HST.out, by simpa using Row2.drewN HR.out _ |>.set0 (c + 1), trivial⟩
      case measure => have hD := HD.out; simp [intOf]; omega
     ·obtain rfl := HC.out.done (HM.out.trans (by simpa using hyz))
      have hyzb : (y == z) = false := by simpa using hyz
      clear HM;go_wp2_with fail
      go_quiet (fail)
      go_wp2_with fail
      go_roundw
      case rel => exact ⟨below_drewN HB.out _, .inr (.inr ⟨rfl, Row2.drewN HR.out _⟩)⟩
      case measure => simp [intOf]
    ·obtain rfl := HC.out.done (show moreB T a l = false by unfold moreB; simp [hle])
     have hleb : decide (a ≤ l) = false := by simpa using hle
     go_wp2_with fail
     go_quiet (fail)
     go_wp2_with fail
     go_roundw
     case rel => exact ⟨below_drewN HB.out _, .inr (.inr ⟨rfl, Row2.drewN HR.out _⟩)⟩
     case measure => simp [intOf]
  ·have HR := hide hr
   clear hr hb;go_wp2_with fail
   go_ret;exact ⟨_, rfl, (HR.out.own (base := w.heap.size) (by have := HGZ.out; omega)), HB2.out.trans (HB.out.mono hz2)⟩
end Go.Proofs.YtmemgbklgcjobaaGreatDoor
