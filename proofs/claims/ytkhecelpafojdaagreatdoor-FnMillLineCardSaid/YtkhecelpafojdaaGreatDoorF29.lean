/-
  Parts of the proofs over mills, of: CopyMS, CutC. Conditions: each theorem states its own.
-/
import Derived.Test.YtkhecelpafojdaaGreatDoorF25
import Derived.Test.YtkhecelpafojdaaGreatDoorF28
set_option linter.unusedSimpArgs false
set_option linter.unusedVariables false
set_option maxRecDepth 10000
set_option maxHeartbeats 64000000
namespace Go.Proofs.YtkhecelpafojdaaGreatDoor
open Go.RowKit
theorem wpl_at {P : Program} {ops : Array Oper} {Q : Exit → Act → World → Prop} {rest : List Oper} {a : Act} {w : World} (h : ∀ wx, wx = w → wpList P ops Q rest a wx) : wpList P ops Q rest a w := h _ rfl
theorem bu (s p l h : Value) (m : Mi) (w : World) (H : aM 0 w.heap.size w s p l h m) (n1 : m.store.length ≤ 1000000) (n2 : m.pieces.length ≤ 1000000) (n3 : m.low.length ≤ 1000000) (n4 : m.high.length ≤ 1000000) :
 Calls Tryz.prog 30 #[ag s p l h m] w (CopyGot w.heap.size m w) := by
 have HS := hide H.store;have HP := hide H.pieces;have HL := hide H.low;have HH := hide H.high;clear H;unfold ag;obtain ⟨aos, cps, hse, -, -, -, -⟩ := id HS.out;obtain ⟨aop, cpp, hpe, -, -, -, -⟩ := id HP.out;obtain ⟨aol, cpl, hle, -, -, -, -⟩ := id HL.out;obtain ⟨aoh, cph, hhe, -, -, -, -⟩ := id HH.out;subst hse hpe hle hhe;obtain ⟨i0, hi0, hz0, hi1, hi2⟩ := info_parts info_St;obtain ⟨j0, hj0, hy0, hj1, hj2⟩ := info_parts info_Pc;go_enter Tryz.func30, Tryz.ntmps30;have hpre : ∀ wx, wx = (((w.alloc (.cells #[.slice aos m.store.length cps, .int .i64 m.rule.lc, .int .i64 m.rule.hc, .int .i64 m.rule.lm, .int .i64 m.rule.hm, .int .i64 m.rule.ls, .int .i64 m.rule.hs, .int .i64 m.strand, .slice aop m.pieces.length cpp, .slice aol m.low.length cpl, .slice aoh m.high.length cph, .int .i64 m.scrap] 31)).alloc (.cells #[.slice none 0 0, .int .i64 0, .int .i64 0, .int .i64 0, .int .i64 0, .int .i64 0, .int .i64 0, .int .i64 0, .slice none 0 0, .slice none 0 0, .slice none 0 0, .int .i64 0] 31)).alloc (.cells #[.slice aos m.store.length cps, .int .i64 m.rule.lc, .int .i64 m.rule.hc, .int .i64 m.rule.lm, .int .i64 m.rule.hm, .int .i64 m.rule.ls, .int .i64 m.rule.hs, .int .i64 m.strand, .slice aop m.pieces.length cpp, .slice aol m.low.length cpl, .slice aoh m.high.length cph, .int .i64 m.scrap] 31)).alloc (.cells #[] 99) → ae wx (w.heap.size) 31 (mC aos cps aop cpp aol cpl aoh cph m) ∧ ae wx (w.heap.size + 1) 31 z12 ∧ ae wx (w.heap.size + 1 + 1) 31 (mC aos cps aop cpp aol cpl aoh cph m) ∧ Below w.heap.size w wx ∧ wx.heap.size = w.heap.size + 1 + 1 + 1 + 1 := by
  intro wx hwx;refine ⟨?_, ?_, ?_, ?_, ?_⟩
  ·rw [hwx]; exact (((ae.new _ _ _).alloc _).alloc _).alloc _
  ·rw [hwx]; simpa using (((ae.new (World.alloc w _) 31 z12).alloc _).alloc _)
  ·rw [hwx]; simpa using ((ae.new (World.alloc (World.alloc w _) _) 31 (mC aos cps aop cpp aol cpl aoh cph m)).alloc _)
  ·rw [hwx]; go_grown
  ·rw [hwx]; simp
 have HPRE := hide hpre;clear hpre;go_wp2_with (at_builtin; refine wpl_at fun wx hwx => ?_; obtain ⟨A_0, R_0, T_0, B_0, hz0q⟩ := HPRE.out wx hwx; clear hwx; refine gF rfl (.tmp 5) (.tmp 7) 23 rfl (w.heap.size + 1 + 1 + 1) 99 i0 _ 5 40 Tryz.underlying23 hi0 hz0 hi1 hi2 rfl (by decide) _ 0 [] rfl ?c0 (.slice aos m.store.length cps) m.store.length (bB m.store) rfl ?c1 ?c2 ?c3 ?c4 ?_)
 case c0 => exact aK.lit nl (by omega)
 case c1 => exact HS.out.source.below B_0 nl
 case c2 => unfold maxLen; omega
 case c3 => omega
 case c4 => omega
 intro v2 w2 own2 grow2 at2;have hb2 : Below (w.heap.size + 1 + 1 + 1) wx w2 := Below.growE (base := w.heap.size + 1 + 1 + 1) (T := 99) (sz := 5) (n := 0) (cs := []) grow2 (aK.lit nl (by omega)) nl (by omega);obtain ⟨ao2, cp2, rfl, -, -⟩ := own2.form;have O_s := hide own2;clear own2 at2 grow2;have A_1 := A_0.below hb2 (by omega);have R_1 := R_0.below hb2 (by omega);have T_1 := T_0.below hb2 (by omega);have B_1 := hide (B_0.trans (hb2.mono (by omega)));have hz1 := hb2.size;have hlA := A_1.lt;have hlR := R_1.lt;have hlT := T_1.lt;clear hb2 A_0 R_0 T_0 B_0;have cA8 := A_1.c 8 rfl;have cT0 := T_1.c 0 rfl;have fT0 := T_1.frozen 0;have hpre : ∀ wy, wy = (w2.setCell ⟨w.heap.size + 1 + 1, 0, none⟩ (.slice ao2 m.store.length cp2)).alloc (.cells #[] 63) → ae wy (w.heap.size) 31 (mC aos cps aop cpp aol cpl aoh cph m) ∧ ae wy (w.heap.size + 1) 31 z12 ∧ ae wy (w.heap.size + 1 + 1) 31 (mC ao2 cp2 aop cpp aol cpl aoh cph m) ∧ Below w.heap.size w wy ∧ wy.heap.size = w2.heap.size + 1 ∧ aK (w.heap.size + 1 + 1 + 1) 99 5 wy (.slice ao2 m.store.length cp2) m.store.length (bB m.store) := by
  intro wy hwy;refine ⟨?_, ?_, ?_, ?_, ?_, ?_⟩
  ·rw [hwy]; exact (A_1.far (show w.heap.size + 1 + 1 ≠ w.heap.size by omega) _).alloc _
  ·rw [hwy]; exact (R_1.far (show w.heap.size + 1 + 1 ≠ w.heap.size + 1 by omega) _).alloc _
  ·rw [hwy]; exact (T_1.set 0 _ (by simp)).alloc _
  ·rw [hwy]; exact (B_1.out.setCell (by simp; omega) _).alloc (by simp [World.setCell]; omega) _
  ·rw [hwy]; simp [World.setCell]
  ·rw [hwy]; exact (O_s.out.other ((ai.refl (w.heap.size + 1 + 1) (w.heap.size + 1 + 1 + 1) w2).setCell (p := ⟨w.heap.size + 1 + 1, 0, none⟩) nl ns _) (fun g hg => by have := (O_s.out.lt g hg).1; omega)).alloc _
 have HPRE2 := hide hpre;clear hpre;go_wp2_with (at_builtin; refine wpl_at fun wy hwx => ?_; obtain ⟨A_2, R_2, T_2, B_2, hz2, own2⟩ := HPRE2.out wy hwx; clear hwx; refine gF rfl (.tmp 10) (.tmp 12) 26 rfl (w2.heap.size) 63 j0 _ 2 16 Tryz.underlying26 hj0 hy0 hj1 hj2 rfl (by decide) _ 0 [] rfl ?c0 (.slice aop m.pieces.length cpp) m.pieces.length (bO m.pieces) rfl ?c1 ?c2 ?c3 ?c4 ?_)
 case c0 => exact aK.lit nl (by omega)
 case c1 => exact HP.out.source.below B_2 nl
 case c2 => unfold maxLen; omega
 case c3 => omega
 case c4 => omega
 intro v4 w4 own4 grow4 at4;have hb4 : Below w2.heap.size wy w4 := Below.growE (base := w2.heap.size) (T := 63) (sz := 2) (n := 0) (cs := []) grow4 (aK.lit nl (by omega)) nl (by omega);have own3 := own2.grown grow4 (fun g hg e => by have := (O_s.out.lt g hg).2; simp [Value.ownBlock] at e; omega);obtain ⟨ao4, cp4, rfl, -, -⟩ := own4.form;have O_p := hide own4;have O_s4 := hide own3;have hap : Hid (Apart (.slice ao2 m.store.length cp2) (.slice ao4 m.pieces.length cp4)) := hide (O_s.out.apart own4 nl);clear own4 at4 grow4 own2 own3 HPRE HPRE2 cA8 cT0 fT0;have A_4 := A_2.below hb4 (by omega);have R_4 := R_2.below hb4 (by omega);have T_4 := T_2.below hb4 (by omega);have B_4 := hide (B_2.trans (hb4.mono (by omega)));have hz4 := hb4.size;have mlA := A_4.lt;have mlR := R_4.lt;have mlT := T_4.lt;clear hb4 A_1 R_1 T_1 A_2 R_2 T_2 B_2 hlA hlR hlT;have hcy := fun W H1 H2 => jS (.slice aol m.low.length cpl) (.slice aoh m.high.length cph) m.low m.high W H1 H2 n3 n4;unfold aD at hcy;have HCY := hide hcy;clear hcy;have cA9 := A_4.c 9 rfl;have cA10 := A_4.c 10 rfl;have cT8 := T_4.c 8 rfl;have fT8 := T_4.frozen 8;go_wp2_with fail
 refine aj fun w5 hw5 => ?_;have T5 : ai (w.heap.size + 1 + 1) (w.heap.size + 1 + 1 + 1) w4 w5 := by rw [hw5]; exact (ai.refl _ _ _).setCell (p := ⟨w.heap.size + 1 + 1, 8, none⟩) nl ns _
 have T_5 : ae w5 (w.heap.size + 1 + 1) 31 (mC ao2 cp2 ao4 cp4 aol cpl aoh cph m) := by rw [hw5]; exact T_4.set 8 _ (by simp)
 have A_5 := A_4.other T5 (by omega);have R_5 := R_4.other T5 (by omega);have O_s5 := hide (O_s4.out.other T5 (fun g hg => by have := (O_s.out.lt g hg).1; omega));have O_p5 := hide (O_p.out.other T5 (fun g hg => by have := (O_p.out.lt g hg).1; omega));have B_5 := hide (B_4.out.trans (T5.below (B := w.heap.size) (by omega) (by omega)));have hz5 := T5.size;clear hw5 T5 cA9 cA10 cT8 fT8;refine (HCY.out w5 (((HL.out.below B_5.out)).mono nl (HL.out.below B_5.out).lt nl) (((HH.out.below B_5.out)).mono nl (HH.out.below B_5.out).lt nl)).mono ?_;rintro e w6 ⟨vl, vh, rfl, own, hb⟩;have A_6 := A_5.below hb A_5.lt;have R_6 := R_5.below hb R_5.lt;have T_6 := T_5.below hb T_5.lt;have HG : Hid (ak (w.heap.size + 1 + 1 + 1) w6 (.slice ao2 m.store.length cp2) (.slice ao4 m.pieces.length cp4) vl vh m) := hide ⟨by have := hb.size; omega, O_s5.out.below hb nl, (O_p5.out.below hb nl).mono (by omega), own.lo.mono (by omega), own.ho.mono (by omega), hap.out, O_s5.out.apart own.lo nl, O_s5.out.apart own.ho nl, O_p5.out.apart own.lo nl, O_p5.out.apart own.ho nl, own.ap⟩;have B_6 := bs B_5.out hb;simp only [aD];obtain ⟨al6, cl6, rfl, -, -⟩ := own.lo.form;obtain ⟨ah6, ch6, rfl, -, -⟩ := own.ho.form;have nlA := A_6.lt;have nlR := R_6.lt;have nlT := T_6.lt;clear own hb;obtain ⟨cT0, cT1, cT2, cT3, cT4, cT5, cT6, cT7, cT8, cT9, cT10, cT11⟩ := af T_6;have fT9 := T_6.frozen 9;have fT10 := T_6.frozen 10;have cRz := af R_6;have fRz := ay R_6;go_wp2_with fail
 refine bodyPost_ret (by simp [results, Tryz.results30, go_sem, cRz]; try rfl) rfl ?_;have HF := fun W T => got_put (w := w) (base := w.heap.size) (a := w.heap.size + 1) (z := w.heap.size + 1 + 1 + 1) (W := W) HG.out B_6.out T nl (Nat.le_succ _) (by omega) nl;exact ⟨_, _, _, _, rfl, HF _ (ai.setCell (p := ⟨w.heap.size + 1, 11, none⟩) (ai.setCell (p := ⟨w.heap.size + 1, 10, none⟩) (ai.setCell (p := ⟨w.heap.size + 1, 9, none⟩) (ai.setCell (p := ⟨w.heap.size + 1, 8, none⟩) (ai.setCell (p := ⟨w.heap.size + 1, 7, none⟩) (ai.setCell (p := ⟨w.heap.size + 1, 6, none⟩) (ai.setCell (p := ⟨w.heap.size + 1, 5, none⟩) (ai.setCell (p := ⟨w.heap.size + 1, 4, none⟩) (ai.setCell (p := ⟨w.heap.size + 1, 3, none⟩) (ai.setCell (p := ⟨w.heap.size + 1, 2, none⟩) (ai.setCell (p := ⟨w.heap.size + 1, 1, none⟩) (ai.setCell (p := ⟨w.heap.size + 1, 0, none⟩) (ai.setCell (p := ⟨w.heap.size + 1 + 1, 10, none⟩) (ai.setCell (p := ⟨w.heap.size + 1 + 1, 9, none⟩) (ai.refl _ _ _) (Nat.le_succ _) ns _) (Nat.le_succ _) ns _) nl (Nat.lt_succ_of_lt ns) _) nl (Nat.lt_succ_of_lt ns) _) nl (Nat.lt_succ_of_lt ns) _) nl (Nat.lt_succ_of_lt ns) _) nl (Nat.lt_succ_of_lt ns) _) nl (Nat.lt_succ_of_lt ns) _) nl (Nat.lt_succ_of_lt ns) _) nl (Nat.lt_succ_of_lt ns) _) nl (Nat.lt_succ_of_lt ns) _) nl (Nat.lt_succ_of_lt ns) _) nl (Nat.lt_succ_of_lt ns) _) nl (Nat.lt_succ_of_lt ns) _)⟩
theorem cutBest_spec (v : Value) (a b : Int) (lo hi L : Nat) (hL : L ≤ 60) (hv : dB a b = true) (w : World) (H : au lo hi w v [a, b]) :
 Calls Tryz.prog 124 #[.int .i64 (L : Int), v] w (fA w.heap.size (iR L a b) w) := by
 have HH := hide H;have HV := hide hv;have hlt := H.lt;obtain ⟨⟨ha1, ha2⟩, hb1, hb2⟩ := di.1 hv;obtain ⟨hn0, hn1⟩ := many_60 hv hL;obtain ⟨b0, o0, cap, rfl, h1, h2, -, -⟩ := bK H;have hmk : ∀ W : World, (Instr.makeSlice 27 (.int .i64 2) (.int .i64 2)).run Tryz.prog W = .ok (.slice (some ⟨W.heap.size, 0, none⟩) 2 2) (W.alloc (.cells (madeCells #[.int .i64 0] 2) 3)) := fun W =>
  gN (P := Tryz.prog) 27 3 _ _ _ Tryz.underlying27 bF .i64 .i64 2 (by omega) (by omega) W
 have hs1 : eH (tab a b (L + 1)) L b (bA L a b) 0 L := eH.start;have hnx : ∀ l : Int, eH (tab a b (L + 1)) L b (bA L a b) (bA L a b) l → l = L - bA L a b * b → eH (tab a b (L + 1)) L a (dx L a b) 0 l := fun l => eH.next;have HC := hide (fun (W : World) (k : Below w.heap.size w W) => cutLeast_spec (.slice (some ⟨b0, o0, none⟩) 2 cap) a b lo hi L hL W (H.below k));have HT := hide (fun (W : World) (k : Below w.heap.size w W) => table_spec (.slice (some ⟨b0, o0, none⟩) 2 cap) a b lo hi L hL hv W (H.below k));clear H hv;go_enter Tryz.func124, Tryz.ntmps124;go_wp2_with fail
 refine (HC.out w (Below.refl _ _)).mono ?_;rintro e w0 ⟨x, rfl, -, hx, hb0⟩;have hx0 : ¬ x < 0 := by have := hx HV.out; omega
 have HB0 := hide hb0;clear hx hb0;go_wp2_with fail
 refine (HT.out w0 HB0.out).mono ?_;rintro e w2 ⟨v1, rfl, hown, hb2⟩;have hb2 := Below.step HB0.out hb2 nl;have hown := aJ hown HB0.out.size;have hz2 := hb2.size;have HB2 := hide hb2;have h12 := bH hown rfl (by omega);obtain ⟨T, hT⟩ : ∃ T, tab a b (L + 1) = T := ⟨_, rfl⟩;have HTL := hide (show T.length = L + 1 by rw [← hT, eQ]);rw [hT] at h12 hs1 hnx;have HS1 := hide hs1;have HNX := hide hnx;have HI := hide h12;obtain ⟨ao1, cap1, rfl, -⟩ := h12;clear hown hb2 hT hs1 hnx;go_wp2_with fail
 clear hmk;obtain ⟨G, hG⟩ : ∃ G, w2.heap.size = G := ⟨_, rfl⟩;obtain ⟨wa, hwa⟩ : ∃ wa, wa = w2.alloc (.cells (madeCells #[.int .i64 0] 2) 3) := ⟨_, rfl⟩;have HR := hide (show fu wa G 0 0 by
  rw [← hG, hwa];exact ⟨_, World.rowIs_made w2 (.int .i64 0) 2 3, rfl, rfl⟩)
 have HB := hide (show Below w2.heap.size w2 wa by rw [hwa]; exact (Below.refl _ _).alloc nl _);rw [← hwa, hG];have HGZ := hide hG;have hbG : b0 ≠ G := by omega
 have hGb : G ≠ b0 := by omega
 clear hwa hG
 go_loopw [7, 8] (fun left i wr => Below w2.heap.size w2 wr ∧ ((i = .int .i64 1 ∧ left = .int .i64 (L : Int) ∧ fu wr G 0 0) ∨ (∃ l : Int, i = .int .i64 0 ∧ left = .int .i64 l ∧ eH T L a (dx L a b) 0 l ∧ fu wr G 0 (bA L a b)) ∨ (i = .int .i64 (-1) ∧ fu wr G (dx L a b) (bA L a b)))) (fun _ i _ => (intOf i + 1).toNat)
 case atStart => exact ⟨HB.out, .inl ⟨rfl, rfl, HR.out⟩⟩
 case round =>
  obtain ⟨hb, hcase⟩ := hrel;clear HB HR;have HB := hide hb;obtain ⟨wo, rfl⟩ : ∃ wo : World, wo = wr := ⟨_, rfl⟩;rcases hcase with ⟨rfl, rfl, hr⟩ | ⟨l, rfl, rfl, hst, hr⟩ | ⟨rfl, hr⟩
  ·have HR := hide hr
   clear hr hb;go_wp2_with fail
   go_loopw [7] (fun left wr => ∃ (c : Nat) (l : Int), left = .int .i64 l ∧ Below w2.heap.size w2 wr ∧ eH T L b (bA L a b) c l ∧ fu wr G 0 c ∧ l = L - c * b) (fun left _ => (intOf left).toNat)
   case atStart => exact ⟨0, _, rfl, HB.out, HS1.out, HR.out, by simp⟩
   case round =>
    obtain ⟨c, l, rfl, hb, hst, hrow, hlx⟩ := hrel;have HB := hide hb;have HC := hide hst;have HR := hide hrow;have HLX := hide hlx;obtain ⟨b1, o1, cap1, e1, -, -, c0, c1⟩ := bK (HH.out.below (HB2.out.trans (hb.mono hz2)));cases e1;obtain ⟨g0, g1, f0, f1, hGz⟩ := hrow.cell;have hl0 := hst.pos;have hl1 := hst.le;have HAT := hide (HI.out.below hb);clear hb hst hrow hlx;by_cases hle : b ≤ l
    ·obtain ⟨d, hd⟩ : ∃ d : Nat, l - b = d := ⟨(l - b).toNat, by omega⟩
     have hwd : IntKind.i64.wrap (l - b) = (d : Int) := by rw [hd]; exact IntWalk.i64_in _ (by omega)
     have hTl := HTL.out;have hdT : (d : Int) < (T.length : Int) := by omega
     have hd0 : (0 : Int) ≤ (d : Int) := by omega
     obtain ⟨q, rfl⟩ : ∃ q : Nat, l = q := ⟨l.toNat, by omega⟩;have hLT : (q : Int) < (T.length : Int) := by omega
     have hL0 : (0 : Int) ≤ (q : Int) := by omega
     obtain ⟨b3, o3, cap3, e3, -, -, gL, -⟩ := ints_at HAT.out (k := q) (by omega);cases e3;obtain ⟨b4, o4, cap4, e4, -, -, gd, -⟩ := ints_at HAT.out (k := d) (by omega);cases e4;obtain ⟨y, hy⟩ : ∃ y, T.getD d 0 = y := ⟨_, rfl⟩;obtain ⟨z, hz⟩ : ∃ z, T.getD q 0 = z := ⟨_, rfl⟩;rw [hy] at gd;rw [hz] at gL;have HM := hide (show eU T b (q : Int) = (y == z) by
      unfold eU;rw [hd, show ((d : Int)).toNat = d by omega, hy, show ((q : Int)).toNat = q by omega, hz];simp [hle])
     have HD := hide hd;clear hy hz hd hTl;by_cases hyz : y = z
     ·subst hyz
      have HM2 := HC.out.more (by omega) (HM.out.trans (by simp));rw [HD.out] at HM2;obtain ⟨hst2, -, hcn⟩ := HM2;have hw1 : IntKind.i64.wrap ((c : Int) + 1) = ((c + 1 : Nat) : Int) := by rw [show (c : Int) + 1 = ((c + 1 : Nat) : Int) by omega]; exact IntWalk.i64_in _ (by omega)
      have HST := hide hst2;clear hst2 HM HC;go_wp2_with fail
      go_quiet (fail)
      go_wp2_with fail
      go_roundw
      case rel => exact ⟨c + 1, d, rfl, (below_drewN HB.out _).setCell (by have := HGZ.out; show w2.heap.size ≤ G; omega) _, HST.out, by simpa using fu.drewN HR.out _ |>.set1 (c + 1), by have h1 := HLX.out; have h2 := HD.out; rw [Int.natCast_add, Int.add_mul]; omega⟩
      case measure => have hD := HD.out; simp [intOf]; omega
     ·obtain rfl := HC.out.done (HM.out.trans (by simpa using hyz))
      have hyzb : (y == z) = false := by simpa using hyz
      clear HM;go_wp2_with fail
      go_quiet (fail)
      go_wp2_with fail
      go_roundw
      case rel => exact ⟨below_drewN HB.out _, .inr (.inl ⟨_, rfl, rfl, HNX.out _ HC.out HLX.out, fu.drewN HR.out _⟩)⟩
      case measure => simp [intOf]
    ·obtain rfl := HC.out.done (show eU T b l = false by unfold eU; simp [hle])
     have hleb : decide (b ≤ l) = false := by simpa using hle
     go_wp2_with fail
     go_quiet (fail)
     go_wp2_with fail
     go_roundw
     case rel => exact ⟨below_drewN HB.out _, .inr (.inl ⟨l, rfl, rfl, HNX.out l HC.out HLX.out, fu.drewN HR.out _⟩)⟩
     case measure => simp [intOf]
  ·have HR := hide hr
   have HS0 := hide hst;clear hr hst hb;go_wp2_with fail
   go_loopw [7] (fun left wr => ∃ (c : Nat) (l : Int), left = .int .i64 l ∧ Below w2.heap.size w2 wr ∧ eH T L a (dx L a b) c l ∧ fu wr G c (bA L a b) ∧ True) (fun left _ => (intOf left).toNat)
   case atStart => exact ⟨0, _, rfl, HB.out, HS0.out, HR.out, trivial⟩
   case round =>
    obtain ⟨c, l, rfl, hb, hst, hrow, hlx⟩ := hrel;have HB := hide hb;have HC := hide hst;have HR := hide hrow;obtain ⟨b1, o1, cap1, e1, -, -, c0, c1⟩ := bK (HH.out.below (HB2.out.trans (hb.mono hz2)));cases e1;obtain ⟨g0, g1, f0, f1, hGz⟩ := hrow.cell;have hl0 := hst.pos;have hl1 := hst.le;have HAT := hide (HI.out.below hb);clear hb hst hrow hlx;by_cases hle : a ≤ l
    ·obtain ⟨d, hd⟩ : ∃ d : Nat, l - a = d := ⟨(l - a).toNat, by omega⟩
     have hwd : IntKind.i64.wrap (l - a) = (d : Int) := by rw [hd]; exact IntWalk.i64_in _ (by omega)
     have hTl := HTL.out;have hdT : (d : Int) < (T.length : Int) := by omega
     have hd0 : (0 : Int) ≤ (d : Int) := by omega
     obtain ⟨q, rfl⟩ : ∃ q : Nat, l = q := ⟨l.toNat, by omega⟩;have hLT : (q : Int) < (T.length : Int) := by omega
     have hL0 : (0 : Int) ≤ (q : Int) := by omega
     obtain ⟨b3, o3, cap3, e3, -, -, gL, -⟩ := ints_at HAT.out (k := q) (by omega);cases e3;obtain ⟨b4, o4, cap4, e4, -, -, gd, -⟩ := ints_at HAT.out (k := d) (by omega);cases e4;obtain ⟨y, hy⟩ : ∃ y, T.getD d 0 = y := ⟨_, rfl⟩;obtain ⟨z, hz⟩ : ∃ z, T.getD q 0 = z := ⟨_, rfl⟩;rw [hy] at gd;rw [hz] at gL;have HM := hide (show eU T a (q : Int) = (y == z) by
      unfold eU;rw [hd, show ((d : Int)).toNat = d by omega, hy, show ((q : Int)).toNat = q by omega, hz];simp [hle])
     have HD := hide hd;clear hy hz hd hTl;by_cases hyz : y = z
     ·subst hyz
      have HM2 := HC.out.more (by omega) (HM.out.trans (by simp));rw [HD.out] at HM2;obtain ⟨hst2, -, hcn⟩ := HM2;have hw1 : IntKind.i64.wrap ((c : Int) + 1) = ((c + 1 : Nat) : Int) := by rw [show (c : Int) + 1 = ((c + 1 : Nat) : Int) by omega]; exact IntWalk.i64_in _ (by omega)
      have HST := hide hst2;clear hst2 HM HC;go_wp2_with fail
      go_quiet (fail)
      go_wp2_with fail
      go_roundw
      case rel => exact ⟨c + 1, d, rfl, (below_drewN HB.out _).setCell (by have := HGZ.out; show w2.heap.size ≤ G; omega) _, HST.out, by simpa using fu.drewN HR.out _ |>.set0 (c + 1), trivial⟩
      case measure => have hD := HD.out; simp [intOf]; omega
     ·obtain rfl := HC.out.done (HM.out.trans (by simpa using hyz))
      have hyzb : (y == z) = false := by simpa using hyz
      clear HM;go_wp2_with fail
      go_quiet (fail)
      go_wp2_with fail
      go_roundw
      case rel => exact ⟨below_drewN HB.out _, .inr (.inr ⟨rfl, fu.drewN HR.out _⟩)⟩
      case measure => simp [intOf]
    ·obtain rfl := HC.out.done (show eU T a l = false by unfold eU; simp [hle])
     have hleb : decide (a ≤ l) = false := by simpa using hle
     go_wp2_with fail
     go_quiet (fail)
     go_wp2_with fail
     go_roundw
     case rel => exact ⟨below_drewN HB.out _, .inr (.inr ⟨rfl, fu.drewN HR.out _⟩)⟩
     case measure => simp [intOf]
  ·have HR := hide hr
   clear hr hb;go_wp2_with fail
   go_ret;exact ⟨_, rfl, (HR.out.own (base := w.heap.size) (by have := HGZ.out; omega)), HB2.out.trans (HB.out.mono hz2)⟩
end Go.Proofs.YtkhecelpafojdaaGreatDoor
