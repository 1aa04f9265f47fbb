/-
  Parts of the proofs over mills, of: SameM, SameN, TextD, PlainJ, JournC, Spoil, PlainRep, RjPre, FlawP. Conditions: each theorem states its own.
-/
import Derived.Test.YtmemgbklgcjobaaGreatDoorY29
import Derived.Test.YtmemgbklgcjobaaGreatDoorY48
set_option linter.unusedSimpArgs false
set_option linter.unusedVariables false
set_option maxRecDepth 10000
set_option maxHeartbeats 64000000
namespace Go.Proofs.YtmemgbklgcjobaaGreatDoor
open Go.RowKit
theorem sameInts_any (v v' : Value) (xs ys : List Int) (lo hi lo' hi' : Nat) (w : World) (h : IntsAt lo hi w v xs) (h' : IntsAt lo' hi' w v' ys) :
 Calls Tryz.prog 36 #[v, v'] w fun e w' => e = .returned (.bool (decide (xs = ys))) ∧ Below w.heap.size w w' := by
 obtain ⟨ao, cap, rfl, hlc, hcap, hhi, hc⟩ := h;obtain ⟨ao', cap', rfl, hlc', hcap', hhi', hc'⟩ := h';have Hc := hide hc;have Hc' := hide hc';clear hc hc';by_cases hl : xs.length = ys.length
 ·have HL := hide hl
  have hlB : ((xs.length : Int) != (ys.length : Int)) = false := by simp [hl]
  clear hl;go_enter Tryz.func36, Tryz.ntmps36;go_wp2_with fail
  go_loopw [5] (fun i wr => ∃ k : Nat, k ≤ xs.length ∧ i = .int .i64 k ∧ Below w.heap.size w wr ∧ xs.take k = ys.take k) (fun i _ => xs.length - (intOf i).toNat)
  case atStart => exact ⟨0, Nat.zero_le _, rfl, Below.refl _ _, rfl⟩
  case round =>
   obtain ⟨k, hk, rfl, hb, hall⟩ := hrel;have Ha := hide hall;clear hall;by_cases hlt : k < xs.length
   ·have hlt' : k < ys.length := by have := HL.out; omega
    obtain ⟨b, o, rfl, hb1, hb2, hcs⟩ := Hc.out (by omega);obtain ⟨b', o', rfl, hb1', hb2', hcs'⟩ := Hc'.out (by omega);obtain ⟨h1, -⟩ := hcs k hlt;obtain ⟨h1', -⟩ := hcs' k hlt';rw [← hb.cell (p := ⟨_, _, none⟩) (by simpa using by omega)] at h1 h1';clear hcs hcs';have hi1 : (k : Int) < (xs.length : Int) := by omega
    have hi2 : (k : Int) < (ys.length : Int) := by omega
    by_cases hq : xs[k] = ys[k]
    ·have hqB : (xs[k] != ys[k]) = false := by simp [hq]
     have hall' : xs.take (k + 1) = ys.take (k + 1) := by
      rw [List.take_succ_eq_append_getElem hlt, List.take_succ_eq_append_getElem hlt', Ha.out, hq]
     have Ha' := hide hall';clear hq hall';go_wp2_with fail
     go_quiet (fail)
     go_wp2_with fail
     go_roundw
     case rel => exact ⟨k + 1, by omega, by go_num, below_drewN hb _, Ha'.out⟩
     case measure => simp [intOf]; omega
    ·have hqB : (xs[k] != ys[k]) = true := by simp [hq]
     have HQ := hide hq;clear hq;go_wp2_with fail
     go_quiet (fail)
     go_wp2_with fail
     go_ret;refine ⟨?_, below_drewN hb _⟩;have hne : xs ≠ ys := by
      intro e;subst e;exact HQ.out rfl
     simp [hne]
   ·go_wp2_with fail
    go_ret;refine ⟨?_, hb⟩;have e : xs = ys := by
     have := Ha.out;rw [List.take_of_length_le (by omega), List.take_of_length_le (by have := HL.out; omega)] at this;exact this
    simp [e]
 ·have hlB : ((xs.length : Int) != (ys.length : Int)) = true := by simp; omega
  go_enter Tryz.func36, Tryz.ntmps36;go_wp2_with fail
  go_ret;exact ⟨by simp; intro h; exact hl (by rw [h]), Below.refl _ _⟩
theorem samePile_any (l h l' h' : Value) (lo hi lo2 hi2 : List Int) (a z a' z' b y b' y' : Nat) (w : World) (Hl : IntsAt a z w l lo) (Hh : IntsAt b y w h hi) (Hl' : IntsAt a' z' w l' lo2) (Hh' : IntsAt b' y' w h' hi2) :
 Calls Tryz.prog 65 #[pileV l h, pileV l' h'] w fun e w' => e = .returned (.bool (decide (lo = lo2) && decide (hi = hi2))) ∧ Below w.heap.size w w' := by
 have HL := hide Hl;have HH := hide Hh;have HL' := hide Hl';have HH' := hide Hh';unfold pileV;clear Hl Hh Hl' Hh';go_enter Tryz.func65, Tryz.ntmps65;go_wp2_with fail
 refine calls_at fun wx hwx => ?_;have R1 : RowL wx w.heap.size 29 [l, h] := by rw [hwx]; exact (RowL.new _ _ _).alloc _
 have R2 : RowL wx (w.heap.size + 1) 29 [l', h'] := by rw [hwx]; simpa using RowL.new (w.alloc _) 29 [l', h']
 have hb0 : Below w.heap.size w wx := by rw [hwx]; go_grown
 clear hwx;refine (sameInts_any l l' lo lo2 _ _ _ _ _ (HL.out.below hb0) (HL'.out.below hb0)).mono ?_;rintro e w1 ⟨rfl, hb1⟩;have R1b := R1.below hb1 R1.lt;have R2b := R2.below hb1 R2.lt;have HB1 := hide (Below.step hb0 hb1 nl);have c1 : w1.cell? ⟨w.heap.size, 1, none⟩ = some h := R1b.cell 1 (by simp);have c2 : w1.cell? ⟨w.heap.size + 1, 1, none⟩ = some h' := R2b.cell 1 (by simp);clear hb1;cases hq : decide (lo = lo2) with
 | false =>
  go_wp2_with fail
  go_ret;exact ⟨by rw [hq]; rfl, HB1.out⟩
 | true =>
  go_wp2_with fail
  refine (sameInts_any h h' hi hi2 _ _ _ _ _ (HH.out.below HB1.out) (HH'.out.below HB1.out)).mono ?_;rintro e w2 ⟨rfl, hb2⟩;have HB2 := hide (Below.step HB1.out hb2 nl);clear hb2 c1 c2;go_wp2_with fail
  go_ret;exact ⟨by rw [hq, Bool.true_and]; rfl, HB2.out⟩
theorem sameStuffs_any (v v' : Value) (xs ys : List St) (lo hi lo' hi' : Nat) (w : World) (h : StAt lo hi w v xs) (h' : StAt lo' hi' w v' ys) :
 Calls Tryz.prog 64 #[v, v'] w fun e w' => e = .returned (.bool (decide (xs = ys))) ∧ Below w.heap.size w w' := by
 obtain ⟨ao, cap, rfl, hlc, hcap, hhi, hc⟩ := h;obtain ⟨ao', cap', rfl, hlc', hcap', hhi', hc'⟩ := h';have Hc := hide hc;have Hc' := hide hc';clear hc hc';by_cases hl : xs.length = ys.length
 ·have HL := hide hl
  have hlB : ((xs.length : Int) != (ys.length : Int)) = false := by simp [hl]
  clear hl;go_enter Tryz.func64, Tryz.ntmps64;go_wp2_with fail
  go_loopw [5] (fun i wr => ∃ k : Nat, k ≤ xs.length ∧ i = .int .i64 k ∧ Below w.heap.size w wr ∧ xs.take k = ys.take k) (fun i _ => xs.length - (intOf i).toNat)
  case atStart => exact ⟨0, Nat.zero_le _, rfl, Below.refl _ _, rfl⟩
  case round =>
   obtain ⟨k, hk, rfl, hb, hall⟩ := hrel;have Ha := hide hall;clear hall;by_cases hlt : k < xs.length
   ·have hlt' : k < ys.length := by have := HL.out; omega
    obtain ⟨b, o, rfl, hb1, hb2, hcs⟩ := Hc.out (by omega);obtain ⟨b', o', rfl, hb1', hb2', hcs'⟩ := Hc'.out (by omega);obtain ⟨⟨h1, h2, h3, h4, h5⟩, -⟩ := hcs k hlt;obtain ⟨⟨h1', h2', h3', h4', h5'⟩, -⟩ := hcs' k hlt';rw [← hb.cell (p := ⟨_, _, none⟩) (by simpa using by omega)] at h1 h2 h3 h4 h5 h1' h2' h3' h4' h5';clear hcs hcs';have HNE := hide (show (xs[k] ≠ ys[k]) → decide (xs = ys) = false from fun h => decide_eq_false (fun e => h (by subst e; rfl)));have HYE := hide (show (xs[k] = ys[k]) → xs.take (k + 1) = ys.take (k + 1) from fun hq => by
     rw [List.take_succ_eq_append_getElem hlt, List.take_succ_eq_append_getElem hlt', Ha.out, hq])
    have HEX := hide (show ∀ a b : St, a.c = b.c → a.m = b.m → a.s = b.s → a.p = b.p → a.k = b.k → a = b from fun a b e1 e2 e3 e4 e5 => by cases a; cases b; simp_all);obtain ⟨x0, hx0⟩ : ∃ x, xs[k].c = x := ⟨_, rfl⟩;obtain ⟨y0, hy0⟩ : ∃ x, ys[k].c = x := ⟨_, rfl⟩;rw [hx0] at h1;rw [hy0] at h1';have HX0 := hide hx0;have HY0 := hide hy0;clear hx0 hy0;obtain ⟨x1, hx1⟩ : ∃ x, xs[k].m = x := ⟨_, rfl⟩;obtain ⟨y1, hy1⟩ : ∃ x, ys[k].m = x := ⟨_, rfl⟩;rw [hx1] at h2;rw [hy1] at h2';have HX1 := hide hx1;have HY1 := hide hy1;clear hx1 hy1;obtain ⟨x2, hx2⟩ : ∃ x, xs[k].s = x := ⟨_, rfl⟩;obtain ⟨y2, hy2⟩ : ∃ x, ys[k].s = x := ⟨_, rfl⟩;rw [hx2] at h3;rw [hy2] at h3';have HX2 := hide hx2;have HY2 := hide hy2;clear hx2 hy2;obtain ⟨x3, hx3⟩ : ∃ x, xs[k].p = x := ⟨_, rfl⟩;obtain ⟨y3, hy3⟩ : ∃ x, ys[k].p = x := ⟨_, rfl⟩;rw [hx3] at h4;rw [hy3] at h4';have HX3 := hide hx3;have HY3 := hide hy3;clear hx3 hy3;obtain ⟨x4, hx4⟩ : ∃ x, xs[k].k = x := ⟨_, rfl⟩;obtain ⟨y4, hy4⟩ : ∃ x, ys[k].k = x := ⟨_, rfl⟩;rw [hx4] at h5;rw [hy4] at h5';have HX4 := hide hx4;have HY4 := hide hy4;clear hx4 hy4;have hi1 : (k : Int) < (xs.length : Int) := by omega
    have hi2 : (k : Int) < (ys.length : Int) := by omega
    have HB := hide hb;clear hb;by_cases q0 : x0 = y0;rotate_left
    ·have qB0 : (x0 == y0) = false := by simpa using q0
     have HN := hide (HNE.out (fun e => q0 (by have := congrArg St.c e; simpa [HX0.out, HY0.out] using this)));clear q0;go_wp2_with fail
     go_quiet (fail)
     go_wp2_with fail
     go_ret;exact ⟨by rw [HN.out]; rfl, below_drewN HB.out _⟩
    subst q0;by_cases q1 : x1 = y1;rotate_left
    ·have qB1 : (x1 == y1) = false := by simpa using q1
     have HN := hide (HNE.out (fun e => q1 (by have := congrArg St.m e; simpa [HX1.out, HY1.out] using this)));clear q1;go_wp2_with fail
     go_quiet (fail)
     go_wp2_with fail
     go_ret;exact ⟨by rw [HN.out]; rfl, below_drewN HB.out _⟩
    subst q1;by_cases q2 : x2 = y2;rotate_left
    ·have qB2 : (x2 == y2) = false := by simpa using q2
     have HN := hide (HNE.out (fun e => q2 (by have := congrArg St.s e; simpa [HX2.out, HY2.out] using this)));clear q2;go_wp2_with fail
     go_quiet (fail)
     go_wp2_with fail
     go_ret;exact ⟨by rw [HN.out]; rfl, below_drewN HB.out _⟩
    subst q2;by_cases q3 : x3 = y3;rotate_left
    ·have qB3 : (x3 == y3) = false := by simpa using q3
     have HN := hide (HNE.out (fun e => q3 (by have := congrArg St.p e; simpa [HX3.out, HY3.out] using this)));clear q3;go_wp2_with fail
     go_quiet (fail)
     go_wp2_with fail
     go_ret;exact ⟨by rw [HN.out]; rfl, below_drewN HB.out _⟩
    subst q3;by_cases q4 : x4 = y4;rotate_left
    ·have qB4 : (x4 == y4) = false := by simpa using q4
     have HN := hide (HNE.out (fun e => q4 (by have := congrArg St.k e; simpa [HX4.out, HY4.out] using this)));clear q4;go_wp2_with fail
     go_quiet (fail)
     go_wp2_with fail
     go_ret;exact ⟨by rw [HN.out]; rfl, below_drewN HB.out _⟩
    subst q4;have HT := hide (HYE.out (HEX.out _ _ (by rw [HX0.out, HY0.out]) (by rw [HX1.out, HY1.out]) (by rw [HX2.out, HY2.out]) (by rw [HX3.out, HY3.out]) (by rw [HX4.out, HY4.out])));go_wp2_with fail
    go_quiet (fail)
    go_wp2_with fail
    go_roundw
    case rel => exact ⟨k + 1, by omega, by go_num, below_drewN HB.out _, HT.out⟩
    case measure => simp [intOf]; omega
   ·go_wp2_with fail
    go_ret;refine ⟨?_, hb⟩;have e : xs = ys := by
     have := Ha.out;rw [List.take_of_length_le (by omega), List.take_of_length_le (by have := HL.out; omega)] at this;exact this
    simp [e]
 ·have hlB : ((xs.length : Int) != (ys.length : Int)) = true := by simp; omega
  go_enter Tryz.func64, Tryz.ntmps64;go_wp2_with fail
  go_ret;exact ⟨by simp; intro h; exact hl (by rw [h]), Below.refl _ _⟩
theorem sameMill_any (s p l h s' p' l' h' : Value) (m z : Mi) (w : World) (H : MillIn 0 w.heap.size w s p l h m) (H' : MillIn 0 w.heap.size w s' p' l' h' z) :
 Calls Tryz.prog 17 #[millV s p l h m, millV s' p' l' h' z] w fun e w' => e = .returned (.bool (decide (m = z))) ∧ Below w.heap.size w w' := by
 have HH := hide H;have HH' := hide H';obtain ⟨ao1, cap1, rfl, -, -, -, -⟩ := id H.store;obtain ⟨ao2, cap2, rfl, -, -, -, -⟩ := id H.pieces;obtain ⟨ao3, cap3, rfl, -, -, -, -⟩ := id H.low;obtain ⟨ao4, cap4, rfl, -, -, -, -⟩ := id H.high;obtain ⟨bo1, bap1, rfl, -, -, -, -⟩ := id H'.store;obtain ⟨bo2, bap2, rfl, -, -, -, -⟩ := id H'.pieces;obtain ⟨bo3, bap3, rfl, -, -, -, -⟩ := id H'.low;obtain ⟨bo4, bap4, rfl, -, -, -, -⟩ := id H'.high;clear H H';unfold millV;go_enter Tryz.func17, Tryz.ntmps17;go_wp2_with fail
 refine calls_at fun wx hwx => ?_;have A_0 : RowL wx w.heap.size 31 [.slice ao1 m.store.length cap1, .int .i64 m.rule.lc, .int .i64 m.rule.hc, .int .i64 m.rule.lm, .int .i64 m.rule.hm, .int .i64 m.rule.ls, .int .i64 m.rule.hs, .int .i64 m.strand, .slice ao2 m.pieces.length cap2, .slice ao3 m.low.length cap3, .slice ao4 m.high.length cap4, .int .i64 m.scrap] := by rw [hwx]; exact (RowL.new _ _ _).alloc _
 have C_0 : RowL wx (w.heap.size + 1) 31 [.slice bo1 z.store.length bap1, .int .i64 z.rule.lc, .int .i64 z.rule.hc, .int .i64 z.rule.lm, .int .i64 z.rule.hm, .int .i64 z.rule.ls, .int .i64 z.rule.hs, .int .i64 z.strand, .slice bo2 z.pieces.length bap2, .slice bo3 z.low.length bap3, .slice bo4 z.high.length bap4, .int .i64 z.scrap] := by rw [hwx]; simpa using RowL.new (World.alloc _ _) 31 [.slice bo1 z.store.length bap1, .int .i64 z.rule.lc, .int .i64 z.rule.hc, .int .i64 z.rule.lm, .int .i64 z.rule.hm, .int .i64 z.rule.ls, .int .i64 z.rule.hs, .int .i64 z.strand, .slice bo2 z.pieces.length bap2, .slice bo3 z.low.length bap3, .slice bo4 z.high.length bap4, .int .i64 z.scrap]
 have hb : Below w.heap.size w wx := by rw [hwx]; go_grown
 have V_0 := HH.out.below hb;have U_0 := HH'.out.below hb;have B_0 := hide hb;have hz0 := C_0.lt;clear hwx hb;have k1 := sameStuffs_any _ _ _ _ _ _ _ _ wx V_0.store U_0.store;have k2 := fun W (q : Below wx.heap.size wx W) => samePile_any _ _ _ _ _ _ _ _ _ _ _ _ _ _ _ _ W (V_0.low.below q) (V_0.high.below q) (U_0.low.below q) (U_0.high.below q);have K2 := hide k2;have VP := hide V_0.pieces;have hplen := V_0.pieces.len;have UP := hide U_0.pieces;clear k2 V_0 U_0 HH HH';by_cases e0 : m.store = z.store;rotate_left
 ·rw [decide_eq_false e0] at k1
  refine k1.mono ?_;rintro e w1 ⟨rfl, hb⟩;have B_1 := hide (Below.step B_0.out hb nl);have HN := hide (show m ≠ z from fun e => e0 (by rw [e]));clear hb k1;go_wp2_with fail
  go_ret;exact ⟨by rw [decide_eq_false HN.out]; rfl, B_1.out⟩
 rw [decide_eq_true e0] at k1;have E0 := hide e0;refine k1.mono ?_;rintro e w1 ⟨rfl, hb⟩;have B_1 := hide (Below.step B_0.out hb nl);have A_1 := A_0.below hb A_0.lt;have C_1 := C_0.below hb C_0.lt;have hz1 := hb.size;have hlC := C_1.lt;have hb1 := hide hb;clear hb k1 e0;have cA1 := A_1.c 1 rfl;have cC1 := C_1.c 1 rfl;have cA2 := A_1.c 2 rfl;have cC2 := C_1.c 2 rfl;have cA3 := A_1.c 3 rfl;have cC3 := C_1.c 3 rfl;have cA4 := A_1.c 4 rfl;have cC4 := C_1.c 4 rfl;have cA5 := A_1.c 5 rfl;have cC5 := C_1.c 5 rfl;have cA6 := A_1.c 6 rfl;have cC6 := C_1.c 6 rfl;have cA7 := A_1.c 7 rfl;have cC7 := C_1.c 7 rfl;have cA11 := A_1.c 11 rfl;have cC11 := C_1.c 11 rfl;have cA9 := A_1.c 9 rfl;have cC9 := C_1.c 9 rfl;have cA10 := A_1.c 10 rfl;have cC10 := C_1.c 10 rfl;by_cases e1 : m.rule.lc = z.rule.lc;rotate_left
 ·have eB : (m.rule.lc == z.rule.lc) = false := by simpa using e1
  have HN := hide (show m ≠ z from fun e => e1 (by rw [e]));clear e1;go_wp2_with fail
  go_ret;exact ⟨by rw [decide_eq_false HN.out]; rfl, B_1.out⟩
 have eB1 : (m.rule.lc == z.rule.lc) = true := by simp [e1]
 have E1 := hide e1;clear e1;by_cases e2 : m.rule.hc = z.rule.hc;rotate_left
 ·have eB : (m.rule.hc == z.rule.hc) = false := by simpa using e2
  have HN := hide (show m ≠ z from fun e => e2 (by rw [e]));clear e2;go_wp2_with fail
  go_ret;exact ⟨by rw [decide_eq_false HN.out]; rfl, B_1.out⟩
 have eB2 : (m.rule.hc == z.rule.hc) = true := by simp [e2]
 have E2 := hide e2;clear e2;by_cases e3 : m.rule.lm = z.rule.lm;rotate_left
 ·have eB : (m.rule.lm == z.rule.lm) = false := by simpa using e3
  have HN := hide (show m ≠ z from fun e => e3 (by rw [e]));clear e3;go_wp2_with fail
  go_ret;exact ⟨by rw [decide_eq_false HN.out]; rfl, B_1.out⟩
 have eB3 : (m.rule.lm == z.rule.lm) = true := by simp [e3]
 have E3 := hide e3;clear e3;by_cases e4 : m.rule.hm = z.rule.hm;rotate_left
 ·have eB : (m.rule.hm == z.rule.hm) = false := by simpa using e4
  have HN := hide (show m ≠ z from fun e => e4 (by rw [e]));clear e4;go_wp2_with fail
  go_ret;exact ⟨by rw [decide_eq_false HN.out]; rfl, B_1.out⟩
 have eB4 : (m.rule.hm == z.rule.hm) = true := by simp [e4]
 have E4 := hide e4;clear e4;by_cases e5 : m.rule.ls = z.rule.ls;rotate_left
 ·have eB : (m.rule.ls == z.rule.ls) = false := by simpa using e5
  have HN := hide (show m ≠ z from fun e => e5 (by rw [e]));clear e5;go_wp2_with fail
  go_ret;exact ⟨by rw [decide_eq_false HN.out]; rfl, B_1.out⟩
 have eB5 : (m.rule.ls == z.rule.ls) = true := by simp [e5]
 have E5 := hide e5;clear e5;by_cases e6 : m.rule.hs = z.rule.hs;rotate_left
 ·have eB : (m.rule.hs == z.rule.hs) = false := by simpa using e6
  have HN := hide (show m ≠ z from fun e => e6 (by rw [e]));clear e6;go_wp2_with fail
  go_ret;exact ⟨by rw [decide_eq_false HN.out]; rfl, B_1.out⟩
 have eB6 : (m.rule.hs == z.rule.hs) = true := by simp [e6]
 have E6 := hide e6;clear e6;by_cases e7 : m.strand = z.strand;rotate_left
 ·have eB : (m.strand != z.strand) = true := by simpa using e7
  have HN := hide (show m ≠ z from fun e => e7 (by rw [e]));clear e7;go_wp2_with fail
  go_ret;exact ⟨by rw [decide_eq_false HN.out]; rfl, B_1.out⟩
 have eB7 : (m.strand != z.strand) = false := by simp [e7]
 have E7 := hide e7;clear e7;by_cases e8 : m.scrap = z.scrap;rotate_left
 ·have eB : (m.scrap != z.scrap) = true := by simpa using e8
  have HN := hide (show m ≠ z from fun e => e8 (by rw [e]));clear e8;go_wp2_with fail
  go_ret;exact ⟨by rw [decide_eq_false HN.out]; rfl, B_1.out⟩
 have eB8 : (m.scrap != z.scrap) = false := by simp [e8]
 have E8 := hide e8;clear e8;go_wp2_with fail
 have k3 := K2.out w1 hb1.out;unfold pileV at k3;by_cases e9 : m.low = z.low ∧ m.high = z.high;rotate_left
 ·have hq : (decide (m.low = z.low) && decide (m.high = z.high)) = false := by
   rw [Bool.and_eq_false_iff, decide_eq_false_iff_not, decide_eq_false_iff_not];by_cases h : m.low = z.low
   ·exact .inr (fun h2 => e9 ⟨h, h2⟩)
   ·exact .inl h
  rw [hq] at k3;refine k3.mono ?_;rintro e w2 ⟨rfl, hb⟩;have B_2 := hide (Below.step B_1.out hb nl);have HN := hide (show m ≠ z from fun e => e9 (by rw [e]; exact ⟨rfl, rfl⟩));clear hb k3;go_wp2_with fail
  go_ret;exact ⟨by rw [decide_eq_false HN.out]; rfl, B_2.out⟩
 rw [decide_eq_true e9.1, decide_eq_true e9.2] at k3;have E9 := hide e9;clear e9;refine k3.mono ?_;rintro e w2 ⟨rfl, hb⟩;have B_2 := hide (Below.step B_1.out hb nl);have A_2 := A_1.below hb A_1.lt;have C_2 := C_1.below hb C_1.lt;have VP2 := hide ((VP.out.below hb1.out).below hb);have UP2 := hide ((UP.out.below hb1.out).below hb);have hz2 := hb.size;clear hb k3;have cA8 := A_2.c 8 rfl;have cC8 := C_2.c 8 rfl;by_cases hl : m.pieces.length = z.pieces.length;rotate_left
 ·have hlB : ((m.pieces.length : Int) != (z.pieces.length : Int)) = true := by simp; omega
  have HN := hide (show m ≠ z from fun e => hl (by rw [e]));clear hl;go_wp2_with fail
  go_ret;exact ⟨by rw [decide_eq_false HN.out]; rfl, B_2.out⟩
 have hlB : ((m.pieces.length : Int) != (z.pieces.length : Int)) = false := by simp [hl]
 have HL := hide hl;clear hl;go_wp2_with fail
 clear cA1 cC1 cA2 cC2 cA3 cC3 cA4 cC4 cA5 cC5 cA6 cC6 cA7 cC7 cA8 cC8 cA9 cC9 cA10 cC10 cA11 cC11 eB1 eB2 eB3 eB4 eB5 eB6 eB7 eB8 hlB A_1 C_1 A_0 C_0
 go_loopw [5] (fun i wr => ∃ k : Nat, k ≤ m.pieces.length ∧ i = .int .i64 k ∧ Below w2.heap.size w2 wr ∧ m.pieces.take k = z.pieces.take k) (fun i _ => m.pieces.length - (intOf i).toNat)
 case atStart => exact ⟨0, Nat.zero_le _, rfl, Below.refl _ _, rfl⟩
 case round =>
  obtain ⟨k, hk, rfl, hb, hall⟩ := hrel;have Ha := hide hall;clear hall;have cA8 : wr.cell? ⟨w.heap.size, 8, none⟩ = some (.slice ao2 m.pieces.length cap2) := (A_2.below hb A_2.lt).c 8 rfl;have cC8 : wr.cell? ⟨w.heap.size + 1, 8, none⟩ = some (.slice bo2 z.pieces.length bap2) := (C_2.below hb C_2.lt).c 8 rfl;have HB := hide (Below.step B_2.out hb nl);by_cases hlt : k < m.pieces.length
  ·have hlt' : k < z.pieces.length := by have := HL.out; omega
   obtain ⟨b, o, cp, e1, -, -, h1, h2⟩ := pc_at (VP2.out.below hb) hlt;obtain ⟨b', o', cp', e2, -, -, h1', h2'⟩ := pc_at (UP2.out.below hb) hlt';simp only [Value.slice.injEq, true_and] at e1 e2;obtain ⟨rfl, rfl⟩ := e1;obtain ⟨rfl, rfl⟩ := e2;have HBq := hide hb;clear hb;have HNE := hide (show (m.pieces.getD k pc0 ≠ z.pieces.getD k pc0) → decide (m = z) = false from fun h => decide_eq_false (fun e => h (by rw [e])));have HYE := hide (show (m.pieces.getD k pc0 = z.pieces.getD k pc0) → m.pieces.take (k + 1) = z.pieces.take (k + 1) from fun hq => by
    rw [List.take_succ_eq_append_getElem hlt, List.take_succ_eq_append_getElem hlt', Ha.out];have hq : m.pieces[k] = z.pieces[k] := by simpa [hlt, hlt'] using hq
    rw [hq])
   have HEX := hide (show ∀ a b : Pc, a.l = b.l → a.s = b.s → a = b from fun a b e1 e2 => by cases a; cases b; simp_all);obtain ⟨x0, hx0⟩ : ∃ x, (m.pieces.getD k pc0).l = x := ⟨_, rfl⟩;obtain ⟨y0, hy0⟩ : ∃ x, (z.pieces.getD k pc0).l = x := ⟨_, rfl⟩;rw [hx0] at h1;rw [hy0] at h1';have HX0 := hide hx0;have HY0 := hide hy0;clear hx0 hy0;obtain ⟨x1, hx1⟩ : ∃ x, (m.pieces.getD k pc0).s = x := ⟨_, rfl⟩;obtain ⟨y1, hy1⟩ : ∃ x, (z.pieces.getD k pc0).s = x := ⟨_, rfl⟩;rw [hx1] at h2;rw [hy1] at h2';have HX1 := hide hx1;have HY1 := hide hy1;clear hx1 hy1;have hi1 : (k : Int) < (m.pieces.length : Int) := by omega
   have hi2 : (k : Int) < (z.pieces.length : Int) := by omega
   by_cases q0 : x0 = y0;rotate_left
   ·have qB0 : (x0 == y0) = false := by simpa using q0
    have HN := hide (HNE.out (fun e => q0 (by have := congrArg Pc.l e; rw [HX0.out, HY0.out] at this; exact this)));clear q0;go_wp2_with fail
    go_quiet (fail)
    go_wp2_with fail
    go_ret;exact ⟨by rw [HN.out]; rfl, below_drewN HB.out _⟩
   subst q0;by_cases q1 : x1 = y1;rotate_left
   ·have qB1 : (x1 == y1) = false := by simpa using q1
    have HN := hide (HNE.out (fun e => q1 (by have := congrArg Pc.s e; rw [HX1.out, HY1.out] at this; exact this)));clear q1;go_wp2_with fail
    go_quiet (fail)
    go_wp2_with fail
    go_ret;exact ⟨by rw [HN.out]; rfl, below_drewN HB.out _⟩
   subst q1;have HT := hide (HYE.out (HEX.out _ _ (by rw [HX0.out, HY0.out]) (by rw [HX1.out, HY1.out])));go_wp2_with fail
   go_quiet (fail)
   go_wp2_with fail
   go_roundw
   case rel => exact ⟨k + 1, by omega, by go_num, below_drewN HBq.out _, HT.out⟩
   case measure => simp [intOf]; omega
  ·have hge : ¬ (k : Int) < (m.pieces.length : Int) := by omega
   have e : m = z := by
    have h8 : m.pieces = z.pieces := by
     have := Ha.out;rw [List.take_of_length_le (by omega), List.take_of_length_le (by have := HL.out; omega)] at this;exact this
    obtain ⟨st, ⟨r1, r2, r3, r4, r5, r6⟩, sd, pc, lw, hg, sc⟩ := m;obtain ⟨st', ⟨r1', r2', r3', r4', r5', r6'⟩, sd', pc', lw', hg', sc'⟩ := z;have t0 := E0.out; have t1 := E1.out; have t2 := E2.out; have t3 := E3.out; have t4 := E4.out; have t5 := E5.out; have t6 := E6.out; have t7 := E7.out; have t8 := E8.out; have t9 := E9.out;dsimp only at t0 t1 t2 t3 t4 t5 t6 t7 t8 t9 h8;rw [t0, t1, t2, t3, t4, t5, t6, t7, t8, t9.1, t9.2, h8]
   have HN := hide (decide_eq_true e);clear e hb;go_wp2_with fail
   go_ret;exact ⟨by rw [HN.out]; rfl, HB.out⟩
theorem noMill_any (s p l h : Value) (m : Mi) (w : World) (H : MillIn 0 w.heap.size w s p l h m) :
 Calls Tryz.prog 19 #[millV s p l h m] w fun e w' => e = .returned (.bool (decide (m = mi0))) ∧ Below w.heap.size w w' := by
 have HH := hide H;obtain ⟨ao1, cap1, rfl, -, -, -, -⟩ := id H.store;obtain ⟨ao2, cap2, rfl, -, -, -, -⟩ := id H.pieces;obtain ⟨ao3, cap3, rfl, -, -, -, -⟩ := id H.low;obtain ⟨ao4, cap4, rfl, -, -, -, -⟩ := id H.high;clear H;unfold millV;go_enter Tryz.func19, Tryz.ntmps19;go_wp2_with fail
 refine calls_at fun wx hwx => ?_;have hb : Below w.heap.size w wx := by rw [hwx]; go_grown
 have V_0 := HH.out.below hb;have B_0 := hide hb;clear hwx hb;have k1 := sameMill_any _ _ _ _ _ _ _ _ m mi0 wx V_0.all (millGot_zero nl mi0 rfl rfl rfl rfl).all;refine k1.mono ?_;rintro e w1 ⟨rfl, hb⟩;have B_1 := hide (Below.step B_0.out hb nl);clear hb k1;go_wp2_with fail
 go_ret;exact ⟨rfl, B_1.out⟩
theorem ext_data (s : ByteArray) (f k : Nat) : (s.extract f k).data.toList = (s.data.toList.drop f).take (k - f) := Lib.extract_data s f k
def nlB : ByteArray := ⟨#[10]⟩
def goodJ (d : J) : Bool := (dtJ d).size != 0
def textTo (l : List J) : Nat → ByteArray
 | 0 => ⟨#[]⟩
 | k + 1 => textTo l k ++ dtJ (l.getD k ⟨0, 0, 0⟩) ++ nlB
def jtR (l : List J) : ByteArray := if decide (l.length ≤ 99) && l.all goodJ then textTo l l.length else ⟨#[]⟩
theorem rdL_iff {l : List UInt8} {d : J} : rdL l = some d ↔ l ≠ [] ∧ (dtJ d).data.toList = l := by
 unfold rdL;rw [Option.map_eq_some_iff];have hd : (⟨l.toArray⟩ : ByteArray).data.toList = l := by simp
 have hsz : (⟨l.toArray⟩ : ByteArray).size = l.length := by rw [← size_len, hd]
 constructor
 ·rintro ⟨⟨k, o, t⟩, h, rfl⟩
  obtain ⟨h1, h2⟩ := (rdI_iff (parts_cut _) k o t).1 h;refine ⟨fun e => h1 (by rw [hsz, e]; rfl), ?_⟩;show (dtB k o t).data.toList = l
  rw [h2, hd]
 ·rintro ⟨h1, h2⟩
  refine ⟨(d.s, d.d, d.g), (rdI_iff (parts_cut _) d.s d.d d.g).2 ⟨?_, ?_⟩, rfl⟩
  ·rw [hsz]; exact fun e => h1 (List.length_eq_zero_iff.1 e)
  ·apply ext_list; rw [hd]; exact h2
theorem rj_line {f : Nat} {d : J} {a l : List UInt8} (hd : rdL a = some d) (h : 10 ∉ a) : rjGo (f + 1) (a ++ 10 :: l) = (d :: (rjGo f l).1, a.length + 1 + (rjGo f l).2) := by
 have hm : 10 ∈ a ++ 10 :: l := by simp
 rw [rjGo, if_pos hm, tw_app h, hd];simp only;rw [show (a ++ 10 :: l).drop (a.length + 1) = l by rw [List.drop_append]; simp]
theorem rj_cases (f : Nat) (l : List UInt8) : rjGo f l = ([], 0) ∨ ∃ f' d a r, f = f' + 1 ∧ l = a ++ 10 :: r ∧ 10 ∉ a ∧ rdL a = some d ∧ rjGo f l = (d :: (rjGo f' r).1, a.length + 1 + (rjGo f' r).2) := by
 cases f with
 | zero => exact .inl rfl
 | succ f =>
  by_cases h : 10 ∈ l
  ·obtain ⟨a, r, rfl, hn⟩ := split10 h
   cases hd : rdL a with
   | none =>
    left;rw [rjGo, if_pos h, tw_app hn, hd]
   | some d => exact .inr ⟨f, d, a, r, rfl, rfl, hn, hd, rj_line hd hn⟩
  ·left
   rw [rjGo, if_neg h]
theorem rj_le : ∀ (f : Nat) (l : List UInt8), (rjGo f l).2 ≤ l.length ∧ (rjGo f l).1.length ≤ f ∧ (rjGo f l).1.length ≤ (rjGo f l).2 := by
 intro f
 induction f with
 | zero => intro l; simp [rjGo]
 | succ f ih =>
  intro l;rcases rj_cases (f + 1) l with e | ⟨f', d, a, r, hf, rfl, hn, hd, e⟩
  ·rw [e]; simp
  ·obtain rfl : f = f' := by omega
   have := ih r;rw [e];simp only [List.length_append, List.length_cons]; omega
theorem rj_take : ∀ (f : Nat) (l : List UInt8) (k : Nat), (rjGo f (l.take k)).1 = (rjGo f l).1.take (rjGo f (l.take k)).1.length ∧ (rjGo f (l.take k)).1.length ≤ (rjGo f l).1.length ∧ (rjGo f (l.take k)).2 ≤ (rjGo f l).2 := by
 intro f
 induction f with
 | zero => intro l k; simp [rjGo]
 | succ f ih =>
  intro l k;rcases rj_cases (f + 1) (l.take k) with e | ⟨f', d, a, r, hf, hl, hn, hd, e⟩
  ·rw [e]; simp
  ·obtain rfl : f = f' := by omega
   have hk : a.length + 1 ≤ k ∧ l = a ++ 10 :: l.drop (a.length + 1) ∧ r = (l.drop (a.length + 1)).take (k - (a.length + 1)) := by
    have hlen : (l.take k).length = a.length + 1 + r.length := by rw [hl]; simp; omega
    rw [List.length_take] at hlen;have h1 : a.length + 1 ≤ k := by omega
    have h2 : l.take (a.length + 1) = a ++ [10] := by
     have := congrArg (List.take (a.length + 1)) hl;rw [List.take_take, Nat.min_eq_left h1] at this;rw [this, show a ++ 10 :: r = (a ++ [10]) ++ r by simp, List.take_left' (by simp)]
    refine ⟨h1, ?_, ?_⟩
    ·conv => lhs; rw [← List.take_append_drop (a.length + 1) l, h2]
     simp
    ·have := congrArg (List.drop (a.length + 1)) hl
     rw [show a ++ 10 :: r = (a ++ [10]) ++ r by simp, List.drop_left' (by simp), List.drop_take] at this;exact this.symm
   obtain ⟨h1, h2, h3⟩ := hk;have e2 : rjGo (f + 1) l = (d :: (rjGo f (l.drop (a.length + 1))).1, a.length + 1 + (rjGo f (l.drop (a.length + 1))).2) := by
    rw [h2, rj_line hd hn, ← h2]
   obtain ⟨i1, i2, i3⟩ := ih (l.drop (a.length + 1)) (k - (a.length + 1));rw [← h3] at i1 i2 i3;rw [e, e2];simp only [List.length_cons, List.take_succ_cons];refine ⟨by rw [← i1], by omega, by omega⟩
theorem textTo_data (l : List J) : ∀ k, k ≤ l.length → (textTo l k).data.toList = ((l.take k).map fun d => (dtJ d).data.toList ++ [10]).flatten
 | 0, _ => by simp [textTo]
 | k + 1, hk => by
  have ih := textTo_data l k (by omega);have hg : l.getD k ⟨0, 0, 0⟩ = l[k] := by simp [List.getD, List.getElem?_eq_getElem (show k < l.length by omega)]
  rw [textTo, hg];simp only [ByteArray.data_append, Array.toList_append, ih];rw [List.take_succ_eq_append_getElem (show k < l.length by omega), List.map_append, List.flatten_append];simp [nlB, -List.map_take]
theorem jt_good {l : List J} (h : (jtR l).size ≠ 0) : l.length ≤ 99 ∧ (∀ d ∈ l, goodJ d = true) ∧ jtR l = textTo l l.length := by
 unfold jtR at h ⊢;split at h
 ·rename_i hc
  rw [Bool.and_eq_true, decide_eq_true_iff, List.all_eq_true] at hc;exact ⟨hc.1, hc.2, by rw [if_pos (by rw [Bool.and_eq_true, decide_eq_true_iff, List.all_eq_true]; exact hc)]⟩
 ·exact absurd rfl h
theorem rj_back : ∀ (f : Nat) (l : List UInt8), (∀ d ∈ (rjGo f l).1, goodJ d = true) ∧ ((rjGo f l).1.map fun d => (dtJ d).data.toList ++ [10]).flatten = l.take (rjGo f l).2 := by
 intro f
 induction f with
 | zero => intro l; simp [rjGo]
 | succ f ih =>
  intro l;rcases rj_cases (f + 1) l with e | ⟨f', d, a, r, hf, rfl, hn, hd, e⟩
  ·rw [e]; simp
  ·obtain rfl : f = f' := by omega
   obtain ⟨i1, i2⟩ := ih r;obtain ⟨d1, d2⟩ := rdL_iff.1 hd;rw [e];constructor
   ·intro x hx
    rcases List.mem_cons.1 hx with rfl | hx
    ·unfold goodJ
     rw [bne_iff_ne, ← size_len, d2];exact fun e => d1 (List.length_eq_zero_iff.1 e)
    ·exact i1 x hx
   ·simp only [List.map_cons, List.flatten_cons, d2, i2]
    rw [show a ++ 10 :: r = (a ++ [10]) ++ r by simp, show a.length + 1 + (rjGo f r).2 = (a ++ [10]).length + (rjGo f r).2 by simp];rw [List.take_length_add_append]
theorem rj_good (s : ByteArray) : ∀ d ∈ (rjR s).1, goodJ d = true := (rj_back 99 s.data.toList).1
theorem jt_back (s : ByteArray) : (jtR (rjR s).1).data.toList = s.data.toList.take (rjR s).2 := by
 obtain ⟨h1, h2⟩ := rj_back 99 s.data.toList;have hl := (rj_le 99 s.data.toList).2.1;unfold jtR;rw [if_pos (by rw [Bool.and_eq_true, decide_eq_true_iff, List.all_eq_true]; exact ⟨hl, h1⟩), textTo_data _ _ nl, List.take_of_length_le nl];exact h2
theorem textTo_len (l : List J) : ∀ k, (textTo l k).size ≤ 61 * k
 | 0 => by show (⟨#[]⟩ : ByteArray).size ≤ 0; decide
 | k + 1 => by
  have h1 := textTo_len l k;have h2 := dtJ_len (l.getD k ⟨0, 0, 0⟩);have h3 : nlB.size = 1 := rfl;simp only [textTo, ByteArray.size_append]; omega
theorem jt_of {l : List J} (h1 : l.length ≤ 99) (h2 : ∀ k, k < l.length → goodJ (l.getD k ⟨0, 0, 0⟩) = true) : jtR l = textTo l l.length := by
 unfold jtR;rw [if_pos];rw [Bool.and_eq_true, decide_eq_true_iff, List.all_eq_true];refine ⟨h1, fun d hd => ?_⟩;obtain ⟨k, hk, rfl⟩ := List.getElem_of_mem hd;have := h2 k hk
 rwa [List.getD_eq_getElem?_getD, List.getElem?_eq_getElem hk] at this
theorem jt_bad {l : List J} {k : Nat} (hk : k < l.length) (h2 : goodJ (l.getD k ⟨0, 0, 0⟩) = false) : jtR l = ⟨#[]⟩ := by
 unfold jtR;rw [if_neg];rw [Bool.and_eq_true, List.all_eq_true];rintro ⟨-, h⟩;have := h _ (List.getElem_mem hk);rw [List.getD_eq_getElem?_getD, List.getElem?_eq_getElem hk] at h2;rw [show goodJ l[k] = false from h2] at this;cases this
theorem jt_long {l : List J} (h : 99 < l.length) : jtR l = ⟨#[]⟩ := by
 unfold jtR;rw [if_neg];rw [Bool.and_eq_true, decide_eq_true_iff];omega
theorem good_size {d : J} : (dtJ d).toList.isEmpty = !goodJ d := by
 unfold goodJ;rw [ByteArray.toList_eq];cases h : (dtJ d).data.toList with
 | nil =>
  have : (dtJ d).size = 0 := by rw [← size_len, h]; rfl
  simp [this]
 | cons a l =>
  have : (dtJ d).size ≠ 0 := by rw [← size_len, h]; simp
  simp [this]
theorem journalText_spec (v : Value) (js : List J) (lo hi : Nat) (w : World) (H : JobsAt lo hi w v js) :
 Calls Tryz.prog 60 #[v] w fun e w' => e = .returned (.string (jtR js)) ∧ Below w.heap.size w w' := by
 have hjl := H.len;obtain ⟨ao, cap, rfl, hlc, hcap, hhi, hc⟩ := H;have HC := hide hc;clear hc;go_enter Tryz.func60, Tryz.ntmps60;go_wp2_with fail
 go_loopw [3, 4] (fun s i wr => ∃ k : Nat, k ≤ js.length ∧ i = .int .i64 k ∧ s = .string (textTo js k) ∧ Below w.heap.size w wr ∧ (∀ j, j < k → goodJ (js.getD j ⟨0, 0, 0⟩) = true) ∧ (k = 0 ∨ js.length ≤ 99)) (fun _ i _ => js.length - (intOf i).toNat)
 case atStart => exact ⟨0, Nat.zero_le _, rfl, rfl, Below.refl _ _, fun _ h => absurd h (Nat.not_lt_zero _), .inl rfl⟩
 case round =>
  obtain ⟨k, hk, rfl, rfl, hb, hall, hko⟩ := hrel;have HB := hide hb;have HA := hide hall;have HK := hide hko;clear hall hko;by_cases hlt : k < js.length
  ·obtain ⟨b, o, rfl, -, hblt, hcs⟩ := HC.out (by omega)
   obtain ⟨⟨r1, r2, r3⟩, -⟩ := hcs k hlt;rw [← hb.cell (p := ⟨b, _, none⟩) (Nat.lt_of_lt_of_le hblt hhi)] at r1 r2 r3;have hg : js.getD k ⟨0, 0, 0⟩ = js[k] := by simp [hlt]
   obtain ⟨x, hx⟩ : ∃ x, js[k].s = x := ⟨_, rfl⟩;obtain ⟨y, hy⟩ : ∃ y, js[k].d = y := ⟨_, rfl⟩;obtain ⟨z, hz'⟩ : ∃ z, js[k].g = z := ⟨_, rfl⟩;have hd : js.getD k ⟨0, 0, 0⟩ = ⟨x, y, z⟩ := by rw [hg, ← hx, ← hy, ← hz']
   rw [hx] at r1;rw [hy] at r2;rw [hz'] at r3;have hkI : (k : Int) < (js.length : Int) := by omega
   have HD := hide hd;have hbb : b < wr.heap.size := Nat.lt_of_lt_of_le (Nat.lt_of_lt_of_le hblt hhi) hb.size;clear hcs hx hy hz' hg hd hb;go_wp2_with fail
   refine (dt_spec x y z _).mono ?_;rintro e w1 ⟨rfl, hb1⟩;rw [← hb1.cell (p := ⟨b, _, none⟩) hbb] at r1 r2 r3;have HB1 := hide (Below.step HB.out hb1 nl);have hds := dt_spec x y z w1;have he := good_size (d := ⟨x, y, z⟩);obtain ⟨D, hD⟩ : ∃ D : ByteArray, dtB x y z = D := ⟨_, rfl⟩;have hDj : dtJ ⟨x, y, z⟩ = D := hD;rw [hDj] at he;rw [hD] at hds ⊢;have hDl : D.size ≤ 60 := by rw [← hDj]; exact dtJ_len _
   have htl := textTo_len js k;have HT := hide (show textTo js (k + 1) = textTo js k ++ D ++ nlB by rw [textTo, HD.out, hDj]);clear hb1 hD;cases hgd : goodJ ⟨x, y, z⟩ with
   | false =>
    rw [hgd] at he;have HJ := hide (jt_bad hlt (by rw [HD.out]; exact hgd));clear hDj hgd;go_wp2_with fail
    go_ret;exact ⟨by rw [HJ.out]; rfl, HB1.out⟩
   | true =>
    rw [hgd] at he;have HA2 := hide (upTo_snoc HA.out (by rw [HD.out]; exact hgd));clear hDj hgd;by_cases hlong : 99 < js.length
    ·have hlI : (99 : Int) < (js.length : Int) := by omega
     have HJ := hide (jt_long hlong);go_wp2_with fail
     go_ret;exact ⟨by rw [HJ.out]; rfl, HB1.out⟩
    have hlI : ¬ (99 : Int) < (js.length : Int) := by omega
    go_wp2_with fail
    refine hds.mono ?_;rintro e w2 ⟨rfl, hb2⟩;have HB2 := hide (Below.step HB1.out hb2 nl);have hs1 : ¬ 9223372036854775807 < (textTo js k).size + D.size := by omega
    have hs2 : ¬ 9223372036854775807 < (textTo js k ++ D).size + (⟨#[10]⟩ : ByteArray).size := by
     rw [ByteArray.size_append, show (⟨#[10]⟩ : ByteArray).size = 1 from rfl]; omega
    clear hb2 hds r1 r2 r3;go_wp2_with fail
    go_roundw
    case rel => exact ⟨k + 1, by omega, by go_num, by rw [HT.out]; rfl, HB2.out, HA2.out, .inr (by omega)⟩
    case measure => simp [intOf]; omega
  ·obtain rfl : k = js.length := by omega
   have HJ := hide (show jtR js = textTo js js.length from jt_of (by rcases HK.out with h | h <;> omega) HA.out);clear hb;go_wp2_with fail
   go_ret;exact ⟨by rw [HJ.out]; rfl, HB.out⟩
def sixL : List Value := [.string ⟨#[]⟩, .string ⟨#[48]⟩, .string ⟨#[32]⟩, .string ⟨#[10]⟩, .string ⟨#[57]⟩, .string ⟨#[109, 101, 108, 116]⟩]
theorem six_at : ∀ j, j < 6 → ∃ z : ByteArray, sixL[j]? = some (.string z) ∧ z.size ≤ 4
 | 0, _ => ⟨_, rfl, by decide⟩
 | 1, _ => ⟨_, rfl, by decide⟩
 | 2, _ => ⟨_, rfl, by decide⟩
 | 3, _ => ⟨_, rfl, by decide⟩
 | 4, _ => ⟨_, rfl, by decide⟩
 | 5, _ => ⟨_, rfl, by decide⟩
 | n + 6, h => absurd h (by omega)
theorem six_cell (w : World) (j : Nat) (z : ByteArray) (h : sixL[j]? = some (.string z)) : (w.alloc (.cells #[.string ⟨#[]⟩, .string ⟨#[48]⟩, .string ⟨#[32]⟩, .string ⟨#[10]⟩, .string ⟨#[57]⟩, .string ⟨#[109, 101, 108, 116]⟩] 9)).cell? ⟨w.heap.size, j, none⟩ = some (.string z) := by
 have := lit_cells w sixL 9 j _ h;rw [adds] at this;exact this
def SpoilGot (R k : Nat) (s : ByteArray) (w : World) (e : Ending) (w' : World) : Prop :=
 ∃ t : ByteArray, e = .returned (.string t) ∧ t.size ≤ s.size + 10 ∧ Other R (R + 1) w w' ∧ Rd R (k + 2) w'
theorem spoil_any (R k : Nat) (s : ByteArray) (w : World) (h : Rd R k w) (hk : k ≤ 900000) (hs : s.size ≤ 100000) :
 Calls Tryz.prog 62 #[.pointer (some ⟨R, 0, none⟩), .string s] w (SpoilGot R k s w) := by
 have HR := hide h;have hRl := h.lt;clear h;by_cases hz : s.size = 0
 ·have hzB : ((s.size : Int) == 0) = true := by simp [hz]
  go_enter Tryz.func62, Tryz.ntmps62;go_wp2_with fail
  go_ret;exact ⟨⟨#[10]⟩, rfl, Nat.le_trans (show (⟨#[10]⟩ : ByteArray).size ≤ 10 by decide) (Nat.le_add_left _ _), Other.refl _ _ _, HR.out.mono (by omega)⟩
 have hzB : ((s.size : Int) == 0) = false := by rw [beq_eq_false_iff_ne]; omega
 go_enter Tryz.func62, Tryz.ntmps62;go_wp2_with fail
 refine (pick_in R k (s.size : Int) w HR.out (by omega) (by omega) (by omega)).mono ?_;rintro e w1 ⟨x, rfl, p1, p2, ho, hr1⟩;obtain ⟨i, rfl⟩ : ∃ i : Nat, x = i := ⟨x.toNat, by omega⟩;have T_1 := hide ho;have hz1 := ho.size;have hR1 := hr1.lt;have hi0 : (0 : Int) ≤ (i : Int) := by omega
 have hi1 : (i : Int) ≤ (s.size : Int) := by omega
 have hi2 : ((i + 1 : Nat) : Int) ≤ (s.size : Int) := by omega
 have hi3 : (0 : Int) ≤ ((i + 1 : Nat) : Int) := by omega
 have hw : IntKind.i64.wrap ((i : Int) + 1) = ((i + 1 : Nat) : Int) := by rw [IntWalk.i64_in] <;> omega
 have HRD := hide (show Rd R (k + 1) w1.drew from hr1.drewN 1);have HRA := hide (show Rd R (k + 1) (w1.alloc (.cells #[.string ⟨#[]⟩, .string ⟨#[48]⟩, .string ⟨#[32]⟩, .string ⟨#[10]⟩, .string ⟨#[57]⟩, .string ⟨#[109, 101, 108, 116]⟩] 9)).drew from
  hr1.keep (B := w1.heap.size) (((Below.refl _ _).alloc nl _).drew) hR1)
 have hA : (s.extract 0 i).size ≤ s.size := by rw [ByteArray.size_extract]; omega
 have hC : (s.extract (i + 1) s.size).size ≤ s.size := by rw [ByteArray.size_extract]; omega
 have hAC : (s.extract 0 i).size + (s.extract (i + 1) s.size).size ≤ s.size := by rw [ByteArray.size_extract, ByteArray.size_extract]; omega
 obtain ⟨A, hAe⟩ : ∃ A, s.extract 0 i = A := ⟨_, rfl⟩;obtain ⟨C, hCe⟩ : ∃ C, s.extract (i + 1) s.size = C := ⟨_, rfl⟩;rw [hAe] at hA hAC;rw [hCe] at hC hAC;have hS := fun (z : ByteArray) (h : z.size ≤ 4) => (show ¬ 9223372036854775807 < A.size + z.size by omega);have hS2 := fun (z : ByteArray) (h : z.size ≤ 4) => (show ¬ 9223372036854775807 < (A ++ z).size + C.size by rw [ByteArray.size_append]; omega);have HS := hide hS;have HS2 := hide hS2;have HCA := hide (show ∀ (j : Nat) (z : ByteArray), sixL[j]? = some (.string z) → (w1.alloc (.cells #[.string ⟨#[]⟩, .string ⟨#[48]⟩, .string ⟨#[32]⟩, .string ⟨#[10]⟩, .string ⟨#[57]⟩, .string ⟨#[109, 101, 108, 116]⟩] 9)).drew.cell? ⟨w1.heap.size, j, none⟩ = some (.string z) from fun j z h => six_cell w1 j z h);clear ho hr1 p1 hS hS2 hzB;go_wp2_with fail
 go_region_with (first
  | (go_at_call 61; refine (pick_in R (k + 1) 6 _ (by first | with_reducible exact HRD.out | with_reducible exact HRA.out) (by omega) (by omega) (by omega)).mono ?_; rintro e w2 ⟨y, rfl, q1, q2, ho2, hr2⟩; obtain ⟨j, rfl⟩ : ∃ j : Nat, y = j := ⟨y.toNat, by omega⟩; obtain ⟨z, hz6, hzl⟩ := six_at j (by omega); have hs1 := HS.out z hzl; have hs2 := HS2.out z hzl; have cB := six_cell w2 j z hz6; (try have cA : w2.cell? ⟨w1.heap.size, j, none⟩ = some (.string z) := (by rw [World.cell?_of_block (ho2.block w1.heap.size (by simp) (.inr (by omega)))]; with_reducible exact HCA.out j z hz6)); clear hz6))
 all_goals
  go_wp2_with fail
  go_ret;refine ⟨_, rfl, by rw [ByteArray.size_append, ByteArray.size_append]; omega, ?_, ?_⟩
  ·first
    | with_reducible exact (Other.step T_1.out (((Below.refl _ _).alloc nl _).drew) hz1).trans ho2
    | exact Other.step ((Other.drew T_1.out).trans ho2) ((Below.refl _ _).alloc nl _) (Nat.le_trans hz1 ho2.size)
  ·first
    | with_reducible exact hr2
    | exact hr2.keep (B := w2.heap.size) ((Below.refl _ _).alloc nl _) hr2.lt
theorem good_small {j : J} (h : goodJ j = true) : j.d ≤ 9223372036854775807 ∧ j.g ≤ 9223372036854775807 := by
 obtain ⟨-, h1, h2, -⟩ := good_parts (k := j.s) (o := j.d) (t := j.g) (s := dtJ j) (by simpa [goodJ] using h) rfl;rw [wi_iff] at h1 h2;omega
theorem rj_small (s : ByteArray) : ∀ j ∈ (rjR s).1, j.d ≤ 9223372036854775807 ∧ j.g ≤ 9223372036854775807 := fun j hj => good_small (rj_good s j hj)
def replayR (m : Mi) (s : ByteArray) : Mi × Int := if millB m then ((runR m (rjR s).1).1, ((rjR s).1.length : Int)) else (mi0, 0)
theorem replay_bad {m : Mi} (h : millB m = false) (s : ByteArray) : replayR m s = (mi0, 0) := by
 unfold replayR;rw [if_neg (by simp [h])]
theorem replay_good {m : Mi} (h : millB m = true) (s : ByteArray) : replayR m s = ((runR m (rjR s).1).1, ((rjR s).1.length : Int)) := by
 unfold replayR;rw [if_pos h]
theorem rj_pre (s : ByteArray) (k : Nat) : (rjR (s.extract 0 k)).1 = (rjR s).1.take (rjR (s.extract 0 k)).1.length ∧ (rjR (s.extract 0 k)).1.length ≤ (rjR s).1.length ∧ (rjR (s.extract 0 k)).2 ≤ k := by
 have h1 := rj_take 99 s.data.toList k;have h2 := (rj_le 99 (s.data.toList.take k)).1;unfold rjR;rw [ext_data, List.drop_zero, Nat.sub_zero];refine ⟨h1.1, h1.2.1, ?_⟩;rw [List.length_take] at h2;omega
theorem rj_fits (s : ByteArray) : (rjR s).2 ≤ s.size ∧ (rjR s).1.length ≤ 99 ∧ jtR (rjR s).1 = s.extract 0 (rjR s).2 := by
 have h2 := rj_le 99 s.data.toList;refine ⟨?_, h2.2.1, ext_list ?_⟩
 ·have := h2.1
  rwa [size_len] at this
 ·rw [jt_back, ext_data, List.drop_zero, Nat.sub_zero]
theorem sm_yes {f : FuncId} {args : Array Value} {m z : Mi} {w : World} (h : Calls Tryz.prog f args w fun e w' => e = .returned (.bool (decide (m = z))) ∧ Below w.heap.size w w') (hv : m = z) : Calls Tryz.prog f args w fun e w' => e = .returned (.bool true) ∧ Below w.heap.size w w' := by
 rw [decide_eq_true hv] at h;exact h
theorem ms_is {f : FuncId} {args : Array Value} {x m : Mi} {w : World} (h : Calls Tryz.prog f args w fun e w' => e = .returned (.int .i64 (massR x)) ∧ Below w.heap.size w w') (hv : massR x = massR m) : Calls Tryz.prog f args w fun e w' => e = .returned (.int .i64 (massR m)) ∧ Below w.heap.size w w' := by
 rw [hv] at h;exact h
end Go.Proofs.YtmemgbklgcjobaaGreatDoor
