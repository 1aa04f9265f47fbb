/-
  Parts of the proofs over mills, of: DrawMB, CutN, MethF, DoS1, BoxN, SepG. Conditions: each theorem states its own.
-/
import Derived.Test.YtkhecelpafojdaaGreatDoorF27
import Derived.Test.YtkhecelpafojdaaGreatDoorF29
import Derived.Test.YtkhecelpafojdaaGreatDoorF30
import Derived.Test.YtkhecelpafojdaaGreatDoorF33
set_option linter.unusedSimpArgs false
set_option linter.unusedVariables false
set_option maxRecDepth 10000
set_option maxHeartbeats 64000000
namespace Go.Proofs.YtkhecelpafojdaaGreatDoor
open Go.RowKit
def StuffsGot (R k : Nat) (w : World) (e : Ending) (w' : World) : Prop :=
 ∃ v xs, e = .returned v ∧ xs.length ≤ 4 ∧ dY xs = true ∧ w'.ownsRow w.heap.size 99 5 v xs.length (bB xs) ∧ ai R (R + 1) w w' ∧ Rd R (k + 22) w'
theorem stsB_app {xs : List St} {s : St} (h : dY xs = true) (hl : xs.length ≤ 3) (hs : stB s = true) : dY (xs ++ [s]) = true := by
 unfold dY at h ⊢;simp only [Bool.and_eq_true, decide_eq_true_eq, List.all_append, List.length_append, List.length_cons, List.length_nil, List.all_cons, List.all_nil, Bool.and_true] at h ⊢;exact ⟨by omega, h.2, hs⟩
theorem l20Stuffs_any (R k : Nat) (w : World) (h : Rd R k w) (hk : k ≤ 50000) :
 Calls Tryz.prog 56 #[.pointer (some ⟨R, 0, none⟩), .int .i64 0] w (StuffsGot R k w) := by
 obtain ⟨i0, hi0, hz0, hi1, hi2⟩ := info_parts info_St;have HR := hide h;have hlt := h.lt;clear h;go_enter Tryz.func56, Tryz.ntmps56;go_wp2_with fail
 refine aj fun wx hwx => ?_;have O_0 : wx.ownsRow w.heap.size 99 5 (.slice (some ⟨w.heap.size, 0, none⟩) 0 0) 0 [] := by rw [hwx]; simpa using World.ownsRow_lit (e := 99) (size := 5) (base := w.heap.size) w #[] 0 nl (by unfold maxLen; omega) (by simp)
 have hbx : Below w.heap.size w wx := by rw [hwx]; exact (Below.refl _ _).alloc nl _
 have HO0 := hide (ai.of_below (lo := R) (hi := R + 1) hbx);have HR0 := hide (HR.out.keep hbx hlt);clear hwx hbx;have HKO := hide (show ∀ (W W' : World) (u : Value) (m : Nat) (cs : List Value), W.ownsRow w.heap.size 99 5 u m cs → ai R (R + 1) W W' → W'.ownsRow w.heap.size 99 5 u m cs from fun _ _ _ _ _ h k => bJ h k fun g hg => .inr (Nat.lt_of_lt_of_le hlt (h.lt g hg).1));refine (aH R _ 4 wx HR0.out (by omega) (by omega) (by omega)).mono ?_;rintro e w1 ⟨x, rfl, x0, x1, ho, hr⟩;have O_1 := HKO.out _ _ _ _ _ O_0 ho;have HO1 := hide (HO0.out.trans ho);have HR1 := hide hr;clear ho hr O_0;go_wp2_with fail
 refine (aH R _ 2 w1 HR1.out (by omega) (by omega) (by omega)).mono ?_;rintro e w2 ⟨y, rfl, y0, y1, ho, hr⟩;have O_2 := hide (HKO.out _ _ _ _ _ O_1 ho);have HO2 := hide (HO1.out.trans ho);have HR2 := hide hr;clear ho hr O_1;obtain ⟨c, hc, hc4⟩ : ∃ c : Nat, x + y = c ∧ c ≤ 4 := ⟨(x + y).toNat, by omega, by omega⟩;have hwr : IntKind.i64.wrap (x + y) = (c : Int) := by rw [hc]; exact IntWalk.i64_in _ (by omega)
 go_wp2_with fail
 go_loopw [5, 6] (fun o i wr => ∃ (c : Nat) (xs : List St), i = .int .i64 c ∧ c + xs.length ≤ 4 ∧ dY xs = true ∧ Rd R (k + 2 + 5 * xs.length) wr ∧ ai R (R + 1) w wr ∧ wr.ownsRow w.heap.size 99 5 o xs.length (bB xs)) (fun _ i _ => (intOf i).toNat)
 case atStart => exact ⟨c, [], by first | rfl | (rw [hc]) | (simp [hc]), by simp; omega, rfl, HR2.out, HO2.out, O_2.out⟩
 case round =>
  obtain ⟨c, xs, rfl, hcl, hst, hr, hb, hown⟩ := hrel;have HB := hide hb;have HO := hide hown;have HR := hide hr;have HS := hide hst;obtain ⟨aow, capw, rfl, -, -⟩ := aB hown;clear hr hb hown hst;by_cases hc : 0 < c
  ·obtain ⟨d, rfl⟩ : ∃ d, c = d + 1 := ⟨c - 1, by omega⟩
   have hcI : (0 : Int) < ((d + 1 : Nat) : Int) := by omega
   go_wp2_with fail
   refine (l20Stuff_any R _ wr HR.out (by omega)).mono ?_;rintro e w3 ⟨s, rfl, hs, ho, hr3⟩;have HO3 := hide (HKO.out _ _ _ _ _ HO.out ho);have HB3 := hide (HB.out.trans ho);have HS3 := hide (stsB_app HS.out (by omega) hs);have HR3 := hide hr3;have hz3 := HB3.out.size;clear ho hr3 hs;go_wp2_with (at_builtin; refine aA rfl _ _ 23 rfl w.heap.size 99 i0 _ 5 40 Tryz.underlying23 hi0 hz0 hi1 hi2 rfl (by decide) _ _ _ rfl (HO3.out.alloc _) (.slice (some ⟨w3.heap.size, 0, none⟩) 1 1) 1 (bB [s]) rfl ?c0 ?c1 ?c2 ?c3 ?_)
   case c0 => exact Source.lit w3 (bB [s]) 5 99 1 rfl (flatS_one _) 1
   case c1 => unfold maxLen; omega
   case c2 => omega
   case c3 => simp; omega
   intro v2 w4 hown2 hgrow2 _;have hB4 : Below w.heap.size w3 w4 := ((Below.refl _ w3).alloc (by omega) (.cells (bB [s]).toArray 99)).trans (Below.grow hgrow2 (HO3.out.alloc _) nl (by simp; omega));have HB4 := hide (HB3.out.step hB4 nl);have HR4 := hide ((HR3.out.keep hB4 hlt).mono (m := k + 2 + 5 * (xs ++ [s]).length) (by simp; omega));have HO4 := hide (show w4.ownsRow w.heap.size 99 5 v2 (xs ++ [s]).length (bB (xs ++ [s])) by rw [flatS_append, List.length_append]; exact hown2);clear hown2 hgrow2 hB4;go_wp2_with fail
   go_roundw
   case rel => exact ⟨d, xs ++ [s], by go_num, by simp; omega, HS3.out, HR4.out, HB4.out, HO4.out⟩
   case measure => simp [intOf] <;> omega
  ·obtain rfl : c = 0 := by omega
   go_wp2_with fail
   refine (odd_none R wr).mono ?_;rintro e w3 ⟨rfl, hb⟩;have HO3 := hide (ownsRow_below HO.out hb nl);have HB3 := hide (HB.out.step hb HB.out.size);have HR3 := hide (HR.out.keep hb HR.out.lt);clear hb;go_wp2_with fail
   go_ret;exact ⟨_, xs, rfl, by omega, HS.out, HO3.out, HB3.out, HR3.out.mono (by omega)⟩
theorem cutBest_no (v : Value) (a b : Int) (lo hi L : Nat) (hL : L ≤ 60) (hv : dB a b = false) (w : World) (H : au lo hi w v [a, b]) :
 Calls Tryz.prog 124 #[.int .i64 (L : Int), v] w fun e w' => ∃ g, e = .returned (.slice (some ⟨g, 0, none⟩) 0 0) ∧ Below w.heap.size w w' := by
 have HC := hide (cutLeast_spec v a b lo hi L hL w H);obtain ⟨b0, o0, cap, rfl, h1, h2, -, -⟩ := bK H;clear H;go_enter Tryz.func124, Tryz.ntmps124;go_wp2_with fail
 refine HC.out.mono ?_;rintro e w0 ⟨x, rfl, hx, -, hb0⟩;obtain rfl := hx hv;have HB := hide hb0;clear hb0;go_wp2_with fail
 go_ret;exact ⟨_, rfl, by have := HB.out; first | exact this.alloc this.size _ | go_grown⟩
theorem cut_done {base z : Nat} {w w1 wo wz : World} {s p0 p l h : Value} {x : Mi} (hb : base ≤ w.heap.size) (B1 : Below w.heap.size w w1) (hz : w.heap.size + 1 + 1 ≤ z) (HK : CutK w.heap.size z w1 p0 wo p) (bel : Below base w wo) (G : ak base wo s p l h x) (T : ai w.heap.size (w.heap.size + 1) wo wz)
 (hs : ∀ g, s.ownBlock = some g → g < w.heap.size) (hp0 : ∀ g, p0.ownBlock = some g → g < w.heap.size) (hl : ∀ g, l.ownBlock = some g → g < w.heap.size) (hh : ∀ g, h.ownBlock = some g → g < w.heap.size) (v0 v1 v2 v3 v4 v5 v6 v7 v8 v9 v10 v11 : Value) :
 SpecGot base p0 (x, true) w (.returned (.tuple #[ag s p l h x, .bool true])) (((((((((((((wz).setCell ⟨w.heap.size + 1, 0, none⟩ v0).setCell ⟨w.heap.size + 1, 1, none⟩ v1).setCell ⟨w.heap.size + 1, 2, none⟩ v2).setCell ⟨w.heap.size + 1, 3, none⟩ v3).setCell ⟨w.heap.size + 1, 4, none⟩ v4).setCell ⟨w.heap.size + 1, 5, none⟩ v5).setCell ⟨w.heap.size + 1, 6, none⟩ v6).setCell ⟨w.heap.size + 1, 7, none⟩ v7).setCell ⟨w.heap.size + 1, 8, none⟩ v8).setCell ⟨w.heap.size + 1, 9, none⟩ v9).setCell ⟨w.heap.size + 1, 10, none⟩ v10).setCell ⟨w.heap.size + 1, 11, none⟩ v11) := by
 have T2 := other_two T (aI (w.heap.size + 1) wz v0 v1 v2 v3 v4 v5 v6 v7 v8 v9 v10 v11);refine ⟨⟨_, _, _, _, rfl, G.far T2 (fun g hg => .inl (hs g hg)) (fun g hg => ?_) (fun g hg => .inl (hl g hg)) (fun g hg => .inl (hh g hg)), bel.trans (T2.below (B := base) hb G.hb)⟩, fun B T' vs r hne => ?_⟩
 ·rcases HK.blk g hg with e | e
  ·exact .inl (hp0 g e)
  ·exact .inr (by omega)
 ·have r1 := r.below B1 r.lt
  have hlt := r.lt;have r2 : ae wo B T' vs := World.rowIs.of_block r1 (HK.keep B (by omega) (by omega) hne);exact r2.other T2 (.inl hlt)
theorem cut_spec {base : Nat} {w : World} {s p l h : Value} {m : Mi} (a b : Int) (H : ak base w s p l h m) (hm : dO m) :
 Calls Tryz.prog 80 #[ag s p l h m, .int .i64 a, .int .i64 b] w (SpecGot base p (orOld m (cutD m a b)) w) := by
 obtain ⟨j0, hj0, hzj, hj1, hj2⟩ := info_parts info_Pc;have HH := hide H;have hbz := H.hb;have hst0 := hm.st0;have hst1 := hm.st1;have hsc0 := hm.sc0;have hsc1 := hm.sc1;have hpc := hm.len;obtain ⟨aS, cs, ap, cp, al, cl, ah, ch, rfl, rfl, rfl, rfl⟩ := H.op;obtain ⟨L, hL⟩ : ∃ L : Nat, m.strand = L := ⟨m.strand.toNat, by omega⟩;have hL60 : L ≤ 60 := by omega
 have HL := hide hL;clear H;unfold ag;go_enter Tryz.func80, Tryz.ntmps80;rw [hL];go_wp2_with fail
 refine aj fun wx hwx => ?_;have A_0 : ae wx w.heap.size 31 (az (.slice aS m.store.length cs) (.slice ap m.pieces.length cp) (.slice al m.low.length cl) (.slice ah m.high.length ch) m) := by rw [hwx]; unfold az; rw [hL]; exact ((ae.new _ _ _).alloc _).alloc _
 have R_0 : ae wx (w.heap.size + 1) 31 z12 := by rw [hwx]; exact ae.alloc (by simpa using (ae.new (World.alloc _ _) 31 z12)) _
 have HV := hide (show au (w.heap.size + 1 + 1) wx.heap.size wx (.slice (some ⟨w.heap.size + 1 + 1, 0, none⟩) 2 2) [a, b] by rw [hwx]; exact two_lit _ a b _ (by simp));have B_0 : Below w.heap.size w wx := by rw [hwx]; go_grown
 clear hwx;have hL0 := R_0.lt;have hL2 : w.heap.size + 1 + 1 < wx.heap.size := by
  obtain ⟨_, _, _, _, h3, h4, -, -⟩ := bK HV.out;omega
 cases hlv : dB a b with
 | false =>
  have HN := hide (cutD_no2 (m := m) hlv);refine (cutBest_no _ a b _ _ L hL60 hlv wx HV.out).mono ?_;rintro e w1 ⟨g1, rfl, hb⟩;have A_1 := A_0.below hb A_0.lt;have R_1 := R_0.below hb R_0.lt;have B_1 := bs B_0 hb;clear hb hlv;have cA0 := A_1.c 0 rfl;have cA1 := A_1.c 1 rfl;have cA2 := A_1.c 2 rfl;have cA3 := A_1.c 3 rfl;have cA4 := A_1.c 4 rfl;have cA5 := A_1.c 5 rfl;have cA6 := A_1.c 6 rfl;have cA7 : w1.cell? ⟨w.heap.size, 7, none⟩ = some (.int .i64 (L : Int)) := by rw [← HL.out]; exact A_1.cell 7 (by simp [az])
  have cA8 := A_1.c 8 rfl;have cA9 := A_1.c 9 rfl;have cA10 := A_1.c 10 rfl;have cA11 := A_1.c 11 rfl;obtain ⟨cR0, cR1, cR2, cR3, cR4, cR5, cR6, cR7, cR8, cR9, cR10, cR11⟩ := af R_1;obtain ⟨fR0, fR1, fR2, fR3, fR4, fR5, fR6, fR7, fR8, fR9, fR10, fR11⟩ := ay R_1;by_cases hs : (L : Int) = 0
  ·have hsB : ((L : Int) == 0) = true := by simp [hs]
   clear hs;go_wp2_with fail
   go_quiet (fail)
   go_wp2_with fail
   refine bodyPost_ret (by simp [results, Tryz.results80, go_sem, cR0, cR1, cR2, cR3, cR4, cR5, cR6, cR7, cR8, cR9, cR10, cR11]; try rfl) rfl ?_;rw [HN.out, ← HL.out];exact jd HH.out (by first | exact B_1.out | exact below_drewN B_1.out _ | exact below_drewN (below_drewN B_1.out _) _) (by omega) _ _ _ _ _ _ _ _ _ _ _ _
  ·have hsB : ((L : Int) == 0) = false := by simpa using hs
   clear hs;go_wp2_with fail
   go_quiet (fail)
   go_wp2_with fail
   refine bodyPost_ret (by simp [results, Tryz.results80, go_sem, cR0, cR1, cR2, cR3, cR4, cR5, cR6, cR7, cR8, cR9, cR10, cR11]; try rfl) rfl ?_;rw [HN.out, ← HL.out];exact jd HH.out (by first | exact B_1.out | exact below_drewN B_1.out _ | exact below_drewN (below_drewN B_1.out _) _) (by omega) _ _ _ _ _ _ _ _ _ _ _ _
 | true =>
  obtain ⟨hn0, hn1⟩ := many_60 hlv hL60;obtain ⟨s0, s1, s2⟩ := many_sums (L := L) hlv;have hW0 : 0 ≤ dJ L a b ∧ dJ L a b ≤ 60 := by unfold dJ; omega
  have HLV := hide hlv;refine (cutBest_spec _ a b _ _ L hL60 hlv wx HV.out).mono ?_;rintro e w1 ⟨mv, rfl, own, hb⟩;have hz1 := hb.size;have hmat : au wx.heap.size w1.heap.size w1 mv (iR L a b) := bH own rfl hz1;have HMA := hide hmat;have V_1 := hide (HV.out.below hb);have A_1 := A_0.below hb A_0.lt;have R_1 := R_0.below hb R_0.lt;have B_1 := bs B_0 hb;unfold iR at hmat;obtain ⟨b2, o2, cmv, rfl, hb2, hb2', -, -⟩ := bK hmat;obtain ⟨n0, hn0e⟩ : ∃ n : Nat, dx L a b = n := ⟨_, rfl⟩;obtain ⟨n1, hn1e⟩ : ∃ n : Nat, bA L a b = n := ⟨_, rfl⟩;obtain ⟨wa, hwa⟩ : ∃ n : Int, dJ L a b = n := ⟨_, rfl⟩;have HCW := hide (fun (W : World) (k : Below w1.heap.size w1 W) => cutWaste_spec (.slice (some ⟨w.heap.size + 1 + 1, 0, none⟩) 2 2) (.slice (some ⟨b2, o2, none⟩) 2 cmv) a b _ _ _ _ L hL60 HLV.out W (V_1.out.below k) (HMA.out.below k));rw [hwa] at HCW hW0;rw [hn0e] at hn0;rw [hn1e] at hn1;rw [hn0e, hn1e] at hmat;obtain ⟨b9, o9, c9, e9, -, -, m0, m1⟩ := bK hmat;cases e9;have HC1 := hide (show bX base w.heap.size (w.heap.size + 1 + 1) w1.heap.size w (.slice aS m.store.length cs) (.slice al m.low.length cl) (.slice ah m.high.length ch) m (.slice (some ⟨w.heap.size + 1 + 1, 0, none⟩) 2 2) (.slice (some ⟨b2, o2, none⟩) 2 cmv) [a, b] [(n0 : Int), (n1 : Int)] w1 (.slice ap m.pieces.length cp) m.pieces from
   ⟨A_1, HH.out.below B_1.out, ⟨fun e => Nat.lt_irrefl _ (HH.out.so.lt _ e).2, fun e => Nat.lt_irrefl _ (HH.out.po.lt _ e).2, fun e => Nat.lt_irrefl _ (HH.out.lo.lt _ e).2, fun e => Nat.lt_irrefl _ (HH.out.ho.lt _ e).2⟩, B_1.out.mono hbz, V_1.out.mono nl hz1 nl, hmat.mono (by omega) nl nl, fun g e => .inl (by have := (HH.out.po.lt g e).2; omega), hbz, by omega⟩)
  have HK1 := hide (show CutK w.heap.size w1.heap.size w1 (.slice ap m.pieces.length cp) w1 (.slice ap m.pieces.length cp) from ⟨fun g e => .inl e, fun G _ _ _ => rfl, Nat.le_refl _⟩);have hwb : IntKind.i64.wrap ((m.pieces.length : Int) + (n0 : Int)) = (m.pieces.length : Int) + (n0 : Int) := IntWalk.i64_in _ (by omega);have hwc : IntKind.i64.wrap ((m.pieces.length : Int) + (n0 : Int) + (n1 : Int)) = (m.pieces.length : Int) + (n0 : Int) + (n1 : Int) := IntWalk.i64_in _ (by omega);have hwd : IntKind.i64.wrap (m.scrap + wa) = m.scrap + wa := IntWalk.i64_in _ (by omega);have E0 := hide hn0e;have E1 := hide hn1e;have EW := hide hwa;clear hn0e hn1e hwa hmat own hb hlv s0 s1 s2;have cA0 := A_1.c 0 rfl;have cA1 := A_1.c 1 rfl;have cA2 := A_1.c 2 rfl;have cA3 := A_1.c 3 rfl;have cA4 := A_1.c 4 rfl;have cA5 := A_1.c 5 rfl;have cA6 := A_1.c 6 rfl;have cA7 : w1.cell? ⟨w.heap.size, 7, none⟩ = some (.int .i64 (L : Int)) := by rw [← HL.out]; exact A_1.cell 7 (by simp [az])
  have cA8 := A_1.c 8 rfl;have cA9 := A_1.c 9 rfl;have cA10 := A_1.c 10 rfl;have cA11 := A_1.c 11 rfl;obtain ⟨cR0, cR1, cR2, cR3, cR4, cR5, cR6, cR7, cR8, cR9, cR10, cR11⟩ := af R_1;obtain ⟨fR0, fR1, fR2, fR3, fR4, fR5, fR6, fR7, fR8, fR9, fR10, fR11⟩ := ay R_1;by_cases hs : (L : Int) = 0
  ·have hsB : ((L : Int) == 0) = true := by simp [hs]
   have HN := hide (cutD_no1 (m := m) (a := a) (b := b) (by rw [HL.out]; exact hs));clear hs;go_wp2_with fail
   go_quiet (fail)
   go_wp2_with fail
   refine bodyPost_ret (by simp [results, Tryz.results80, go_sem, cR0, cR1, cR2, cR3, cR4, cR5, cR6, cR7, cR8, cR9, cR10, cR11]; try rfl) rfl ?_;rw [HN.out, ← HL.out];exact jd HH.out (by first | exact B_1.out | exact below_drewN B_1.out _ | exact below_drewN (below_drewN B_1.out _) _) (by omega) _ _ _ _ _ _ _ _ _ _ _ _
  ·have hsB : ((L : Int) == 0) = false := by simpa using hs
   have HS0 := hide (show m.strand ≠ 0 by rw [HL.out]; exact hs);clear hs;by_cases q1 : m.pieces.length + n0 + n1 ≤ 30;rotate_left
   ·have hq1 : decide (30 < (m.pieces.length : Int) + (n0 : Int) + (n1 : Int)) = true := by simp; omega
    have HN := hide (cutD_no3 (m := m) (a := a) (b := b) (by rw [HL.out, E0.out, E1.out]; exact q1));go_wp2_with fail
    go_quiet (fail)
    go_wp2_with fail
    refine bodyPost_ret (by simp [results, Tryz.results80, go_sem, cR0, cR1, cR2, cR3, cR4, cR5, cR6, cR7, cR8, cR9, cR10, cR11]; try rfl) rfl ?_;rw [HN.out, ← HL.out];exact jd HH.out (by first | exact B_1.out | exact below_drewN B_1.out _ | exact below_drewN (below_drewN B_1.out _) _) (by omega) _ _ _ _ _ _ _ _ _ _ _ _
   ·have hq1 : decide (30 < (m.pieces.length : Int) + (n0 : Int) + (n1 : Int)) = false := by simp; omega
    go_wp2_with fail
    go_quiet (fail)
    go_wp2_with fail
    refine (HCW.out _ (by first | exact Below.refl _ _ | exact below_drewN (Below.refl _ _) _)).mono ?_;rintro e w2 ⟨rfl, hb⟩;have hb2 : Below w1.heap.size w1 w2 := by first | exact hb | exact (below_drewN (Below.refl _ _) _).trans hb
    have A_2 := A_1.below hb2 A_1.lt;have R_2 := R_1.below hb2 R_1.lt;have B_2 := bs B_1.out hb2;have HC2 := hide (HC1.out.below hb2);have HK2 := hide (HK1.out.below hb2);clear hb hb2 m0 m1 cA0 cA1 cA2 cA3 cA4 cA5 cA6 cA7 cA8 cA9 cA10 cA11 cR0 fR0 cR1 fR1 cR2 fR2 cR3 fR3 cR4 fR4 cR5 fR5 cR6 fR6 cR7 fR7 cR8 fR8 cR9 fR9 cR10 fR10 cR11 fR11;have cA0 := A_2.c 0 rfl;have cA1 := A_2.c 1 rfl;have cA2 := A_2.c 2 rfl;have cA3 := A_2.c 3 rfl;have cA4 := A_2.c 4 rfl;have cA5 := A_2.c 5 rfl;have cA6 := A_2.c 6 rfl;have cA7 : w2.cell? ⟨w.heap.size, 7, none⟩ = some (.int .i64 (L : Int)) := by rw [← HL.out]; exact A_2.cell 7 (by simp [az])
    have cA8 := A_2.c 8 rfl;have cA9 := A_2.c 9 rfl;have cA10 := A_2.c 10 rfl;have cA11 := A_2.c 11 rfl;obtain ⟨cR0, cR1, cR2, cR3, cR4, cR5, cR6, cR7, cR8, cR9, cR10, cR11⟩ := af R_2;obtain ⟨fR0, fR1, fR2, fR3, fR4, fR5, fR6, fR7, fR8, fR9, fR10, fR11⟩ := ay R_2;by_cases q2 : m.scrap + wa ≤ 999;rotate_left
    ·have hq2 : decide (999 < m.scrap + wa) = true := by simp; omega
     have HN := hide (cutD_no4 (m := m) (a := a) (b := b) (by rw [HL.out, EW.out]; exact q2));go_wp2_with fail
     refine bodyPost_ret (by simp [results, Tryz.results80, go_sem, cR0, cR1, cR2, cR3, cR4, cR5, cR6, cR7, cR8, cR9, cR10, cR11]; try rfl) rfl ?_;rw [HN.out, ← HL.out];exact jd HH.out (by first | exact B_2.out | exact below_drewN B_2.out _ | exact below_drewN (below_drewN B_2.out _) _) (by omega) _ _ _ _ _ _ _ _ _ _ _ _
    ·have hq2 : decide (999 < m.scrap + wa) = false := by simp; omega
     clear cA0 cA1 cA2 cA3 cA4 cA5 cA6 cA7 cA8 cA9 cA10 cR0 fR0 cR1 fR1 cR2 fR2 cR3 fR3 cR4 fR4 cR5 fR5 cR6 fR6 cR7 fR7 cR8 fR8 cR9 fR9 cR10 fR10 cR11 fR11;go_wp2_with fail
     go_loopw [11] (fun i wr => True ∧ ((i = .int .i64 1 ∧ ∃ p, bX base w.heap.size (w.heap.size + 1 + 1) w1.heap.size w (.slice aS m.store.length cs) (.slice al m.low.length cl) (.slice ah m.high.length ch) m (.slice (some ⟨w.heap.size + 1 + 1, 0, none⟩) 2 2) (.slice (some ⟨b2, o2, none⟩) 2 cmv) [a, b] [(n0 : Int), (n1 : Int)] wr p (m.pieces) ∧ CutK w.heap.size w1.heap.size w1 (.slice ap m.pieces.length cp) wr p) ∨ (i = .int .i64 0 ∧ ∃ p, bX base w.heap.size (w.heap.size + 1 + 1) w1.heap.size w (.slice aS m.store.length cs) (.slice al m.low.length cl) (.slice ah m.high.length ch) m (.slice (some ⟨w.heap.size + 1 + 1, 0, none⟩) 2 2) (.slice (some ⟨b2, o2, none⟩) 2 cmv) [a, b] [(n0 : Int), (n1 : Int)] wr p (m.pieces ++ List.replicate n1 (⟨b, 0⟩ : Pc)) ∧ CutK w.heap.size w1.heap.size w1 (.slice ap m.pieces.length cp) wr p) ∨ (i = .int .i64 (-1) ∧ ∃ p, bX base w.heap.size (w.heap.size + 1 + 1) w1.heap.size w (.slice aS m.store.length cs) (.slice al m.low.length cl) (.slice ah m.high.length ch) m (.slice (some ⟨w.heap.size + 1 + 1, 0, none⟩) 2 2) (.slice (some ⟨b2, o2, none⟩) 2 cmv) [a, b] [(n0 : Int), (n1 : Int)] wr p (m.pieces ++ List.replicate n1 (⟨b, 0⟩ : Pc) ++ List.replicate n0 (⟨a, 0⟩ : Pc)) ∧ CutK w.heap.size w1.heap.size w1 (.slice ap m.pieces.length cp) wr p))) (fun i _ => (intOf i + 1).toNat)
     case atStart => exact ⟨trivial, .inl ⟨rfl, _, HC2.out, HK2.out⟩⟩
     case round =>
      obtain ⟨wo, rfl⟩ : ∃ wo : World, wo = wr := ⟨_, rfl⟩;rcases hrel.2 with ⟨rfl, p, hinv, hk⟩ | ⟨rfl, p, hinv, hk⟩ | ⟨rfl, p, hinv, hk⟩
      ·have HC := hide hinv
       have HK := hide hk;clear hinv hk cA11;go_wp2_with fail
       go_loopw [12] (fun i wr => ∃ (c : Nat) (p : Value), c ≤ n1 ∧ i = .int .i64 (c : Int) ∧ bX base w.heap.size (w.heap.size + 1 + 1) w1.heap.size w (.slice aS m.store.length cs) (.slice al m.low.length cl) (.slice ah m.high.length ch) m (.slice (some ⟨w.heap.size + 1 + 1, 0, none⟩) 2 2) (.slice (some ⟨b2, o2, none⟩) 2 cmv) [a, b] [(n0 : Int), (n1 : Int)] wr p (m.pieces ++ List.replicate c ⟨b, 0⟩) ∧ CutK w.heap.size w1.heap.size w1 (.slice ap m.pieces.length cp) wr p) (fun i _ => n1 - (intOf i).toNat)
       case atStart => exact ⟨0, _, Nat.zero_le _, rfl, by simpa using HC.out, HK.out⟩
       case round =>
        obtain ⟨c, p, hc, rfl, hinv, hk⟩ := hrel;have HC := hide hinv;have HK := hide hk;obtain ⟨ps, hps⟩ : ∃ ps, m.pieces ++ List.replicate c (⟨b, 0⟩ : Pc) = ps := ⟨_, rfl⟩;rw [hps] at hinv HC;have hpl30 : ps.length ≤ 30 := by rw [← hps]; simp; omega
        obtain ⟨b3, o3, cap3, e3, -, -, c0, c1⟩ := bK hinv.len;cases e3;obtain ⟨b4, o4, cap4, e4, -, -, m0, m1⟩ := bK hinv.man;cases e4;have c8 : wr.cell? ⟨w.heap.size, 8, none⟩ = some p := hinv.row.cell 8 (by simp [az]);have hBr := hinv.row.lt;obtain ⟨app, cpp2, rfl, -, -⟩ := hinv.got.po.form;have HPS := hide hps;clear hinv hps hk;by_cases hlt : c < n1
        ·have hcI : (c : Int) < (n1 : Int) := by omega
         have hw1 : IntKind.i64.wrap ((c : Int) + 1) = ((c + 1 : Nat) : Int) := by rw [show (c : Int) + 1 = ((c + 1 : Nat) : Int) by omega]; exact IntWalk.i64_in _ (by omega)
         have HL2 := hide (HC.out.drew.alloc (.cells #[.int .i64 b, .int .i64 0] 63));have HK2 := hide (HK.out.below ((Below.refl wr.heap.size wr).drew.alloc nl (.cells #[.int .i64 b, .int .i64 0] 63)));have S1 := hide (show Source (wr.drew.alloc (.cells #[.int .i64 b, .int .i64 0] 63)) 2 (.slice (some ⟨wr.heap.size, 0, none⟩) 1 1) 1 [.int .i64 b, .int .i64 0] from Source.lit wr.drew [.int .i64 b, .int .i64 0] 2 63 1 rfl (fun u hu => by simp at hu; rcases hu with rfl | rfl <;> rfl) 1);go_wp2_with fail
         go_region_law (first
          | (refine bT rfl (.tmp 67) (.tmp 73) 26 rfl base 63 j0 _ 2 16 Tryz.underlying26 hj0 hzj hj1 hj2 rfl (by decide) (.slice app ps.length cpp2) ps.length (bO ps) (by simp [Act.eval]) HL2.out.got.po (.slice (some ⟨wr.heap.size, 0, none⟩) 1 1) 1 [.int .i64 b, .int .i64 0] (by simp [Act.eval]) S1.out (by unfold maxLen; omega) (by omega) HL2.out.got.hb ?_; intro v2 w3 hown2 hgrow2 h4; have r3 : ae w3 w.heap.size _ _ := World.rowIs.of_block HL2.out.row (hgrow2.block w.heap.size HL2.out.row.lt (fun e => HL2.out.off.2.1 e.symm)); have d8 : w3.cell? ⟨w.heap.size, 8, none⟩ = some (.slice app ps.length cpp2) := r3.cell 8 (by simp [az]); have g8 := r3.frozen 8; have hI3 := bX.app HL2.out hown2 (by simp) (jP ps b) hgrow2 h4; have hK3 := HK2.out.app hgrow2 h4 v2; obtain ⟨a2, c2, rfl, -, -⟩ := hown2.form))
         all_goals
          have HI3 := hide hI3;have HK3 := hide hK3;clear hI3 hK3 hown2 hgrow2 h4 r3;go_wp2_with fail
          go_roundw
          case rel => exact ⟨c + 1, _, by omega, rfl, by rw [rep_snoc, HPS.out]; exact HI3.out, HK3.out⟩
          case measure => simp [intOf]; omega
        ·obtain rfl : c = n1 := by omega
         have hcI : ¬ (c : Int) < (c : Int) := by omega
         go_wp2_with fail
         go_roundw
         case rel => exact ⟨trivial, .inr (.inl ⟨rfl, _, by rw [HPS.out]; exact HC.out, HK.out⟩)⟩
         case measure => simp [intOf]
      ·have HC := hide hinv
       have HK := hide hk;clear hinv hk cA11;go_wp2_with fail
       go_loopw [12] (fun i wr => ∃ (c : Nat) (p : Value), c ≤ n0 ∧ i = .int .i64 (c : Int) ∧ bX base w.heap.size (w.heap.size + 1 + 1) w1.heap.size w (.slice aS m.store.length cs) (.slice al m.low.length cl) (.slice ah m.high.length ch) m (.slice (some ⟨w.heap.size + 1 + 1, 0, none⟩) 2 2) (.slice (some ⟨b2, o2, none⟩) 2 cmv) [a, b] [(n0 : Int), (n1 : Int)] wr p (m.pieces ++ List.replicate n1 (⟨b, 0⟩ : Pc) ++ List.replicate c ⟨a, 0⟩) ∧ CutK w.heap.size w1.heap.size w1 (.slice ap m.pieces.length cp) wr p) (fun i _ => n0 - (intOf i).toNat)
       case atStart => exact ⟨0, _, Nat.zero_le _, rfl, by simpa using HC.out, HK.out⟩
       case round =>
        obtain ⟨c, p, hc, rfl, hinv, hk⟩ := hrel;have HC := hide hinv;have HK := hide hk;obtain ⟨ps, hps⟩ : ∃ ps, m.pieces ++ List.replicate n1 (⟨b, 0⟩ : Pc) ++ List.replicate c (⟨a, 0⟩ : Pc) = ps := ⟨_, rfl⟩;rw [hps] at hinv HC;have hpl30 : ps.length ≤ 30 := by rw [← hps]; simp; omega
        obtain ⟨b3, o3, cap3, e3, -, -, c0, c1⟩ := bK hinv.len;cases e3;obtain ⟨b4, o4, cap4, e4, -, -, m0, m1⟩ := bK hinv.man;cases e4;have c8 : wr.cell? ⟨w.heap.size, 8, none⟩ = some p := hinv.row.cell 8 (by simp [az]);have hBr := hinv.row.lt;obtain ⟨app, cpp2, rfl, -, -⟩ := hinv.got.po.form;have HPS := hide hps;clear hinv hps hk;by_cases hlt : c < n0
        ·have hcI : (c : Int) < (n0 : Int) := by omega
         have hw1 : IntKind.i64.wrap ((c : Int) + 1) = ((c + 1 : Nat) : Int) := by rw [show (c : Int) + 1 = ((c + 1 : Nat) : Int) by omega]; exact IntWalk.i64_in _ (by omega)
         have HL2 := hide (HC.out.drew.alloc (.cells #[.int .i64 a, .int .i64 0] 63));have HK2 := hide (HK.out.below ((Below.refl wr.heap.size wr).drew.alloc nl (.cells #[.int .i64 a, .int .i64 0] 63)));have S1 := hide (show Source (wr.drew.alloc (.cells #[.int .i64 a, .int .i64 0] 63)) 2 (.slice (some ⟨wr.heap.size, 0, none⟩) 1 1) 1 [.int .i64 a, .int .i64 0] from Source.lit wr.drew [.int .i64 a, .int .i64 0] 2 63 1 rfl (fun u hu => by simp at hu; rcases hu with rfl | rfl <;> rfl) 1);go_wp2_with fail
         go_region_law (first
          | (refine bT rfl (.tmp 67) (.tmp 73) 26 rfl base 63 j0 _ 2 16 Tryz.underlying26 hj0 hzj hj1 hj2 rfl (by decide) (.slice app ps.length cpp2) ps.length (bO ps) (by simp [Act.eval]) HL2.out.got.po (.slice (some ⟨wr.heap.size, 0, none⟩) 1 1) 1 [.int .i64 a, .int .i64 0] (by simp [Act.eval]) S1.out (by unfold maxLen; omega) (by omega) HL2.out.got.hb ?_; intro v2 w3 hown2 hgrow2 h4; have r3 : ae w3 w.heap.size _ _ := World.rowIs.of_block HL2.out.row (hgrow2.block w.heap.size HL2.out.row.lt (fun e => HL2.out.off.2.1 e.symm)); have d8 : w3.cell? ⟨w.heap.size, 8, none⟩ = some (.slice app ps.length cpp2) := r3.cell 8 (by simp [az]); have g8 := r3.frozen 8; have hI3 := bX.app HL2.out hown2 (by simp) (jP ps a) hgrow2 h4; have hK3 := HK2.out.app hgrow2 h4 v2; obtain ⟨a2, c2, rfl, -, -⟩ := hown2.form))
         all_goals
          have HI3 := hide hI3;have HK3 := hide hK3;clear hI3 hK3 hown2 hgrow2 h4 r3;go_wp2_with fail
          go_roundw
          case rel => exact ⟨c + 1, _, by omega, rfl, by rw [rep_snoc, HPS.out]; exact HI3.out, HK3.out⟩
          case measure => simp [intOf]; omega
        ·obtain rfl : c = n0 := by omega
         have hcI : ¬ (c : Int) < (c : Int) := by omega
         go_wp2_with fail
         go_roundw
         case rel => exact ⟨trivial, .inr (.inr ⟨rfl, _, by rw [HPS.out]; exact HC.out, HK.out⟩)⟩
         case measure => simp [intOf]
      ·have HC := hide hinv
       have HK := hide hk;obtain ⟨ps, hps⟩ : ∃ ps, m.pieces ++ List.replicate n1 (⟨b, 0⟩ : Pc) ++ List.replicate n0 (⟨a, 0⟩ : Pc) = ps := ⟨_, rfl⟩;rw [hps] at hinv HC;obtain ⟨app, cpp2, rfl, -, -⟩ := hinv.got.po.form;have HPS := hide hps;have R_w : ae wo (w.heap.size + 1) 31 z12 := World.rowIs.of_block R_1 (HK.out.keep _ (by omega) (by omega) (fun e => by have := (HH.out.po.lt _ e).2; omega));have A_w := hinv.row;clear hinv hk cA11 hps;obtain ⟨cA0, cA1, cA2, cA3, cA4, cA5, cA6, cA7, cA8, cA9, cA10, cA11⟩ := af A_w;have fAz := ay A_w;obtain ⟨cR0, cR1, cR2, cR3, cR4, cR5, cR6, cR7, cR8, cR9, cR10, cR11⟩ := af R_w;obtain ⟨fR0, fR1, fR2, fR3, fR4, fR5, fR6, fR7, fR8, fR9, fR10, fR11⟩ := ay R_w;go_wp2_with fail
       refine bodyPost_ret (by simp [results, Tryz.results80, go_sem, cR0, cR1, cR2, cR3, cR4, cR5, cR6, cR7, cR8, cR9, cR10, cR11]; try rfl) rfl ?_;rw [cutD_yes HS0.out HLV.out (by rw [HL.out, E0.out, E1.out]; exact q1) (by rw [HL.out, EW.out]; exact q2)];have T : ai w.heap.size (w.heap.size + 1) wo ((wo.setCell ⟨w.heap.size, 7, none⟩ (.int .i64 0)).setCell ⟨w.heap.size, 11, none⟩ (.int .i64 (m.scrap + wa))) := ai.setCell (p := ⟨w.heap.size, 11, none⟩) (ai.setCell (p := ⟨w.heap.size, 7, none⟩) (ai.refl _ _ _) nl ns _) nl ns _;have e1 : eO m.strand a b = List.replicate n1 ⟨b, 0⟩ ++ List.replicate n0 ⟨a, 0⟩ := by rw [HL.out]; unfold eO; rw [E0.out, E1.out]
       have e2 : dJ m.strand a b = wa := by rw [HL.out]; exact EW.out
       have e3 : m.pieces ++ eO m.strand a b = ps := by rw [e1, ← List.append_assoc]; exact HPS.out
       rw [e2, e3];exact cut_done hbz B_1.out (by omega) HK.out HC.out.bel (HC.out.got.nums m.rule 0 (m.scrap + wa)) T (fun g hg => (HH.out.so.lt g hg).2) (fun g hg => (HH.out.po.lt g hg).2) (fun g hg => (HH.out.lo.lt g hg).2) (fun g hg => (HH.out.ho.lt g hg).2) _ _ _ _ _ _ _ _ _ _ _ _
theorem do_s1 (s p l h : Value) (m : Mi) (a b : Int) (w : World) (H : aM 0 w.heap.size w s p l h m) (ha : a ≤ 9223372036854775807) (hb : b ≤ 9223372036854775807) :
 Calls Tryz.prog 27 #[ag s p l h m, .agg #[.int .i64 1, .int .i64 a, .int .i64 b]] w (jg w.heap.size (doR m ⟨1, a, b⟩) w) := by
 obtain ⟨ao1, cap1, ao2, cap2, ao3, cap3, ao4, cap4, rfl, rfl, rfl, rfl⟩ := H.op;have HM := hide H;clear H ha hb;unfold ag;go_enter Tryz.func27, Tryz.ntmps27;go_wp2_with fail
 refine aj fun wx hwx => ?_;have A_0 : ae wx (w.heap.size) 31 (mC ao1 cap1 ao2 cap2 ao3 cap3 ao4 cap4 m) := by rw [hwx]; exact (((ae.new _ _ _).alloc _).alloc _)
 have D_0 : ae wx (w.heap.size + 1) 42 [.int .i64 1, .int .i64 a, .int .i64 b] := by rw [hwx]; simpa using ((ae.new (World.alloc _ _) 42 [.int .i64 1, .int .i64 a, .int .i64 b]).alloc _)
 have R_0 : ae wx (w.heap.size + 1 + 1) 31 z12 := by rw [hwx]; simpa using (ae.new (World.alloc (World.alloc _ _) _) 31 z12)
 have B_0 : Below w.heap.size w wx := by rw [hwx]; go_grown
 clear hwx;have hL0 := R_0.lt;have V_0 := hide (HM.out.below B_0);have k1 := cu _ _ _ _ m wx V_0.out.all;unfold ag at k1;cases hv : aF m with
 | false =>
  rw [hv] at k1;have HZ := hide (iC hv ⟨1, a, b⟩);clear hv;refine k1.mono ?_;rintro e w1 ⟨rfl, hb⟩;have R_1 := R_0.below hb R_0.lt;have B_1 := bs B_0 hb;clear hb k1;have cRz := af R_1;have fRz := ay R_1;go_wp2_with fail
  refine bodyPost_ret (by simp [results, Tryz.results27, go_sem, cRz]; try rfl) rfl ?_;rw [HZ.out];exact ⟨_, _, _, _, rfl, bU B_1.out nl (by omega) _ _ _ _ _ _ _ _ _ _ _ _⟩
 | true =>
  rw [hv] at k1;obtain ⟨n1, n2, n3, n4⟩ := fV hv;have HV := hide hv;have hD := gD hv 1 a b;rw [step_1] at hD;clear hv;refine k1.mono ?_;rintro e w1 ⟨rfl, hb⟩;have A_1 := A_0.below hb A_0.lt;have D_1 := D_0.below hb D_0.lt;have R_1 := R_0.below hb R_0.lt;have V_1 := hide (V_0.out.below hb);have B_1 := bs B_0 hb;have hz1 := hb.size;clear hb k1;have cAz := af A_1;go_wp2_with fail
  clear cAz;have k2 := bu _ _ _ _ m w1 V_1.out.all n1 n2 n3 n4;unfold ag at k2;refine k2.mono ?_;clear k2;rintro e w2 ⟨s2, p2, l2, h2, rfl, G, hb⟩;have A_2 := A_1.below hb A_1.lt;have D_2 := D_1.below hb D_1.lt;have R_2 := R_1.below hb R_1.lt;have V_2 := hide (V_1.out.below hb);have B_2 := bs B_1.out hb;have hz2 := hb.size;have hL2 := R_2.lt;have hLD := D_2.lt;have hLA := A_2.lt;clear hb;have G_2 := hide G;obtain ⟨aS, cs, ap, cp, al, cl, ah, ch, rfl, rfl, rfl, rfl⟩ := G.op;clear G;unfold ag;have cD0 := D_2.c 0 rfl;have cD1 := D_2.c 1 rfl;have cD2 := D_2.c 2 rfl;go_wp2_with fail
  refine aj fun wy hwy => ?_;have C_y : ae wy w2.heap.size 31 (mC aS cs ap cp al cl ah ch m) := by
   rw [hwy];first
    | exact ae.new w2 31 (mC aS cs ap cp al cl ah ch m)
    | exact dU (ae.new w2 31 z12) rfl _ _ _ _ _ _ _ _ _ _ _ _
  have hby : Below w2.heap.size w2 wy := by
   rw [hwy];first
    | exact (Below.refl _ _).alloc nl _
    | exact ((Below.refl _ _).alloc nl _).trans ((aI w2.heap.size _ _ _ _ _ _ _ _ _ _ _ _ _).below nl (by simp))
  have A_y := A_2.below hby A_2.lt;have R_y := R_2.below hby R_2.lt;have V_y := hide (V_2.out.below hby);have B_y := bs B_2.out hby;have G_y := hide (G_2.out.below hby);have hzy := hby.size;have hLy := C_y.lt;have MB := hide (show dm w1.heap.size w2.heap.size wy (.slice aS m.store.length cs) (.slice ap m.pieces.length cp) (.slice al m.low.length cl) (.slice ah m.high.length ch) m from ⟨C_y, G_y.out, ⟨fun e => Nat.lt_irrefl _ (G_2.out.so.lt _ e).2, fun e => Nat.lt_irrefl _ (G_2.out.po.lt _ e).2, fun e => Nat.lt_irrefl _ (G_2.out.lo.lt _ e).2, fun e => Nat.lt_irrefl _ (G_2.out.ho.lt _ e).2⟩, hz2⟩);clear hwy hby;have hpC : Value.ownBlock (.slice ap m.pieces.length cp) ≠ some w2.heap.size := MB.out.off.2.1;have k3 := cut_spec a b G_y.out (aQ.1 HV.out);unfold ag at k3;obtain ⟨o, ho⟩ : ∃ o, cutD m a b = o := ⟨_, rfl⟩;rw [ho] at k3 hD;clear ho;rcases o with _ | x
  ·have HZ := hide (show doR m ⟨1, a, b⟩ = (m, false) from hD)
   clear hD cD0 cD1 cD2;refine k3.mono ?_;clear k3;rintro e w4 ⟨⟨s4, p4, l4, h4, he, G, hb⟩, hrow⟩;have he : e = .returned (.tuple #[ag s4 p4 l4 h4 m, .bool false]) := he;have G : ak w1.heap.size w4 s4 p4 l4 h4 m := G;subst he;have C_4 := hrow _ _ _ C_y hpC;have A_4 := A_y.below hb (by omega);have R_4 := R_y.below hb (by omega);have V_4 := hide (V_y.out.gW hb (by omega));have B_4 := hide (B_y.out.trans (hb.mono (by omega)));have hz4 := hb.size;have hL4 := C_4.lt;clear hb hrow;have G_4 := hide G;obtain ⟨aS4, cs4, ap4, cp4, al4, cl4, ah4, ch4, rfl, rfl, rfl, rfl⟩ := G.op;clear G;unfold ag;have cCz := af C_4;have fCz := ay C_4;have cAz := af A_4;go_wp2_with fail
   refine aj fun wz hwz => ?_;have TZ : ai w2.heap.size (w2.heap.size + 1) w4 wz := by rw [hwz]; exact aI _ _ _ _ _ _ _ _ _ _ _ _ _ _
   have R_z := R_4.other TZ (by omega);have V_z := hide (V_4.out.other TZ (by omega));have B_z := hide (B_4.out.trans (TZ.below (B := w.heap.size) (by omega) B_4.out.size));have hzz := TZ.size;clear hwz TZ cAz cCz fCz;have k5 := bu _ _ _ _ m wz V_z.out.all n1 n2 n3 n4;unfold ag at k5;refine k5.mono ?_;clear k5;rintro e w5 ⟨s5, p5, l5, h5, rfl, G, hb⟩;have R_5 := R_z.below hb R_z.lt;have B_5 := bs B_z.out hb;clear hb;have G_5 := hide G;obtain ⟨aS5, cs5, ap5, cp5, al5, cl5, ah5, ch5, rfl, rfl, rfl, rfl⟩ := G.op;clear G;unfold ag;have cRz := af R_5;have fRz := ay R_5;go_wp2_with fail
   refine bodyPost_ret (by simp [results, Tryz.results27, go_sem, cRz]; try rfl) rfl ?_;rw [HZ.out];exact ⟨_, _, _, _, rfl, aV G_5.out B_5.out (by omega) (by omega) nl _ _ _ _ _ _ _ _ _ _ _ _⟩
  ·have HZ := hide (show doR m ⟨1, a, b⟩ = (x, true) from hD)
   clear hD cD0 cD1 cD2;refine k3.mono ?_;clear k3;rintro e w4 ⟨⟨s4, p4, l4, h4, he, G, hb⟩, hrow⟩;have he : e = .returned (.tuple #[ag s4 p4 l4 h4 x, .bool true]) := he;have G : ak w1.heap.size w4 s4 p4 l4 h4 x := G;subst he;have C_4 := hrow _ _ _ C_y hpC;have R_4 := R_y.below hb (by omega);have B_4 := hide (B_y.out.trans (hb.mono (by omega)));have hz4 := hb.size;have hL4 := C_4.lt;clear hb hrow;have G_4 := hide G;obtain ⟨aS4, cs4, ap4, cp4, al4, cl4, ah4, ch4, rfl, rfl, rfl, rfl⟩ := G.op;clear G;unfold ag;have cCz := af C_4;have fCz := ay C_4
   go_upto_region 28 with fail
   obtain ⟨wz, hwz⟩ : ∃ wz : World, wz = ((((((((((((w4).setCell ⟨w2.heap.size, 0, none⟩ (.slice aS4 x.store.length cs4)).setCell ⟨w2.heap.size, 1, none⟩ (.int .i64 x.rule.lc)).setCell ⟨w2.heap.size, 2, none⟩ (.int .i64 x.rule.hc)).setCell ⟨w2.heap.size, 3, none⟩ (.int .i64 x.rule.lm)).setCell ⟨w2.heap.size, 4, none⟩ (.int .i64 x.rule.hm)).setCell ⟨w2.heap.size, 5, none⟩ (.int .i64 x.rule.ls)).setCell ⟨w2.heap.size, 6, none⟩ (.int .i64 x.rule.hs)).setCell ⟨w2.heap.size, 7, none⟩ (.int .i64 x.strand)).setCell ⟨w2.heap.size, 8, none⟩ (.slice ap4 x.pieces.length cp4)).setCell ⟨w2.heap.size, 9, none⟩ (.slice al4 x.low.length cl4)).setCell ⟨w2.heap.size, 10, none⟩ (.slice ah4 x.high.length ch4)).setCell ⟨w2.heap.size, 11, none⟩ (.int .i64 x.scrap) := ⟨_, rfl⟩;rw [← hwz];have TZ : ai w2.heap.size (w2.heap.size + 1) w4 wz := by rw [hwz]; exact aI _ _ _ _ _ _ _ _ _ _ _ _ _ _
   have C_z : ae wz w2.heap.size 31 (mC aS4 cs4 ap4 cp4 al4 cl4 ah4 ch4 x) := by rw [hwz]; exact dU C_4 rfl _ _ _ _ _ _ _ _ _ _ _ _
   have R_z := R_4.other TZ (by omega);have B_z := hide (B_4.out.trans (TZ.below (B := w.heap.size) (by omega) B_4.out.size));have G_z := hide (G_4.out.past C_4 TZ);clear hwz TZ cCz fCz;have cCz := af C_z;have cRz := af R_z;have fRz := ay R_z;go_wp2_with fail
   refine bodyPost_ret (by simp [results, Tryz.results27, go_sem, cRz]; try rfl) rfl ?_;rw [HZ.out];exact ⟨_, _, _, _, rfl, aV G_z.out B_z.out (by omega) (by omega) nl _ _ _ _ _ _ _ _ _ _ _ _⟩
theorem zrow (X : World) : ae (X.alloc (.cells #[.slice none 0 0, .int .i64 0, .int .i64 0, .int .i64 0, .int .i64 0, .int .i64 0, .int .i64 0, .int .i64 0, .slice none 0 0, .slice none 0 0, .slice none 0 0, .int .i64 0] 31)) X.heap.size 31 z12 := ae.new X _ _
theorem boxN {W q : World} {s p l h : Value} {y : Mi} {b : Nat} (hb : W.heap.size ≤ b) (hw : Below W.heap.size W q) (G : ak b q s p l h y) :
 BoxM W.heap.size (q.alloc (.cells #[s, .int .i64 y.rule.lc, .int .i64 y.rule.hc, .int .i64 y.rule.lm, .int .i64 y.rule.hm, .int .i64 y.rule.ls, .int .i64 y.rule.hs, .int .i64 y.strand, p, l, h, .int .i64 y.scrap] 31)) y (.pointer (some ⟨q.heap.size, 0, none⟩)) ∧ Below W.heap.size W (q.alloc (.cells #[s, .int .i64 y.rule.lc, .int .i64 y.rule.hc, .int .i64 y.rule.lm, .int .i64 y.rule.hm, .int .i64 y.rule.ls, .int .i64 y.rule.hs, .int .i64 y.strand, p, l, h, .int .i64 y.scrap] 31)) := ⟨boxM_new G hb hw.size, hw.alloc hw.size _⟩
theorem boxO {W q : World} {g b : Nat} {us : List Value} {s p l h : Value} {y : Mi} (r : ae q g 31 us) (hl : us.length = 12) (hg : W.heap.size ≤ g) (hb : W.heap.size ≤ b) (hw : Below W.heap.size W q) (G : ak b q s p l h y) :
 BoxM W.heap.size (((((((((((((q).setCell ⟨g, 0, none⟩ s).setCell ⟨g, 1, none⟩ (.int .i64 y.rule.lc)).setCell ⟨g, 2, none⟩ (.int .i64 y.rule.hc)).setCell ⟨g, 3, none⟩ (.int .i64 y.rule.lm)).setCell ⟨g, 4, none⟩ (.int .i64 y.rule.hm)).setCell ⟨g, 5, none⟩ (.int .i64 y.rule.ls)).setCell ⟨g, 6, none⟩ (.int .i64 y.rule.hs)).setCell ⟨g, 7, none⟩ (.int .i64 y.strand)).setCell ⟨g, 8, none⟩ p).setCell ⟨g, 9, none⟩ l).setCell ⟨g, 10, none⟩ h).setCell ⟨g, 11, none⟩ (.int .i64 y.scrap)) y (.pointer (some ⟨g, 0, none⟩)) ∧ Below W.heap.size W (((((((((((((q).setCell ⟨g, 0, none⟩ s).setCell ⟨g, 1, none⟩ (.int .i64 y.rule.lc)).setCell ⟨g, 2, none⟩ (.int .i64 y.rule.hc)).setCell ⟨g, 3, none⟩ (.int .i64 y.rule.lm)).setCell ⟨g, 4, none⟩ (.int .i64 y.rule.hm)).setCell ⟨g, 5, none⟩ (.int .i64 y.rule.ls)).setCell ⟨g, 6, none⟩ (.int .i64 y.rule.hs)).setCell ⟨g, 7, none⟩ (.int .i64 y.strand)).setCell ⟨g, 8, none⟩ p).setCell ⟨g, 9, none⟩ l).setCell ⟨g, 10, none⟩ h).setCell ⟨g, 11, none⟩ (.int .i64 y.scrap)) :=
 ⟨boxM_old r hl G hg hb, hw.trans ((aI g q _ _ _ _ _ _ _ _ _ _ _ _).below hg hw.size)⟩
theorem gU.lt {lo hi : Nat} {w : World} {s p l h : Value} {m : Mi} (H : gU lo hi w s p l h m) : hi ≤ w.heap.size := by
 obtain ⟨a1, z1, a2, z2, a3, z3, a4, z4, -, -, -, -, -, -, -, -, -, h⟩ := H;exact h
theorem bQ {w : World} {b T : Nat} {v0 v1 v2 v3 v4 v5 v6 v7 v8 v9 v10 v11 : Value} (h : ae w b T [v0, v1, v2, v3, v4, v5, v6, v7, v8, v9, v10, v11]) :
 w.cell? ⟨b, 0, none⟩ = some v0 ∧ w.cell? ⟨b, 1, none⟩ = some v1 ∧ w.cell? ⟨b, 2, none⟩ = some v2 ∧ w.cell? ⟨b, 3, none⟩ = some v3 ∧ w.cell? ⟨b, 4, none⟩ = some v4 ∧ w.cell? ⟨b, 5, none⟩ = some v5 ∧ w.cell? ⟨b, 6, none⟩ = some v6 ∧ w.cell? ⟨b, 7, none⟩ = some v7 ∧ w.cell? ⟨b, 8, none⟩ = some v8 ∧ w.cell? ⟨b, 9, none⟩ = some v9 ∧ w.cell? ⟨b, 10, none⟩ = some v10 ∧ w.cell? ⟨b, 11, none⟩ = some v11 :=
 ⟨h.c 0 rfl, h.c 1 rfl, h.c 2 rfl, h.c 3 rfl, h.c 4 rfl, h.c 5 rfl, h.c 6 rfl, h.c 7 rfl, h.c 8 rfl, h.c 9 rfl, h.c 10 rfl, h.c 11 rfl⟩
theorem ae.stay {w w' : World} {b T : Nat} {vs : List Value} (h : ae w b T vs) (k : Below w.heap.size w w') : ae w' b T vs := h.below k h.lt
end Go.Proofs.YtkhecelpafojdaaGreatDoor
