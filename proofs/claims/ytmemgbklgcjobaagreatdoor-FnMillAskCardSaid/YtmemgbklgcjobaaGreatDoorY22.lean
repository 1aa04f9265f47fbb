/-
  Parts of the proofs over mills, of: MethF. Conditions: each theorem states its own.
-/
import Derived.Test.YtmemgbklgcjobaaGreatDoorY17
import Derived.Test.YtmemgbklgcjobaaGreatDoorY19
set_option linter.unusedSimpArgs false
set_option linter.unusedVariables false
set_option maxRecDepth 10000
set_option maxHeartbeats 64000000
namespace Go.Proofs.YtmemgbklgcjobaaGreatDoor
open Go.RowKit
theorem cut_done {base z : Nat} {w w1 wo wz : World} {s p0 p l h : Value} {x : Mi} (hb : base ≤ w.heap.size) (B1 : Below w.heap.size w w1) (hz : w.heap.size + 1 + 1 ≤ z) (HK : CutK w.heap.size z w1 p0 wo p) (bel : Below base w wo) (G : MillGot base wo s p l h x) (T : Other w.heap.size (w.heap.size + 1) wo wz)
 (hs : ∀ g, s.ownBlock = some g → g < w.heap.size) (hp0 : ∀ g, p0.ownBlock = some g → g < w.heap.size) (hl : ∀ g, l.ownBlock = some g → g < w.heap.size) (hh : ∀ g, h.ownBlock = some g → g < w.heap.size) (v0 v1 v2 v3 v4 v5 v6 v7 v8 v9 v10 v11 : Value) :
 SpecGot base p0 (x, true) w (.returned (.tuple #[millV s p l h x, .bool true])) (((((((((((((wz).setCell ⟨w.heap.size + 1, 0, none⟩ v0).setCell ⟨w.heap.size + 1, 1, none⟩ v1).setCell ⟨w.heap.size + 1, 2, none⟩ v2).setCell ⟨w.heap.size + 1, 3, none⟩ v3).setCell ⟨w.heap.size + 1, 4, none⟩ v4).setCell ⟨w.heap.size + 1, 5, none⟩ v5).setCell ⟨w.heap.size + 1, 6, none⟩ v6).setCell ⟨w.heap.size + 1, 7, none⟩ v7).setCell ⟨w.heap.size + 1, 8, none⟩ v8).setCell ⟨w.heap.size + 1, 9, none⟩ v9).setCell ⟨w.heap.size + 1, 10, none⟩ v10).setCell ⟨w.heap.size + 1, 11, none⟩ v11) := by
 have T2 := other_two T (other12 (w.heap.size + 1) wz v0 v1 v2 v3 v4 v5 v6 v7 v8 v9 v10 v11);refine ⟨⟨_, _, _, _, rfl, G.far T2 (fun g hg => .inl (hs g hg)) (fun g hg => ?_) (fun g hg => .inl (hl g hg)) (fun g hg => .inl (hh g hg)), bel.trans (T2.below (B := base) hb G.hb)⟩, fun B T' vs r hne => ?_⟩
 ·rcases HK.blk g hg with e | e
  ·exact .inl (hp0 g e)
  ·exact .inr (by omega)
 ·have r1 := r.below B1 r.lt
  have hlt := r.lt;have r2 : RowL wo B T' vs := World.rowIs.of_block r1 (HK.keep B (by omega) (by omega) hne);exact r2.other T2 (.inl hlt)
theorem cut_spec {base : Nat} {w : World} {s p l h : Value} {m : Mi} (a b : Int) (H : MillGot base w s p l h m) (hm : MillV m) :
 Calls Tryz.prog 113 #[millV s p l h m, .int .i64 a, .int .i64 b] w (SpecGot base p (orOld m (cutD m a b)) w) := by
 obtain ⟨j0, hj0, hzj, hj1, hj2⟩ := info_parts info_Pc;have HH := hide H;have hbz := H.hb;have hst0 := hm.st0;have hst1 := hm.st1;have hsc0 := hm.sc0;have hsc1 := hm.sc1;have hpc := hm.len;obtain ⟨aS, cs, rfl, -, -⟩ := H.so.form;obtain ⟨ap, cp, rfl, -, -⟩ := H.po.form;obtain ⟨al, cl, rfl, -, -⟩ := H.lo.form;obtain ⟨ah, ch, rfl, -, -⟩ := H.ho.form;obtain ⟨L, hL⟩ : ∃ L : Nat, m.strand = L := ⟨m.strand.toNat, by omega⟩;have hL60 : L ≤ 60 := by omega
 have HL := hide hL;clear H;unfold millV;go_enter Tryz.func113, Tryz.ntmps113;rw [hL];go_wp2_with fail
 refine calls_at fun wx hwx => ?_;have A_0 : RowL wx w.heap.size 31 (millC (.slice aS m.store.length cs) (.slice ap m.pieces.length cp) (.slice al m.low.length cl) (.slice ah m.high.length ch) m) := by rw [hwx]; unfold millC; rw [hL]; exact ((RowL.new _ _ _).alloc _).alloc _
 have R_0 : RowL wx (w.heap.size + 1) 31 [.slice none 0 0, .int .i64 0, .int .i64 0, .int .i64 0, .int .i64 0, .int .i64 0, .int .i64 0, .int .i64 0, .slice none 0 0, .slice none 0 0, .slice none 0 0, .int .i64 0] := by rw [hwx]; exact RowL.alloc (by simpa using (RowL.new (World.alloc _ _) 31 [.slice none 0 0, .int .i64 0, .int .i64 0, .int .i64 0, .int .i64 0, .int .i64 0, .int .i64 0, .int .i64 0, .slice none 0 0, .slice none 0 0, .slice none 0 0, .int .i64 0])) _
 have HV := hide (show IntsAt (w.heap.size + 1 + 1) wx.heap.size wx (.slice (some ⟨w.heap.size + 1 + 1, 0, none⟩) 2 2) [a, b] by rw [hwx]; exact two_lit _ a b _ (by simp));have B_0 : Below w.heap.size w wx := by rw [hwx]; go_grown
 clear hwx;have hL0 := R_0.lt;have hL2 : w.heap.size + 1 + 1 < wx.heap.size := by
  obtain ⟨_, _, _, _, h3, h4, -, -⟩ := two_at HV.out;omega
 cases hlv : lensB a b with
 | false =>
  have HN := hide (cutD_no2 (m := m) hlv);refine (cutBest_no _ a b _ _ L hL60 hlv wx HV.out).mono ?_;rintro e w1 ⟨g1, rfl, hb⟩;have A_1 := A_0.below hb A_0.lt;have R_1 := R_0.below hb R_0.lt;have B_1 := hide (Below.step B_0 hb nl);clear hb hlv;have cA0 := A_1.c 0 rfl;have cA1 := A_1.c 1 rfl;have cA2 := A_1.c 2 rfl;have cA3 := A_1.c 3 rfl;have cA4 := A_1.c 4 rfl;have cA5 := A_1.c 5 rfl;have cA6 := A_1.c 6 rfl;have cA7 : w1.cell? ⟨w.heap.size, 7, none⟩ = some (.int .i64 (L : Int)) := by rw [← HL.out]; exact A_1.cell 7 (by simp [millC])
  have cA8 := A_1.c 8 rfl;have cA9 := A_1.c 9 rfl;have cA10 := A_1.c 10 rfl;have cA11 := A_1.c 11 rfl;obtain ⟨cR0, cR1, cR2, cR3, cR4, cR5, cR6, cR7, cR8, cR9, cR10, cR11⟩ := row12_c R_1;obtain ⟨fR0, fR1, fR2, fR3, fR4, fR5, fR6, fR7, fR8, fR9, fR10, fR11⟩ := row12_f R_1;by_cases hs : (L : Int) = 0
  ·have hsB : ((L : Int) == 0) = true := by simp [hs]
   clear hs;go_wp2_with fail
   go_quiet (fail)
   go_wp2_with fail
   refine bodyPost_ret (by simp [results, Tryz.results113, go_sem, cR0, cR1, cR2, cR3, cR4, cR5, cR6, cR7, cR8, cR9, cR10, cR11]; try rfl) rfl ?_;rw [HN.out, ← HL.out];exact fail_got HH.out (by first | exact B_1.out | exact below_drewN B_1.out _ | exact below_drewN (below_drewN B_1.out _) _) (by omega) _ _ _ _ _ _ _ _ _ _ _ _
  ·have hsB : ((L : Int) == 0) = false := by simpa using hs
   clear hs;go_wp2_with fail
   go_quiet (fail)
   go_wp2_with fail
   refine bodyPost_ret (by simp [results, Tryz.results113, go_sem, cR0, cR1, cR2, cR3, cR4, cR5, cR6, cR7, cR8, cR9, cR10, cR11]; try rfl) rfl ?_;rw [HN.out, ← HL.out];exact fail_got HH.out (by first | exact B_1.out | exact below_drewN B_1.out _ | exact below_drewN (below_drewN B_1.out _) _) (by omega) _ _ _ _ _ _ _ _ _ _ _ _
 | true =>
  obtain ⟨hn0, hn1⟩ := many_60 hlv hL60;obtain ⟨s0, s1, s2⟩ := many_sums (L := L) hlv;have hW0 : 0 ≤ wasteR L a b ∧ wasteR L a b ≤ 60 := by unfold wasteR; omega
  have HLV := hide hlv;refine (cutBest_spec _ a b _ _ L hL60 hlv wx HV.out).mono ?_;rintro e w1 ⟨mv, rfl, own, hb⟩;have hz1 := hb.size;have hmat : IntsAt wx.heap.size w1.heap.size w1 mv (manyL L a b) := ownI_at own rfl hz1;have HMA := hide hmat;have V_1 := hide (HV.out.below hb);have A_1 := A_0.below hb A_0.lt;have R_1 := R_0.below hb R_0.lt;have B_1 := hide (Below.step B_0 hb nl);unfold manyL at hmat;obtain ⟨b2, o2, cmv, rfl, hb2, hb2', -, -⟩ := two_at hmat;obtain ⟨n0, hn0e⟩ : ∃ n : Nat, many0 L a b = n := ⟨_, rfl⟩;obtain ⟨n1, hn1e⟩ : ∃ n : Nat, many1 L a b = n := ⟨_, rfl⟩;obtain ⟨wa, hwa⟩ : ∃ n : Int, wasteR L a b = n := ⟨_, rfl⟩;have HCW := hide (fun (W : World) (k : Below w1.heap.size w1 W) => cutWaste_spec (.slice (some ⟨w.heap.size + 1 + 1, 0, none⟩) 2 2) (.slice (some ⟨b2, o2, none⟩) 2 cmv) a b _ _ _ _ L hL60 HLV.out W (V_1.out.below k) (HMA.out.below k));rw [hwa] at HCW hW0;rw [hn0e] at hn0;rw [hn1e] at hn1;rw [hn0e, hn1e] at hmat;obtain ⟨b9, o9, c9, e9, -, -, m0, m1⟩ := two_at hmat;cases e9;have HC1 := hide (show CutInv base w.heap.size (w.heap.size + 1 + 1) w1.heap.size w (.slice aS m.store.length cs) (.slice al m.low.length cl) (.slice ah m.high.length ch) m (.slice (some ⟨w.heap.size + 1 + 1, 0, none⟩) 2 2) (.slice (some ⟨b2, o2, none⟩) 2 cmv) [a, b] [(n0 : Int), (n1 : Int)] w1 (.slice ap m.pieces.length cp) m.pieces from
   ⟨A_1, HH.out.below B_1.out, ⟨fun e => Nat.lt_irrefl _ (HH.out.so.lt _ e).2, fun e => Nat.lt_irrefl _ (HH.out.po.lt _ e).2, fun e => Nat.lt_irrefl _ (HH.out.lo.lt _ e).2, fun e => Nat.lt_irrefl _ (HH.out.ho.lt _ e).2⟩, B_1.out.mono hbz, V_1.out.mono nl hz1 nl, hmat.mono (by omega) nl nl, fun g e => .inl (by have := (HH.out.po.lt g e).2; omega), hbz, by omega⟩)
  have HK1 := hide (show CutK w.heap.size w1.heap.size w1 (.slice ap m.pieces.length cp) w1 (.slice ap m.pieces.length cp) from ⟨fun g e => .inl e, fun G _ _ _ => rfl, Nat.le_refl _⟩);have hwb : IntKind.i64.wrap ((m.pieces.length : Int) + (n0 : Int)) = (m.pieces.length : Int) + (n0 : Int) := IntWalk.i64_in _ (by omega);have hwc : IntKind.i64.wrap ((m.pieces.length : Int) + (n0 : Int) + (n1 : Int)) = (m.pieces.length : Int) + (n0 : Int) + (n1 : Int) := IntWalk.i64_in _ (by omega);have hwd : IntKind.i64.wrap (m.scrap + wa) = m.scrap + wa := IntWalk.i64_in _ (by omega);have E0 := hide hn0e;have E1 := hide hn1e;have EW := hide hwa;clear hn0e hn1e hwa hmat own hb hlv s0 s1 s2;have cA0 := A_1.c 0 rfl;have cA1 := A_1.c 1 rfl;have cA2 := A_1.c 2 rfl;have cA3 := A_1.c 3 rfl;have cA4 := A_1.c 4 rfl;have cA5 := A_1.c 5 rfl;have cA6 := A_1.c 6 rfl;have cA7 : w1.cell? ⟨w.heap.size, 7, none⟩ = some (.int .i64 (L : Int)) := by rw [← HL.out]; exact A_1.cell 7 (by simp [millC])
  have cA8 := A_1.c 8 rfl;have cA9 := A_1.c 9 rfl;have cA10 := A_1.c 10 rfl;have cA11 := A_1.c 11 rfl;obtain ⟨cR0, cR1, cR2, cR3, cR4, cR5, cR6, cR7, cR8, cR9, cR10, cR11⟩ := row12_c R_1;obtain ⟨fR0, fR1, fR2, fR3, fR4, fR5, fR6, fR7, fR8, fR9, fR10, fR11⟩ := row12_f R_1;by_cases hs : (L : Int) = 0
  ·have hsB : ((L : Int) == 0) = true := by simp [hs]
   have HN := hide (cutD_no1 (m := m) (a := a) (b := b) (by rw [HL.out]; exact hs));clear hs;go_wp2_with fail
   go_quiet (fail)
   go_wp2_with fail
   refine bodyPost_ret (by simp [results, Tryz.results113, go_sem, cR0, cR1, cR2, cR3, cR4, cR5, cR6, cR7, cR8, cR9, cR10, cR11]; try rfl) rfl ?_;rw [HN.out, ← HL.out];exact fail_got HH.out (by first | exact B_1.out | exact below_drewN B_1.out _ | exact below_drewN (below_drewN B_1.out _) _) (by omega) _ _ _ _ _ _ _ _ _ _ _ _
  ·have hsB : ((L : Int) == 0) = false := by simpa using hs
   have HS0 := hide (show m.strand ≠ 0 by rw [HL.out]; exact hs);clear hs;by_cases q1 : m.pieces.length + n0 + n1 ≤ 30;rotate_left
   ·have hq1 : decide (30 < (m.pieces.length : Int) + (n0 : Int) + (n1 : Int)) = true := by simp; omega
    have HN := hide (cutD_no3 (m := m) (a := a) (b := b) (by rw [HL.out, E0.out, E1.out]; exact q1));go_wp2_with fail
    go_quiet (fail)
    go_wp2_with fail
    refine bodyPost_ret (by simp [results, Tryz.results113, go_sem, cR0, cR1, cR2, cR3, cR4, cR5, cR6, cR7, cR8, cR9, cR10, cR11]; try rfl) rfl ?_;rw [HN.out, ← HL.out];exact fail_got HH.out (by first | exact B_1.out | exact below_drewN B_1.out _ | exact below_drewN (below_drewN B_1.out _) _) (by omega) _ _ _ _ _ _ _ _ _ _ _ _
   ·have hq1 : decide (30 < (m.pieces.length : Int) + (n0 : Int) + (n1 : Int)) = false := by simp; omega
    go_wp2_with fail
    go_quiet (fail)
    go_wp2_with fail
    refine (HCW.out _ (by first | exact Below.refl _ _ | exact below_drewN (Below.refl _ _) _)).mono ?_;rintro e w2 ⟨rfl, hb⟩;have hb2 : Below w1.heap.size w1 w2 := by first | exact hb | exact (below_drewN (Below.refl _ _) _).trans hb
    have A_2 := A_1.below hb2 A_1.lt;have R_2 := R_1.below hb2 R_1.lt;have B_2 := hide (Below.step B_1.out hb2 nl);have HC2 := hide (HC1.out.below hb2);have HK2 := hide (HK1.out.below hb2);clear hb hb2 m0 m1 cA0 cA1 cA2 cA3 cA4 cA5 cA6 cA7 cA8 cA9 cA10 cA11 cR0 fR0 cR1 fR1 cR2 fR2 cR3 fR3 cR4 fR4 cR5 fR5 cR6 fR6 cR7 fR7 cR8 fR8 cR9 fR9 cR10 fR10 cR11 fR11;have cA0 := A_2.c 0 rfl;have cA1 := A_2.c 1 rfl;have cA2 := A_2.c 2 rfl;have cA3 := A_2.c 3 rfl;have cA4 := A_2.c 4 rfl;have cA5 := A_2.c 5 rfl;have cA6 := A_2.c 6 rfl;have cA7 : w2.cell? ⟨w.heap.size, 7, none⟩ = some (.int .i64 (L : Int)) := by rw [← HL.out]; exact A_2.cell 7 (by simp [millC])
    have cA8 := A_2.c 8 rfl;have cA9 := A_2.c 9 rfl;have cA10 := A_2.c 10 rfl;have cA11 := A_2.c 11 rfl;obtain ⟨cR0, cR1, cR2, cR3, cR4, cR5, cR6, cR7, cR8, cR9, cR10, cR11⟩ := row12_c R_2;obtain ⟨fR0, fR1, fR2, fR3, fR4, fR5, fR6, fR7, fR8, fR9, fR10, fR11⟩ := row12_f R_2;by_cases q2 : m.scrap + wa ≤ 999;rotate_left
    ·have hq2 : decide (999 < m.scrap + wa) = true := by simp; omega
     have HN := hide (cutD_no4 (m := m) (a := a) (b := b) (by rw [HL.out, EW.out]; exact q2));go_wp2_with fail
     refine bodyPost_ret (by simp [results, Tryz.results113, go_sem, cR0, cR1, cR2, cR3, cR4, cR5, cR6, cR7, cR8, cR9, cR10, cR11]; try rfl) rfl ?_;rw [HN.out, ← HL.out];exact fail_got HH.out (by first | exact B_2.out | exact below_drewN B_2.out _ | exact below_drewN (below_drewN B_2.out _) _) (by omega) _ _ _ _ _ _ _ _ _ _ _ _
    ·have hq2 : decide (999 < m.scrap + wa) = false := by simp; omega
     clear cA0 cA1 cA2 cA3 cA4 cA5 cA6 cA7 cA8 cA9 cA10 cR0 fR0 cR1 fR1 cR2 fR2 cR3 fR3 cR4 fR4 cR5 fR5 cR6 fR6 cR7 fR7 cR8 fR8 cR9 fR9 cR10 fR10 cR11 fR11;go_wp2_with fail
     go_loopw [11] (fun i wr => True ∧ ((i = .int .i64 1 ∧ ∃ p, CutInv base w.heap.size (w.heap.size + 1 + 1) w1.heap.size w (.slice aS m.store.length cs) (.slice al m.low.length cl) (.slice ah m.high.length ch) m (.slice (some ⟨w.heap.size + 1 + 1, 0, none⟩) 2 2) (.slice (some ⟨b2, o2, none⟩) 2 cmv) [a, b] [(n0 : Int), (n1 : Int)] wr p (m.pieces) ∧ CutK w.heap.size w1.heap.size w1 (.slice ap m.pieces.length cp) wr p) ∨ (i = .int .i64 0 ∧ ∃ p, CutInv base w.heap.size (w.heap.size + 1 + 1) w1.heap.size w (.slice aS m.store.length cs) (.slice al m.low.length cl) (.slice ah m.high.length ch) m (.slice (some ⟨w.heap.size + 1 + 1, 0, none⟩) 2 2) (.slice (some ⟨b2, o2, none⟩) 2 cmv) [a, b] [(n0 : Int), (n1 : Int)] wr p (m.pieces ++ List.replicate n1 (⟨b, 0⟩ : Pc)) ∧ CutK w.heap.size w1.heap.size w1 (.slice ap m.pieces.length cp) wr p) ∨ (i = .int .i64 (-1) ∧ ∃ p, CutInv base w.heap.size (w.heap.size + 1 + 1) w1.heap.size w (.slice aS m.store.length cs) (.slice al m.low.length cl) (.slice ah m.high.length ch) m (.slice (some ⟨w.heap.size + 1 + 1, 0, none⟩) 2 2) (.slice (some ⟨b2, o2, none⟩) 2 cmv) [a, b] [(n0 : Int), (n1 : Int)] wr p (m.pieces ++ List.replicate n1 (⟨b, 0⟩ : Pc) ++ List.replicate n0 (⟨a, 0⟩ : Pc)) ∧ CutK w.heap.size w1.heap.size w1 (.slice ap m.pieces.length cp) wr p))) (fun i _ => (intOf i + 1).toNat)
     case atStart => exact ⟨trivial, .inl ⟨rfl, _, HC2.out, HK2.out⟩⟩
     case round =>
      obtain ⟨wo, rfl⟩ : ∃ wo : World, wo = wr := ⟨_, rfl⟩;rcases hrel.2 with ⟨rfl, p, hinv, hk⟩ | ⟨rfl, p, hinv, hk⟩ | ⟨rfl, p, hinv, hk⟩
      ·have HC := hide hinv
       have HK := hide hk;clear hinv hk cA11;go_wp2_with fail
       go_loopw [12] (fun i wr => ∃ (c : Nat) (p : Value), c ≤ n1 ∧ i = .int .i64 (c : Int) ∧ CutInv base w.heap.size (w.heap.size + 1 + 1) w1.heap.size w (.slice aS m.store.length cs) (.slice al m.low.length cl) (.slice ah m.high.length ch) m (.slice (some ⟨w.heap.size + 1 + 1, 0, none⟩) 2 2) (.slice (some ⟨b2, o2, none⟩) 2 cmv) [a, b] [(n0 : Int), (n1 : Int)] wr p (m.pieces ++ List.replicate c ⟨b, 0⟩) ∧ CutK w.heap.size w1.heap.size w1 (.slice ap m.pieces.length cp) wr p) (fun i _ => n1 - (intOf i).toNat)
       case atStart => exact ⟨0, _, Nat.zero_le _, rfl, by simpa using HC.out, HK.out⟩
       case round =>
        obtain ⟨c, p, hc, rfl, hinv, hk⟩ := hrel;have HC := hide hinv;have HK := hide hk;obtain ⟨ps, hps⟩ : ∃ ps, m.pieces ++ List.replicate c (⟨b, 0⟩ : Pc) = ps := ⟨_, rfl⟩;rw [hps] at hinv HC;have hpl30 : ps.length ≤ 30 := by rw [← hps]; simp; omega
        obtain ⟨b3, o3, cap3, e3, -, -, c0, c1⟩ := two_at hinv.len;cases e3;obtain ⟨b4, o4, cap4, e4, -, -, m0, m1⟩ := two_at hinv.man;cases e4;have c8 : wr.cell? ⟨w.heap.size, 8, none⟩ = some p := hinv.row.cell 8 (by simp [millC]);have hBr := hinv.row.lt;obtain ⟨app, cpp2, rfl, -, -⟩ := hinv.got.po.form;have HPS := hide hps;clear hinv hps hk;by_cases hlt : c < n1
        ·have hcI : (c : Int) < (n1 : Int) := by omega
         have hw1 : IntKind.i64.wrap ((c : Int) + 1) = ((c + 1 : Nat) : Int) := by rw [show (c : Int) + 1 = ((c + 1 : Nat) : Int) by omega]; exact IntWalk.i64_in _ (by omega)
         have HL2 := hide (HC.out.drew.alloc (.cells #[.int .i64 b, .int .i64 0] 73));have HK2 := hide (HK.out.below ((Below.refl wr.heap.size wr).drew.alloc nl (.cells #[.int .i64 b, .int .i64 0] 73)));have S1 := hide (show Source (wr.drew.alloc (.cells #[.int .i64 b, .int .i64 0] 73)) 2 (.slice (some ⟨wr.heap.size, 0, none⟩) 1 1) 1 [.int .i64 b, .int .i64 0] from Source.lit wr.drew [.int .i64 b, .int .i64 0] 2 73 1 rfl (fun u hu => by simp at hu; rcases hu with rfl | rfl <;> rfl) 1);go_wp2_with fail
         go_region_law (first
          | (refine step_append_E rfl (.tmp 67) (.tmp 73) 26 rfl base 73 j0 _ 2 16 Tryz.underlying26 hj0 hzj hj1 hj2 rfl (by decide) (.slice app ps.length cpp2) ps.length (flatP ps) (by simp [Act.eval]) HL2.out.got.po (.slice (some ⟨wr.heap.size, 0, none⟩) 1 1) 1 [.int .i64 b, .int .i64 0] (by simp [Act.eval]) S1.out (by unfold maxLen; omega) (by omega) HL2.out.got.hb ?_; intro v2 w3 hown2 hgrow2 h4; have r3 : RowL w3 w.heap.size _ _ := World.rowIs.of_block HL2.out.row (hgrow2.block w.heap.size HL2.out.row.lt (fun e => HL2.out.off.2.1 e.symm)); have d8 : w3.cell? ⟨w.heap.size, 8, none⟩ = some (.slice app ps.length cpp2) := r3.cell 8 (by simp [millC]); have g8 := r3.frozen 8; have hI3 := CutInv.app HL2.out hown2 (by simp) (flatP_one1 ps b) hgrow2 h4; have hK3 := HK2.out.app hgrow2 h4 v2; obtain ⟨a2, c2, rfl, -, -⟩ := hown2.form))
         all_goals
          have HI3 := hide hI3;have HK3 := hide hK3;clear hI3 hK3 hown2 hgrow2 h4 r3;go_wp2_with fail
          go_roundw
          case rel => exact ⟨c + 1, _, by omega, rfl, by rw [rep_snoc, HPS.out]; exact HI3.out, HK3.out⟩
          case measure => simp [intOf]; omega
        ·obtain rfl : c = n1 := by omega
         have hcI : ¬ (c : Int) < (c : Int) := by omega
         go_wp2_with fail
         go_roundw
         case rel => exact ⟨trivial, .inr (.inl ⟨rfl, _, by rw [HPS.out]; exact HC.out, HK.out⟩)⟩
         case measure => simp [intOf]
      ·have HC := hide hinv
       have HK := hide hk;clear hinv hk cA11;go_wp2_with fail
       go_loopw [12] (fun i wr => ∃ (c : Nat) (p : Value), c ≤ n0 ∧ i = .int .i64 (c : Int) ∧ CutInv base w.heap.size (w.heap.size + 1 + 1) w1.heap.size w (.slice aS m.store.length cs) (.slice al m.low.length cl) (.slice ah m.high.length ch) m (.slice (some ⟨w.heap.size + 1 + 1, 0, none⟩) 2 2) (.slice (some ⟨b2, o2, none⟩) 2 cmv) [a, b] [(n0 : Int), (n1 : Int)] wr p (m.pieces ++ List.replicate n1 (⟨b, 0⟩ : Pc) ++ List.replicate c ⟨a, 0⟩) ∧ CutK w.heap.size w1.heap.size w1 (.slice ap m.pieces.length cp) wr p) (fun i _ => n0 - (intOf i).toNat)
       case atStart => exact ⟨0, _, Nat.zero_le _, rfl, by simpa using HC.out, HK.out⟩
       case round =>
        obtain ⟨c, p, hc, rfl, hinv, hk⟩ := hrel;have HC := hide hinv;have HK := hide hk;obtain ⟨ps, hps⟩ : ∃ ps, m.pieces ++ List.replicate n1 (⟨b, 0⟩ : Pc) ++ List.replicate c (⟨a, 0⟩ : Pc) = ps := ⟨_, rfl⟩;rw [hps] at hinv HC;have hpl30 : ps.length ≤ 30 := by rw [← hps]; simp; omega
        obtain ⟨b3, o3, cap3, e3, -, -, c0, c1⟩ := two_at hinv.len;cases e3;obtain ⟨b4, o4, cap4, e4, -, -, m0, m1⟩ := two_at hinv.man;cases e4;have c8 : wr.cell? ⟨w.heap.size, 8, none⟩ = some p := hinv.row.cell 8 (by simp [millC]);have hBr := hinv.row.lt;obtain ⟨app, cpp2, rfl, -, -⟩ := hinv.got.po.form;have HPS := hide hps;clear hinv hps hk;by_cases hlt : c < n0
        ·have hcI : (c : Int) < (n0 : Int) := by omega
         have hw1 : IntKind.i64.wrap ((c : Int) + 1) = ((c + 1 : Nat) : Int) := by rw [show (c : Int) + 1 = ((c + 1 : Nat) : Int) by omega]; exact IntWalk.i64_in _ (by omega)
         have HL2 := hide (HC.out.drew.alloc (.cells #[.int .i64 a, .int .i64 0] 73));have HK2 := hide (HK.out.below ((Below.refl wr.heap.size wr).drew.alloc nl (.cells #[.int .i64 a, .int .i64 0] 73)));have S1 := hide (show Source (wr.drew.alloc (.cells #[.int .i64 a, .int .i64 0] 73)) 2 (.slice (some ⟨wr.heap.size, 0, none⟩) 1 1) 1 [.int .i64 a, .int .i64 0] from Source.lit wr.drew [.int .i64 a, .int .i64 0] 2 73 1 rfl (fun u hu => by simp at hu; rcases hu with rfl | rfl <;> rfl) 1);go_wp2_with fail
         go_region_law (first
          | (refine step_append_E rfl (.tmp 67) (.tmp 73) 26 rfl base 73 j0 _ 2 16 Tryz.underlying26 hj0 hzj hj1 hj2 rfl (by decide) (.slice app ps.length cpp2) ps.length (flatP ps) (by simp [Act.eval]) HL2.out.got.po (.slice (some ⟨wr.heap.size, 0, none⟩) 1 1) 1 [.int .i64 a, .int .i64 0] (by simp [Act.eval]) S1.out (by unfold maxLen; omega) (by omega) HL2.out.got.hb ?_; intro v2 w3 hown2 hgrow2 h4; have r3 : RowL w3 w.heap.size _ _ := World.rowIs.of_block HL2.out.row (hgrow2.block w.heap.size HL2.out.row.lt (fun e => HL2.out.off.2.1 e.symm)); have d8 : w3.cell? ⟨w.heap.size, 8, none⟩ = some (.slice app ps.length cpp2) := r3.cell 8 (by simp [millC]); have g8 := r3.frozen 8; have hI3 := CutInv.app HL2.out hown2 (by simp) (flatP_one1 ps a) hgrow2 h4; have hK3 := HK2.out.app hgrow2 h4 v2; obtain ⟨a2, c2, rfl, -, -⟩ := hown2.form))
         all_goals
          have HI3 := hide hI3;have HK3 := hide hK3;clear hI3 hK3 hown2 hgrow2 h4 r3;go_wp2_with fail
          go_roundw
          case rel => exact ⟨c + 1, _, by omega, rfl, by rw [rep_snoc, HPS.out]; exact HI3.out, HK3.out⟩
          case measure => simp [intOf]; omega
        ·obtain rfl : c = n0 := by omega
         have hcI : ¬ (c : Int) < (c : Int) := by omega
         go_wp2_with fail
         go_roundw
         case rel => exact ⟨trivial, .inr (.inr ⟨rfl, _, by rw [HPS.out]; exact HC.out, HK.out⟩)⟩
         case measure => simp [intOf]
      ·have HC := hide hinv
       have HK := hide hk;obtain ⟨ps, hps⟩ : ∃ ps, m.pieces ++ List.replicate n1 (⟨b, 0⟩ : Pc) ++ List.replicate n0 (⟨a, 0⟩ : Pc) = ps := ⟨_, rfl⟩;rw [hps] at hinv HC;obtain ⟨app, cpp2, rfl, -, -⟩ := hinv.got.po.form;have HPS := hide hps;have R_w : RowL wo (w.heap.size + 1) 31 [.slice none 0 0, .int .i64 0, .int .i64 0, .int .i64 0, .int .i64 0, .int .i64 0, .int .i64 0, .int .i64 0, .slice none 0 0, .slice none 0 0, .slice none 0 0, .int .i64 0] := World.rowIs.of_block R_1 (HK.out.keep _ (by omega) (by omega) (fun e => by have := (HH.out.po.lt _ e).2; omega));have A_w := hinv.row;clear hinv hk cA11 hps;obtain ⟨cA0, cA1, cA2, cA3, cA4, cA5, cA6, cA7, cA8, cA9, cA10, cA11⟩ := row12_c A_w;obtain ⟨fA0, fA1, fA2, fA3, fA4, fA5, fA6, fA7, fA8, fA9, fA10, fA11⟩ := row12_f A_w;obtain ⟨cR0, cR1, cR2, cR3, cR4, cR5, cR6, cR7, cR8, cR9, cR10, cR11⟩ := row12_c R_w;obtain ⟨fR0, fR1, fR2, fR3, fR4, fR5, fR6, fR7, fR8, fR9, fR10, fR11⟩ := row12_f R_w;go_wp2_with fail
       refine bodyPost_ret (by simp [results, Tryz.results113, go_sem, cR0, cR1, cR2, cR3, cR4, cR5, cR6, cR7, cR8, cR9, cR10, cR11]; try rfl) rfl ?_;rw [cutD_yes HS0.out HLV.out (by rw [HL.out, E0.out, E1.out]; exact q1) (by rw [HL.out, EW.out]; exact q2)];have T : Other w.heap.size (w.heap.size + 1) wo ((wo.setCell ⟨w.heap.size, 7, none⟩ (.int .i64 0)).setCell ⟨w.heap.size, 11, none⟩ (.int .i64 (m.scrap + wa))) := Other.setCell (p := ⟨w.heap.size, 11, none⟩) (Other.setCell (p := ⟨w.heap.size, 7, none⟩) (Other.refl _ _ _) nl (Nat.lt_succ_self _) _) nl (Nat.lt_succ_self _) _;have e1 : newPcs m.strand a b = List.replicate n1 ⟨b, 0⟩ ++ List.replicate n0 ⟨a, 0⟩ := by rw [HL.out]; unfold newPcs; rw [E0.out, E1.out]
       have e2 : wasteR m.strand a b = wa := by rw [HL.out]; exact EW.out
       have e3 : m.pieces ++ newPcs m.strand a b = ps := by rw [e1, ← List.append_assoc]; exact HPS.out
       rw [e2, e3];exact cut_done hbz B_1.out (by omega) HK.out HC.out.bel (HC.out.got.nums m.rule 0 (m.scrap + wa)) T (fun g hg => (HH.out.so.lt g hg).2) (fun g hg => (HH.out.po.lt g hg).2) (fun g hg => (HH.out.lo.lt g hg).2) (fun g hg => (HH.out.ho.lt g hg).2) _ _ _ _ _ _ _ _ _ _ _ _
end Go.Proofs.YtmemgbklgcjobaaGreatDoor
