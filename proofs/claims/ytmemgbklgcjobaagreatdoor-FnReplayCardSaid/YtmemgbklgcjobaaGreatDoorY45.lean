/-
  Parts of the proofs over mills, of: MethD, DoI2. Conditions: each theorem states its own.
-/
import Derived.Test.YtmemgbklgcjobaaGreatDoorY44
set_option linter.unusedSimpArgs false
set_option linter.unusedVariables false
set_option maxRecDepth 10000
set_option maxHeartbeats 64000000
namespace Go.Proofs.YtmemgbklgcjobaaGreatDoor
open Go.RowKit
theorem cut_meth {base B lo : Nat} {w : World} {s p l h : Value} {m : Mi} (v : Value) (a b : Int) (H : MillBox base B w s p l h m) (hm : MillV m) (hv2 : IntsAt lo w.heap.size w v [a, b]) (hB : B < lo) (hpl : ∀ g, p.ownBlock = some g → g < lo) :
 Calls Tryz.prog 108 #[.pointer (some ⟨B, 0, none⟩), v] w (Meth base B (cutD m a b) w) := by
 obtain ⟨j0, hj0, hzj, hj1, hj2⟩ := info_parts info_Pc;have HH := hide H;have hr := H.row;have hlt := hr.lt;have hbz := H.got.hb;have c7 := hr.c 7 rfl;have c8 : w.cell? ⟨B, 8, none⟩ = some p := hr.cell 8 (by simp [millC]);have c11 := hr.c 11 rfl;clear hr H;by_cases h0 : m.strand = 0
 ·have hsB : (m.strand == 0) = true := by simp [h0]
  have HN := hide (cutD_no1 (a := a) (b := b) h0);clear h0;go_enter Tryz.func108, Tryz.ntmps108;go_wp2_with fail
  go_ret;rw [HN.out];exact Meth.no (Below.refl _ _)
 have hsB : (m.strand == 0) = false := by simp [h0]
 have H0 := hide h0;clear h0;have hlen := lens_impl v a b lo w.heap.size w hv2;cases hlv : lensB a b with
 | false =>
  have HN := hide (cutD_no2 (m := m) hlv);rw [hlv] at hlen;clear hlv;go_enter Tryz.func108, Tryz.ntmps108;go_wp2_with fail
  refine hlen.mono ?_;rintro e w1 ⟨rfl, rfl⟩;go_wp2_with fail
  go_ret;rw [HN.out];exact Meth.no (Below.refl _ _)
 | true =>
 have HLV := hide hlv;rw [hlv] at hlen;have HLN := hide hlen;have hst0 := hm.st0;have hst1 := hm.st1;have hsc0 := hm.sc0;have hsc1 := hm.sc1;have hpc := hm.len;obtain ⟨L, hL⟩ : ∃ L : Nat, m.strand = L := ⟨m.strand.toNat, by omega⟩;have hL60 : L ≤ 60 := by omega
 have HL := hide hL;rw [hL] at c7 hsB;have HCB := hide (cutBest_impl v a b lo w.heap.size L hL60 hlv w hv2);obtain ⟨hn0, hn1⟩ := many_60 hlv hL60;obtain ⟨s0, s1, s2⟩ := many_sums (L := L) hlv;have hW0 : 0 ≤ wasteR L a b ∧ wasteR L a b ≤ 60 := by unfold wasteR; omega
 obtain ⟨b0, o0, capl, rfl, hb0, hb0', -, -⟩ := two_at hv2;have HV2 := hide hv2;have hv0 : lo ≤ w.heap.size := by omega
 clear hv2 hlv hlen s0 s1 s2 hL;go_enter Tryz.func108, Tryz.ntmps108;go_wp2_with fail
 refine HLN.out.mono ?_;rintro e w1 ⟨rfl, rfl⟩;go_wp2_with fail
 refine HCB.out.mono ?_;rintro e w1 ⟨mv, rfl, own, hb⟩;have hz1 := hb.size;have B_1 := hide hb;have hmat : IntsAt w.heap.size w1.heap.size w1 mv (manyL L a b) := ownI_at own rfl hz1;have HMA := hide hmat;have V_1 := hide (HV2.out.below hb);have R_1 := HH.out.row.below hb hlt;unfold manyL at hmat;obtain ⟨b2, o2, cmv, rfl, hb2, hb2', -, -⟩ := two_at hmat;have d7 : w1.cell? ⟨B, 7, none⟩ = some (.int .i64 (L : Int)) := by rw [R_1.cell 7 (by simp [millC])]; simp [millC, HL.out]
 have d8 : w1.cell? ⟨B, 8, none⟩ = some p := R_1.cell 8 (by simp [millC]);have d11 := R_1.c 11 rfl;have hlt1 := R_1.lt;have HR1 := hide R_1;have HCW := hide (fun (W : World) (k : Below w1.heap.size w1 W) => cutWaste_impl (.slice (some ⟨b0, o0, none⟩) 2 capl) (.slice (some ⟨b2, o2, none⟩) 2 cmv) a b lo w.heap.size w.heap.size w1.heap.size L hL60 HLV.out W (V_1.out.below k) (HMA.out.below k));have HTN := hide (fun (W : World) (k : Below w1.heap.size w1 W) => tons_impl (.slice (some ⟨b2, o2, none⟩) 2 cmv) (manyL L a b) w.heap.size w1.heap.size W (HMA.out.below k) (by simp [manyL]) (fun k hk => by
  have : k = 0 ∨ k = 1 := by simp [manyL] at hk; omega
  rcases this with rfl | rfl <;> simp [manyL] <;> omega))
 rw [tons_many] at HTN;obtain ⟨n0, hn0e⟩ : ∃ n : Nat, many0 L a b = n := ⟨_, rfl⟩;obtain ⟨n1, hn1e⟩ : ∃ n : Nat, many1 L a b = n := ⟨_, rfl⟩;obtain ⟨wa, hwa⟩ : ∃ n : Int, wasteR L a b = n := ⟨_, rfl⟩;rw [hn0e, hn1e] at HTN;rw [hwa] at HCW hW0;rw [hn0e] at hn0;rw [hn1e] at hn1;have hw1 : IntKind.i64.wrap (m.scrap + wa) = m.scrap + wa := IntWalk.i64_in _ (by omega);have hw2 : IntKind.i64.wrap ((m.pieces.length : Int) + ((n0 : Int) + (n1 : Int))) = (m.pieces.length : Int) + ((n0 : Int) + (n1 : Int)) := IntWalk.i64_in _ (by omega);obtain ⟨ap, cpp, hpf, -, -⟩ := HH.out.got.po.form;rw [hpf] at d8;rw [hn0e, hn1e] at hmat;have HC1 := hide (show CutInv base B lo w1.heap.size w s l h m (.slice (some ⟨b0, o0, none⟩) 2 capl) (.slice (some ⟨b2, o2, none⟩) 2 cmv) [a, b] [(n0 : Int), (n1 : Int)] w1 p m.pieces from
  ⟨R_1, HH.out.got.below hb, HH.out.off, hb.mono hbz, V_1.out.mono nl hz1 nl, hmat.mono hv0 nl nl, fun g e => .inl (hpl g e), HH.out.hB, hB⟩)
 clear hmat own hb c7 c8 c11 R_1;have E0 := hide hn0e;have E1 := hide hn1e;have EW := hide hwa;clear hn0e hn1e hwa;go_wp2_with fail
 go_quiet ((go_at_call 163; exact quiet_left (HCW.out _ (below_drewN (Below.refl _ _) _))))
 go_wp2_with fail
 by_cases q1 : m.pieces.length + n0 + n1 ≤ 30
 ·have hq1 : decide (30 < (m.pieces.length : Int) + ((n0 : Int) + (n1 : Int))) = false := by simp; omega
  by_cases q2 : m.scrap + wa ≤ 999
  ·have hq2 : decide (999 < m.scrap + wa) = false := by simp; omega
   go_quiet ((go_at_call 71; exact quiet_left2 (HTN.out _ (below_drewN (Below.refl _ _) _))))
   go_wp2_with fail
   go_loopw [7] (fun i wr => True ∧ ((i = .int .i64 1 ∧ ∃ p, CutInv base B lo w1.heap.size w s l h m (.slice (some ⟨b0, o0, none⟩) 2 capl) (.slice (some ⟨b2, o2, none⟩) 2 cmv) [a, b] [(n0 : Int), (n1 : Int)] wr p m.pieces) ∨ (i = .int .i64 0 ∧ ∃ p, CutInv base B lo w1.heap.size w s l h m (.slice (some ⟨b0, o0, none⟩) 2 capl) (.slice (some ⟨b2, o2, none⟩) 2 cmv) [a, b] [(n0 : Int), (n1 : Int)] wr p (m.pieces ++ List.replicate n1 ⟨b, 0⟩)) ∨ (i = .int .i64 (-1) ∧ ∃ p, CutInv base B lo w1.heap.size w s l h m (.slice (some ⟨b0, o0, none⟩) 2 capl) (.slice (some ⟨b2, o2, none⟩) 2 cmv) [a, b] [(n0 : Int), (n1 : Int)] wr p (m.pieces ++ List.replicate n1 ⟨b, 0⟩ ++ List.replicate n0 ⟨a, 0⟩)))) (fun i _ => (intOf i + 1).toNat)
   case atStart => exact ⟨trivial, .inl ⟨rfl, p, HC1.out.below (by first | exact Below.refl _ _ | exact below_drewN (Below.refl _ _) _ | exact below_drewN (below_drewN (Below.refl _ _) _) _)⟩⟩
   case round =>
    obtain ⟨wo, rfl⟩ : ∃ wo : World, wo = wr := ⟨_, rfl⟩;rcases hrel.2 with ⟨rfl, p, hinv⟩ | ⟨rfl, p, hinv⟩ | ⟨rfl, p, hinv⟩
    ·have HC := hide hinv
     obtain ⟨b3, o3, cap3, e3, -, -, m0, m1⟩ := two_at hinv.man;cases e3;clear hinv;go_wp2_with fail
     go_loopw [60] (fun i wr => ∃ (c : Nat) (p : Value), c ≤ n1 ∧ i = .int .i64 (c : Int) ∧ CutInv base B lo w1.heap.size w s l h m (.slice (some ⟨b0, o0, none⟩) 2 capl) (.slice (some ⟨b2, o2, none⟩) 2 cmv) [a, b] [(n0 : Int), (n1 : Int)] wr p (m.pieces ++ List.replicate c ⟨b, 0⟩)) (fun i _ => n1 - (intOf i).toNat)
     case atStart => exact ⟨0, _, Nat.zero_le _, rfl, by simpa using HC.out⟩
     case round =>
      obtain ⟨c, p, hc, rfl, hinv⟩ := hrel;have HC := hide hinv;obtain ⟨ps, hps⟩ : ∃ ps, m.pieces ++ List.replicate c (⟨b, 0⟩ : Pc) = ps := ⟨_, rfl⟩;rw [hps] at hinv HC;have hpl30 : ps.length ≤ 30 := by rw [← hps]; simp; omega
      obtain ⟨b3, o3, cap3, e3, -, -, c0, c1⟩ := two_at hinv.len;cases e3;have c8 : wr.cell? ⟨B, 8, none⟩ = some p := hinv.row.cell 8 (by simp [millC]);have hBr := hinv.row.lt;obtain ⟨app, cpp2, rfl, -, -⟩ := hinv.got.po.form;have HPS := hide hps;clear hinv hps;by_cases hlt : c < n1
      ·have hcI : (c : Int) < (n1 : Int) := by omega
       have hw1 : IntKind.i64.wrap ((c : Int) + 1) = ((c + 1 : Nat) : Int) := by rw [show (c : Int) + 1 = ((c + 1 : Nat) : Int) by omega]; exact IntWalk.i64_in _ (by omega)
       have HL2 := hide (HC.out.drew.alloc (.cells #[.int .i64 b, .int .i64 0] 73));have S1 := hide (show Source (wr.drew.alloc (.cells #[.int .i64 b, .int .i64 0] 73)) 2 (.slice (some ⟨wr.heap.size, 0, none⟩) 1 1) 1 [.int .i64 b, .int .i64 0] from Source.lit wr.drew [.int .i64 b, .int .i64 0] 2 73 1 rfl (fun u hu => by simp at hu; rcases hu with rfl | rfl <;> rfl) 1);go_wp2_with fail
       go_region_law (first
        | (refine step_append_E rfl (.tmp 66) (.tmp 72) 26 rfl base 73 j0 _ 2 16 Tryz.underlying26 hj0 hzj hj1 hj2 rfl (by decide) (.slice app ps.length cpp2) ps.length (flatP ps) (by simp [Act.eval]) HL2.out.got.po (.slice (some ⟨wr.heap.size, 0, none⟩) 1 1) 1 [.int .i64 b, .int .i64 0] (by simp [Act.eval]) S1.out (by unfold maxLen; omega) (by omega) HL2.out.got.hb ?_; intro v2 w3 hown2 hgrow2 h4; have r3 : RowL w3 B _ _ := World.rowIs.of_block HL2.out.row (hgrow2.block B HL2.out.row.lt (fun e => HL2.out.off.2.1 e.symm)); have d8 : w3.cell? ⟨B, 8, none⟩ = some (.slice app ps.length cpp2) := r3.cell 8 (by simp [millC]); have g8 := r3.frozen 8; have hI3 := CutInv.app HL2.out hown2 (by simp) (flatP_one1 ps b) hgrow2 h4; obtain ⟨a2, c2, rfl, -, -⟩ := hown2.form))
       all_goals
        have HI3 := hide hI3;clear hI3 hown2 hgrow2 h4 r3;go_wp2_with fail
        go_roundw
        case rel => exact ⟨c + 1, _, by omega, rfl, by rw [rep_snoc, HPS.out]; exact HI3.out⟩
        case measure => simp [intOf]; omega
      ·obtain rfl : c = n1 := by omega
       go_wp2_with fail
       go_roundw
       case rel => exact ⟨trivial, .inr (.inl ⟨rfl, _, by rw [HPS.out]; exact HC.out⟩)⟩
       case measure => simp [intOf]
    ·have HC := hide hinv
     obtain ⟨b3, o3, cap3, e3, -, -, m0, m1⟩ := two_at hinv.man;cases e3;clear hinv;go_wp2_with fail
     go_loopw [60] (fun i wr => ∃ (c : Nat) (p : Value), c ≤ n0 ∧ i = .int .i64 (c : Int) ∧ CutInv base B lo w1.heap.size w s l h m (.slice (some ⟨b0, o0, none⟩) 2 capl) (.slice (some ⟨b2, o2, none⟩) 2 cmv) [a, b] [(n0 : Int), (n1 : Int)] wr p (m.pieces ++ List.replicate n1 (⟨b, 0⟩ : Pc) ++ List.replicate c ⟨a, 0⟩)) (fun i _ => n0 - (intOf i).toNat)
     case atStart => exact ⟨0, _, Nat.zero_le _, rfl, by simpa using HC.out⟩
     case round =>
      obtain ⟨c, p, hc, rfl, hinv⟩ := hrel;have HC := hide hinv;obtain ⟨ps, hps⟩ : ∃ ps, m.pieces ++ List.replicate n1 (⟨b, 0⟩ : Pc) ++ List.replicate c (⟨a, 0⟩ : Pc) = ps := ⟨_, rfl⟩;rw [hps] at hinv HC;have hpl30 : ps.length ≤ 30 := by rw [← hps]; simp; omega
      obtain ⟨b3, o3, cap3, e3, -, -, c0, c1⟩ := two_at hinv.len;cases e3;have c8 : wr.cell? ⟨B, 8, none⟩ = some p := hinv.row.cell 8 (by simp [millC]);have hBr := hinv.row.lt;obtain ⟨app, cpp2, rfl, -, -⟩ := hinv.got.po.form;have HPS := hide hps;clear hinv hps;by_cases hlt : c < n0
      ·have hcI : (c : Int) < (n0 : Int) := by omega
       have hw1 : IntKind.i64.wrap ((c : Int) + 1) = ((c + 1 : Nat) : Int) := by rw [show (c : Int) + 1 = ((c + 1 : Nat) : Int) by omega]; exact IntWalk.i64_in _ (by omega)
       have HL2 := hide (HC.out.drew.alloc (.cells #[.int .i64 a, .int .i64 0] 73));have S1 := hide (show Source (wr.drew.alloc (.cells #[.int .i64 a, .int .i64 0] 73)) 2 (.slice (some ⟨wr.heap.size, 0, none⟩) 1 1) 1 [.int .i64 a, .int .i64 0] from Source.lit wr.drew [.int .i64 a, .int .i64 0] 2 73 1 rfl (fun u hu => by simp at hu; rcases hu with rfl | rfl <;> rfl) 1);go_wp2_with fail
       go_region_law (first
        | (refine step_append_E rfl (.tmp 66) (.tmp 72) 26 rfl base 73 j0 _ 2 16 Tryz.underlying26 hj0 hzj hj1 hj2 rfl (by decide) (.slice app ps.length cpp2) ps.length (flatP ps) (by simp [Act.eval]) HL2.out.got.po (.slice (some ⟨wr.heap.size, 0, none⟩) 1 1) 1 [.int .i64 a, .int .i64 0] (by simp [Act.eval]) S1.out (by unfold maxLen; omega) (by omega) HL2.out.got.hb ?_; intro v2 w3 hown2 hgrow2 h4; have r3 : RowL w3 B _ _ := World.rowIs.of_block HL2.out.row (hgrow2.block B HL2.out.row.lt (fun e => HL2.out.off.2.1 e.symm)); have d8 : w3.cell? ⟨B, 8, none⟩ = some (.slice app ps.length cpp2) := r3.cell 8 (by simp [millC]); have g8 := r3.frozen 8; have hI3 := CutInv.app HL2.out hown2 (by simp) (flatP_one1 ps a) hgrow2 h4; obtain ⟨a2, c2, rfl, -, -⟩ := hown2.form))
       all_goals
        have HI3 := hide hI3;clear hI3 hown2 hgrow2 h4 r3;go_wp2_with fail
        go_roundw
        case rel => exact ⟨c + 1, _, by omega, rfl, by rw [rep_snoc, HPS.out]; exact HI3.out⟩
        case measure => simp [intOf]; omega
      ·obtain rfl : c = n0 := by omega
       go_wp2_with fail
       go_roundw
       case rel => exact ⟨trivial, .inr (.inr ⟨rfl, _, by rw [HPS.out]; exact HC.out⟩)⟩
       case measure => simp [intOf]
    ·have HC := hide hinv
     have i7 : wo.cell? ⟨B, 7, none⟩ = some (.int .i64 m.strand) := hinv.row.cell 7 (by simp [millC]);have i11 : wo.cell? ⟨B, 11, none⟩ = some (.int .i64 m.scrap) := hinv.row.cell 11 (by simp [millC]);have f7 := hinv.row.frozen 7;have f11 := hinv.row.frozen 11;clear hinv;go_wp2_with fail
     go_ret;rw [cutD_yes H0.out HLV.out (by rw [HL.out, E0.out, E1.out]; exact q1) (by rw [HL.out, EW.out]; exact q2)];obtain ⟨r1, k1, b1⟩ := box_set HC.out.row HC.out.got HC.out.off HC.out.hB.1 (j := 7) (by simp [millC]) (.int .i64 0);obtain ⟨r2, k2, b2⟩ := box_set r1 k1 HC.out.off HC.out.hB.1 (j := 11) (by simp [millC]) (.int .i64 (m.scrap + wa));refine ⟨rfl, (HC.out.bel.trans b1).trans b2, fun x hx => ?_⟩;obtain rfl := Option.some.inj hx;have e1 : newPcs m.strand a b = List.replicate n1 ⟨b, 0⟩ ++ List.replicate n0 ⟨a, 0⟩ := by rw [HL.out]; unfold newPcs; rw [E0.out, E1.out]
     have e2 : wasteR m.strand a b = wa := by rw [HL.out]; exact EW.out
     have e3 : m.pieces ++ newPcs m.strand a b = m.pieces ++ List.replicate n1 ⟨b, 0⟩ ++ List.replicate n0 ⟨a, 0⟩ := by rw [e1, List.append_assoc]
     rw [e2, e3];exact ⟨_, _, _, _, r2, k2.nums m.rule 0 (m.scrap + wa)⟩
  ·have hq2 : decide (999 < m.scrap + wa) = true := by simp; omega
   go_quiet ((go_at_call 71; exact quiet_left2 (HTN.out _ (below_drewN (Below.refl _ _) _))))
   go_wp2_with fail
   go_ret;rw [cutD_no4 (by rw [HL.out, EW.out]; omega)];exact Meth.no (by first | exact below_drewN (B_1.out.mono hbz) _ | exact below_drewN (below_drewN (B_1.out.mono hbz) _) _)
 ·have hq1 : decide (30 < (m.pieces.length : Int) + ((n0 : Int) + (n1 : Int))) = true := by simp; omega
  go_quiet ((go_at_call 71; exact quiet_left2 (HTN.out _ (below_drewN (Below.refl _ _) _))))
  go_wp2_with fail
  go_ret;rw [cutD_no3 (by rw [HL.out, E0.out, E1.out]; omega)];exact Meth.no (by first | exact below_drewN (B_1.out.mono hbz) _ | exact below_drewN (below_drewN (B_1.out.mono hbz) _) _)
theorem do_i2 (s p l h : Value) (m : Mi) (a b : Int) (w : World) (H : MillIn 0 w.heap.size w s p l h m) (ha : a ≤ 9223372036854775807) (hb : b ≤ 9223372036854775807) :
 Calls Tryz.prog 44 #[millV s p l h m, .agg #[.int .i64 2, .int .i64 a, .int .i64 b]] w (DoGot w.heap.size (doR m ⟨2, a, b⟩) w) := by
 obtain ⟨ao1, cap1, rfl, -, -, -, -⟩ := id H.store;obtain ⟨ao2, cap2, rfl, -, -, -, -⟩ := id H.pieces;obtain ⟨ao3, cap3, rfl, -, -, -, -⟩ := id H.low;obtain ⟨ao4, cap4, rfl, -, -, -, -⟩ := id H.high;have HM := hide H;have HA := hide (And.intro ha hb);clear H ha hb;unfold millV;go_enter Tryz.func44, Tryz.ntmps44;go_wp2_with fail
 refine calls_at fun wx hwx => ?_;have A_0 : RowL wx (w.heap.size) 31 [.slice ao1 m.store.length cap1, .int .i64 m.rule.lc, .int .i64 m.rule.hc, .int .i64 m.rule.lm, .int .i64 m.rule.hm, .int .i64 m.rule.ls, .int .i64 m.rule.hs, .int .i64 m.strand, .slice ao2 m.pieces.length cap2, .slice ao3 m.low.length cap3, .slice ao4 m.high.length cap4, .int .i64 m.scrap] := by rw [hwx]; exact (((RowL.new _ _ _).alloc _).alloc _)
 have D_0 : RowL wx (w.heap.size + 1) 48 [.int .i64 2, .int .i64 a, .int .i64 b] := by rw [hwx]; simpa using ((RowL.new (World.alloc _ _) 48 [.int .i64 2, .int .i64 a, .int .i64 b]).alloc _)
 have R_0 : RowL wx (w.heap.size + 1 + 1) 31 [.slice none 0 0, .int .i64 0, .int .i64 0, .int .i64 0, .int .i64 0, .int .i64 0, .int .i64 0, .int .i64 0, .slice none 0 0, .slice none 0 0, .slice none 0 0, .int .i64 0] := by rw [hwx]; simpa using (RowL.new (World.alloc (World.alloc _ _) _) 31 [.slice none 0 0, .int .i64 0, .int .i64 0, .int .i64 0, .int .i64 0, .int .i64 0, .int .i64 0, .int .i64 0, .slice none 0 0, .slice none 0 0, .slice none 0 0, .int .i64 0])
 have B_0 : Below w.heap.size w wx := by rw [hwx]; go_grown
 clear hwx;have hL0 := R_0.lt;have V_0 := hide (HM.out.below B_0);have k1 := mill_impl _ _ _ _ m wx V_0.out.all;unfold millV at k1;cases hv : millB m with
 | false =>
  rw [hv] at k1;have HZ := hide (do_bad hv ⟨2, a, b⟩);clear hv;refine k1.mono ?_;rintro e w1 ⟨rfl, hb⟩;have R_1 := R_0.below hb R_0.lt;have B_1 := hide (Below.step B_0 hb nl);clear hb k1;obtain ⟨cR0, cR1, cR2, cR3, cR4, cR5, cR6, cR7, cR8, cR9, cR10, cR11⟩ := row12_c R_1;obtain ⟨fR0, fR1, fR2, fR3, fR4, fR5, fR6, fR7, fR8, fR9, fR10, fR11⟩ := row12_f R_1;go_wp2_with fail
  refine bodyPost_ret (by simp [results, Tryz.results44, go_sem, cR0, cR1, cR2, cR3, cR4, cR5, cR6, cR7, cR8, cR9, cR10, cR11]; try rfl) rfl ?_;rw [HZ.out];exact ⟨_, _, _, _, rfl, zero_got B_1.out nl (by omega) _ _ _ _ _ _ _ _ _ _ _ _⟩
 | true =>
  rw [hv] at k1;obtain ⟨n1, n2, n3, n4⟩ := few_of hv;have HV := hide hv;have hD := do_good hv 2 a b;rw [step_2] at hD;clear hv;refine k1.mono ?_;rintro e w1 ⟨rfl, hb⟩;have A_1 := A_0.below hb A_0.lt;have D_1 := D_0.below hb D_0.lt;have R_1 := R_0.below hb R_0.lt;have V_1 := hide (V_0.out.below hb);have B_1 := hide (Below.step B_0 hb nl);have hz1 := hb.size;clear hb k1;obtain ⟨cA0, cA1, cA2, cA3, cA4, cA5, cA6, cA7, cA8, cA9, cA10, cA11⟩ := row12_c A_1;go_wp2_with fail
  clear cA0 cA1 cA2 cA3 cA4 cA5 cA6 cA7 cA8 cA9 cA10 cA11;have k2 := copyMill_any _ _ _ _ m w1 V_1.out.all n1 n2 n3 n4;unfold millV at k2;refine k2.mono ?_;clear k2;rintro e w2 ⟨s2, p2, l2, h2, rfl, G, hb⟩;have A_2 := A_1.below hb A_1.lt;have D_2 := D_1.below hb D_1.lt;have R_2 := R_1.below hb R_1.lt;have V_2 := hide (V_1.out.below hb);have B_2 := hide (Below.step B_1.out hb nl);have hz2 := hb.size;have hL2 := R_2.lt;have hLD := D_2.lt;have hLA := A_2.lt;clear hb;have G_2 := hide G;obtain ⟨aS, cs, rfl, -, -⟩ := G.so.form;obtain ⟨ap, cp, rfl, -, -⟩ := G.po.form;obtain ⟨al, cl, rfl, -, -⟩ := G.lo.form;obtain ⟨ah, ch, rfl, -, -⟩ := G.ho.form;clear G;unfold millV;have cD0 := D_2.c 0 rfl;have cD1 := D_2.c 1 rfl;have cD2 := D_2.c 2 rfl;go_wp2_with fail
  refine calls_at fun wy hwy => ?_;have C_y : RowL wy w2.heap.size 31 (millC (.slice aS m.store.length cs) (.slice ap m.pieces.length cp) (.slice al m.low.length cl) (.slice ah m.high.length ch) m) := by
   rw [hwy];first
    | exact (RowL.new w2 31 (millC (.slice aS m.store.length cs) (.slice ap m.pieces.length cp) (.slice al m.low.length cl) (.slice ah m.high.length ch) m))
    | exact (row12 (RowL.new w2 31 [.slice none 0 0, .int .i64 0, .int .i64 0, .int .i64 0, .int .i64 0, .int .i64 0, .int .i64 0, .int .i64 0, .slice none 0 0, .slice none 0 0, .slice none 0 0, .int .i64 0]) rfl _ _ _ _ _ _ _ _ _ _ _ _)
  have hby : Below w2.heap.size w2 wy := by
   rw [hwy];first
    | exact ((Below.refl _ _).alloc nl _)
    | exact (((Below.refl _ _).alloc nl _).trans ((other12 w2.heap.size _ _ _ _ _ _ _ _ _ _ _ _ _).below nl (by simp)))
  have A_y := A_2.below hby A_2.lt;have R_y := R_2.below hby R_2.lt;have V_y := hide (V_2.out.below hby);have B_y := hide (Below.step B_2.out hby nl);have G_y := hide (G_2.out.below hby);have hzy := hby.size;clear hwy hby;have MB : MillBox w1.heap.size w2.heap.size wy _ _ _ _ m := ⟨C_y, G_y.out, ⟨fun e => Nat.lt_irrefl _ (G_2.out.so.lt _ e).2, fun e => Nat.lt_irrefl _ (G_2.out.po.lt _ e).2, fun e => Nat.lt_irrefl _ (G_2.out.lo.lt _ e).2, fun e => Nat.lt_irrefl _ (G_2.out.ho.lt _ e).2⟩, hz2⟩;have k3 := roll_meth a b MB n2 HA.out.2;obtain ⟨o, ho⟩ : ∃ o, rollD m a b = o := ⟨_, rfl⟩;rw [ho] at k3 hD;have HD := hide hD;clear hD ho MB cD0 cD1 cD2;refine k3.mono ?_;clear k3;rintro e w4 ⟨rfl, hb, hx⟩;have A_4 := A_y.below hb (by omega);have R_4 := R_y.below hb (by omega);have V_4 := hide (V_y.out.low_keep hb (by omega));have B_4 := hide (B_y.out.trans (hb.mono (by omega)));have hz4 := hb.size;clear hb;rcases o with _ | x;rotate_left
  ·obtain ⟨s4, p4, l4, h4, C_4, G⟩ := hx x rfl
   have HZ := hide (show doR m ⟨2, a, b⟩ = (x, true) from HD.out);have G_4 := hide G;obtain ⟨aS4, cs4, rfl, -, -⟩ := G.so.form;obtain ⟨ap4, cp4, rfl, -, -⟩ := G.po.form;obtain ⟨al4, cl4, rfl, -, -⟩ := G.lo.form;obtain ⟨ah4, ch4, rfl, -, -⟩ := G.ho.form;clear G hx;unfold millC at C_4;obtain ⟨cC0, cC1, cC2, cC3, cC4, cC5, cC6, cC7, cC8, cC9, cC10, cC11⟩ := row12_c C_4;obtain ⟨cR0, cR1, cR2, cR3, cR4, cR5, cR6, cR7, cR8, cR9, cR10, cR11⟩ := row12_c R_4;obtain ⟨fR0, fR1, fR2, fR3, fR4, fR5, fR6, fR7, fR8, fR9, fR10, fR11⟩ := row12_f R_4;go_wp2_with fail
   refine bodyPost_ret (by simp [results, Tryz.results44, go_sem, cR0, cR1, cR2, cR3, cR4, cR5, cR6, cR7, cR8, cR9, cR10, cR11]; try rfl) rfl ?_;rw [HZ.out];exact ⟨_, _, _, _, rfl, put_got G_4.out B_4.out (by omega) (by omega) nl _ _ _ _ _ _ _ _ _ _ _ _⟩
  ·clear hx
   have HZ := hide (show doR m ⟨2, a, b⟩ = (m, false) from HD.out);obtain ⟨cA0, cA1, cA2, cA3, cA4, cA5, cA6, cA7, cA8, cA9, cA10, cA11⟩ := row12_c A_4;go_wp2_with fail
   clear cA0 cA1 cA2 cA3 cA4 cA5 cA6 cA7 cA8 cA9 cA10 cA11;have k5 := copyMill_any _ _ _ _ m w4 V_4.out.all n1 n2 n3 n4;unfold millV at k5;refine k5.mono ?_;clear k5;rintro e w5 ⟨s5, p5, l5, h5, rfl, G, hb⟩;have R_5 := R_4.below hb R_4.lt;have B_5 := hide (Below.step B_4.out hb nl);clear hb;have G_5 := hide G;obtain ⟨aS5, cs5, rfl, -, -⟩ := G.so.form;obtain ⟨ap5, cp5, rfl, -, -⟩ := G.po.form;obtain ⟨al5, cl5, rfl, -, -⟩ := G.lo.form;obtain ⟨ah5, ch5, rfl, -, -⟩ := G.ho.form;clear G;unfold millV;obtain ⟨cR0, cR1, cR2, cR3, cR4, cR5, cR6, cR7, cR8, cR9, cR10, cR11⟩ := row12_c R_5;obtain ⟨fR0, fR1, fR2, fR3, fR4, fR5, fR6, fR7, fR8, fR9, fR10, fR11⟩ := row12_f R_5;go_wp2_with fail
   refine bodyPost_ret (by simp [results, Tryz.results44, go_sem, cR0, cR1, cR2, cR3, cR4, cR5, cR6, cR7, cR8, cR9, cR10, cR11]; try rfl) rfl ?_;rw [HZ.out];exact ⟨_, _, _, _, rfl, put_got G_5.out B_5.out (by omega) (by omega) nl _ _ _ _ _ _ _ _ _ _ _ _⟩
theorem do_i3 (s p l h : Value) (m : Mi) (a b : Int) (w : World) (H : MillIn 0 w.heap.size w s p l h m) (ha : a ≤ 9223372036854775807) (hb : b ≤ 9223372036854775807) :
 Calls Tryz.prog 44 #[millV s p l h m, .agg #[.int .i64 3, .int .i64 a, .int .i64 b]] w (DoGot w.heap.size (doR m ⟨3, a, b⟩) w) := by
 obtain ⟨ao1, cap1, rfl, -, -, -, -⟩ := id H.store;obtain ⟨ao2, cap2, rfl, -, -, -, -⟩ := id H.pieces;obtain ⟨ao3, cap3, rfl, -, -, -, -⟩ := id H.low;obtain ⟨ao4, cap4, rfl, -, -, -, -⟩ := id H.high;have HM := hide H;have HA := hide (And.intro ha hb);clear H ha hb;unfold millV;go_enter Tryz.func44, Tryz.ntmps44;go_wp2_with fail
 refine calls_at fun wx hwx => ?_;have A_0 : RowL wx (w.heap.size) 31 [.slice ao1 m.store.length cap1, .int .i64 m.rule.lc, .int .i64 m.rule.hc, .int .i64 m.rule.lm, .int .i64 m.rule.hm, .int .i64 m.rule.ls, .int .i64 m.rule.hs, .int .i64 m.strand, .slice ao2 m.pieces.length cap2, .slice ao3 m.low.length cap3, .slice ao4 m.high.length cap4, .int .i64 m.scrap] := by rw [hwx]; exact (((RowL.new _ _ _).alloc _).alloc _)
 have D_0 : RowL wx (w.heap.size + 1) 48 [.int .i64 3, .int .i64 a, .int .i64 b] := by rw [hwx]; simpa using ((RowL.new (World.alloc _ _) 48 [.int .i64 3, .int .i64 a, .int .i64 b]).alloc _)
 have R_0 : RowL wx (w.heap.size + 1 + 1) 31 [.slice none 0 0, .int .i64 0, .int .i64 0, .int .i64 0, .int .i64 0, .int .i64 0, .int .i64 0, .int .i64 0, .slice none 0 0, .slice none 0 0, .slice none 0 0, .int .i64 0] := by rw [hwx]; simpa using (RowL.new (World.alloc (World.alloc _ _) _) 31 [.slice none 0 0, .int .i64 0, .int .i64 0, .int .i64 0, .int .i64 0, .int .i64 0, .int .i64 0, .int .i64 0, .slice none 0 0, .slice none 0 0, .slice none 0 0, .int .i64 0])
 have B_0 : Below w.heap.size w wx := by rw [hwx]; go_grown
 clear hwx;have hL0 := R_0.lt;have V_0 := hide (HM.out.below B_0);have k1 := mill_impl _ _ _ _ m wx V_0.out.all;unfold millV at k1;cases hv : millB m with
 | false =>
  rw [hv] at k1;have HZ := hide (do_bad hv ⟨3, a, b⟩);clear hv;refine k1.mono ?_;rintro e w1 ⟨rfl, hb⟩;have R_1 := R_0.below hb R_0.lt;have B_1 := hide (Below.step B_0 hb nl);clear hb k1;obtain ⟨cR0, cR1, cR2, cR3, cR4, cR5, cR6, cR7, cR8, cR9, cR10, cR11⟩ := row12_c R_1;obtain ⟨fR0, fR1, fR2, fR3, fR4, fR5, fR6, fR7, fR8, fR9, fR10, fR11⟩ := row12_f R_1;go_wp2_with fail
  refine bodyPost_ret (by simp [results, Tryz.results44, go_sem, cR0, cR1, cR2, cR3, cR4, cR5, cR6, cR7, cR8, cR9, cR10, cR11]; try rfl) rfl ?_;rw [HZ.out];exact ⟨_, _, _, _, rfl, zero_got B_1.out nl (by omega) _ _ _ _ _ _ _ _ _ _ _ _⟩
 | true =>
  rw [hv] at k1;obtain ⟨n1, n2, n3, n4⟩ := few_of hv;have HV := hide hv;have hD := do_good hv 3 a b;rw [step_3] at hD;clear hv;refine k1.mono ?_;rintro e w1 ⟨rfl, hb⟩;have A_1 := A_0.below hb A_0.lt;have D_1 := D_0.below hb D_0.lt;have R_1 := R_0.below hb R_0.lt;have V_1 := hide (V_0.out.below hb);have B_1 := hide (Below.step B_0 hb nl);have hz1 := hb.size;clear hb k1;obtain ⟨cA0, cA1, cA2, cA3, cA4, cA5, cA6, cA7, cA8, cA9, cA10, cA11⟩ := row12_c A_1;go_wp2_with fail
  clear cA0 cA1 cA2 cA3 cA4 cA5 cA6 cA7 cA8 cA9 cA10 cA11;have k2 := copyMill_any _ _ _ _ m w1 V_1.out.all n1 n2 n3 n4;unfold millV at k2;refine k2.mono ?_;clear k2;rintro e w2 ⟨s2, p2, l2, h2, rfl, G, hb⟩;have A_2 := A_1.below hb A_1.lt;have D_2 := D_1.below hb D_1.lt;have R_2 := R_1.below hb R_1.lt;have V_2 := hide (V_1.out.below hb);have B_2 := hide (Below.step B_1.out hb nl);have hz2 := hb.size;have hL2 := R_2.lt;have hLD := D_2.lt;have hLA := A_2.lt;clear hb;have G_2 := hide G;obtain ⟨aS, cs, rfl, -, -⟩ := G.so.form;obtain ⟨ap, cp, rfl, -, -⟩ := G.po.form;obtain ⟨al, cl, rfl, -, -⟩ := G.lo.form;obtain ⟨ah, ch, rfl, -, -⟩ := G.ho.form;clear G;unfold millV;have cD0 := D_2.c 0 rfl;have cD1 := D_2.c 1 rfl;have cD2 := D_2.c 2 rfl;go_wp2_with fail
  refine calls_at fun wy hwy => ?_;have C_y : RowL wy w2.heap.size 31 (millC (.slice aS m.store.length cs) (.slice ap m.pieces.length cp) (.slice al m.low.length cl) (.slice ah m.high.length ch) m) := by
   rw [hwy];first
    | exact (RowL.new w2 31 (millC (.slice aS m.store.length cs) (.slice ap m.pieces.length cp) (.slice al m.low.length cl) (.slice ah m.high.length ch) m))
    | exact (row12 (RowL.new w2 31 [.slice none 0 0, .int .i64 0, .int .i64 0, .int .i64 0, .int .i64 0, .int .i64 0, .int .i64 0, .int .i64 0, .slice none 0 0, .slice none 0 0, .slice none 0 0, .int .i64 0]) rfl _ _ _ _ _ _ _ _ _ _ _ _)
  have hby : Below w2.heap.size w2 wy := by
   rw [hwy];first
    | exact ((Below.refl _ _).alloc nl _)
    | exact (((Below.refl _ _).alloc nl _).trans ((other12 w2.heap.size _ _ _ _ _ _ _ _ _ _ _ _ _).below nl (by simp)))
  have A_y := A_2.below hby A_2.lt;have R_y := R_2.below hby R_2.lt;have V_y := hide (V_2.out.below hby);have B_y := hide (Below.step B_2.out hby nl);have G_y := hide (G_2.out.below hby);have hzy := hby.size;clear hwy hby;have MB : MillBox w1.heap.size w2.heap.size wy _ _ _ _ m := ⟨C_y, G_y.out, ⟨fun e => Nat.lt_irrefl _ (G_2.out.so.lt _ e).2, fun e => Nat.lt_irrefl _ (G_2.out.po.lt _ e).2, fun e => Nat.lt_irrefl _ (G_2.out.lo.lt _ e).2, fun e => Nat.lt_irrefl _ (G_2.out.ho.lt _ e).2⟩, hz2⟩;have k3 := lift_meth a b MB HA.out.1 HA.out.2;obtain ⟨o, ho⟩ : ∃ o, liftD m a b = o := ⟨_, rfl⟩;rw [ho] at k3 hD;have HD := hide hD;clear hD ho MB cD0 cD1 cD2;refine k3.mono ?_;clear k3;rintro e w4 ⟨rfl, hb, hx⟩;have A_4 := A_y.below hb (by omega);have R_4 := R_y.below hb (by omega);have V_4 := hide (V_y.out.low_keep hb (by omega));have B_4 := hide (B_y.out.trans (hb.mono (by omega)));have hz4 := hb.size;clear hb;rcases o with _ | x;rotate_left
  ·obtain ⟨s4, p4, l4, h4, C_4, G⟩ := hx x rfl
   have HZ := hide (show doR m ⟨3, a, b⟩ = (x, true) from HD.out);have G_4 := hide G;obtain ⟨aS4, cs4, rfl, -, -⟩ := G.so.form;obtain ⟨ap4, cp4, rfl, -, -⟩ := G.po.form;obtain ⟨al4, cl4, rfl, -, -⟩ := G.lo.form;obtain ⟨ah4, ch4, rfl, -, -⟩ := G.ho.form;clear G hx;unfold millC at C_4;obtain ⟨cC0, cC1, cC2, cC3, cC4, cC5, cC6, cC7, cC8, cC9, cC10, cC11⟩ := row12_c C_4;obtain ⟨cR0, cR1, cR2, cR3, cR4, cR5, cR6, cR7, cR8, cR9, cR10, cR11⟩ := row12_c R_4;obtain ⟨fR0, fR1, fR2, fR3, fR4, fR5, fR6, fR7, fR8, fR9, fR10, fR11⟩ := row12_f R_4;go_wp2_with fail
   refine bodyPost_ret (by simp [results, Tryz.results44, go_sem, cR0, cR1, cR2, cR3, cR4, cR5, cR6, cR7, cR8, cR9, cR10, cR11]; try rfl) rfl ?_;rw [HZ.out];exact ⟨_, _, _, _, rfl, put_got G_4.out B_4.out (by omega) (by omega) nl _ _ _ _ _ _ _ _ _ _ _ _⟩
  ·clear hx
   have HZ := hide (show doR m ⟨3, a, b⟩ = (m, false) from HD.out);obtain ⟨cA0, cA1, cA2, cA3, cA4, cA5, cA6, cA7, cA8, cA9, cA10, cA11⟩ := row12_c A_4;go_wp2_with fail
   clear cA0 cA1 cA2 cA3 cA4 cA5 cA6 cA7 cA8 cA9 cA10 cA11;have k5 := copyMill_any _ _ _ _ m w4 V_4.out.all n1 n2 n3 n4;unfold millV at k5;refine k5.mono ?_;clear k5;rintro e w5 ⟨s5, p5, l5, h5, rfl, G, hb⟩;have R_5 := R_4.below hb R_4.lt;have B_5 := hide (Below.step B_4.out hb nl);clear hb;have G_5 := hide G;obtain ⟨aS5, cs5, rfl, -, -⟩ := G.so.form;obtain ⟨ap5, cp5, rfl, -, -⟩ := G.po.form;obtain ⟨al5, cl5, rfl, -, -⟩ := G.lo.form;obtain ⟨ah5, ch5, rfl, -, -⟩ := G.ho.form;clear G;unfold millV;obtain ⟨cR0, cR1, cR2, cR3, cR4, cR5, cR6, cR7, cR8, cR9, cR10, cR11⟩ := row12_c R_5;obtain ⟨fR0, fR1, fR2, fR3, fR4, fR5, fR6, fR7, fR8, fR9, fR10, fR11⟩ := row12_f R_5;go_wp2_with fail
   refine bodyPost_ret (by simp [results, Tryz.results44, go_sem, cR0, cR1, cR2, cR3, cR4, cR5, cR6, cR7, cR8, cR9, cR10, cR11]; try rfl) rfl ?_;rw [HZ.out];exact ⟨_, _, _, _, rfl, put_got G_5.out B_5.out (by omega) (by omega) nl _ _ _ _ _ _ _ _ _ _ _ _⟩
end Go.Proofs.YtmemgbklgcjobaaGreatDoor
