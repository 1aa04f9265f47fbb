/-
  Parts of the proofs over mills, of: CopyM, MethD, MassA. Conditions: each theorem states its own.
-/
import Derived.Test.YtkhecelpafojdaaGreatDoorF39
set_option linter.unusedSimpArgs false
set_option linter.unusedVariables false
set_option maxRecDepth 10000
set_option maxHeartbeats 64000000
namespace Go.Proofs.YtkhecelpafojdaaGreatDoor
open Go.RowKit
theorem bG (s p l h : Value) (m : Mi) (w : World) (H : aM 0 w.heap.size w s p l h m) (n1 : m.store.length ≤ 1000000) (n2 : m.pieces.length ≤ 1000000) (n3 : m.low.length ≤ 1000000) (n4 : m.high.length ≤ 1000000) :
 Calls Tryz.prog 24 #[ag s p l h m] w (CopyGot w.heap.size m w) := by
 have HS := hide H.store;have HP := hide H.pieces;have HL := hide H.low;have HH := hide H.high;clear H;unfold ag;go_enter Tryz.func24, Tryz.ntmps24;go_wp2_with fail
 refine aj fun wx hwx => ?_;have A_0 : ae wx (w.heap.size) 31 [s, .int .i64 m.rule.lc, .int .i64 m.rule.hc, .int .i64 m.rule.lm, .int .i64 m.rule.hm, .int .i64 m.rule.ls, .int .i64 m.rule.hs, .int .i64 m.strand, p, l, h, .int .i64 m.scrap] := by rw [hwx]; exact ((ae.new _ _ _).alloc _)
 have R_0 : ae wx (w.heap.size + 1) 31 z12 := by rw [hwx]; simpa using (ae.new (World.alloc _ _) 31 z12)
 have B_0 : Below w.heap.size w wx := by rw [hwx]; go_grown
 clear hwx;have hL0 := R_0.lt;have VS_0 := hide (HS.out.below B_0);have VP_0 := hide (HP.out.below B_0);have VL_0 := hide (HL.out.below B_0);have VH_0 := hide (HH.out.below B_0);refine (cloneS_any s m.store 0 w.heap.size wx VS_0.out n1).mono ?_;rintro e w1 ⟨vs, rfl, own, hb⟩;have A_1 := A_0.below hb A_0.lt;have R_1 := R_0.below hb R_0.lt;have VP_1 := hide (VP_0.out.below hb);have VL_1 := hide (VL_0.out.below hb);have VH_1 := hide (VH_0.out.below hb);have B_1 := bs B_0 hb;have hz1 := hb.size;clear hb;have cA8 := A_1.c 8 rfl;have cA0 := A_1.c 0 rfl;have fA0 := A_1.frozen 0;have Cs := hide own;obtain ⟨aos, cps, rfl, -, -⟩ := aB own;have Os_1 : Hid (OwnV wx.heap.size 99 5 w1 (.slice aos m.store.length cps) m.store.length (bB m.store)) := hide ⟨.own own, by have := hz1; omega⟩;clear own;go_wp2_with fail
 refine aj fun y1 hwy => ?_;have T_1 : ai (w.heap.size) (w.heap.size + 1) w1 y1 := by rw [hwy]; exact (ai.setCell (p := ⟨w.heap.size, 0, none⟩) (ai.refl _ _ _) nl ns _)
 have A_1y : ae y1 (w.heap.size) 31 [.slice aos m.store.length cps, .int .i64 m.rule.lc, .int .i64 m.rule.hc, .int .i64 m.rule.lm, .int .i64 m.rule.hm, .int .i64 m.rule.ls, .int .i64 m.rule.hs, .int .i64 m.strand, p, l, h, .int .i64 m.scrap] := by rw [hwy]; exact (ae.set A_1 0 _ (by simp))
 have R_1y := R_1.other T_1 (by omega);have hL1 := A_1y.lt;have VP_1y := hide (VP_1.out.other T_1 (by omega));have VL_1y := hide (VL_1.out.other T_1 (by omega));have VH_1y := hide (VH_1.out.other T_1 (by omega));have Vos_1y := hide (Os_1.out.other T_1 (by omega));have B_1y := hide (B_1.out.trans (T_1.below (B := w.heap.size) (by omega) (by omega)));have hzy1 := T_1.size;clear hwy T_1 cA8 cA0 fA0;refine (cloneP_any p m.pieces 0 w.heap.size y1 VP_1y.out n2).mono ?_;rintro e w2 ⟨vp, rfl, own, hb⟩;have A_2 := A_1y.below hb A_1y.lt;have R_2 := R_1y.below hb R_1y.lt;have VL_2 := hide (VL_1y.out.below hb);have VH_2 := hide (VH_1y.out.below hb);have Vos_2 := hide (Vos_1y.out.below hb);have B_2 := bs B_1y.out hb;have hz2 := hb.size;clear hb;have cA9 := A_2.c 9 rfl;have cA10 := A_2.c 10 rfl;have cA8 := A_2.c 8 rfl;have fA8 := A_2.frozen 8;have Cp := hide own;obtain ⟨aop, cpp, rfl, -, -⟩ := aB own;have Op_2 : Hid (OwnV y1.heap.size 63 2 w2 (.slice aop m.pieces.length cpp) m.pieces.length (bO m.pieces)) := hide ⟨.own own, by have := hz2; omega⟩;clear own;go_wp2_with fail
 refine aj fun y2 hwy => ?_;have T_2 : ai (w.heap.size) (w.heap.size + 1) w2 y2 := by rw [hwy]; exact (ai.setCell (p := ⟨w.heap.size, 8, none⟩) (ai.refl _ _ _) nl ns _)
 have A_2y : ae y2 (w.heap.size) 31 [.slice aos m.store.length cps, .int .i64 m.rule.lc, .int .i64 m.rule.hc, .int .i64 m.rule.lm, .int .i64 m.rule.hm, .int .i64 m.rule.ls, .int .i64 m.rule.hs, .int .i64 m.strand, .slice aop m.pieces.length cpp, l, h, .int .i64 m.scrap] := by rw [hwy]; exact (ae.set A_2 8 _ (by simp))
 have R_2y := R_2.other T_2 (by omega);have hL2 := A_2y.lt;have VL_2y := hide (VL_2.out.other T_2 (by omega));have VH_2y := hide (VH_2.out.other T_2 (by omega));have Vos_2y := hide (Vos_2.out.other T_2 (by omega));have Vop_2y := hide (Op_2.out.other T_2 (by omega));have B_2y := hide (B_2.out.trans (T_2.below (B := w.heap.size) (by omega) (by omega)));have hzy2 := T_2.size;clear hwy T_2 cA9 cA10 cA8 fA8;have hcy := iW l h m.low m.high y2 ((VL_2y.out).mono nl (VL_2y.out).lt nl) ((VH_2y.out).mono nl (VH_2y.out).lt nl) n3 n4;unfold aD at hcy;refine (hcy).mono ?_;rintro e w3 ⟨vl, vh, rfl, own, hb⟩;have A_3 := A_2y.below hb A_2y.lt;have R_3 := R_2y.below hb R_2y.lt;have Vos_3 := hide (Vos_2y.out.below hb);have Vop_3 := hide (Vop_2y.out.below hb);have B_3 := bs B_2y.out hb;have hz3 := hb.size;clear hb;obtain ⟨cA0, cA1, cA2, cA3, cA4, cA5, cA6, cA7, cA8, cA9, cA10, cA11⟩ := af A_3;have cRz := af R_3;have fA9 := A_3.frozen 9;have fA10 := A_3.frozen 10;have fRz := ay R_3;simp only [aD];clear hcy;obtain ⟨aol, cpl, rfl, -, -⟩ := own.lo.form;obtain ⟨aoh, cph, rfl, -, -⟩ := own.ho.form;have HG : Hid (ak (w.heap.size + 2) w3 (.slice aos m.store.length cps) (.slice aop m.pieces.length cpp) (.slice aol m.low.length cpl) (.slice aoh m.high.length cph) m) := hide ⟨by omega, (Vos_3.out).own.mono (by omega), (Vop_3.out).own.mono (by omega), own.lo.mono (by omega), own.ho.mono (by omega), aK.apart (aK.own Cs.out) (aK.own Cp.out) (by omega), aK.apart (aK.own Cs.out) own.lo (by omega), aK.apart (aK.own Cs.out) own.ho (by omega), aK.apart (aK.own Cp.out) own.lo (by omega), aK.apart (aK.own Cp.out) own.ho (by omega), own.ap⟩;clear own;go_wp2_with fail
 refine bodyPost_ret (by simp [results, Tryz.results24, go_sem, cRz]; try rfl) rfl ?_;have HF := fun W T => got_put (w := w) (base := w.heap.size) (a := w.heap.size) (z := w.heap.size + 1 + 1) (W := W) HG.out B_3.out T (by omega) nl (by omega) nl;exact ⟨_, _, _, _, rfl, HF _ (ai.setCell (p := ⟨w.heap.size + 1, 11, none⟩) (ai.setCell (p := ⟨w.heap.size + 1, 10, none⟩) (ai.setCell (p := ⟨w.heap.size + 1, 9, none⟩) (ai.setCell (p := ⟨w.heap.size + 1, 8, none⟩) (ai.setCell (p := ⟨w.heap.size + 1, 7, none⟩) (ai.setCell (p := ⟨w.heap.size + 1, 6, none⟩) (ai.setCell (p := ⟨w.heap.size + 1, 5, none⟩) (ai.setCell (p := ⟨w.heap.size + 1, 4, none⟩) (ai.setCell (p := ⟨w.heap.size + 1, 3, none⟩) (ai.setCell (p := ⟨w.heap.size + 1, 2, none⟩) (ai.setCell (p := ⟨w.heap.size + 1, 1, none⟩) (ai.setCell (p := ⟨w.heap.size + 1, 0, none⟩) (ai.setCell (p := ⟨w.heap.size, 10, none⟩) (ai.setCell (p := ⟨w.heap.size, 9, none⟩) (ai.refl _ _ _) nl (Nat.lt_succ_of_lt ns) _) nl (Nat.lt_succ_of_lt ns) _) (Nat.le_succ _) ns _) (Nat.le_succ _) ns _) (Nat.le_succ _) ns _) (Nat.le_succ _) ns _) (Nat.le_succ _) ns _) (Nat.le_succ _) ns _) (Nat.le_succ _) ns _) (Nat.le_succ _) ns _) (Nat.le_succ _) ns _) (Nat.le_succ _) ns _) (Nat.le_succ _) ns _) (Nat.le_succ _) ns _)⟩
theorem cut_meth {base B lo : Nat} {w : World} {s p l h : Value} {m : Mi} (v : Value) (a b : Int) (H : dm base B w s p l h m) (hm : dO m) (hv2 : au lo w.heap.size w v [a, b]) (hB : B < lo) (hpl : ∀ g, p.ownBlock = some g → g < lo) :
 Calls Tryz.prog 66 #[.pointer (some ⟨B, 0, none⟩), v] w (jy base B (cutD m a b) w) := by
 obtain ⟨j0, hj0, hzj, hj1, hj2⟩ := info_parts info_Pc;have HH := hide H;have hr := H.row;have hlt := hr.lt;have hbz := H.got.hb;have c7 := hr.c 7 rfl;have c8 : w.cell? ⟨B, 8, none⟩ = some p := hr.cell 8 (by simp [az]);have c11 := hr.c 11 rfl;clear hr H;by_cases h0 : m.strand = 0
 ·have hsB : (m.strand == 0) = true := by simp [h0]
  have HN := hide (cutD_no1 (a := a) (b := b) h0);clear h0;go_enter Tryz.func66, Tryz.ntmps66;go_wp2_with fail
  go_ret;rw [HN.out];exact jy.no (Below.refl _ _)
 have hsB : (m.strand == 0) = false := by simp [h0]
 have H0 := hide h0;clear h0;have hlen := lens_impl v a b lo w.heap.size w hv2;cases hlv : dB a b with
 | false =>
  have HN := hide (cutD_no2 (m := m) hlv);rw [hlv] at hlen;clear hlv;go_enter Tryz.func66, Tryz.ntmps66;go_wp2_with fail
  refine hlen.mono ?_;rintro e w1 ⟨rfl, rfl⟩;go_wp2_with fail
  go_ret;rw [HN.out];exact jy.no (Below.refl _ _)
 | true =>
 have HLV := hide hlv;rw [hlv] at hlen;have HLN := hide hlen;have hst0 := hm.st0;have hst1 := hm.st1;have hsc0 := hm.sc0;have hsc1 := hm.sc1;have hpc := hm.len;obtain ⟨L, hL⟩ : ∃ L : Nat, m.strand = L := ⟨m.strand.toNat, by omega⟩;have hL60 : L ≤ 60 := by omega
 have HL := hide hL;rw [hL] at c7 hsB;have HCB := hide (cutBest_impl v a b lo w.heap.size L hL60 hlv w hv2);obtain ⟨hn0, hn1⟩ := many_60 hlv hL60;obtain ⟨s0, s1, s2⟩ := many_sums (L := L) hlv;have hW0 : 0 ≤ dJ L a b ∧ dJ L a b ≤ 60 := by unfold dJ; omega
 obtain ⟨b0, o0, capl, rfl, hb0, hb0', -, -⟩ := bK hv2;have HV2 := hide hv2;have hv0 : lo ≤ w.heap.size := by omega
 clear hv2 hlv hlen s0 s1 s2 hL;go_enter Tryz.func66, Tryz.ntmps66;go_wp2_with fail
 refine HLN.out.mono ?_;rintro e w1 ⟨rfl, rfl⟩;go_wp2_with fail
 refine HCB.out.mono ?_;rintro e w1 ⟨mv, rfl, own, hb⟩;have hz1 := hb.size;have B_1 := hide hb;have hmat : au w.heap.size w1.heap.size w1 mv (iR L a b) := bH own rfl hz1;have HMA := hide hmat;have V_1 := hide (HV2.out.below hb);have R_1 := HH.out.row.below hb hlt;unfold iR at hmat;obtain ⟨b2, o2, cmv, rfl, hb2, hb2', -, -⟩ := bK hmat;have d7 : w1.cell? ⟨B, 7, none⟩ = some (.int .i64 (L : Int)) := by rw [R_1.cell 7 (by simp [az])]; simp [az, HL.out]
 have d8 : w1.cell? ⟨B, 8, none⟩ = some p := R_1.cell 8 (by simp [az]);have d11 := R_1.c 11 rfl;have hlt1 := R_1.lt;have HCW := hide (fun (W : World) (k : Below w1.heap.size w1 W) => cutWaste_impl (.slice (some ⟨b0, o0, none⟩) 2 capl) (.slice (some ⟨b2, o2, none⟩) 2 cmv) a b lo w.heap.size w.heap.size w1.heap.size L hL60 HLV.out W (V_1.out.below k) (HMA.out.below k));have HTN := hide (fun (W : World) (k : Below w1.heap.size w1 W) => tons_impl (.slice (some ⟨b2, o2, none⟩) 2 cmv) (iR L a b) w.heap.size w1.heap.size W (HMA.out.below k) (by simp [iR]) (fun k hk => by
  have : k = 0 ∨ k = 1 := by simp [iR] at hk; omega
  rcases this with rfl | rfl <;> simp [iR] <;> omega))
 rw [tons_many] at HTN;obtain ⟨n0, hn0e⟩ : ∃ n : Nat, dx L a b = n := ⟨_, rfl⟩;obtain ⟨n1, hn1e⟩ : ∃ n : Nat, bA L a b = n := ⟨_, rfl⟩;obtain ⟨wa, hwa⟩ : ∃ n : Int, dJ L a b = n := ⟨_, rfl⟩;rw [hn0e, hn1e] at HTN;rw [hwa] at HCW hW0;rw [hn0e] at hn0;rw [hn1e] at hn1;have hw1 : IntKind.i64.wrap (m.scrap + wa) = m.scrap + wa := IntWalk.i64_in _ (by omega);have hw2 : IntKind.i64.wrap ((m.pieces.length : Int) + ((n0 : Int) + (n1 : Int))) = (m.pieces.length : Int) + ((n0 : Int) + (n1 : Int)) := IntWalk.i64_in _ (by omega);obtain ⟨ap, cpp, hpf, -, -⟩ := HH.out.got.po.form;rw [hpf] at d8;rw [hn0e, hn1e] at hmat;have HC1 := hide (show bX base B lo w1.heap.size w s l h m (.slice (some ⟨b0, o0, none⟩) 2 capl) (.slice (some ⟨b2, o2, none⟩) 2 cmv) [a, b] [(n0 : Int), (n1 : Int)] w1 p m.pieces from
  ⟨R_1, HH.out.got.below hb, HH.out.off, hb.mono hbz, V_1.out.mono nl hz1 nl, hmat.mono hv0 nl nl, fun g e => .inl (hpl g e), HH.out.hB, hB⟩)
 clear hmat own hb c7 c8 c11 R_1;have E0 := hide hn0e;have E1 := hide hn1e;have EW := hide hwa;clear hn0e hn1e hwa;go_wp2_with fail
 go_quiet ((go_at_call 112; exact bL (HCW.out _ (below_drewN (Below.refl _ _) _))))
 go_wp2_with fail
 by_cases q1 : m.pieces.length + n0 + n1 ≤ 30
 ·have hq1 : decide (30 < (m.pieces.length : Int) + ((n0 : Int) + (n1 : Int))) = false := by simp; omega
  by_cases q2 : m.scrap + wa ≤ 999
  ·have hq2 : decide (999 < m.scrap + wa) = false := by simp; omega
   go_quiet ((go_at_call 48; exact quiet_left2 (HTN.out _ (below_drewN (Below.refl _ _) _))))
   go_wp2_with fail
   go_loopw [7] (fun i wr => True ∧ ((i = .int .i64 1 ∧ ∃ p, bX base B lo w1.heap.size w s l h m (.slice (some ⟨b0, o0, none⟩) 2 capl) (.slice (some ⟨b2, o2, none⟩) 2 cmv) [a, b] [(n0 : Int), (n1 : Int)] wr p m.pieces) ∨ (i = .int .i64 0 ∧ ∃ p, bX base B lo w1.heap.size w s l h m (.slice (some ⟨b0, o0, none⟩) 2 capl) (.slice (some ⟨b2, o2, none⟩) 2 cmv) [a, b] [(n0 : Int), (n1 : Int)] wr p (m.pieces ++ List.replicate n1 ⟨b, 0⟩)) ∨ (i = .int .i64 (-1) ∧ ∃ p, bX base B lo w1.heap.size w s l h m (.slice (some ⟨b0, o0, none⟩) 2 capl) (.slice (some ⟨b2, o2, none⟩) 2 cmv) [a, b] [(n0 : Int), (n1 : Int)] wr p (m.pieces ++ List.replicate n1 ⟨b, 0⟩ ++ List.replicate n0 ⟨a, 0⟩)))) (fun i _ => (intOf i + 1).toNat)
   case atStart => exact ⟨trivial, .inl ⟨rfl, p, HC1.out.below (by first | exact Below.refl _ _ | exact below_drewN (Below.refl _ _) _ | exact below_drewN (below_drewN (Below.refl _ _) _) _)⟩⟩
   case round =>
    obtain ⟨wo, rfl⟩ : ∃ wo : World, wo = wr := ⟨_, rfl⟩;rcases hrel.2 with ⟨rfl, p, hinv⟩ | ⟨rfl, p, hinv⟩ | ⟨rfl, p, hinv⟩
    ·have HC := hide hinv
     obtain ⟨b3, o3, cap3, e3, -, -, m0, m1⟩ := bK hinv.man;cases e3;clear hinv;go_wp2_with fail
     go_loopw [60] (fun i wr => ∃ (c : Nat) (p : Value), c ≤ n1 ∧ i = .int .i64 (c : Int) ∧ bX base B lo w1.heap.size w s l h m (.slice (some ⟨b0, o0, none⟩) 2 capl) (.slice (some ⟨b2, o2, none⟩) 2 cmv) [a, b] [(n0 : Int), (n1 : Int)] wr p (m.pieces ++ List.replicate c ⟨b, 0⟩)) (fun i _ => n1 - (intOf i).toNat)
     case atStart => exact ⟨0, _, Nat.zero_le _, rfl, by simpa using HC.out⟩
     case round =>
      obtain ⟨c, p, hc, rfl, hinv⟩ := hrel;have HC := hide hinv;obtain ⟨ps, hps⟩ : ∃ ps, m.pieces ++ List.replicate c (⟨b, 0⟩ : Pc) = ps := ⟨_, rfl⟩;rw [hps] at hinv HC;have hpl30 : ps.length ≤ 30 := by rw [← hps]; simp; omega
      obtain ⟨b3, o3, cap3, e3, -, -, c0, c1⟩ := bK hinv.len;cases e3;have c8 : wr.cell? ⟨B, 8, none⟩ = some p := hinv.row.cell 8 (by simp [az]);have hBr := hinv.row.lt;obtain ⟨app, cpp2, rfl, -, -⟩ := hinv.got.po.form;have HPS := hide hps;clear hinv hps;by_cases hlt : c < n1
      ·have hcI : (c : Int) < (n1 : Int) := by omega
       have hw1 : IntKind.i64.wrap ((c : Int) + 1) = ((c + 1 : Nat) : Int) := by rw [show (c : Int) + 1 = ((c + 1 : Nat) : Int) by omega]; exact IntWalk.i64_in _ (by omega)
       have HL2 := hide (HC.out.drew.alloc (.cells #[.int .i64 b, .int .i64 0] 63));have S1 := hide (show Source (wr.drew.alloc (.cells #[.int .i64 b, .int .i64 0] 63)) 2 (.slice (some ⟨wr.heap.size, 0, none⟩) 1 1) 1 [.int .i64 b, .int .i64 0] from Source.lit wr.drew [.int .i64 b, .int .i64 0] 2 63 1 rfl (fun u hu => by simp at hu; rcases hu with rfl | rfl <;> rfl) 1);go_wp2_with fail
       go_region_law (first
        | (refine bT rfl (.tmp 66) (.tmp 72) 26 rfl base 63 j0 _ 2 16 Tryz.underlying26 hj0 hzj hj1 hj2 rfl (by decide) (.slice app ps.length cpp2) ps.length (bO ps) (by simp [Act.eval]) HL2.out.got.po (.slice (some ⟨wr.heap.size, 0, none⟩) 1 1) 1 [.int .i64 b, .int .i64 0] (by simp [Act.eval]) S1.out (by unfold maxLen; omega) (by omega) HL2.out.got.hb ?_; intro v2 w3 hown2 hgrow2 h4; have r3 : ae w3 B _ _ := World.rowIs.of_block HL2.out.row (hgrow2.block B HL2.out.row.lt (fun e => HL2.out.off.2.1 e.symm)); have d8 : w3.cell? ⟨B, 8, none⟩ = some (.slice app ps.length cpp2) := r3.cell 8 (by simp [az]); have g8 := r3.frozen 8; have hI3 := bX.app HL2.out hown2 (by simp) (jP ps b) hgrow2 h4; obtain ⟨a2, c2, rfl, -, -⟩ := hown2.form))
       all_goals
        have HI3 := hide hI3;clear hI3 hown2 hgrow2 h4 r3;go_wp2_with fail
        go_roundw
        case rel => exact ⟨c + 1, _, by omega, rfl, by rw [rep_snoc, HPS.out]; exact HI3.out⟩
        case measure => simp [intOf]; omega
      ·obtain rfl : c = n1 := by omega
       go_wp2_with fail
       go_roundw
       case rel => exact ⟨trivial, .inr (.inl ⟨rfl, _, by rw [HPS.out]; exact HC.out⟩)⟩
       case measure => simp [intOf]
    ·have HC := hide hinv
     obtain ⟨b3, o3, cap3, e3, -, -, m0, m1⟩ := bK hinv.man;cases e3;clear hinv;go_wp2_with fail
     go_loopw [60] (fun i wr => ∃ (c : Nat) (p : Value), c ≤ n0 ∧ i = .int .i64 (c : Int) ∧ bX base B lo w1.heap.size w s l h m (.slice (some ⟨b0, o0, none⟩) 2 capl) (.slice (some ⟨b2, o2, none⟩) 2 cmv) [a, b] [(n0 : Int), (n1 : Int)] wr p (m.pieces ++ List.replicate n1 (⟨b, 0⟩ : Pc) ++ List.replicate c ⟨a, 0⟩)) (fun i _ => n0 - (intOf i).toNat)
     case atStart => exact ⟨0, _, Nat.zero_le _, rfl, by simpa using HC.out⟩
     case round =>
      obtain ⟨c, p, hc, rfl, hinv⟩ := hrel;have HC := hide hinv;obtain ⟨ps, hps⟩ : ∃ ps, m.pieces ++ List.replicate n1 (⟨b, 0⟩ : Pc) ++ List.replicate c (⟨a, 0⟩ : Pc) = ps := ⟨_, rfl⟩;rw [hps] at hinv HC;have hpl30 : ps.length ≤ 30 := by rw [← hps]; simp; omega
      obtain ⟨b3, o3, cap3, e3, -, -, c0, c1⟩ := bK hinv.len;cases e3;have c8 : wr.cell? ⟨B, 8, none⟩ = some p := hinv.row.cell 8 (by simp [az]);have hBr := hinv.row.lt;obtain ⟨app, cpp2, rfl, -, -⟩ := hinv.got.po.form;have HPS := hide hps;clear hinv hps;by_cases hlt : c < n0
      ·have hcI : (c : Int) < (n0 : Int) := by omega
       have hw1 : IntKind.i64.wrap ((c : Int) + 1) = ((c + 1 : Nat) : Int) := by rw [show (c : Int) + 1 = ((c + 1 : Nat) : Int) by omega]; exact IntWalk.i64_in _ (by omega)
       have HL2 := hide (HC.out.drew.alloc (.cells #[.int .i64 a, .int .i64 0] 63));have S1 := hide (show Source (wr.drew.alloc (.cells #[.int .i64 a, .int .i64 0] 63)) 2 (.slice (some ⟨wr.heap.size, 0, none⟩) 1 1) 1 [.int .i64 a, .int .i64 0] from Source.lit wr.drew [.int .i64 a, .int .i64 0] 2 63 1 rfl (fun u hu => by simp at hu; rcases hu with rfl | rfl <;> rfl) 1);go_wp2_with fail
       go_region_law (first
        | (refine bT rfl (.tmp 66) (.tmp 72) 26 rfl base 63 j0 _ 2 16 Tryz.underlying26 hj0 hzj hj1 hj2 rfl (by decide) (.slice app ps.length cpp2) ps.length (bO ps) (by simp [Act.eval]) HL2.out.got.po (.slice (some ⟨wr.heap.size, 0, none⟩) 1 1) 1 [.int .i64 a, .int .i64 0] (by simp [Act.eval]) S1.out (by unfold maxLen; omega) (by omega) HL2.out.got.hb ?_; intro v2 w3 hown2 hgrow2 h4; have r3 : ae w3 B _ _ := World.rowIs.of_block HL2.out.row (hgrow2.block B HL2.out.row.lt (fun e => HL2.out.off.2.1 e.symm)); have d8 : w3.cell? ⟨B, 8, none⟩ = some (.slice app ps.length cpp2) := r3.cell 8 (by simp [az]); have g8 := r3.frozen 8; have hI3 := bX.app HL2.out hown2 (by simp) (jP ps a) hgrow2 h4; obtain ⟨a2, c2, rfl, -, -⟩ := hown2.form))
       all_goals
        have HI3 := hide hI3;clear hI3 hown2 hgrow2 h4 r3;go_wp2_with fail
        go_roundw
        case rel => exact ⟨c + 1, _, by omega, rfl, by rw [rep_snoc, HPS.out]; exact HI3.out⟩
        case measure => simp [intOf]; omega
      ·obtain rfl : c = n0 := by omega
       go_wp2_with fail
       go_roundw
       case rel => exact ⟨trivial, .inr (.inr ⟨rfl, _, by rw [HPS.out]; exact HC.out⟩)⟩
       case measure => simp [intOf]
    ·have HC := hide hinv
     have i7 : wo.cell? ⟨B, 7, none⟩ = some (.int .i64 m.strand) := hinv.row.cell 7 (by simp [az]);have i11 : wo.cell? ⟨B, 11, none⟩ = some (.int .i64 m.scrap) := hinv.row.cell 11 (by simp [az]);have f7 := hinv.row.frozen 7;have f11 := hinv.row.frozen 11;clear hinv;go_wp2_with fail
     go_ret;rw [cutD_yes H0.out HLV.out (by rw [HL.out, E0.out, E1.out]; exact q1) (by rw [HL.out, EW.out]; exact q2)];obtain ⟨r1, k1, b1⟩ := df HC.out.row HC.out.got HC.out.off HC.out.hB.1 (j := 7) (by simp [az]) (.int .i64 0);obtain ⟨r2, k2, b2⟩ := df r1 k1 HC.out.off HC.out.hB.1 (j := 11) (by simp [az]) (.int .i64 (m.scrap + wa));refine ⟨rfl, (HC.out.bel.trans b1).trans b2, fun x hx => ?_⟩;obtain rfl := Option.some.inj hx;have e1 : eO m.strand a b = List.replicate n1 ⟨b, 0⟩ ++ List.replicate n0 ⟨a, 0⟩ := by rw [HL.out]; unfold eO; rw [E0.out, E1.out]
     have e2 : dJ m.strand a b = wa := by rw [HL.out]; exact EW.out
     have e3 : m.pieces ++ eO m.strand a b = m.pieces ++ List.replicate n1 ⟨b, 0⟩ ++ List.replicate n0 ⟨a, 0⟩ := by rw [e1, List.append_assoc]
     rw [e2, e3];exact ⟨_, _, _, _, r2, k2.nums m.rule 0 (m.scrap + wa)⟩
  ·have hq2 : decide (999 < m.scrap + wa) = true := by simp; omega
   go_quiet ((go_at_call 48; exact quiet_left2 (HTN.out _ (below_drewN (Below.refl _ _) _))))
   go_wp2_with fail
   go_ret;rw [cutD_no4 (by rw [HL.out, EW.out]; omega)];exact jy.no (by first | exact below_drewN (B_1.out.mono hbz) _ | exact below_drewN (below_drewN (B_1.out.mono hbz) _) _)
 ·have hq1 : decide (30 < (m.pieces.length : Int) + ((n0 : Int) + (n1 : Int))) = true := by simp; omega
  go_quiet ((go_at_call 48; exact quiet_left2 (HTN.out _ (below_drewN (Below.refl _ _) _))))
  go_wp2_with fail
  go_ret;rw [cutD_no3 (by rw [HL.out, E0.out, E1.out]; omega)];exact jy.no (by first | exact below_drewN (B_1.out.mono hbz) _ | exact below_drewN (below_drewN (B_1.out.mono hbz) _) _)
theorem long_bd {l : List Pc} (h : ∀ k, k < l.length → pcB (l.getD k pc0) = true) : ∀ k, k ≤ l.length → 0 ≤ bi l k ∧ bi l k ≤ 60 * k
 | 0, _ => by simp [bi]
 | k + 1, hk => by
  have := long_bd h k (by omega);have := pcB_iff.1 (h k (by omega));simp only [bi]; omega
theorem mass_impl (s p l h : Value) (m : Mi) (w : World) (H : aM 0 w.heap.size w s p l h m) :
 Calls Tryz.prog 74 #[ag s p l h m] w fun e w' => e = .returned (.int .i64 (fw m)) ∧ Below w.heap.size w w' := by
 obtain ⟨ao1, cap1, rfl, -, -, -, -⟩ := id H.store;obtain ⟨ao2, cap2, rfl, -, -, -, -⟩ := id H.pieces;have hsl := H.store.len;have hpl := H.pieces.len;unfold ag;go_enter Tryz.func74, Tryz.ntmps74;go_wp2_with fail
 refine aj fun wx hwx => ?_;have A_0 : ae wx (w.heap.size) 31 [.slice ao1 m.store.length cap1, .int .i64 m.rule.lc, .int .i64 m.rule.hc, .int .i64 m.rule.lm, .int .i64 m.rule.hm, .int .i64 m.rule.ls, .int .i64 m.rule.hs, .int .i64 m.strand, .slice ao2 m.pieces.length cap2, l, h, .int .i64 m.scrap] := by rw [hwx]; exact (ae.new _ _ _)
 have B_0 : Below w.heap.size w wx := by rw [hwx]; go_grown
 clear hwx;have hL0 := A_0.lt;have VV_0 := hide (H.below B_0);have KV := cz _ _ _ _ m wx VV_0.out.all;cases hv : aF m with
 | false =>
  rw [hv] at KV;refine KV.mono ?_;rintro e w1 ⟨rfl, hb⟩;have HB := bs B_0 hb;have HF := hide (show fw m = -1 by simp [fw, hv]);clear hb KV hv;go_wp2_with fail
  go_ret;exact ⟨by rw [HF.out]; rfl, HB.out⟩
 | true =>
  rw [hv] at KV;have MV := aQ.1 hv;have HM := hide (show fw m = fZ m by simp [fw, hv]);have HS := hide (stock_bd MV.store);have HL := hide (long_bd MV.pcs);have h1 := MV.st0;have h2 := MV.st1;have h3 := MV.sc0;have h4 := MV.sc1;have h5 := MV.len;have h6 := dG MV.store;have HQ := hide (fun k hk => (eP.1 (stsB_at MV.store (k := k) hk)));clear MV hv;refine (KV).mono ?_;rintro e w1 ⟨rfl, hb⟩;have A_1 := A_0.below hb A_0.lt;have VV_1 := hide (VV_0.out.below hb);have B_1 := bs B_0 hb;have hz1 := hb.size;clear hb;have cA0 := A_1.c 0 rfl;have cA7 := A_1.c 7 rfl;have cA8 := A_1.c 8 rfl;have cA11 := A_1.c 11 rfl;clear KV;obtain ⟨a, ha⟩ : ∃ a, m.strand = a := ⟨_, rfl⟩;obtain ⟨b0, hb0⟩ : ∃ b, m.scrap = b := ⟨_, rfl⟩;rw [ha] at cA7 h1 h2;rw [hb0] at cA11 h3 h4;have hw0 : IntKind.i64.wrap (a + b0) = a + b0 := IntWalk.i64_in _ (by omega);have AR := hide A_1;have hzw := B_1.out.size;clear cA8;go_wp2_with fail
  clear hw0 cA0
  go_loopw [3, 5, 19] (fun t _ i wr => ∃ k : Nat, k ≤ m.store.length ∧ i = .int .i64 k ∧ t = .int .i64 (a + b0 + bq m.store k) ∧ Below w1.heap.size w1 wr) (fun _ _ i _ => m.store.length - (intOf i).toNat)
  case atStart => exact ⟨0, Nat.zero_le _, rfl, by simp [bq], Below.refl _ _⟩
  case round =>
   obtain ⟨k, hk, rfl, rfl, hb⟩ := hrel;have HB := hide hb;have hz := hb.size;have RA := AR.out.below (w' := wr) (B := w1.heap.size) hb AR.out.lt;have cA0 := RA.c 0 rfl;have cA8 := RA.c 8 rfl;clear RA;by_cases hlt : k < m.store.length
   ·obtain ⟨_, _, e1, -, -, -, hcl⟩ := VV_1.out.store
    simp only [Value.slice.injEq] at e1;obtain ⟨rfl, -, rfl⟩ := e1;obtain ⟨b, o, rfl, -, hbl, hcs⟩ := hcl (by omega);obtain ⟨⟨r0, r1, r2, r3, r4⟩, -⟩ := hcs k hlt;rw [← hb.cell (p := ⟨b, _, none⟩) (Nat.lt_of_lt_of_le hbl (by omega))] at r0 r1 r2 r3 r4;obtain ⟨x0, hx0⟩ : ∃ x, m.store[k].c = x := ⟨_, rfl⟩;rw [hx0] at r0;obtain ⟨x1, hx1⟩ : ∃ x, m.store[k].m = x := ⟨_, rfl⟩;rw [hx1] at r1;obtain ⟨x2, hx2⟩ : ∃ x, m.store[k].s = x := ⟨_, rfl⟩;rw [hx2] at r2;obtain ⟨x3, hx3⟩ : ∃ x, m.store[k].p = x := ⟨_, rfl⟩;rw [hx3] at r3;obtain ⟨x4, hx4⟩ : ∃ x, m.store[k].k = x := ⟨_, rfl⟩;rw [hx4] at r4;have hkI : (k : Int) < (m.store.length : Int) := by omega
    have hg := (HQ.out k hlt).2;have hN : bq m.store (k + 1) = bq m.store k + 4 * x4 := by rw [bq, ← hx4]; simp [hlt]
    have hB1 := HS.out k hk;have hB2 := HS.out (k + 1) hlt;rw [hN] at hB2;obtain ⟨S, hS⟩ : ∃ S, a + b0 + bq m.store k = S := ⟨_, rfl⟩;have hS2 : a + b0 + bq m.store (k + 1) = S + 4 * x4 := by rw [hN]; omega
    have hw1 : IntKind.i64.wrap (4 * x4) = 4 * x4 := IntWalk.i64_in _ (by omega);have hw2 : IntKind.i64.wrap (S + 4 * x4) = S + 4 * x4 := IntWalk.i64_in _ (by omega);have HS2 := hide hS2;rw [hS];clear hN hB1 hB2 hS hS2 hg hcl hcs hx0 hx1 hx2 hx3 hx4 hb;go_wp2_with fail
    go_roundw
    case rel => exact ⟨k + 1, by omega, by go_num, by rw [HS2.out], HB.out.alloc hz _⟩
    case measure => simp [intOf]; omega
   ·obtain rfl : k = m.store.length := by omega
    have HBO := hide hb;clear hb;obtain ⟨wo, hwo⟩ : ∃ wo : World, wr = wo := ⟨_, rfl⟩;subst hwo;obtain ⟨wo, rfl⟩ : ∃ wo : World, wo = wr := ⟨_, rfl⟩;have VO := hide (VV_1.out.below HBO.out);have hzo := HBO.out.size;go_wp2_with fail
    go_loopw [3, 7, 32] (fun t _ i wr => ∃ k : Nat, k ≤ m.pieces.length ∧ i = .int .i64 k ∧ t = .int .i64 (a + b0 + bq m.store m.store.length + bi m.pieces k) ∧ Below wo.heap.size wo wr) (fun _ _ i _ => m.pieces.length - (intOf i).toNat)
    case atStart => exact ⟨0, Nat.zero_le _, rfl, by simp [bi], Below.refl _ _⟩
    case round =>
     obtain ⟨k, hk, rfl, rfl, hb⟩ := hrel;have HB := hide hb;have hz := hb.size;have RA := AR.out.below (w' := wr) (B := w1.heap.size) (Below.step HBO.out HB.out nl) AR.out.lt;have cA0 := RA.c 0 rfl;have cA8 := RA.c 8 rfl;clear RA;by_cases hlt : k < m.pieces.length
     ·obtain ⟨_, _, e1, -, -, -, hcl⟩ := VO.out.pieces
      simp only [Value.slice.injEq] at e1;obtain ⟨rfl, -, rfl⟩ := e1;obtain ⟨b, o, rfl, -, hbl, hcs⟩ := hcl (by omega);obtain ⟨⟨r0, r1⟩, -⟩ := hcs k hlt;rw [← hb.cell (p := ⟨b, _, none⟩) (Nat.lt_of_lt_of_le hbl (by omega))] at r0 r1;obtain ⟨x0, hx0⟩ : ∃ x, m.pieces[k].l = x := ⟨_, rfl⟩;rw [hx0] at r0;obtain ⟨x1, hx1⟩ : ∃ x, m.pieces[k].s = x := ⟨_, rfl⟩;rw [hx1] at r1;have hkI : (k : Int) < (m.pieces.length : Int) := by omega
      have hN : bi m.pieces (k + 1) = bi m.pieces k + x0 := by rw [bi, ← hx0]; simp [hlt]
      have hB1 := HL.out k hk;have hB2 := HL.out (k + 1) hlt;rw [hN] at hB2;have hB3 := HS.out m.store.length nl;obtain ⟨S, hS⟩ : ∃ S, a + b0 + bq m.store m.store.length + bi m.pieces k = S := ⟨_, rfl⟩;have hS2 : a + b0 + bq m.store m.store.length + bi m.pieces (k + 1) = S + x0 := by rw [hN]; omega
      have hw2 : IntKind.i64.wrap (S + x0) = S + x0 := IntWalk.i64_in _ (by omega);have HS2 := hide hS2;rw [hS];clear hN hB1 hB2 hB3 hS hS2 hcl hcs hx0 hx1 hb;go_wp2_with fail
      go_roundw
      case rel => exact ⟨k + 1, by omega, by go_num, by rw [HS2.out], HB.out.alloc hz _⟩
      case measure => simp [intOf]; omega
     ·obtain rfl : k = m.pieces.length := by omega
      have HBZ := hide (Below.step B_1.out (Below.step HBO.out HB.out nl) nl);go_wp2_with fail
      go_ret;exact ⟨by rw [HM.out, fZ, ha, hb0]; rfl, HBZ.out⟩
end Go.Proofs.YtkhecelpafojdaaGreatDoor
