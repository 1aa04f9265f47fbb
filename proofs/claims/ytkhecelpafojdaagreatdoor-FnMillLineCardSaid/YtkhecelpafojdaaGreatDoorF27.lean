/-
  Parts of the proofs over mills, of: MillD, MillE. Conditions: each theorem states its own.
-/
import Derived.Test.YtkhecelpafojdaaGreatDoorF26
set_option linter.unusedSimpArgs false
set_option linter.unusedVariables false
set_option maxRecDepth 10000
set_option maxHeartbeats 64000000
namespace Go.Proofs.YtkhecelpafojdaaGreatDoor
open Go.RowKit
theorem mill_end {m : Mi} (h1 : dY m.store = true) (h2 : grB m.rule = true) (h3 : wi m.strand 0 48 = true) (h4 : m.pieces.length ≤ 30) (h5 : aO m.low m.high = true) (h6 : wi m.scrap 0 999 = true) (h7 : pcsB m.pieces = true) : aF m = decide (dA m.pieces 1 = ib m.low m.high) := by
 have h4' : decide (m.pieces.length ≤ 30) = true := by simpa using h4
 simp only [aF, h1, h2, h3, h4', h5, h6, h7, Bool.true_and]
theorem millB_pc {m : Mi} {k : Nat} (hk : k < m.pieces.length) (h : pcB (m.pieces.getD k pc0) = false) : aF m = false := by
 have : pcsB m.pieces = false := by
  cases hp : pcsB m.pieces with
  | false => rfl
  | true => rw [pcsB_iff.1 hp k hk] at h; cases h
 simp [aF, this]
theorem millB_long {m : Mi} (h : 30 < m.pieces.length) : aF m = false := by
 have : decide (m.pieces.length ≤ 30) = false := by simp; omega
 simp [aF, this]
theorem cz (s p l h : Value) (m : Mi) (w : World) (H : aM 0 w.heap.size w s p l h m) :
 Calls Tryz.prog 15 #[ag s p l h m] w fun e w' => e = .returned (.bool (aF m)) ∧ Below w.heap.size w w' := by
 have VS := hide H.store;have VP := hide H.pieces;have VL := hide H.low;have VH := hide H.high;have hpl := H.pieces.len;clear H;obtain ⟨aop, capp, hpe, -, -, -, -⟩ := id VP.out;subst hpe;unfold ag;go_enter Tryz.func15, Tryz.ntmps15;go_wp2_with fail
 refine aj fun wx hwx => ?_;have A_0 : ae wx (w.heap.size) 31 [s, .int .i64 m.rule.lc, .int .i64 m.rule.hc, .int .i64 m.rule.lm, .int .i64 m.rule.hm, .int .i64 m.rule.ls, .int .i64 m.rule.hs, .int .i64 m.strand, .slice aop m.pieces.length capp, l, h, .int .i64 m.scrap] := by rw [hwx]; exact (ae.new _ _ _)
 have B_0 : Below w.heap.size w wx := by rw [hwx]; go_grown
 clear hwx;have hL0 := A_0.lt;have VS_0 := hide (VS.out.below B_0);have VP_0 := hide (VP.out.below B_0);have VL_0 := hide (VL.out.below B_0);have VH_0 := hide (VH.out.below B_0);have HFAIL : ∀ {b : Bool}, b = false → aF m = b → aF m = false := fun h k => k.trans h;have k_c1 := stsv_impl s m.store _ _ wx VS_0.out;cases c1 : dY m.store with
 | false =>
  rw [c1] at k_c1;refine k_c1.mono ?_;rintro e wq ⟨rfl, hb⟩;have HB := bs B_0 hb;clear hb k_c1;have HF := hide (show aF m = false by simp [aF, c1]);clear c1;go_wp2_with fail
  go_ret;exact ⟨by rw [HF.out]; rfl, HB.out⟩
 | true =>
  rw [c1] at k_c1;have KC1 := hide c1;refine k_c1.mono ?_;rintro e w1 ⟨rfl, hb⟩;have A_1 := A_0.below hb A_0.lt;have VP_1 := hide (VP_0.out.below hb);have VL_1 := hide (VL_0.out.below hb);have VH_1 := hide (VH_0.out.below hb);have B_1 := bs B_0 hb;clear hb;have cA1 := A_1.c 1 rfl;have cA2 := A_1.c 2 rfl;have cA3 := A_1.c 3 rfl;have cA4 := A_1.c 4 rfl;have cA5 := A_1.c 5 rfl;have cA6 := A_1.c 6 rfl;have cA7 := A_1.c 7 rfl;have cA8 := A_1.c 8 rfl;have cA9 := A_1.c 9 rfl;have cA10 := A_1.c 10 rfl;have cA11 := A_1.c 11 rfl;clear k_c1 c1;go_wp2_with fail
  have k_c2 := grv_impl m.rule w1;unfold grV at k_c2;cases c2 : grB m.rule with
  | false =>
   rw [c2] at k_c2;refine k_c2.mono ?_;rintro e wq ⟨rfl, hb⟩;have HB := bs B_1.out hb;clear hb k_c2;have HF := hide (show aF m = false by simp [aF, c2]);clear c2;go_wp2_with fail
   go_ret;exact ⟨by rw [HF.out]; rfl, HB.out⟩
  | true =>
   rw [c2] at k_c2;have KC2 := hide c2;refine k_c2.mono ?_;rintro e w2 ⟨rfl, hb⟩;have A_2 := A_1.below hb A_1.lt;have VP_2 := hide (VP_1.out.below hb);have VL_2 := hide (VL_1.out.below hb);have VH_2 := hide (VH_1.out.below hb);have B_2 := bs B_1.out hb;clear hb;clear cA1 cA2 cA3 cA4 cA5 cA6 cA7 cA8 cA9 cA10 cA11;have cA1 := A_2.c 1 rfl;have cA2 := A_2.c 2 rfl;have cA3 := A_2.c 3 rfl;have cA4 := A_2.c 4 rfl;have cA5 := A_2.c 5 rfl;have cA6 := A_2.c 6 rfl;have cA7 := A_2.c 7 rfl;have cA8 := A_2.c 8 rfl;have cA9 := A_2.c 9 rfl;have cA10 := A_2.c 10 rfl;have cA11 := A_2.c 11 rfl;clear k_c2 c2;go_wp2_with fail
   have k_c3 := aU m.strand 0 48 w2;cases c3 : wi m.strand 0 48 with
   | false =>
    rw [c3] at k_c3;refine k_c3.mono ?_;rintro e wq ⟨rfl, rfl⟩;clear k_c3;have HF := hide (show aF m = false by simp [aF, c3]);clear c3;go_wp2_with fail
    go_ret;exact ⟨by rw [HF.out]; rfl, B_2.out⟩
   | true =>
    rw [c3] at k_c3;have KC3 := hide c3;refine k_c3.mono ?_;rintro e wq ⟨rfl, rfl⟩;clear k_c3 c3;by_cases c4 : 30 < m.pieces.length
    ·have HF := hide (millB_long c4)
     have c4B : decide ((30 : Int) < (m.pieces.length : Int)) = true := by simp; omega
     go_wp2_with fail
     go_ret;exact ⟨by rw [HF.out]; rfl, B_2.out⟩
    have c4B : decide ((30 : Int) < (m.pieces.length : Int)) = false := by simp; omega
    go_wp2_with fail
    have k_c5 := gI l h m.low m.high w2 ((VL_2.out).mono nl (VL_2.out).lt nl) ((VH_2.out).mono nl (VH_2.out).lt nl);unfold aD at k_c5;cases c5 : aO m.low m.high with
    | false =>
     rw [c5] at k_c5;refine k_c5.mono ?_;rintro e wq ⟨rfl, hb⟩;have HB := bs B_2.out hb;clear hb k_c5;have HF := hide (show aF m = false by simp [aF, c5]);clear c5;go_wp2_with fail
     go_ret;exact ⟨by rw [HF.out]; rfl, HB.out⟩
    | true =>
     rw [c5] at k_c5;have KC5 := hide c5;refine k_c5.mono ?_;rintro e w3 ⟨rfl, hb⟩;have A_3 := A_2.below hb A_2.lt;have VP_3 := hide (VP_2.out.below hb);have VL_3 := hide (VL_2.out.below hb);have VH_3 := hide (VH_2.out.below hb);have B_3 := bs B_2.out hb;clear hb;clear cA1 cA2 cA3 cA4 cA5 cA6 cA7 cA8 cA9 cA10 cA11;have cA1 := A_3.c 1 rfl;have cA2 := A_3.c 2 rfl;have cA3 := A_3.c 3 rfl;have cA4 := A_3.c 4 rfl;have cA5 := A_3.c 5 rfl;have cA6 := A_3.c 6 rfl;have cA7 := A_3.c 7 rfl;have cA8 := A_3.c 8 rfl;have cA9 := A_3.c 9 rfl;have cA10 := A_3.c 10 rfl;have cA11 := A_3.c 11 rfl;clear k_c5 c5;go_wp2_with fail
     have k_c6 := aU m.scrap 0 999 w3;cases c6 : wi m.scrap 0 999 with
     | false =>
      rw [c6] at k_c6;refine k_c6.mono ?_;rintro e wq ⟨rfl, rfl⟩;clear k_c6;have HF := hide (show aF m = false by simp [aF, c6]);clear c6;go_wp2_with fail
      go_ret;exact ⟨by rw [HF.out]; rfl, B_3.out⟩
     | true =>
      rw [c6] at k_c6;have KC6 := hide c6;refine k_c6.mono ?_;rintro e wq ⟨rfl, rfl⟩;clear k_c6 c6;go_wp2_with fail
      have PV := hide (VP_3.out);have HB0 := hide (B_3.out);have hlen : m.pieces.length ≤ 30 := by omega
      have hzz := HB0.out.size;have AR := hide (A_3);clear c4B c4
      go_loopw [4, 42] (fun _ i wr => ∃ k : Nat, k ≤ m.pieces.length ∧ i = .int .i64 k ∧ Below w3.heap.size w3 wr ∧ (∀ j, j < k → pcB (m.pieces.getD j pc0) = true)) (fun _ i _ => m.pieces.length - (intOf i).toNat)
      case atStart => exact ⟨0, Nat.zero_le _, rfl, Below.refl _ _, fun _ h => absurd h (Nat.not_lt_zero _)⟩
      case round =>
       obtain ⟨k, hk, rfl, hb, hall⟩ := hrel;have HB := hide hb;have HA := hide hall;have hz := hb.size;clear hall;by_cases hlt : k < m.pieces.length
       ·obtain ⟨_, _, e1, -, -, -, hcl⟩ := PV.out
        simp only [Value.slice.injEq] at e1;obtain ⟨rfl, -, rfl⟩ := e1;obtain ⟨b, o, rfl, -, hbl, hcs⟩ := hcl (by omega);obtain ⟨⟨r1, r2⟩, -⟩ := hcs k hlt;rw [← hb.cell (p := ⟨b, _, none⟩) (Nat.lt_of_lt_of_le hbl hzz)] at r1 r2;have hg : m.pieces.getD k pc0 = m.pieces[k] := by simp [hlt]
        have hpk : pcB (m.pieces.getD k pc0) = (wi m.pieces[k].l 1 60 && wi m.pieces[k].s 0 2) := by rw [hg]; rfl
        obtain ⟨x, hx⟩ : ∃ x, m.pieces[k].l = x := ⟨_, rfl⟩;obtain ⟨y, hy⟩ : ∃ y, m.pieces[k].s = y := ⟨_, rfl⟩;rw [hx] at r1 hpk;rw [hy] at r2 hpk;have HP := hide hpk;have hkI : (k : Int) < (m.pieces.length : Int) := by omega
        have hW1 := fun w => aU x 1 60 w;have hW2 := fun w => aU y 0 2 w;clear hcl hcs hx hy hg hpk hb;cases g1 : wi x 1 60 with
        | false =>
         rw [g1] at hW1;have HF := hide (show aF m = false from millB_pc hlt (by rw [HP.out, g1]; rfl));clear g1;go_wp2_with fail
         refine (hW1 _).mono ?_;rintro e wq ⟨rfl, rfl⟩;go_wp2_with fail
         go_ret;exact ⟨by rw [HF.out]; rfl, (Below.step HB0.out HB.out nl).alloc (Below.step HB0.out HB.out nl).size _⟩
        | true =>
         rw [g1] at hW1;cases g2 : wi y 0 2 with
         | false =>
          rw [g2] at hW2;have HF := hide (show aF m = false from millB_pc hlt (by rw [HP.out, g1, g2]; rfl));clear g1 g2;go_wp2_with fail
          refine (hW1 _).mono ?_;rintro e wq ⟨rfl, rfl⟩;go_wp2_with fail
          refine (hW2 _).mono ?_;rintro e wq ⟨rfl, rfl⟩;go_wp2_with fail
          go_ret;exact ⟨by rw [HF.out]; rfl, (Below.step HB0.out HB.out nl).alloc (Below.step HB0.out HB.out nl).size _⟩
         | true =>
          rw [g2] at hW2;have HN := hide (show pcB (m.pieces.getD k pc0) = true by rw [HP.out, g1, g2]; rfl);clear g1 g2;go_wp2_with fail
          refine (hW1 _).mono ?_;rintro e wq ⟨rfl, rfl⟩;go_wp2_with fail
          refine (hW2 _).mono ?_;rintro e wq ⟨rfl, rfl⟩;go_wp2_with fail
          go_roundw
          case rel => exact ⟨k + 1, by omega, by go_num, HB.out.alloc hz _, dn HA.out HN.out⟩
          case measure => simp [intOf]; omega
       ·obtain rfl : k = m.pieces.length := by omega
        have RA := AR.out.below HB.out AR.out.lt;have hp8 := RA.cell 8 (by simp);have hp9 := RA.cell 9 (by simp);have hp10 := RA.cell 10 (by simp);simp only [List.getD_cons_zero, List.getD_cons_succ] at hp8 hp9 hp10;have HBr := bs HB0.out HB.out;have hbd : Below wr.heap.size wr wr.drew := (Below.refl _ _).drew;have VPr := hide ((PV.out.below HB.out).below hbd);have VLr := hide ((((VL_3.out).below HB.out).below hbd).mono nl (((VL_3.out).below HB.out).below hbd).lt nl);have VHr := hide ((((VH_3.out).below HB.out).below hbd).mono nl (((VH_3.out).below HB.out).below hbd).lt nl);clear hb;have HC := hide (fun W H1 H2 => coils_impl l h m.low m.high W H1 H2);unfold aD at HC;have hm := mill_end KC1.out KC2.out KC3.out hlen KC5.out KC6.out (pcsB_iff.2 HA.out);have HM := hide hm;have HRA := hide (RA.below hbd RA.lt);have HBD := hide (HBr.out.drew);clear hm RA hbd;go_wp2_with fail
        go_region_with (first
         | (go_at_call 54; refine (idsIn_any _ m.pieces 1 _ _ _ (by first | exact VPr.out | exact VPr.out.below hbb) (by omega)).mono ?_; rintro e wa ⟨va, rfl, hoa, hba⟩; have ca9 : wa.cell? ⟨w.heap.size, 9, none⟩ = some l := (by first | exact (HRA.out.below hba HRA.out.lt).cell 9 (by simp) | exact ((HRA.out.below hbb HRA.out.lt).below hba (HRA.out.below hbb HRA.out.lt).lt).cell 9 (by simp)); have ca10 : wa.cell? ⟨w.heap.size, 10, none⟩ = some h := (by first | exact (HRA.out.below hba HRA.out.lt).cell 10 (by simp) | exact ((HRA.out.below hbb HRA.out.lt).below hba (HRA.out.below hbb HRA.out.lt).lt).cell 10 (by simp)))
         | (go_at_call 55; refine (HC.out _ (by first | exact VLr.out | exact (VLr.out.below hba).mono nl hba.size nl) (by first | exact VHr.out | exact (VHr.out.below hba).mono nl hba.size nl)).mono ?_; rintro e wb ⟨vb, rfl, hob, hbb⟩; have cb8 : wb.cell? ⟨w.heap.size, 8, none⟩ = some (.slice aop m.pieces.length capp) := (by first | exact (HRA.out.below hbb HRA.out.lt).cell 8 (by simp) | exact ((HRA.out.below hba HRA.out.lt).below hbb (HRA.out.below hba HRA.out.lt).lt).cell 8 (by simp)))
         | (go_at_call 53; refine (equal_any va vb (dA m.pieces 1) (ib m.low m.high) _ _ _ _ _ (by first | exact (bH hoa rfl hba.size).below hbb | exact bH hoa rfl hba.size) (by first | exact (bH hob rfl hbb.size).below hba | exact bH hob rfl hbb.size)).mono ?_; rintro e wc ⟨rfl, hbc⟩))
        all_goals
         have HF := hide (show Below w.heap.size w wc by first | exact Below.step (Below.step (Below.step HBD.out hba nl) hbb nl) hbc nl | exact Below.step (Below.step (Below.step HBD.out hbb nl) hba nl) hbc nl);clear hoa hba hob hbb hbc;go_wp2_with fail
         go_ret;exact ⟨by rw [HM.out]; rfl, HF.out⟩
theorem cu (s p l h : Value) (m : Mi) (w : World) (H : aM 0 w.heap.size w s p l h m) :
 Calls Tryz.prog 10 #[ag s p l h m] w fun e w' => e = .returned (.bool (aF m)) ∧ Below w.heap.size w w' := by
 have VS := hide H.store;have VP := hide H.pieces;have VL := hide H.low;have VH := hide H.high;have hpl := H.pieces.len;clear H;obtain ⟨aop, capp, hpe, -, -, -, -⟩ := id VP.out;subst hpe;unfold ag;go_enter Tryz.func10, Tryz.ntmps10;go_wp2_with fail
 refine aj fun wx hwx => ?_;have A_0 : ae wx (w.heap.size) 31 [s, .int .i64 m.rule.lc, .int .i64 m.rule.hc, .int .i64 m.rule.lm, .int .i64 m.rule.hm, .int .i64 m.rule.ls, .int .i64 m.rule.hs, .int .i64 m.strand, .slice aop m.pieces.length capp, l, h, .int .i64 m.scrap] := by rw [hwx]; exact (ae.new _ _ _)
 have B_0 : Below w.heap.size w wx := by rw [hwx]; go_grown
 clear hwx;have hL0 := A_0.lt;have VS_0 := hide (VS.out.below B_0);have VP_0 := hide (VP.out.below B_0);have VL_0 := hide (VL.out.below B_0);have VH_0 := hide (VH.out.below B_0);have HFAIL : ∀ {b : Bool}, b = false → aF m = b → aF m = false := fun h k => k.trans h;have k_c1 := stsv_spec s m.store _ _ wx VS_0.out;cases c1 : dY m.store with
 | false =>
  rw [c1] at k_c1;refine k_c1.mono ?_;rintro e wq ⟨rfl, hb⟩;have HB := bs B_0 hb;clear hb k_c1;have HF := hide (show aF m = false by simp [aF, c1]);clear c1;go_wp2_with fail
  go_ret;exact ⟨by rw [HF.out]; rfl, HB.out⟩
 | true =>
  rw [c1] at k_c1;have KC1 := hide c1;refine k_c1.mono ?_;rintro e w1 ⟨rfl, hb⟩;have A_1 := A_0.below hb A_0.lt;have VP_1 := hide (VP_0.out.below hb);have VL_1 := hide (VL_0.out.below hb);have VH_1 := hide (VH_0.out.below hb);have B_1 := bs B_0 hb;clear hb;have cA1 := A_1.c 1 rfl;have cA2 := A_1.c 2 rfl;have cA3 := A_1.c 3 rfl;have cA4 := A_1.c 4 rfl;have cA5 := A_1.c 5 rfl;have cA6 := A_1.c 6 rfl;have cA7 := A_1.c 7 rfl;have cA8 := A_1.c 8 rfl;have cA9 := A_1.c 9 rfl;have cA10 := A_1.c 10 rfl;have cA11 := A_1.c 11 rfl;clear k_c1 c1;go_wp2_with fail
  have k_c2 := grv_spec m.rule w1;unfold grV at k_c2;cases c2 : grB m.rule with
  | false =>
   rw [c2] at k_c2;refine k_c2.mono ?_;rintro e wq ⟨rfl, hb⟩;have HB := bs B_1.out hb;clear hb k_c2;have HF := hide (show aF m = false by simp [aF, c2]);clear c2;go_wp2_with fail
   go_ret;exact ⟨by rw [HF.out]; rfl, HB.out⟩
  | true =>
   rw [c2] at k_c2;have KC2 := hide c2;refine k_c2.mono ?_;rintro e w2 ⟨rfl, hb⟩;have A_2 := A_1.below hb A_1.lt;have VP_2 := hide (VP_1.out.below hb);have VL_2 := hide (VL_1.out.below hb);have VH_2 := hide (VH_1.out.below hb);have B_2 := bs B_1.out hb;clear hb;clear cA1 cA2 cA3 cA4 cA5 cA6 cA7 cA8 cA9 cA10 cA11;have cA1 := A_2.c 1 rfl;have cA2 := A_2.c 2 rfl;have cA3 := A_2.c 3 rfl;have cA4 := A_2.c 4 rfl;have cA5 := A_2.c 5 rfl;have cA6 := A_2.c 6 rfl;have cA7 := A_2.c 7 rfl;have cA8 := A_2.c 8 rfl;have cA9 := A_2.c 9 rfl;have cA10 := A_2.c 10 rfl;have cA11 := A_2.c 11 rfl;clear k_c2 c2;go_wp2_with fail
   have k_c3 := aY m.strand 0 48 w2;cases c3 : wi m.strand 0 48 with
   | false =>
    rw [c3] at k_c3;refine k_c3.mono ?_;rintro e wq ⟨rfl, rfl⟩;clear k_c3;have HF := hide (show aF m = false by simp [aF, c3]);clear c3;go_wp2_with fail
    go_ret;exact ⟨by rw [HF.out]; rfl, B_2.out⟩
   | true =>
    rw [c3] at k_c3;have KC3 := hide c3;refine k_c3.mono ?_;rintro e wq ⟨rfl, rfl⟩;clear k_c3 c3;by_cases c4 : 30 < m.pieces.length
    ·have HF := hide (millB_long c4)
     have c4B : decide ((30 : Int) < (m.pieces.length : Int)) = true := by simp; omega
     go_wp2_with fail
     go_ret;exact ⟨by rw [HF.out]; rfl, B_2.out⟩
    have c4B : decide ((30 : Int) < (m.pieces.length : Int)) = false := by simp; omega
    go_wp2_with fail
    have k_c5 := gJ l h m.low m.high w2 ((VL_2.out).mono nl (VL_2.out).lt nl) ((VH_2.out).mono nl (VH_2.out).lt nl);unfold aD at k_c5;cases c5 : aO m.low m.high with
    | false =>
     rw [c5] at k_c5;refine k_c5.mono ?_;rintro e wq ⟨rfl, hb⟩;have HB := bs B_2.out hb;clear hb k_c5;have HF := hide (show aF m = false by simp [aF, c5]);clear c5;go_wp2_with fail
     go_ret;exact ⟨by rw [HF.out]; rfl, HB.out⟩
    | true =>
     rw [c5] at k_c5;have KC5 := hide c5;refine k_c5.mono ?_;rintro e w3 ⟨rfl, hb⟩;have A_3 := A_2.below hb A_2.lt;have VP_3 := hide (VP_2.out.below hb);have VL_3 := hide (VL_2.out.below hb);have VH_3 := hide (VH_2.out.below hb);have B_3 := bs B_2.out hb;clear hb;clear cA1 cA2 cA3 cA4 cA5 cA6 cA7 cA8 cA9 cA10 cA11;have cA1 := A_3.c 1 rfl;have cA2 := A_3.c 2 rfl;have cA3 := A_3.c 3 rfl;have cA4 := A_3.c 4 rfl;have cA5 := A_3.c 5 rfl;have cA6 := A_3.c 6 rfl;have cA7 := A_3.c 7 rfl;have cA8 := A_3.c 8 rfl;have cA9 := A_3.c 9 rfl;have cA10 := A_3.c 10 rfl;have cA11 := A_3.c 11 rfl;clear k_c5 c5;go_wp2_with fail
     have k_c6 := aY m.scrap 0 999 w3;cases c6 : wi m.scrap 0 999 with
     | false =>
      rw [c6] at k_c6;refine k_c6.mono ?_;rintro e wq ⟨rfl, rfl⟩;clear k_c6;have HF := hide (show aF m = false by simp [aF, c6]);clear c6;go_wp2_with fail
      go_ret;exact ⟨by rw [HF.out]; rfl, B_3.out⟩
     | true =>
      rw [c6] at k_c6;have KC6 := hide c6;refine k_c6.mono ?_;rintro e wq ⟨rfl, rfl⟩;clear k_c6 c6;go_wp2_with fail
      have PV := hide (VP_3.out);have HB0 := hide (B_3.out);have hlen : m.pieces.length ≤ 30 := by omega
      have hzz := HB0.out.size;have AR := hide (A_3);obtain ⟨i0, hi0, hz0, hi1, hi2⟩ := info_parts bF;clear c4B c4 cA1 cA2 cA3 cA4 cA5 cA6 cA7 cA8 cA9 cA10 cA11
      go_loopw [3, 4] (fun o i wr => ∃ k : Nat, k ≤ m.pieces.length ∧ i = .int .i64 k ∧ Below w3.heap.size w3 wr ∧ (∀ j, j < k → pcB (m.pieces.getD j pc0) = true) ∧ wr.ownsRow w3.heap.size 3 1 o (bg m.pieces 1 k).length (aC (bg m.pieces 1 k))) (fun _ i _ => m.pieces.length - (intOf i).toNat)
      case atStart => exact ⟨0, Nat.zero_le _, rfl, by go_grown, fun _ h => absurd h (Nat.not_lt_zero _), by simpa [bg, aC] using World.ownsRow_lit (e := 3) (size := 1) (base := w3.heap.size) w3 #[] 0 nl (by unfold maxLen; omega) (by simp)⟩
      case round =>
       obtain ⟨k, hk, rfl, hb, hall, hown⟩ := hrel;have HB := hide hb;have HA := hide hall;have HO := hide hown;have hz := hb.size;have hnl := gK m.pieces 1 k;obtain ⟨aow, capw, rfl, -, -⟩ := aB hown;have RA := AR.out.below HB.out AR.out.lt;have hp8 := RA.cell 8 (by simp);have hp9 := RA.cell 9 (by simp);have hp10 := RA.cell 10 (by simp);simp only [List.getD_cons_zero, List.getD_cons_succ] at hp8 hp9 hp10;clear hall hown RA;by_cases hlt : k < m.pieces.length
       ·obtain ⟨_, _, e1, -, -, -, hcl⟩ := PV.out
        simp only [Value.slice.injEq] at e1;obtain ⟨rfl, -, rfl⟩ := e1;obtain ⟨b, o, rfl, -, hbl, hcs⟩ := hcl (by omega);obtain ⟨⟨r1, r2⟩, -⟩ := hcs k hlt;rw [← hb.cell (p := ⟨b, _, none⟩) (Nat.lt_of_lt_of_le hbl hzz)] at r1 r2;have hg : m.pieces.getD k pc0 = m.pieces[k] := by simp [hlt]
        have hpk : pcB (m.pieces.getD k pc0) = (wi m.pieces[k].l 1 60 && wi m.pieces[k].s 0 2) := by rw [hg]; rfl
        have hN : bg m.pieces 1 (k + 1) = if m.pieces[k].s == 1 then bg m.pieces 1 k ++ [(k : Int) + 1] else bg m.pieces 1 k := by rw [bg, hg]
        obtain ⟨x, hx⟩ : ∃ x, m.pieces[k].l = x := ⟨_, rfl⟩;obtain ⟨y, hy⟩ : ∃ y, m.pieces[k].s = y := ⟨_, rfl⟩;rw [hx] at r1 hpk;rw [hy] at r2 hpk hN;have HP := hide hpk;have HN := hide hN;have hkI : (k : Int) < (m.pieces.length : Int) := by omega
        have hW1 := fun w => aY x 1 60 w;have hW2 := fun w => aY y 0 2 w;clear hcl hcs hx hy hg hpk hb hN;cases g1 : wi x 1 60 with
        | false =>
         rw [g1] at hW1;have HF := hide (show aF m = false from millB_pc hlt (by rw [HP.out, g1]; rfl));clear g1;go_wp2_with fail
         refine (hW1 _).mono ?_;rintro e wq ⟨rfl, rfl⟩;go_wp2_with fail
         go_ret;exact ⟨by rw [HF.out]; rfl, Below.step HB0.out HB.out nl⟩
        | true =>
         rw [g1] at hW1;cases g2 : wi y 0 2 with
         | false =>
          rw [g2] at hW2;have HF := hide (show aF m = false from millB_pc hlt (by rw [HP.out, g1, g2]; rfl));clear g1 g2;go_wp2_with fail
          refine (hW1 _).mono ?_;rintro e wq ⟨rfl, rfl⟩;go_wp2_with fail
          refine (hW2 _).mono ?_;rintro e wq ⟨rfl, rfl⟩;go_wp2_with fail
          go_ret;exact ⟨by rw [HF.out]; rfl, Below.step HB0.out HB.out nl⟩
         | true =>
          rw [g2] at hW2;have HQ := hide (show pcB (m.pieces.getD k pc0) = true by rw [HP.out, g1, g2]; rfl);clear g1 g2;cases hq : (y == 1) with
          | false =>
           have HN2 := hide (show bg m.pieces 1 (k + 1) = bg m.pieces 1 k by rw [HN.out, hq]; rfl);go_wp2_with fail
           refine (hW1 _).mono ?_;rintro e wq ⟨rfl, rfl⟩;go_wp2_with fail
           refine (hW2 _).mono ?_;rintro e wq ⟨rfl, rfl⟩;go_wp2_with fail
           go_roundw
           case rel => exact ⟨k + 1, by omega, by go_num, HB.out, dn HA.out HQ.out, by rw [HN2.out]; exact HO.out⟩
           case measure => simp [intOf]; omega
          | true =>
           have HN2 := hide (show bg m.pieces 1 (k + 1) = bg m.pieces 1 k ++ [(k : Int) + 1] by rw [HN.out, hq]; rfl);go_wp2_with fail
           refine (hW1 _).mono ?_;rintro e wq ⟨rfl, rfl⟩;go_wp2_with fail
           refine (hW2 _).mono ?_;rintro e wq ⟨rfl, rfl⟩;go_wp2_with (at_builtin; refine aA rfl _ _ 27 rfl w3.heap.size 3 i0 (.int .i64 0) 1 8 Tryz.underlying27 hi0 hz0 hi1 hi2 rfl (by decide) _ _ _ rfl (HO.out.alloc _) (.slice (some ⟨wr.heap.size, 0, none⟩) 1 1) 1 [.int .i64 ((k : Int) + 1)] rfl ?c0 ?c1 ?c2 ?c3 ?_)
           case c0 => exact Source.lit wr [.int .i64 ((k : Int) + 1)] 1 3 1 rfl (fun u hu => by simp at hu; subst hu; rfl) 1
           case c1 => unfold maxLen; omega
           case c2 => omega
           case c3 => simp; omega
           intro v2 w9 hown2 hgrow2 _;have hB3 := (HB.out.alloc hz (.cells #[.int .i64 ((k : Int) + 1)] 3)).trans (Below.grow hgrow2 (HO.out.alloc _) nl (by simp; omega));have HB3 := hide hB3;have HO3 := hide (show w9.ownsRow w3.heap.size 3 1 v2 (bg m.pieces 1 (k + 1)).length (aC (bg m.pieces 1 (k + 1))) by rw [HN2.out]; simpa [aC] using hown2);clear hown2 hgrow2 hB3;go_wp2_with fail
           go_roundw
           case rel => exact ⟨k + 1, by omega, by go_num, HB3.out, dn HA.out HQ.out, HO3.out⟩
           case measure => simp [intOf]; omega
       ·obtain rfl : k = m.pieces.length := by omega
        have HBr := bs HB0.out HB.out;have VLr := hide (((VL_3.out).below HB.out).mono nl ((VL_3.out).below HB.out).lt nl);have VHr := hide (((VH_3.out).below HB.out).mono nl ((VH_3.out).below HB.out).lt nl);clear hb;have HC := hide (fun W H1 H2 => coils_spec l h m.low m.high W H1 H2);unfold aD at HC;have HM := hide (mill_end KC1.out KC2.out KC3.out hlen KC5.out KC6.out (pcsB_iff.2 HA.out));obtain ⟨xs, hxs⟩ : ∃ xs, bg m.pieces 1 m.pieces.length = xs := ⟨_, rfl⟩;obtain ⟨ys, hys⟩ : ∃ ys, ib m.low m.high = ys := ⟨_, rfl⟩;have hM : aF m = decide (xs = ys) := by rw [HM.out, ← hxs, ← hys]; rfl
        rw [hxs] at HO hnl ⊢;rw [hys] at HC;have HMM := hide hM;have hxl : xs.length ≤ 30 := by omega
        have VX := hide (bH HO.out rfl (by omega));clear hM hxs hys HM hnl;go_wp2_with fail
        refine (HC.out _ VLr.out VHr.out).mono ?_;rintro e wb ⟨vb, rfl, hob, hbb⟩;have VY := hide (bH hob rfl hbb.size);have VX2 := hide (VX.out.below hbb);have HBb := bs HBr.out hbb;have hyl := VY.out.len;obtain ⟨aoy, capy, rfl, -, -⟩ := aB hob;clear hob hbb hp8 hp9 hp10;by_cases hl : ys.length = xs.length
        ·have hlB : ((ys.length : Int) != (xs.length : Int)) = false := by simp [hl]
         have HL := hide hl;have hyl2 : ys.length ≤ 30 := by omega
         clear hl;go_wp2_with fail
         go_loopw [6] (fun i wr => ∃ k : Nat, k ≤ ys.length ∧ i = .int .i64 k ∧ Below wb.heap.size wb wr ∧ xs.take k = ys.take k) (fun i _ => ys.length - (intOf i).toNat)
         case atStart => exact ⟨0, Nat.zero_le _, rfl, Below.refl _ _, rfl⟩
         case round =>
          obtain ⟨k, hk, rfl, hb, hall⟩ := hrel;have HA2 := hide hall;have HB2 := hide hb;clear hall hb;by_cases hlt : k < ys.length
          ·have hlt2 : k < xs.length := by have := HL.out; omega
           have VYr := hide (VY.out.below HB2.out);have VXr := hide (VX2.out.below HB2.out);obtain ⟨_, _, e1, -, -, -, hcx⟩ := VXr.out;obtain ⟨_, _, e2, -, -, -, hcy⟩ := VYr.out;simp only [Value.slice.injEq] at e1 e2;obtain ⟨rfl, -, rfl⟩ := e1;obtain ⟨rfl, -, rfl⟩ := e2;obtain ⟨b1, o1, rfl, -, -, hc1⟩ := hcx (by omega);obtain ⟨b2, o2, rfl, -, -, hc2⟩ := hcy (by omega);obtain ⟨r1, -⟩ := hc1 k hlt2;obtain ⟨r2, -⟩ := hc2 k hlt;have hkI1 : (k : Int) < (xs.length : Int) := by omega
           have hkI2 : (k : Int) < (ys.length : Int) := by omega
           obtain ⟨x, hx⟩ : ∃ x, xs[k] = x := ⟨_, rfl⟩;obtain ⟨y, hy⟩ : ∃ y, ys[k] = y := ⟨_, rfl⟩;rw [hx] at r1;rw [hy] at r2;have HX := hide hx;have HY := hide hy;clear hcx hcy hc1 hc2 hx hy;by_cases hq : x = y
           ·have hqB : (y != x) = false := by simp [hq]
            have HT := hide (show xs.take (k + 1) = ys.take (k + 1) by rw [List.take_succ_eq_append_getElem hlt, List.take_succ_eq_append_getElem hlt2, HA2.out, HX.out, HY.out, hq]);clear hq;go_wp2_with fail
            go_quiet (fail)
            go_wp2_with fail
            go_roundw
            case rel => exact ⟨k + 1, by omega, by go_num, below_drewN HB2.out _, HT.out⟩
            case measure => simp [intOf]; omega
           ·have hqB : (y != x) = true := by simp; exact fun e => hq e.symm
            have HF := hide (show aF m = false by
             rw [HMM.out, decide_eq_false_iff_not];intro e;have e1 := HX.out;have e2 := HY.out;subst e;exact hq (e1.symm.trans e2))
            clear hq;go_wp2_with fail
            go_quiet (fail)
            go_wp2_with fail
            go_ret;exact ⟨by rw [HF.out]; rfl, below_drewN (Below.step HBb.out HB2.out nl) _⟩
          ·have HF := hide (show aF m = true by
            rw [HMM.out, decide_eq_true_iff];have h1 := HA2.out;have h2 := HL.out;rw [List.take_of_length_le (by omega), List.take_of_length_le (by omega)] at h1;exact h1)
           go_wp2_with fail
           go_ret;exact ⟨by rw [HF.out]; rfl, Below.step HBb.out HB2.out nl⟩
        ·have hlB : ((ys.length : Int) != (xs.length : Int)) = true := by simp; omega
         have HF := hide (show aF m = false by
          rw [HMM.out, decide_eq_false_iff_not];intro e; exact hl (by rw [e]))
         go_wp2_with fail
         go_ret;exact ⟨by rw [HF.out]; rfl, HBb.out⟩
end Go.Proofs.YtkhecelpafojdaaGreatDoor
