/-
  The walk over the program's validity of mills.
-/
import Derived.Test.YtbafifilklfafaaDoorMillC
namespace Go.Proofs.YtbafifilklfafaaDoor
open Go.RowKit

theorem mill_end {m : Mi} (h1 : stsB m.store = true) (h2 : grB m.rule = true) (h3 : wi m.strand 0 48 = true) (h4 : m.pieces.length ≤ 30) (h5 : pileB m.low m.high = true) (h6 : wi m.scrap 0 999 = true) (h7 : pcsB m.pieces = true) : millB m = decide (idsIn m.pieces 1 = coilR m.low m.high) := by
  have h4' : decide (m.pieces.length ≤ 30) = true := by simpa using h4
  simp only [millB, h1, h2, h3, h4', h5, h6, h7, Bool.true_and]
theorem millB_pc {m : Mi} {k : Nat} (hk : k < m.pieces.length) (h : pcB (m.pieces.getD k pc0) = false) : millB m = false := by
  have : pcsB m.pieces = false := by
    cases hp : pcsB m.pieces with
    | false => rfl
    | true => rw [pcsB_iff.1 hp k hk] at h; cases h
  simp [millB, this]
theorem millB_long {m : Mi} (h : 30 < m.pieces.length) : millB m = false := by
  have : decide (m.pieces.length ≤ 30) = false := by simp; omega
  simp [millB, this]

set_option maxRecDepth 10000 in
set_option maxHeartbeats 3200000 in
theorem mill_impl (s p l h : Value) (m : Mi) (w : World) (H : MillIn 0 w.heap.size w s p l h m) :
    Calls Tryd.prog 54 #[millV s p l h m] w fun e w' => e = .returned (.bool (millB m)) ∧ Below w.heap.size w w' := by
  have VS := hide H.store
  have VP := hide H.pieces
  have VL := hide H.low
  have VH := hide H.high
  have hpl := H.pieces.len
  clear H
  obtain ⟨aop, capp, hpe, -, -, -, -⟩ := id VP.out
  subst hpe
  unfold millV
  go_enter Tryd.func54, Tryd.ntmps54
  go_wp2_with fail
  refine calls_at fun wx hwx => ?_
  have A_0 : RowL wx (w.heap.size) 52 [s, .int .i64 m.rule.lc, .int .i64 m.rule.hc, .int .i64 m.rule.lm, .int .i64 m.rule.hm, .int .i64 m.rule.ls, .int .i64 m.rule.hs, .int .i64 m.strand, .slice aop m.pieces.length capp, l, h, .int .i64 m.scrap] := by rw [hwx]; exact (RowL.new _ 52 [s, .int .i64 m.rule.lc, .int .i64 m.rule.hc, .int .i64 m.rule.lm, .int .i64 m.rule.hm, .int .i64 m.rule.ls, .int .i64 m.rule.hs, .int .i64 m.strand, .slice aop m.pieces.length capp, l, h, .int .i64 m.scrap])
  have B_0 : Below w.heap.size w wx := by rw [hwx]; go_grown
  clear hwx
  have hL0 := A_0.lt
  have VS_0 := hide (VS.out.below B_0)
  have VP_0 := hide (VP.out.below B_0)
  have VL_0 := hide (VL.out.below B_0)
  have VH_0 := hide (VH.out.below B_0)
  have HFAIL : ∀ {b : Bool}, b = false → millB m = b → millB m = false := fun h k => k.trans h
  have k_c1 := stsv_impl s m.store _ _ wx VS_0.out
  cases c1 : stsB m.store with
  | false =>
    rw [c1] at k_c1
    refine k_c1.mono ?_
    rintro e wq ⟨rfl, hb⟩
    have HB := hide (Below.step B_0 hb (Nat.le_refl _))
    clear hb k_c1
    have HF := hide (show millB m = false by simp [millB, c1])
    clear c1
    go_wp2_with fail
    go_ret
    exact ⟨by rw [HF.out]; rfl, HB.out⟩
  | true =>
    rw [c1] at k_c1
    have KC1 := hide c1
    refine k_c1.mono ?_
    rintro e w1 ⟨rfl, hb⟩
    have A_1 := A_0.below hb A_0.lt
    have VS_1 := hide (VS_0.out.below hb)
    have VP_1 := hide (VP_0.out.below hb)
    have VL_1 := hide (VL_0.out.below hb)
    have VH_1 := hide (VH_0.out.below hb)
    have B_1 := hide (Below.step B_0 hb (Nat.le_refl _))
    clear hb
    have cA1 : w1.cell? ⟨w.heap.size, 1, none⟩ = some (.int .i64 m.rule.lc) := A_1.cell 1 (by simp)
    have cA2 : w1.cell? ⟨w.heap.size, 2, none⟩ = some (.int .i64 m.rule.hc) := A_1.cell 2 (by simp)
    have cA3 : w1.cell? ⟨w.heap.size, 3, none⟩ = some (.int .i64 m.rule.lm) := A_1.cell 3 (by simp)
    have cA4 : w1.cell? ⟨w.heap.size, 4, none⟩ = some (.int .i64 m.rule.hm) := A_1.cell 4 (by simp)
    have cA5 : w1.cell? ⟨w.heap.size, 5, none⟩ = some (.int .i64 m.rule.ls) := A_1.cell 5 (by simp)
    have cA6 : w1.cell? ⟨w.heap.size, 6, none⟩ = some (.int .i64 m.rule.hs) := A_1.cell 6 (by simp)
    have cA7 : w1.cell? ⟨w.heap.size, 7, none⟩ = some (.int .i64 m.strand) := A_1.cell 7 (by simp)
    have cA8 : w1.cell? ⟨w.heap.size, 8, none⟩ = some (.slice aop m.pieces.length capp) := A_1.cell 8 (by simp)
    have cA9 : w1.cell? ⟨w.heap.size, 9, none⟩ = some (l) := A_1.cell 9 (by simp)
    have cA10 : w1.cell? ⟨w.heap.size, 10, none⟩ = some (h) := A_1.cell 10 (by simp)
    have cA11 : w1.cell? ⟨w.heap.size, 11, none⟩ = some (.int .i64 m.scrap) := A_1.cell 11 (by simp)
    clear k_c1 c1
    go_wp2_with fail
    have k_c2 := grv_impl m.rule w1
    unfold grV at k_c2
    cases c2 : grB m.rule with
    | false =>
      rw [c2] at k_c2
      refine k_c2.mono ?_
      rintro e wq ⟨rfl, hb⟩
      have HB := hide (Below.step B_1.out hb (Nat.le_refl _))
      clear hb k_c2
      have HF := hide (show millB m = false by simp [millB, c2])
      clear c2
      go_wp2_with fail
      go_ret
      exact ⟨by rw [HF.out]; rfl, HB.out⟩
    | true =>
      rw [c2] at k_c2
      have KC2 := hide c2
      refine k_c2.mono ?_
      rintro e w2 ⟨rfl, hb⟩
      have A_2 := A_1.below hb A_1.lt
      have VS_2 := hide (VS_1.out.below hb)
      have VP_2 := hide (VP_1.out.below hb)
      have VL_2 := hide (VL_1.out.below hb)
      have VH_2 := hide (VH_1.out.below hb)
      have B_2 := hide (Below.step B_1.out hb (Nat.le_refl _))
      clear hb
      clear cA1 cA2 cA3 cA4 cA5 cA6 cA7 cA8 cA9 cA10 cA11
      have cA1 : w2.cell? ⟨w.heap.size, 1, none⟩ = some (.int .i64 m.rule.lc) := A_2.cell 1 (by simp)
      have cA2 : w2.cell? ⟨w.heap.size, 2, none⟩ = some (.int .i64 m.rule.hc) := A_2.cell 2 (by simp)
      have cA3 : w2.cell? ⟨w.heap.size, 3, none⟩ = some (.int .i64 m.rule.lm) := A_2.cell 3 (by simp)
      have cA4 : w2.cell? ⟨w.heap.size, 4, none⟩ = some (.int .i64 m.rule.hm) := A_2.cell 4 (by simp)
      have cA5 : w2.cell? ⟨w.heap.size, 5, none⟩ = some (.int .i64 m.rule.ls) := A_2.cell 5 (by simp)
      have cA6 : w2.cell? ⟨w.heap.size, 6, none⟩ = some (.int .i64 m.rule.hs) := A_2.cell 6 (by simp)
      have cA7 : w2.cell? ⟨w.heap.size, 7, none⟩ = some (.int .i64 m.strand) := A_2.cell 7 (by simp)
      have cA8 : w2.cell? ⟨w.heap.size, 8, none⟩ = some (.slice aop m.pieces.length capp) := A_2.cell 8 (by simp)
      have cA9 : w2.cell? ⟨w.heap.size, 9, none⟩ = some (l) := A_2.cell 9 (by simp)
      have cA10 : w2.cell? ⟨w.heap.size, 10, none⟩ = some (h) := A_2.cell 10 (by simp)
      have cA11 : w2.cell? ⟨w.heap.size, 11, none⟩ = some (.int .i64 m.scrap) := A_2.cell 11 (by simp)
      clear k_c2 c2
      go_wp2_with fail
      have k_c3 := within_any m.strand 0 48 w2
      cases c3 : wi m.strand 0 48 with
      | false =>
        rw [c3] at k_c3
        refine k_c3.mono ?_
        rintro e wq ⟨rfl, rfl⟩
        clear k_c3
        have HF := hide (show millB m = false by simp [millB, c3])
        clear c3
        go_wp2_with fail
        go_ret
        exact ⟨by rw [HF.out]; rfl, B_2.out⟩
      | true =>
        rw [c3] at k_c3
        have KC3 := hide c3
        refine k_c3.mono ?_
        rintro e wq ⟨rfl, rfl⟩
        clear k_c3 c3
        by_cases c4 : 30 < m.pieces.length
        · have HF := hide (millB_long c4)
          have c4B : decide ((30 : Int) < (m.pieces.length : Int)) = true := by simp; omega
          go_wp2_with fail
          go_ret
          exact ⟨by rw [HF.out]; rfl, B_2.out⟩
        have c4B : decide ((30 : Int) < (m.pieces.length : Int)) = false := by simp; omega
        go_wp2_with fail
        have k_c5 := pile_impl l h m.low m.high w2 ((VL_2.out).mono (Nat.le_refl _) (VL_2.out).lt (Nat.le_refl _)) ((VH_2.out).mono (Nat.le_refl _) (VH_2.out).lt (Nat.le_refl _))
        unfold pileV at k_c5
        cases c5 : pileB m.low m.high with
        | false =>
          rw [c5] at k_c5
          refine k_c5.mono ?_
          rintro e wq ⟨rfl, hb⟩
          have HB := hide (Below.step B_2.out hb (Nat.le_refl _))
          clear hb k_c5
          have HF := hide (show millB m = false by simp [millB, c5])
          clear c5
          go_wp2_with fail
          go_ret
          exact ⟨by rw [HF.out]; rfl, HB.out⟩
        | true =>
          rw [c5] at k_c5
          have KC5 := hide c5
          refine k_c5.mono ?_
          rintro e w3 ⟨rfl, hb⟩
          have A_3 := A_2.below hb A_2.lt
          have VS_3 := hide (VS_2.out.below hb)
          have VP_3 := hide (VP_2.out.below hb)
          have VL_3 := hide (VL_2.out.below hb)
          have VH_3 := hide (VH_2.out.below hb)
          have B_3 := hide (Below.step B_2.out hb (Nat.le_refl _))
          clear hb
          clear cA1 cA2 cA3 cA4 cA5 cA6 cA7 cA8 cA9 cA10 cA11
          have cA1 : w3.cell? ⟨w.heap.size, 1, none⟩ = some (.int .i64 m.rule.lc) := A_3.cell 1 (by simp)
          have cA2 : w3.cell? ⟨w.heap.size, 2, none⟩ = some (.int .i64 m.rule.hc) := A_3.cell 2 (by simp)
          have cA3 : w3.cell? ⟨w.heap.size, 3, none⟩ = some (.int .i64 m.rule.lm) := A_3.cell 3 (by simp)
          have cA4 : w3.cell? ⟨w.heap.size, 4, none⟩ = some (.int .i64 m.rule.hm) := A_3.cell 4 (by simp)
          have cA5 : w3.cell? ⟨w.heap.size, 5, none⟩ = some (.int .i64 m.rule.ls) := A_3.cell 5 (by simp)
          have cA6 : w3.cell? ⟨w.heap.size, 6, none⟩ = some (.int .i64 m.rule.hs) := A_3.cell 6 (by simp)
          have cA7 : w3.cell? ⟨w.heap.size, 7, none⟩ = some (.int .i64 m.strand) := A_3.cell 7 (by simp)
          have cA8 : w3.cell? ⟨w.heap.size, 8, none⟩ = some (.slice aop m.pieces.length capp) := A_3.cell 8 (by simp)
          have cA9 : w3.cell? ⟨w.heap.size, 9, none⟩ = some (l) := A_3.cell 9 (by simp)
          have cA10 : w3.cell? ⟨w.heap.size, 10, none⟩ = some (h) := A_3.cell 10 (by simp)
          have cA11 : w3.cell? ⟨w.heap.size, 11, none⟩ = some (.int .i64 m.scrap) := A_3.cell 11 (by simp)
          clear k_c5 c5
          go_wp2_with fail
          have k_c6 := within_any m.scrap 0 999 w3
          cases c6 : wi m.scrap 0 999 with
          | false =>
            rw [c6] at k_c6
            refine k_c6.mono ?_
            rintro e wq ⟨rfl, rfl⟩
            clear k_c6
            have HF := hide (show millB m = false by simp [millB, c6])
            clear c6
            go_wp2_with fail
            go_ret
            exact ⟨by rw [HF.out]; rfl, B_3.out⟩
          | true =>
            rw [c6] at k_c6
            have KC6 := hide c6
            refine k_c6.mono ?_
            rintro e wq ⟨rfl, rfl⟩
            clear k_c6 c6
            go_wp2_with fail
            have PV := hide (VP_3.out)
            have HB0 := hide (B_3.out)
            have hlen : m.pieces.length ≤ 30 := by omega
            have hzz := HB0.out.size
            have AR := hide (A_3)
            clear c4B c4
            go_loopw [4, 42] (fun _ i wr => ∃ k : Nat, k ≤ m.pieces.length ∧ i = .int .i64 k ∧ Below w3.heap.size w3 wr ∧ (∀ j, j < k → pcB (m.pieces.getD j pc0) = true)) (fun _ i _ => m.pieces.length - (intOf i).toNat)
            case atStart => exact ⟨0, Nat.zero_le _, rfl, Below.refl _ _, fun _ h => absurd h (Nat.not_lt_zero _)⟩
            case round =>
              obtain ⟨k, hk, rfl, hb, hall⟩ := hrel
              have HB := hide hb
              have HA := hide hall
              have hz := hb.size
              clear hall
              by_cases hlt : k < m.pieces.length
              · obtain ⟨_, _, e1, -, -, -, hcl⟩ := PV.out
                simp only [Value.slice.injEq] at e1
                obtain ⟨rfl, -, rfl⟩ := e1
                obtain ⟨b, o, rfl, -, hbl, hcs⟩ := hcl (by omega)
                obtain ⟨⟨r1, r2⟩, -⟩ := hcs k hlt
                rw [← hb.cell (p := ⟨b, _, none⟩) (Nat.lt_of_lt_of_le hbl hzz)] at r1 r2
                have hg : m.pieces.getD k pc0 = m.pieces[k] := by simp [hlt]
                have hpk : pcB (m.pieces.getD k pc0) = (wi m.pieces[k].l 1 60 && wi m.pieces[k].s 0 2) := by rw [hg]; rfl
                obtain ⟨x, hx⟩ : ∃ x, m.pieces[k].l = x := ⟨_, rfl⟩
                obtain ⟨y, hy⟩ : ∃ y, m.pieces[k].s = y := ⟨_, rfl⟩
                rw [hx] at r1 hpk
                rw [hy] at r2 hpk
                have HP := hide hpk
                have hkI : (k : Int) < (m.pieces.length : Int) := by omega
                have hW1 := fun w => within_any x 1 60 w
                have hW2 := fun w => within_any y 0 2 w
                clear hcl hcs hx hy hg hpk hb
                cases g1 : wi x 1 60 with
                | false =>
                  rw [g1] at hW1
                  have HF := hide (show millB m = false from millB_pc hlt (by rw [HP.out, g1]; rfl))
                  clear g1
                  go_wp2_with fail
                  refine (hW1 _).mono ?_
                  rintro e wq ⟨rfl, rfl⟩
                  go_wp2_with fail
                  go_ret
                  exact ⟨by rw [HF.out]; rfl, (Below.step HB0.out HB.out (Nat.le_refl _)).alloc (Below.step HB0.out HB.out (Nat.le_refl _)).size _⟩
                | true =>
                  rw [g1] at hW1
                  cases g2 : wi y 0 2 with
                  | false =>
                    rw [g2] at hW2
                    have HF := hide (show millB m = false from millB_pc hlt (by rw [HP.out, g1, g2]; rfl))
                    clear g1 g2
                    go_wp2_with fail
                    refine (hW1 _).mono ?_
                    rintro e wq ⟨rfl, rfl⟩
                    go_wp2_with fail
                    refine (hW2 _).mono ?_
                    rintro e wq ⟨rfl, rfl⟩
                    go_wp2_with fail
                    go_ret
                    exact ⟨by rw [HF.out]; rfl, (Below.step HB0.out HB.out (Nat.le_refl _)).alloc (Below.step HB0.out HB.out (Nat.le_refl _)).size _⟩
                  | true =>
                    rw [g2] at hW2
                    have HN := hide (show pcB (m.pieces.getD k pc0) = true by rw [HP.out, g1, g2]; rfl)
                    clear g1 g2
                    go_wp2_with fail
                    refine (hW1 _).mono ?_
                    rintro e wq ⟨rfl, rfl⟩
                    go_wp2_with fail
                    refine (hW2 _).mono ?_
                    rintro e wq ⟨rfl, rfl⟩
                    go_wp2_with fail
                    go_roundw
                    case rel => exact ⟨k + 1, by omega, by go_num, HB.out.alloc hz _, upTo_snoc HA.out HN.out⟩
                    case measure => simp [intOf]; omega
              · obtain rfl : k = m.pieces.length := by omega
                have RA := AR.out.below HB.out AR.out.lt
                have hp8 := RA.cell 8 (by simp)
                have hp9 := RA.cell 9 (by simp)
                have hp10 := RA.cell 10 (by simp)
                simp only [List.getD_cons_zero, List.getD_cons_succ] at hp8 hp9 hp10
                have HBr := hide (Below.step HB0.out HB.out (Nat.le_refl _))
                have hbd : Below wr.heap.size wr wr.drew := (Below.refl _ _).drew
                have VPr := hide ((PV.out.below HB.out).below hbd)
                have VLr := hide ((((VL_3.out).below HB.out).below hbd).mono (Nat.le_refl _) (((VL_3.out).below HB.out).below hbd).lt (Nat.le_refl _))
                have VHr := hide ((((VH_3.out).below HB.out).below hbd).mono (Nat.le_refl _) (((VH_3.out).below HB.out).below hbd).lt (Nat.le_refl _))
                clear hb
                have HC := hide (fun W H1 H2 => coils_impl l h m.low m.high W H1 H2)
                unfold pileV at HC
                have hm := mill_end KC1.out KC2.out KC3.out hlen KC5.out KC6.out (pcsB_iff.2 HA.out)
                have HM := hide hm
                have HRA := hide (RA.below hbd RA.lt)
                have HBD := hide (HBr.out.drew)
                clear hm RA hbd
                go_wp2_with fail
                go_region_with (first
                  | (go_at_call 81; refine (idsIn_any _ m.pieces 1 _ _ _ (by first | exact VPr.out | exact VPr.out.below hbb) (by omega)).mono ?_; rintro e wa ⟨va, rfl, hoa, hba⟩; have ca9 : wa.cell? ⟨w.heap.size, 9, none⟩ = some l := (by first | exact (HRA.out.below hba HRA.out.lt).cell 9 (by simp) | exact ((HRA.out.below hbb HRA.out.lt).below hba (HRA.out.below hbb HRA.out.lt).lt).cell 9 (by simp)); have ca10 : wa.cell? ⟨w.heap.size, 10, none⟩ = some h := (by first | exact (HRA.out.below hba HRA.out.lt).cell 10 (by simp) | exact ((HRA.out.below hbb HRA.out.lt).below hba (HRA.out.below hbb HRA.out.lt).lt).cell 10 (by simp)))
                  | (go_at_call 82; refine (HC.out _ (by first | exact VLr.out | exact (VLr.out.below hba).mono (Nat.le_refl _) hba.size (Nat.le_refl _)) (by first | exact VHr.out | exact (VHr.out.below hba).mono (Nat.le_refl _) hba.size (Nat.le_refl _))).mono ?_; rintro e wb ⟨vb, rfl, hob, hbb⟩; have cb8 : wb.cell? ⟨w.heap.size, 8, none⟩ = some (.slice aop m.pieces.length capp) := (by first | exact (HRA.out.below hbb HRA.out.lt).cell 8 (by simp) | exact ((HRA.out.below hba HRA.out.lt).below hbb (HRA.out.below hba HRA.out.lt).lt).cell 8 (by simp)))
                  | (go_at_call 80; refine (equal_any va vb (idsIn m.pieces 1) (coilR m.low m.high) _ _ _ _ _ (by first | exact (ownI_at hoa rfl hba.size).below hbb | exact ownI_at hoa rfl hba.size) (by first | exact (ownI_at hob rfl hbb.size).below hba | exact ownI_at hob rfl hbb.size)).mono ?_; rintro e wc ⟨rfl, hbc⟩))
                all_goals
                  have HF := hide (show Below w.heap.size w wc by first | exact Below.step (Below.step (Below.step HBD.out hba (Nat.le_refl _)) hbb (Nat.le_refl _)) hbc (Nat.le_refl _) | exact Below.step (Below.step (Below.step HBD.out hbb (Nat.le_refl _)) hba (Nat.le_refl _)) hbc (Nat.le_refl _))
                  clear hoa hba hob hbb hbc
                  go_wp2_with fail
                  go_ret
                  exact ⟨by rw [HM.out]; rfl, HF.out⟩
end Go.Proofs.YtbafifilklfafaaDoor
