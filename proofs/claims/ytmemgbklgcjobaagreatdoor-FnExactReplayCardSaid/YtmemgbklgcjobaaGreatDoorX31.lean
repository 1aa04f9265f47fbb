/-
  Parts of the proofs over mills, of: MillD, MillOpen. Conditions: each theorem states its own.
-/
import Derived.Test.YtmemgbklgcjobaaGreatDoorX25
import Derived.Test.YtmemgbklgcjobaaGreatDoorX26
set_option linter.unusedSimpArgs false
set_option linter.unusedVariables false
set_option maxRecDepth 10000
namespace Go.Proofs.YtmemgbklgcjobaaGreatDoor
open Go.RowKit
theorem mill_end {m : Mi} (h1 : stsB m.store = true) (h2 : grB m.rule = true) (h3 : wi m.strand 0 48 = true) (h4 : m.pieces.length ≤ 30) (h5 : pileB m.low m.high = true) (h6 : wi m.scrap 0 999 = true) (h7 : pcsB m.pieces = true) : millB m = decide (idsIn m.pieces 1 = coilR m.low m.high) := by
  have h4' : decide (m.pieces.length ≤ 30) = true := by simpa using h4
  simp only [millB, h1, h2, h3, h4', h5, h6, h7, Bool.true_and]
theorem millB_pc {m : Mi} {k : Nat} (hk : k < m.pieces.length) (h : pcB (m.pieces.getD k pc0) = false) : millB m = false := by
  have : pcsB m.pieces = false := by
    cases hp : pcsB m.pieces with
    | false => rfl
    | true => rw [pcsB_iff.1 hp k hk] at h; cases h
  simp [millB, this]
theorem millB_long {m : Mi} (h : 30 < m.pieces.length) : millB m = false := by
  have : decide (m.pieces.length ≤ 30) = false := by simp; omega
  simp [millB, this]
set_option maxHeartbeats 3200000 in
theorem mill_impl (s p l h : Value) (m : Mi) (w : World) (H : MillIn 0 w.heap.size w s p l h m) :
    Calls Tryz.prog 28 #[millV s p l h m] w fun e w' => e = .returned (.bool (millB m)) ∧ Below w.heap.size w w' := by
  have VS := hide H.store
  have VP := hide H.pieces
  have VL := hide H.low
  have VH := hide H.high
  have hpl := H.pieces.len
  clear H
  obtain ⟨aop, capp, hpe, -, -, -, -⟩ := id VP.out
  subst hpe
  unfold millV
  go_enter Tryz.func28, Tryz.ntmps28
  go_wp2_with fail
  refine calls_at fun wx hwx => ?_
  have A_0 : RowL wx (w.heap.size) 31 [s, .int .i64 m.rule.lc, .int .i64 m.rule.hc, .int .i64 m.rule.lm, .int .i64 m.rule.hm, .int .i64 m.rule.ls, .int .i64 m.rule.hs, .int .i64 m.strand, .slice aop m.pieces.length capp, l, h, .int .i64 m.scrap] := by rw [hwx]; exact (RowL.new _ 31 [s, .int .i64 m.rule.lc, .int .i64 m.rule.hc, .int .i64 m.rule.lm, .int .i64 m.rule.hm, .int .i64 m.rule.ls, .int .i64 m.rule.hs, .int .i64 m.strand, .slice aop m.pieces.length capp, l, h, .int .i64 m.scrap])
  have B_0 : Below w.heap.size w wx := by rw [hwx]; go_grown
  clear hwx
  have hL0 := A_0.lt
  have VS_0 := hide (VS.out.below B_0)
  have VP_0 := hide (VP.out.below B_0)
  have VL_0 := hide (VL.out.below B_0)
  have VH_0 := hide (VH.out.below B_0)
  have HFAIL : ∀ {b : Bool}, b = false → millB m = b → millB m = false := fun h k => k.trans h
  have k_c1 := stsv_impl s m.store _ _ wx VS_0.out
  cases c1 : stsB m.store with
  | false =>
    rw [c1] at k_c1
    refine k_c1.mono ?_
    rintro e wq ⟨rfl, hb⟩
    have HB := hide (Below.step B_0 hb (Nat.le_refl _))
    clear hb k_c1
    have HF := hide (show millB m = false by simp [millB, c1])
    clear c1
    go_wp2_with fail
    go_ret
    exact ⟨by rw [HF.out]; rfl, HB.out⟩
  | true =>
    rw [c1] at k_c1
    have KC1 := hide c1
    refine k_c1.mono ?_
    rintro e w1 ⟨rfl, hb⟩
    have A_1 := A_0.below hb A_0.lt
    have VS_1 := hide (VS_0.out.below hb)
    have VP_1 := hide (VP_0.out.below hb)
    have VL_1 := hide (VL_0.out.below hb)
    have VH_1 := hide (VH_0.out.below hb)
    have B_1 := hide (Below.step B_0 hb (Nat.le_refl _))
    clear hb
    have cA1 := A_1.c 1 rfl
    have cA2 := A_1.c 2 rfl
    have cA3 := A_1.c 3 rfl
    have cA4 := A_1.c 4 rfl
    have cA5 := A_1.c 5 rfl
    have cA6 := A_1.c 6 rfl
    have cA7 := A_1.c 7 rfl
    have cA8 := A_1.c 8 rfl
    have cA9 := A_1.c 9 rfl
    have cA10 := A_1.c 10 rfl
    have cA11 := A_1.c 11 rfl
    clear k_c1 c1
    go_wp2_with fail
    have k_c2 := grv_impl m.rule w1
    unfold grV at k_c2
    cases c2 : grB m.rule with
    | false =>
      rw [c2] at k_c2
      refine k_c2.mono ?_
      rintro e wq ⟨rfl, hb⟩
      have HB := hide (Below.step B_1.out hb (Nat.le_refl _))
      clear hb k_c2
      have HF := hide (show millB m = false by simp [millB, c2])
      clear c2
      go_wp2_with fail
      go_ret
      exact ⟨by rw [HF.out]; rfl, HB.out⟩
    | true =>
      rw [c2] at k_c2
      have KC2 := hide c2
      refine k_c2.mono ?_
      rintro e w2 ⟨rfl, hb⟩
      have A_2 := A_1.below hb A_1.lt
      have VS_2 := hide (VS_1.out.below hb)
      have VP_2 := hide (VP_1.out.below hb)
      have VL_2 := hide (VL_1.out.below hb)
      have VH_2 := hide (VH_1.out.below hb)
      have B_2 := hide (Below.step B_1.out hb (Nat.le_refl _))
      clear hb
      clear cA1 cA2 cA3 cA4 cA5 cA6 cA7 cA8 cA9 cA10 cA11
      have cA1 := A_2.c 1 rfl
      have cA2 := A_2.c 2 rfl
      have cA3 := A_2.c 3 rfl
      have cA4 := A_2.c 4 rfl
      have cA5 := A_2.c 5 rfl
      have cA6 := A_2.c 6 rfl
      have cA7 := A_2.c 7 rfl
      have cA8 := A_2.c 8 rfl
      have cA9 := A_2.c 9 rfl
      have cA10 := A_2.c 10 rfl
      have cA11 := A_2.c 11 rfl
      clear k_c2 c2
      go_wp2_with fail
      have k_c3 := within_any m.strand 0 48 w2
      cases c3 : wi m.strand 0 48 with
      | false =>
        rw [c3] at k_c3
        refine k_c3.mono ?_
        rintro e wq ⟨rfl, rfl⟩
        clear k_c3
        have HF := hide (show millB m = false by simp [millB, c3])
        clear c3
        go_wp2_with fail
        go_ret
        exact ⟨by rw [HF.out]; rfl, B_2.out⟩
      | true =>
        rw [c3] at k_c3
        have KC3 := hide c3
        refine k_c3.mono ?_
        rintro e wq ⟨rfl, rfl⟩
        clear k_c3 c3
        by_cases c4 : 30 < m.pieces.length
        · have HF := hide (millB_long c4)
          have c4B : decide ((30 : Int) < (m.pieces.length : Int)) = true := by simp; omega
          go_wp2_with fail
          go_ret
          exact ⟨by rw [HF.out]; rfl, B_2.out⟩
        have c4B : decide ((30 : Int) < (m.pieces.length : Int)) = false := by simp; omega
        go_wp2_with fail
        have k_c5 := pile_impl l h m.low m.high w2 ((VL_2.out).mono (Nat.le_refl _) (VL_2.out).lt (Nat.le_refl _)) ((VH_2.out).mono (Nat.le_refl _) (VH_2.out).lt (Nat.le_refl _))
        unfold pileV at k_c5
        cases c5 : pileB m.low m.high with
        | false =>
          rw [c5] at k_c5
          refine k_c5.mono ?_
          rintro e wq ⟨rfl, hb⟩
          have HB := hide (Below.step B_2.out hb (Nat.le_refl _))
          clear hb k_c5
          have HF := hide (show millB m = false by simp [millB, c5])
          clear c5
          go_wp2_with fail
          go_ret
          exact ⟨by rw [HF.out]; rfl, HB.out⟩
        | true =>
          rw [c5] at k_c5
          have KC5 := hide c5
          refine k_c5.mono ?_
          rintro e w3 ⟨rfl, hb⟩
          have A_3 := A_2.below hb A_2.lt
          have VS_3 := hide (VS_2.out.below hb)
          have VP_3 := hide (VP_2.out.below hb)
          have VL_3 := hide (VL_2.out.below hb)
          have VH_3 := hide (VH_2.out.below hb)
          have B_3 := hide (Below.step B_2.out hb (Nat.le_refl _))
          clear hb
          clear cA1 cA2 cA3 cA4 cA5 cA6 cA7 cA8 cA9 cA10 cA11
          have cA1 := A_3.c 1 rfl
          have cA2 := A_3.c 2 rfl
          have cA3 := A_3.c 3 rfl
          have cA4 := A_3.c 4 rfl
          have cA5 := A_3.c 5 rfl
          have cA6 := A_3.c 6 rfl
          have cA7 := A_3.c 7 rfl
          have cA8 := A_3.c 8 rfl
          have cA9 := A_3.c 9 rfl
          have cA10 := A_3.c 10 rfl
          have cA11 := A_3.c 11 rfl
          clear k_c5 c5
          go_wp2_with fail
          have k_c6 := within_any m.scrap 0 999 w3
          cases c6 : wi m.scrap 0 999 with
          | false =>
            rw [c6] at k_c6
            refine k_c6.mono ?_
            rintro e wq ⟨rfl, rfl⟩
            clear k_c6
            have HF := hide (show millB m = false by simp [millB, c6])
            clear c6
            go_wp2_with fail
            go_ret
            exact ⟨by rw [HF.out]; rfl, B_3.out⟩
          | true =>
            rw [c6] at k_c6
            have KC6 := hide c6
            refine k_c6.mono ?_
            rintro e wq ⟨rfl, rfl⟩
            clear k_c6 c6
            go_wp2_with fail
            have PV := hide (VP_3.out)
            have HB0 := hide (B_3.out)
            have hlen : m.pieces.length ≤ 30 := by omega
            have hzz := HB0.out.size
            have AR := hide (A_3)
            clear c4B c4
            go_loopw [4, 42] (fun _ i wr => ∃ k : Nat, k ≤ m.pieces.length ∧ i = .int .i64 k ∧ Below w3.heap.size w3 wr ∧ (∀ j, j < k → pcB (m.pieces.getD j pc0) = true)) (fun _ i _ => m.pieces.length - (intOf i).toNat)
            case atStart => exact ⟨0, Nat.zero_le _, rfl, Below.refl _ _, fun _ h => absurd h (Nat.not_lt_zero _)⟩
            case round =>
              obtain ⟨k, hk, rfl, hb, hall⟩ := hrel
              have HB := hide hb
              have HA := hide hall
              have hz := hb.size
              clear hall
              by_cases hlt : k < m.pieces.length
              · obtain ⟨_, _, e1, -, -, -, hcl⟩ := PV.out
                simp only [Value.slice.injEq] at e1
                obtain ⟨rfl, -, rfl⟩ := e1
                obtain ⟨b, o, rfl, -, hbl, hcs⟩ := hcl (by omega)
                obtain ⟨⟨r1, r2⟩, -⟩ := hcs k hlt
                rw [← hb.cell (p := ⟨b, _, none⟩) (Nat.lt_of_lt_of_le hbl hzz)] at r1 r2
                have hg : m.pieces.getD k pc0 = m.pieces[k] := by simp [hlt]
                have hpk : pcB (m.pieces.getD k pc0) = (wi m.pieces[k].l 1 60 && wi m.pieces[k].s 0 2) := by rw [hg]; rfl
                obtain ⟨x, hx⟩ : ∃ x, m.pieces[k].l = x := ⟨_, rfl⟩
                obtain ⟨y, hy⟩ : ∃ y, m.pieces[k].s = y := ⟨_, rfl⟩
                rw [hx] at r1 hpk
                rw [hy] at r2 hpk
                have HP := hide hpk
                have hkI : (k : Int) < (m.pieces.length : Int) := by omega
                have hW1 := fun w => within_any x 1 60 w
                have hW2 := fun w => within_any y 0 2 w
                clear hcl hcs hx hy hg hpk hb
                cases g1 : wi x 1 60 with
                | false =>
                  rw [g1] at hW1
                  have HF := hide (show millB m = false from millB_pc hlt (by rw [HP.out, g1]; rfl))
                  clear g1
                  go_wp2_with fail
                  refine (hW1 _).mono ?_
                  rintro e wq ⟨rfl, rfl⟩
                  go_wp2_with fail
                  go_ret
                  exact ⟨by rw [HF.out]; rfl, (Below.step HB0.out HB.out (Nat.le_refl _)).alloc (Below.step HB0.out HB.out (Nat.le_refl _)).size _⟩
                | true =>
                  rw [g1] at hW1
                  cases g2 : wi y 0 2 with
                  | false =>
                    rw [g2] at hW2
                    have HF := hide (show millB m = false from millB_pc hlt (by rw [HP.out, g1, g2]; rfl))
                    clear g1 g2
                    go_wp2_with fail
                    refine (hW1 _).mono ?_
                    rintro e wq ⟨rfl, rfl⟩
                    go_wp2_with fail
                    refine (hW2 _).mono ?_
                    rintro e wq ⟨rfl, rfl⟩
                    go_wp2_with fail
                    go_ret
                    exact ⟨by rw [HF.out]; rfl, (Below.step HB0.out HB.out (Nat.le_refl _)).alloc (Below.step HB0.out HB.out (Nat.le_refl _)).size _⟩
                  | true =>
                    rw [g2] at hW2
                    have HN := hide (show pcB (m.pieces.getD k pc0) = true by rw [HP.out, g1, g2]; rfl)
                    clear g1 g2
                    go_wp2_with fail
                    refine (hW1 _).mono ?_
                    rintro e wq ⟨rfl, rfl⟩
                    go_wp2_with fail
                    refine (hW2 _).mono ?_
                    rintro e wq ⟨rfl, rfl⟩
                    go_wp2_with fail
                    go_roundw
                    case rel => exact ⟨k + 1, by omega, by go_num, HB.out.alloc hz _, upTo_snoc HA.out HN.out⟩
                    case measure => simp [intOf]; omega
              · obtain rfl : k = m.pieces.length := by omega
                have RA := AR.out.below HB.out AR.out.lt
                have hp8 := RA.cell 8 (by simp)
                have hp9 := RA.cell 9 (by simp)
                have hp10 := RA.cell 10 (by simp)
                simp only [List.getD_cons_zero, List.getD_cons_succ] at hp8 hp9 hp10
                have HBr := hide (Below.step HB0.out HB.out (Nat.le_refl _))
                have hbd : Below wr.heap.size wr wr.drew := (Below.refl _ _).drew
                have VPr := hide ((PV.out.below HB.out).below hbd)
                have VLr := hide ((((VL_3.out).below HB.out).below hbd).mono (Nat.le_refl _) (((VL_3.out).below HB.out).below hbd).lt (Nat.le_refl _))
                have VHr := hide ((((VH_3.out).below HB.out).below hbd).mono (Nat.le_refl _) (((VH_3.out).below HB.out).below hbd).lt (Nat.le_refl _))
                clear hb
                have HC := hide (fun W H1 H2 => coils_impl l h m.low m.high W H1 H2)
                unfold pileV at HC
                have hm := mill_end KC1.out KC2.out KC3.out hlen KC5.out KC6.out (pcsB_iff.2 HA.out)
                have HM := hide hm
                have HRA := hide (RA.below hbd RA.lt)
                have HBD := hide (HBr.out.drew)
                clear hm RA hbd
                go_wp2_with fail
                go_region_with (first
                  | (go_at_call 86; refine (idsIn_any _ m.pieces 1 _ _ _ (by first | exact VPr.out | exact VPr.out.below hbb) (by omega)).mono ?_; rintro e wa ⟨va, rfl, hoa, hba⟩; have ca9 : wa.cell? ⟨w.heap.size, 9, none⟩ = some l := (by first | exact (HRA.out.below hba HRA.out.lt).cell 9 (by simp) | exact ((HRA.out.below hbb HRA.out.lt).below hba (HRA.out.below hbb HRA.out.lt).lt).cell 9 (by simp)); have ca10 : wa.cell? ⟨w.heap.size, 10, none⟩ = some h := (by first | exact (HRA.out.below hba HRA.out.lt).cell 10 (by simp) | exact ((HRA.out.below hbb HRA.out.lt).below hba (HRA.out.below hbb HRA.out.lt).lt).cell 10 (by simp)))
                  | (go_at_call 37; refine (HC.out _ (by first | exact VLr.out | exact (VLr.out.below hba).mono (Nat.le_refl _) hba.size (Nat.le_refl _)) (by first | exact VHr.out | exact (VHr.out.below hba).mono (Nat.le_refl _) hba.size (Nat.le_refl _))).mono ?_; rintro e wb ⟨vb, rfl, hob, hbb⟩; have cb8 : wb.cell? ⟨w.heap.size, 8, none⟩ = some (.slice aop m.pieces.length capp) := (by first | exact (HRA.out.below hbb HRA.out.lt).cell 8 (by simp) | exact ((HRA.out.below hba HRA.out.lt).below hbb (HRA.out.below hba HRA.out.lt).lt).cell 8 (by simp)))
                  | (go_at_call 85; refine (equal_any va vb (idsIn m.pieces 1) (coilR m.low m.high) _ _ _ _ _ (by first | exact (ownI_at hoa rfl hba.size).below hbb | exact ownI_at hoa rfl hba.size) (by first | exact (ownI_at hob rfl hbb.size).below hba | exact ownI_at hob rfl hbb.size)).mono ?_; rintro e wc ⟨rfl, hbc⟩))
                all_goals
                  have HF := hide (show Below w.heap.size w wc by first | exact Below.step (Below.step (Below.step HBD.out hba (Nat.le_refl _)) hbb (Nat.le_refl _)) hbc (Nat.le_refl _) | exact Below.step (Below.step (Below.step HBD.out hbb (Nat.le_refl _)) hba (Nat.le_refl _)) hbc (Nat.le_refl _))
                  clear hoa hba hob hbb hbc
                  go_wp2_with fail
                  go_ret
                  exact ⟨by rw [HM.out]; rfl, HF.out⟩
end Go.Proofs.YtmemgbklgcjobaaGreatDoor
namespace Go.Proofs.YtmemgbklgcjobaaGreatDoor
open Go.ChangeShapes Go.WideShapes Go.Deep Go.RowKit
section
variable {H : Type} {enc : TypeId × Value → H} {P : Program}
theorem open_StAt {t e : TypeId} {f0 f1 f2 f3 f4 : Field} {w : World} {v : Value} {d : DataW H} {ps before : List MemPlace} (ht : P.underlying t = some (.slice e)) (he : P.underlying e = some (.struct #[f0, f1, f2, f3, f4])) (hone : oneCellFields P #[f0, f1, f2, f3, f4] = true) (hc : P.cellsOf e = 5)
    (t0 : P.underlying f0.type = some (.int .i64)) (t1 : P.underlying f1.type = some (.int .i64)) (t2 : P.underlying f2.type = some (.int .i64)) (t3 : P.underlying f3.type = some (.int .i64)) (t4 : P.underlying f4.type = some (.int .i64))
    (h : DataW.Trod enc P w 0 (fun _ => true) true t v d ps) (hvs : ∃ ao n c, v = .slice ao n c) (hz : w.noneFrozen before) (hp : ∀ x ∈ ps, x ∈ before) :
    ∃ js : List St, StAt 0 w.heap.size w v js := by
  obtain ⟨ao, n0, c0, rfl⟩ := hvs
  obtain ⟨fuel, hf⟩ := h
  rcases open_slice ht hf with ⟨hcs, hx⟩ | ⟨a, len, cap, m, n, D, Pl, hcs, hb, hl, hm, hmm, hx, hi⟩
  · simp only [Value.cells, List.cons.injEq, and_true] at hcs
    rw [hcs]
    exact ⟨[], ⟨none, 0, rfl, Nat.le_refl _, by omega, Nat.le_refl _, fun h => absurd h (Nat.not_lt_zero _)⟩⟩
  · simp only [Value.cells, List.cons.injEq, and_true] at hcs
    rw [hcs]
    simp only [↓reduceIte] at hmm
    subst hmm
    simp only [Prod.mk.injEq] at hx
    rw [hc] at hx hi
    have hint : ∀ i, i < m → ∃ j : St, w.cell? (a.add (i * 5)) = some (.int .i64 j.c) ∧ w.cell? (a.add (i * 5 + 1)) = some (.int .i64 j.m) ∧ w.cell? (a.add (i * 5 + 2)) = some (.int .i64 j.s) ∧ w.cell? (a.add (i * 5 + 3)) = some (.int .i64 j.p) ∧ w.cell? (a.add (i * 5 + 4)) = some (.int .i64 j.k) := fun i him => by
      obtain ⟨cs', hcc, ht'⟩ := hi i him
      obtain ⟨ys, n', hn', hy, hlen, hyl, hfl⟩ := DataW.trod_struct he ht'
      obtain ⟨_, hcl, hat⟩ := World.cells?_some hcc
      match cs', hcl with
      | [c0, c1, c2, c3, c4], _ =>
        obtain ⟨o0, k0⟩ := hone_of hone 0 f0 rfl
        obtain ⟨o1, k1⟩ := hone_of hone 1 f1 rfl
        obtain ⟨o2, k2⟩ := hone_of hone 2 f2 rfl
        obtain ⟨o3, k3⟩ := hone_of hone 3 f3 rfl
        obtain ⟨o4, k4⟩ := hone_of hone 4 f4 rfl
        have a0 := hat 0 (by omega)
        have a1 := hat 1 (by omega)
        have a2 := hat 2 (by omega)
        have a3 := hat 3 (by omega)
        have a4 := hat 4 (by omega)
        have g0 := hfl 0 f0 rfl
        have g1 := hfl 1 f1 rfl
        have g2 := hfl 2 f2 rfl
        have g3 := hfl 3 f3 rfl
        have g4 := hfl 4 f4 rfl
        simp only [o0, k0, o1, k1, o2, k2, o3, k3, o4, k4, List.drop_zero, List.drop_succ_cons, List.take_succ_cons, List.take_zero] at g0 g1 g2 g3 g4
        match ys, hyl with
        | [y0, y1, y2, y3, y4], _ =>
          obtain ⟨x0, e0, _, w0⟩ := DataW.trod_int t0 (by simpa using g0)
          obtain ⟨x1, e1, _, w1⟩ := DataW.trod_int t1 (by simpa using g1)
          obtain ⟨x2, e2, _, w2⟩ := DataW.trod_int t2 (by simpa using g2)
          obtain ⟨x3, e3, _, w3⟩ := DataW.trod_int t3 (by simpa using g3)
          obtain ⟨x4, e4, _, w4⟩ := DataW.trod_int t4 (by simpa using g4)
          simp only [List.cons.injEq, and_true] at e0 e1 e2 e3 e4
          subst e0 e1 e2 e3 e4
          rw [add_add] at a0 a1 a2 a3 a4
          exact ⟨⟨x0, x1, x2, x3, x4⟩, by simpa using a0, by simpa using a1, by simpa using a2, by simpa using a3, by simpa using a4⟩
    have : Inhabited St := ⟨st0⟩
    obtain ⟨X, hX⟩ := choose_lt hint
    refine ⟨(List.range len).map X, ⟨some a, m, by simp, by simpa using hl, by unfold maxLen at hm; omega, Nat.le_refl _, fun hn => ?_⟩⟩
    have hn' : 0 < len := by simpa using hn
    obtain ⟨h0, _⟩ := hX 0 (by omega)
    have ha0 : a.add (0 * 5) = a := by simp [Addr.add]
    rw [ha0] at h0
    obtain ⟨hs, hblt⟩ := cell_spot h0
    obtain ⟨b, o, sp⟩ := a
    simp only at hs hblt
    subst hs
    have hadd : ∀ i, (⟨b, o, none⟩ : Addr).add i = ⟨b, o + i, none⟩ := fun i => by
      unfold Addr.add
      split
      · next h => subst h; rfl
      · rfl
    refine ⟨b, o, rfl, Nat.zero_le _, hblt, fun i hi' => ?_⟩
    have hi'' : i < len := by simpa using hi'
    obtain ⟨h1, h2, h3, h4, h5⟩ := hX i (by omega)
    rw [hadd] at h1 h2 h3 h4 h5
    have hfr : ∀ k, k < m * 5 → w.frozen? ⟨b, o + k, none⟩ = false := fun k hk => by
      refine hz b (o + k) (hp _ ?_)
      rw [hx.2]
      exact List.mem_append_left _ (MemPlace.mem_row.2 ⟨k, by omega, rfl⟩)
    refine ⟨⟨?_, ?_, ?_, ?_, ?_⟩, ?_, ?_, ?_, ?_, ?_⟩
    · rw [h1]; simp
    · rw [show o + i * 5 + 1 = o + (i * 5 + 1) by omega, h2]; simp
    · rw [show o + i * 5 + 2 = o + (i * 5 + 2) by omega, h3]; simp
    · rw [show o + i * 5 + 3 = o + (i * 5 + 3) by omega, h4]; simp
    · rw [show o + i * 5 + 4 = o + (i * 5 + 4) by omega, h5]; simp
    · exact hfr _ (by omega)
    · rw [show o + i * 5 + 1 = o + (i * 5 + 1) by omega]; exact hfr _ (by omega)
    · rw [show o + i * 5 + 2 = o + (i * 5 + 2) by omega]; exact hfr _ (by omega)
    · rw [show o + i * 5 + 3 = o + (i * 5 + 3) by omega]; exact hfr _ (by omega)
    · rw [show o + i * 5 + 4 = o + (i * 5 + 4) by omega]; exact hfr _ (by omega)
theorem open_PcAt {t e : TypeId} {f0 f1 : Field} {w : World} {v : Value} {d : DataW H} {ps before : List MemPlace} (ht : P.underlying t = some (.slice e)) (he : P.underlying e = some (.struct #[f0, f1])) (hone : oneCellFields P #[f0, f1] = true) (hc : P.cellsOf e = 2)
    (t0 : P.underlying f0.type = some (.int .i64)) (t1 : P.underlying f1.type = some (.int .i64))
    (h : DataW.Trod enc P w 0 (fun _ => true) true t v d ps) (hvs : ∃ ao n c, v = .slice ao n c) (hz : w.noneFrozen before) (hp : ∀ x ∈ ps, x ∈ before) :
    ∃ js : List Pc, PcAt 0 w.heap.size w v js := by
  obtain ⟨ao, n0, c0, rfl⟩ := hvs
  obtain ⟨fuel, hf⟩ := h
  rcases open_slice ht hf with ⟨hcs, hx⟩ | ⟨a, len, cap, m, n, D, Pl, hcs, hb, hl, hm, hmm, hx, hi⟩
  · simp only [Value.cells, List.cons.injEq, and_true] at hcs
    rw [hcs]
    exact ⟨[], ⟨none, 0, rfl, Nat.le_refl _, by omega, Nat.le_refl _, fun h => absurd h (Nat.not_lt_zero _)⟩⟩
  · simp only [Value.cells, List.cons.injEq, and_true] at hcs
    rw [hcs]
    simp only [↓reduceIte] at hmm
    subst hmm
    simp only [Prod.mk.injEq] at hx
    rw [hc] at hx hi
    have hint : ∀ i, i < m → ∃ j : Pc, w.cell? (a.add (i * 2)) = some (.int .i64 j.l) ∧ w.cell? (a.add (i * 2 + 1)) = some (.int .i64 j.s) := fun i him => by
      obtain ⟨cs', hcc, ht'⟩ := hi i him
      obtain ⟨ys, n', hn', hy, hlen, hyl, hfl⟩ := DataW.trod_struct he ht'
      obtain ⟨_, hcl, hat⟩ := World.cells?_some hcc
      match cs', hcl with
      | [c0, c1], _ =>
        obtain ⟨o0, k0⟩ := hone_of hone 0 f0 rfl
        obtain ⟨o1, k1⟩ := hone_of hone 1 f1 rfl
        have a0 := hat 0 (by omega)
        have a1 := hat 1 (by omega)
        have g0 := hfl 0 f0 rfl
        have g1 := hfl 1 f1 rfl
        simp only [o0, k0, o1, k1, List.drop_zero, List.drop_succ_cons, List.take_succ_cons, List.take_zero] at g0 g1
        match ys, hyl with
        | [y0, y1], _ =>
          obtain ⟨x0, e0, _, w0⟩ := DataW.trod_int t0 (by simpa using g0)
          obtain ⟨x1, e1, _, w1⟩ := DataW.trod_int t1 (by simpa using g1)
          simp only [List.cons.injEq, and_true] at e0 e1
          subst e0 e1
          rw [add_add] at a0 a1
          exact ⟨⟨x0, x1⟩, by simpa using a0, by simpa using a1⟩
    have : Inhabited Pc := ⟨pc0⟩
    obtain ⟨X, hX⟩ := choose_lt hint
    refine ⟨(List.range len).map X, ⟨some a, m, by simp, by simpa using hl, by unfold maxLen at hm; omega, Nat.le_refl _, fun hn => ?_⟩⟩
    have hn' : 0 < len := by simpa using hn
    obtain ⟨h0, _⟩ := hX 0 (by omega)
    have ha0 : a.add (0 * 2) = a := by simp [Addr.add]
    rw [ha0] at h0
    obtain ⟨hs, hblt⟩ := cell_spot h0
    obtain ⟨b, o, sp⟩ := a
    simp only at hs hblt
    subst hs
    have hadd : ∀ i, (⟨b, o, none⟩ : Addr).add i = ⟨b, o + i, none⟩ := fun i => by
      unfold Addr.add
      split
      · next h => subst h; rfl
      · rfl
    refine ⟨b, o, rfl, Nat.zero_le _, hblt, fun i hi' => ?_⟩
    have hi'' : i < len := by simpa using hi'
    obtain ⟨h1, h2⟩ := hX i (by omega)
    rw [hadd] at h1 h2
    have hfr : ∀ k, k < m * 2 → w.frozen? ⟨b, o + k, none⟩ = false := fun k hk => by
      refine hz b (o + k) (hp _ ?_)
      rw [hx.2]
      exact List.mem_append_left _ (MemPlace.mem_row.2 ⟨k, by omega, rfl⟩)
    refine ⟨⟨?_, ?_⟩, ?_, ?_⟩
    · rw [h1]; simp
    · rw [show o + i * 2 + 1 = o + (i * 2 + 1) by omega, h2]; simp
    · exact hfr _ (by omega)
    · rw [show o + i * 2 + 1 = o + (i * 2 + 1) by omega]; exact hfr _ (by omega)
theorem open_millAt {T eS eP tI : TypeId} {f0 f1 f2 f3 f4 f5 s0 s1 s2 s3 s4 p0 p1 r0 r1 r2 r3 r4 r5 y0 y1 : Field} {w : World} {v : Value} {d : DataW H} {ps before : List MemPlace} {base : Nat}
    (he : P.underlying T = some (.struct #[f0, f1, f2, f3, f4, f5])) (hC : P.cellsOf T = 12)
    (ho : [f0, f1, f2, f3, f4, f5].map (fun f => (f.offset, P.cellsOf f.type)) = [(0, 1), (1, 6), (7, 1), (8, 1), (9, 2), (11, 1)])
    (g0 : P.underlying f0.type = some (.slice eS)) (q0 : P.underlying eS = some (.struct #[s0, s1, s2, s3, s4])) (u0 : oneCellFields P #[s0, s1, s2, s3, s4] = true) (c0 : P.cellsOf eS = 5)
    (i0 : P.underlying s0.type = some (.int .i64)) (i1 : P.underlying s1.type = some (.int .i64)) (i2 : P.underlying s2.type = some (.int .i64)) (i3 : P.underlying s3.type = some (.int .i64)) (i4 : P.underlying s4.type = some (.int .i64))
    (g1 : P.underlying f1.type = some (.struct #[r0, r1, r2, r3, r4, r5])) (u1 : oneCellFields P #[r0, r1, r2, r3, r4, r5] = true)
    (j0 : P.underlying r0.type = some (.int .i64)) (j1 : P.underlying r1.type = some (.int .i64)) (j2 : P.underlying r2.type = some (.int .i64)) (j3 : P.underlying r3.type = some (.int .i64)) (j4 : P.underlying r4.type = some (.int .i64)) (j5 : P.underlying r5.type = some (.int .i64))
    (g2 : P.underlying f2.type = some (.int .i64)) (g3 : P.underlying f3.type = some (.slice eP)) (q3 : P.underlying eP = some (.struct #[p0, p1])) (u3 : oneCellFields P #[p0, p1] = true) (c3 : P.cellsOf eP = 2)
    (k0 : P.underlying p0.type = some (.int .i64)) (k1 : P.underlying p1.type = some (.int .i64))
    (g4 : P.underlying f4.type = some (.struct #[y0, y1])) (u4 : oneCellFields P #[y0, y1] = true) (l0 : P.underlying y0.type = some (.slice tI)) (l1 : P.underlying y1.type = some (.slice tI)) (hI : P.underlying tI = some (.int .i64)) (cI : P.cellsOf tI = 1)
    (g5 : P.underlying f5.type = some (.int .i64))
    (hv : Value.okWide P w .any base T v) (h : DataW.Trod enc P w 0 (fun _ => true) true T v d ps) (hz : w.noneFrozen before) (hp : ∀ x ∈ ps, x ∈ before) :
    ∃ s p l hh m, v = millV s p l hh m ∧ MillIn 0 w.heap.size w s p l hh m := by
  obtain ⟨cs, rfl, hsz⟩ := okWide_struct he hv
  rw [hC] at hsz
  obtain ⟨fuel, hf⟩ := h
  obtain ⟨ys, n', -, hx, -, hyl, hfl⟩ := DataW.trod_struct he hf
  simp only [List.map_cons, List.map_nil, List.cons.injEq, Prod.mk.injEq, and_true] at ho
  obtain ⟨⟨a0, b0⟩, ⟨a1, b1⟩, ⟨a2, b2⟩, ⟨a3, b3⟩, ⟨a4, b4⟩, a5, b5⟩ := ho
  obtain ⟨cl⟩ := cs
  match cl, hsz with
  | [v0, v1, v2, v3, v4, v5, v6, v7, v8, v9, v10, v11], _ =>
  match ys, hyl with
  | [z0, z1, z2, z3, z4, z5], _ =>
  have h0 := hfl 0 f0 rfl
  have h1 := hfl 1 f1 rfl
  have h2 := hfl 2 f2 rfl
  have h3 := hfl 3 f3 rfl
  have h4 := hfl 4 f4 rfl
  have h5 := hfl 5 f5 rfl
  simp only [Value.cells, a0, b0, a1, b1, a2, b2, a3, b3, a4, b4, a5, b5, List.drop_zero, List.drop_succ_cons, List.take_succ_cons, List.take_zero, List.getElem?_cons_zero, List.getElem?_cons_succ] at h0 h1 h2 h3 h4 h5
  have hps : ps = z0.2 ++ (z1.2 ++ (z2.2 ++ (z3.2 ++ (z4.2 ++ z5.2)))) := by
    have := congrArg Prod.snd hx
    simpa using this
  subst hps
  have isl : ∀ {t e : TypeId} {n : Nat} {u : Value} {y : DataW H × List MemPlace}, P.underlying t = some (.slice e) → DataW.trod enc P w 0 (fun _ => true) true n t [u] = some y → (∃ ao m c, u = .slice ao m c) ∧ DataW.Trod enc P w 0 (fun _ => true) true t u y.1 y.2 := fun {t e n u y} ht hu => by
    have hs : ∃ ao m c, u = .slice ao m c := by
      rcases open_slice ht hu with ⟨hcs, _⟩ | ⟨a, len, cap, _, _, _, _, hcs, _⟩
      · simp only [List.cons.injEq, and_true] at hcs; exact ⟨_, _, _, hcs⟩
      · simp only [List.cons.injEq, and_true] at hcs; exact ⟨_, _, _, hcs⟩
    refine ⟨hs, n, ?_⟩
    obtain ⟨ao, m, c, rfl⟩ := hs
    exact hu
  obtain ⟨s0', t0'⟩ := isl g0 h0
  obtain ⟨xs, hxs⟩ := open_StAt g0 q0 u0 c0 i0 i1 i2 i3 i4 t0' s0' hz (fun x hx => hp x (by simp [hx]))
  obtain ⟨s3', t3'⟩ := isl g3 h3
  obtain ⟨pcs, hpcs⟩ := open_PcAt g3 q3 u3 c3 k0 k1 t3' s3' hz (fun x hx => hp x (by simp [hx]))
  obtain ⟨m2, e2, -, -⟩ := DataW.trod_int g2 h2
  obtain ⟨m5, e5, -, -⟩ := DataW.trod_int g5 h5
  simp only [List.cons.injEq, and_true] at e2 e5
  subst e2 e5
  obtain ⟨w1, n1, -, -, -, wl1, wf1⟩ := DataW.trod_struct g1 h1
  match w1, wl1 with
  | [d0, d1, d2, d3, d4, d5], _ =>
  obtain ⟨o0, x0⟩ := hone_of u1 0 r0 rfl
  obtain ⟨o1, x1⟩ := hone_of u1 1 r1 rfl
  obtain ⟨o2, x2⟩ := hone_of u1 2 r2 rfl
  obtain ⟨o3, x3⟩ := hone_of u1 3 r3 rfl
  obtain ⟨o4, x4⟩ := hone_of u1 4 r4 rfl
  obtain ⟨o5, x5⟩ := hone_of u1 5 r5 rfl
  have m0 := wf1 0 r0 rfl
  have m1 := wf1 1 r1 rfl
  have m2' := wf1 2 r2 rfl
  have m3 := wf1 3 r3 rfl
  have m4 := wf1 4 r4 rfl
  have m5' := wf1 5 r5 rfl
  simp only [o0, x0, o1, x1, o2, x2, o3, x3, o4, x4, o5, x5, List.drop_zero, List.drop_succ_cons, List.take_succ_cons, List.take_zero, List.getElem?_cons_zero, List.getElem?_cons_succ] at m0 m1 m2' m3 m4 m5'
  obtain ⟨n0, e0, -, -⟩ := DataW.trod_int j0 m0
  obtain ⟨n1', e1, -, -⟩ := DataW.trod_int j1 m1
  obtain ⟨n2, e2, -, -⟩ := DataW.trod_int j2 m2'
  obtain ⟨n3, e3, -, -⟩ := DataW.trod_int j3 m3
  obtain ⟨n4, e4, -, -⟩ := DataW.trod_int j4 m4
  obtain ⟨n5, e5, -, -⟩ := DataW.trod_int j5 m5'
  simp only [List.cons.injEq, and_true] at e0 e1 e2 e3 e4 e5
  subst e0 e1 e2 e3 e4 e5
  obtain ⟨w4, nn4, -, hx4, -, wl4, wf4⟩ := DataW.trod_struct g4 h4
  match w4, wl4 with
  | [b0', b1'], _ =>
  obtain ⟨oo0, xx0⟩ := hone_of u4 0 y0 rfl
  obtain ⟨oo1, xx1⟩ := hone_of u4 1 y1 rfl
  have mm0 := wf4 0 y0 rfl
  have mm1 := wf4 1 y1 rfl
  simp only [oo0, xx0, oo1, xx1, List.drop_zero, List.drop_succ_cons, List.take_succ_cons, List.take_zero, List.getElem?_cons_zero, List.getElem?_cons_succ] at mm0 mm1
  have hz4 : z4.2 = b0'.2 ++ b1'.2 := by rw [hx4]; simp
  obtain ⟨sl, tl⟩ := isl l0 mm0
  obtain ⟨sh, th⟩ := isl l1 mm1
  obtain ⟨lo, hlo, -⟩ := open_intsAt l0 hI cI tl sl hz (fun x hx => hp x (by simp [hz4, hx]))
  obtain ⟨hi, hhi, -⟩ := open_intsAt l1 hI cI th sh hz (fun x hx => hp x (by simp [hz4, hx]))
  exact ⟨v0, v8, v9, v10, ⟨xs, ⟨n0, n1', n2, n3, n4, n5⟩, m2, pcs, lo, hi, m5⟩, rfl, hxs, hpcs, hlo, hhi⟩
end
end Go.Proofs.YtmemgbklgcjobaaGreatDoor
