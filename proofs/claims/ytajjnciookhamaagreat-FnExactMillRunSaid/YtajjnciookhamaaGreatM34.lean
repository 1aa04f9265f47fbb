/-
  Parts of the proof, of 3 texts: what MethR, HelpO, SepG show. Conditions: each theorem states its own.
-/
import Derived.Test.YtajjnciookhamaaGreatM27
import Derived.Test.YtajjnciookhamaaGreatM26
import Derived.Test.YtajjnciookhamaaGreatM16
import Derived.Test.YtajjnciookhamaaGreatM05
import Derived.Test.YtajjnciookhamaaGreatM30
namespace Go.Proofs.YtajjnciookhamaaGreat
open Go.RowKit
theorem rollD_no1 {m : Mi} {id n : Int} (h : ¬ 0 ≤ n) : rollD m id n = none := by simp [rollD, h]
theorem rollD_no2 {m : Mi} {id n : Int} (h : hasB m id 0 = false) : rollD m id n = none := by simp [rollD, h]
theorem rollD_no3 {m : Mi} {id n : Int} (h : (putR m.low m.high (spotTop n) (spotPlace n) id).2 = false) : rollD m id n = none := by simp [rollD, h]
theorem rollD_yes {m : Mi} {id n : Int} {q : List Int × List Int} (h1 : 0 ≤ n) (h2 : hasB m id 0 = true) (h : putR m.low m.high (spotTop n) (spotPlace n) id = (q, true)) : rollD m id n = some { m with low := q.1, high := q.2, pieces := setS m.pieces id 1 } := by simp [rollD, h, h1, h2]
set_option linter.unusedSimpArgs false in
set_option maxRecDepth 10000 in
set_option maxHeartbeats 1600000 in
theorem roll_meth {base B : Nat} {w : World} {s p l h : Value} {m : Mi} (id n : Int) (H : MillBox base B w s p l h m) (hl : m.pieces.length ≤ 1000000) (hn : n ≤ 9223372036854775807) :
    Calls Tryz.prog 40 #[.pointer (some ⟨B, 0, none⟩), .int .i64 id, .int .i64 n] w (Meth base B (rollD m id n) w) := by
  by_cases hn0 : 0 ≤ n
  · have hnb : ¬ n < 0 := by omega
    have HH := hide H
    have hr := H.row
    have hlt := hr.lt
    have hbz := H.got.hb
    have HL := hide (H.got.all.low)
    have HG := hide (H.got.all.high)
    have c8 : w.cell? ⟨B, 8, none⟩ = some p := hr.cell 8 (by simp [millC])
    have c9 : w.cell? ⟨B, 9, none⟩ = some l := hr.cell 9 (by simp [millC])
    have c10 : w.cell? ⟨B, 10, none⟩ = some h := hr.cell 10 (by simp [millC])
    have hhas := has_any B p m id 0 w H.got.all.pieces c8 hl
    cases hhb : hasB m id 0 with
    | false =>
      have hN := hide (rollD_no2 (n := n) hhb)
      rw [hhb] at hhas
      clear hhb hr H
      go_enter Tryz.func40, Tryz.ntmps40
      go_wp2_with fail
      refine hhas.mono ?_
      rintro e w1 ⟨rfl, rfl⟩
      go_wp2_with fail
      go_ret
      rw [hN.out]
      exact Meth.no (Below.refl _ _)
    | true =>
      rw [hhb] at hhas
      have HB2 := hide hhb
      obtain ⟨k, rfl, hk, hs0⟩ := hasB_iff.1 hhb
      have HHAS := hide hhas
      obtain ⟨⟨q, r⟩, hQ⟩ : ∃ Q, putR m.low m.high (spotTop n) (spotPlace n) ((k : Int) + 1) = Q := ⟨_, rfl⟩
      have HQ := hide hQ
      have HA := hide (fun W => spotN_impl n W hn0 hn)
      have hlf := fun (W : World) (kk : Below w.heap.size w W) => put_impl l h m.low m.high (spotTop n) (spotPlace n) ((k : Int) + 1) W ((HL.out.below kk).mono (Nat.le_refl _) kk.size (Nat.le_refl _)) ((HG.out.below kk).mono (Nat.le_refl _) kk.size (Nat.le_refl _))
      rw [hQ] at hlf
      unfold pileV at hlf
      have HLF := hide hlf
      obtain ⟨ta, hta⟩ : ∃ t, spotTop n = t := ⟨_, rfl⟩
      obtain ⟨pa, hpa⟩ : ∃ t, spotPlace n = t := ⟨_, rfl⟩
      rw [hta, hpa] at HA HLF
      clear hQ hlf hta hpa hr H hhas hhb hs0
      go_enter Tryz.func40, Tryz.ntmps40
      go_wp2_with fail
      refine HHAS.out.mono ?_
      rintro e w1 ⟨rfl, rfl⟩
      go_wp2_with fail
      have hI : w.drew.cell? ⟨B, 9, none⟩ = some l ∧ w.drew.cell? ⟨B, 10, none⟩ = some h := ⟨c9, c10⟩
      have hK : Below w.heap.size w w.drew := (Below.refl _ _).drew
      go_cut [7, 8] from 17 to 27 (fun bx ok wr => BoxGot w.heap.size wr q bx ∧ ok = .bool r ∧ Below w.heap.size w wr)
      case first =>
        go_region_held (fun W => (W.cell? ⟨B, 9, none⟩ = some l ∧ W.cell? ⟨B, 10, none⟩ = some h) ∧ Below w.heap.size w W) (first | exact ⟨hI, hK⟩ | assumption | exact held_alloc hlt (by assumption) | exact held_store hlt (by first | exact Nat.le_refl _ | omega) (by assumption) | (trace_state; fail)) (first
          | (go_at_call 88; (with_reducible refine (HA.out _).mono ?_); rintro e w5 ⟨rfl, hb5⟩; have hS5 := held_call hlt hb5 (by assumption); have hz5 := hS5.2.size; obtain ⟨hc5, hf5⟩ := bcell hb5; have hzz5 := hb5.size; (try simp at hzz5); (try have hx50 : w.heap.size < w5.heap.size := by omega))
          | (go_at_call 87; (with_reducible refine (HLF.out _ (And.right (by assumption))).mono ?_); rintro e w7 ⟨lx, hx, rfl, own, hb7⟩; have hS7 := held_call hlt hb7 (by assumption); have hz7 := hS7.2.size; obtain ⟨hc7, hf7⟩ := bcell hb7; have hzz7 := hb7.size; (try simp at hzz7); (try have hx70 : w.heap.size < w7.heap.size := by omega); (try have hx71 : w5.heap.size < w7.heap.size := by omega); obtain ⟨alx, clx, hlx, -, -⟩ := own.lo.form; obtain ⟨ahx, chx, hhx, -, -⟩ := own.ho.form; subst hlx hhx; simp only [pileV]))
        all_goals
          have hwd : w.drew.heap.size = w.heap.size := rfl
          clear hnb
          go_wp2_with fail
          go_meet
        · exact ⟨box_new (base := w.heap.size) own (by omega) (by omega), rfl, And.right (by assumption)⟩
        · exact ⟨box_old ((RowL.new w5 _ _).below hb7 (by simp)) own (by omega) (by simp), rfl, And.right (by assumption)⟩
        · exact ⟨box_old (((RowL.new w.drew _ _).below hb5 (by simp)).below hb7 (by omega)) own (by omega) (by omega), rfl, And.right (by assumption)⟩
      obtain ⟨⟨G, lx, hx, rfl, hG, hrow, hown⟩, rfl, hbw⟩ := hcut
      have HR := hide hrow
      have HO := hide hown
      have HBW := hide hbw
      have hGz := hrow.lt
      have g0 : wc.cell? ⟨G, 0, none⟩ = some lx := hrow.cell 0 (by simp)
      have g1 : wc.cell? ⟨G, 1, none⟩ = some hx := hrow.cell 1 (by simp)
      have R_c := HH.out.row.below hbw hlt
      have f9 := R_c.frozen 9
      have f10 := R_c.frozen 10
      have d9 : wc.cell? ⟨B, 9, none⟩ = some l := R_c.cell 9 (by simp [millC])
      have d10 : wc.cell? ⟨B, 10, none⟩ = some h := R_c.cell 10 (by simp [millC])
      have d8 : wc.cell? ⟨B, 8, none⟩ = some p := R_c.cell 8 (by simp [millC])
      have hltc := R_c.lt
      have hRc := hide R_c
      obtain ⟨alx, clx, rfl, -, -⟩ := hown.lo.form
      obtain ⟨ahx, chx, rfl, -, -⟩ := hown.ho.form
      have GC := HH.out.got.below hbw
      obtain ⟨g, cp, hpf, hgb, hgz, hgc⟩ := got_block GC (by omega)
      have hgB : g ≠ B := fun e => HH.out.off.2.1 (by rw [hpf, e]; rfl)
      have hBg : B ≠ g := fun e => hgB e.symm
      have HPF := hide hpf
      obtain ⟨hgc1, hgf1⟩ := hgc k hk
      rw [hpf] at d8
      have hkI : (k : Int) < (m.pieces.length : Int) := by omega
      have hk0 : (0 : Int) ≤ (k : Int) := by omega
      have hsub : IntKind.i64.wrap ((k : Int) + 1 - 1) = (k : Int) := by rw [show (k : Int) + 1 - 1 = (k : Int) by omega]; exact IntWalk.i64_in _ (by omega)
      clear hrow hown hbw R_c hI hK c8 c9 c10 GC hgc hpf
      cases r with
      | false =>
        have HN := hide (rollD_no3 (m := m) (id := (k : Int) + 1) (n := n) (by rw [HQ.out]))
        go_wp2_with fail
        go_ret
        rw [HN.out]
        exact Meth.no (HBW.out.mono hbz)
      | true =>
        have HY := hide (rollD_yes (m := m) hn0 HB2.out HQ.out)
        go_wp2_with fail
        go_ret
        rw [HY.out]
        have G_2 := HH.out.got.yard HBW.out (Nat.le_refl _) HO.out
        have O_2 := notIn_new HH.out.off hlt HO.out
        obtain ⟨r1, k1, b1⟩ := box_set hRc.out G_2 O_2 HH.out.hB (j := 9) (by simp [millC]) (.slice alx q.1.length clx)
        obtain ⟨r2, k2, b2⟩ := box_set r1 k1 O_2 HH.out.hB (j := 10) (by simp [millC]) (.slice ahx q.2.length chx)
        obtain ⟨k3, b3⟩ := got_state k2 (k := k) hk (g := g) (by rw [HPF.out]; rfl) 1
        refine ⟨rfl, (((HBW.out.mono hbz).trans b1).trans b2).trans b3, fun x hx => ?_⟩
        obtain rfl := Option.some.inj hx
        exact ⟨_, _, _, _, r2.other (lo := g) (hi := g + 1) ((Other.refl _ _ _).setCell (p := ⟨g, k * 2 + 1, none⟩) (Nat.le_refl _) (Nat.lt_succ_self _) _) (by omega), k3⟩
  · have hN := hide (rollD_no1 (m := m) (id := id) (n := n) hn0)
    have hna : n < 0 := by omega
    go_enter Tryz.func40, Tryz.ntmps40
    go_wp2_with fail
    go_ret
    rw [hN.out]
    exact Meth.no (Below.refl _ _)
end Go.Proofs.YtajjnciookhamaaGreat
namespace Go.Proofs.YtajjnciookhamaaGreat
open Go.RowKit
theorem ret_i64 {a b : Int} (h : a = b) : Ending.returned (.int .i64 a) = .returned (.int .i64 b) := by rw [h]
theorem eqGrade_same (g : Gr) (w : World) :
    Calls Tryz.prog 44 #[grV g, grV g] w fun e w' => e = .returned (.bool true) ∧ Below w.heap.size w w' := by
  obtain ⟨a, b, c, d, f, h⟩ := g
  unfold grV
  go_enter Tryz.func44, Tryz.ntmps44
  go_wp2
  go_ret
  exact ⟨rfl, by go_grown⟩
theorem eqStuffS_same (v v' : Value) (xs : List St) (lo hi lo' hi' : Nat) (w : World) (h : StAt lo hi w v xs) (h' : StAt lo' hi' w v' xs) :
    Calls Tryz.prog 43 #[v, v'] w fun e w' => e = .returned (.bool true) ∧ Below w.heap.size w w' :=
  (eqStuffS_any v v' xs xs lo hi lo' hi' w h h').mono fun e w' ⟨he, hb⟩ => ⟨by rw [he]; simp, hb⟩
theorem eqPieceS_same (v v' : Value) (xs : List Pc) (lo hi lo' hi' : Nat) (w : World) (h : PcAt lo hi w v xs) (h' : PcAt lo' hi' w v' xs) :
    Calls Tryz.prog 45 #[v, v'] w fun e w' => e = .returned (.bool true) ∧ Below w.heap.size w w' :=
  (eqPieceS_any v v' xs xs lo hi lo' hi' w h h').mono fun e w' ⟨he, hb⟩ => ⟨by rw [he]; simp, hb⟩
set_option maxRecDepth 10000 in
set_option maxHeartbeats 800000 in
theorem eqMill_same (s p l h s' p' l' h' : Value) (m : Mi) (w : World) (H : MillIn 0 w.heap.size w s p l h m) (H' : MillIn 0 w.heap.size w s' p' l' h' m) :
    Calls Tryz.prog 10 #[millV s p l h m, millV s' p' l' h' m] w fun e w' => e = .returned (.bool true) ∧ Below w.heap.size w w' := by
  have VS := hide H.store
  have VP := hide H.pieces
  have VL := hide H.low
  have VH := hide H.high
  have VT := hide H'.store
  have VQ := hide H'.pieces
  have VM := hide H'.low
  have VI := hide H'.high
  clear H H'
  unfold millV
  go_enter Tryz.func10, Tryz.ntmps10
  go_wp2_with fail
  refine calls_at fun wx hwx => ?_
  have A_0 : RowL wx (w.heap.size) 39 [s, .int .i64 m.rule.lc, .int .i64 m.rule.hc, .int .i64 m.rule.lm, .int .i64 m.rule.hm, .int .i64 m.rule.ls, .int .i64 m.rule.hs, .int .i64 m.strand, p, l, h, .int .i64 m.scrap] := by rw [hwx]; exact ((RowL.new _ 39 [s, .int .i64 m.rule.lc, .int .i64 m.rule.hc, .int .i64 m.rule.lm, .int .i64 m.rule.hm, .int .i64 m.rule.ls, .int .i64 m.rule.hs, .int .i64 m.strand, p, l, h, .int .i64 m.scrap]).alloc _)
  have C_0 : RowL wx (w.heap.size + 1) 39 [s', .int .i64 m.rule.lc, .int .i64 m.rule.hc, .int .i64 m.rule.lm, .int .i64 m.rule.hm, .int .i64 m.rule.ls, .int .i64 m.rule.hs, .int .i64 m.strand, p', l', h', .int .i64 m.scrap] := by rw [hwx]; simpa using (RowL.new (World.alloc _ _) 39 [s', .int .i64 m.rule.lc, .int .i64 m.rule.hc, .int .i64 m.rule.lm, .int .i64 m.rule.hm, .int .i64 m.rule.ls, .int .i64 m.rule.hs, .int .i64 m.strand, p', l', h', .int .i64 m.scrap])
  have B_0 : Below w.heap.size w wx := by rw [hwx]; go_grown
  clear hwx
  have hL0 := C_0.lt
  have VS_0 := hide (VS.out.below B_0)
  have VP_0 := hide (VP.out.below B_0)
  have VL_0 := hide (VL.out.below B_0)
  have VH_0 := hide (VH.out.below B_0)
  have VT_0 := hide (VT.out.below B_0)
  have VQ_0 := hide (VQ.out.below B_0)
  have VM_0 := hide (VM.out.below B_0)
  have VI_0 := hide (VI.out.below B_0)
  refine (eqStuffS_same s s' m.store _ _ _ _ wx VS_0.out VT_0.out).mono ?_
  rintro e w1 ⟨rfl, hb⟩
  have A_1 := A_0.below hb A_0.lt
  have C_1 := C_0.below hb C_0.lt
  have VS_1 := hide (VS_0.out.below hb)
  have VP_1 := hide (VP_0.out.below hb)
  have VL_1 := hide (VL_0.out.below hb)
  have VH_1 := hide (VH_0.out.below hb)
  have VT_1 := hide (VT_0.out.below hb)
  have VQ_1 := hide (VQ_0.out.below hb)
  have VM_1 := hide (VM_0.out.below hb)
  have VI_1 := hide (VI_0.out.below hb)
  have B_1 := hide (Below.step B_0 hb (Nat.le_refl _))
  have hz1 := hb.size
  clear hb
  have cA1 : w1.cell? ⟨w.heap.size, 1, none⟩ = some (.int .i64 m.rule.lc) := A_1.cell 1 (by simp)
  have cA2 : w1.cell? ⟨w.heap.size, 2, none⟩ = some (.int .i64 m.rule.hc) := A_1.cell 2 (by simp)
  have cA3 : w1.cell? ⟨w.heap.size, 3, none⟩ = some (.int .i64 m.rule.lm) := A_1.cell 3 (by simp)
  have cA4 : w1.cell? ⟨w.heap.size, 4, none⟩ = some (.int .i64 m.rule.hm) := A_1.cell 4 (by simp)
  have cA5 : w1.cell? ⟨w.heap.size, 5, none⟩ = some (.int .i64 m.rule.ls) := A_1.cell 5 (by simp)
  have cA6 : w1.cell? ⟨w.heap.size, 6, none⟩ = some (.int .i64 m.rule.hs) := A_1.cell 6 (by simp)
  have cC1 : w1.cell? ⟨w.heap.size + 1, 1, none⟩ = some (.int .i64 m.rule.lc) := C_1.cell 1 (by simp)
  have cC2 : w1.cell? ⟨w.heap.size + 1, 2, none⟩ = some (.int .i64 m.rule.hc) := C_1.cell 2 (by simp)
  have cC3 : w1.cell? ⟨w.heap.size + 1, 3, none⟩ = some (.int .i64 m.rule.lm) := C_1.cell 3 (by simp)
  have cC4 : w1.cell? ⟨w.heap.size + 1, 4, none⟩ = some (.int .i64 m.rule.hm) := C_1.cell 4 (by simp)
  have cC5 : w1.cell? ⟨w.heap.size + 1, 5, none⟩ = some (.int .i64 m.rule.ls) := C_1.cell 5 (by simp)
  have cC6 : w1.cell? ⟨w.heap.size + 1, 6, none⟩ = some (.int .i64 m.rule.hs) := C_1.cell 6 (by simp)
  go_wp2_with fail
  refine (eqGrade_same m.rule w1).mono ?_
  rintro e w2 ⟨rfl, hb⟩
  have A_2 := A_1.below hb A_1.lt
  have C_2 := C_1.below hb C_1.lt
  have VS_2 := hide (VS_1.out.below hb)
  have VP_2 := hide (VP_1.out.below hb)
  have VL_2 := hide (VL_1.out.below hb)
  have VH_2 := hide (VH_1.out.below hb)
  have VT_2 := hide (VT_1.out.below hb)
  have VQ_2 := hide (VQ_1.out.below hb)
  have VM_2 := hide (VM_1.out.below hb)
  have VI_2 := hide (VI_1.out.below hb)
  have B_2 := hide (Below.step B_1.out hb (Nat.le_refl _))
  have hz2 := hb.size
  clear hb
  have cA7 : w2.cell? ⟨w.heap.size, 7, none⟩ = some (.int .i64 m.strand) := A_2.cell 7 (by simp)
  have cA8 : w2.cell? ⟨w.heap.size, 8, none⟩ = some (p) := A_2.cell 8 (by simp)
  have cC7 : w2.cell? ⟨w.heap.size + 1, 7, none⟩ = some (.int .i64 m.strand) := C_2.cell 7 (by simp)
  have cC8 : w2.cell? ⟨w.heap.size + 1, 8, none⟩ = some (p') := C_2.cell 8 (by simp)
  go_wp2_with fail
  refine (eqPieceS_same p p' m.pieces _ _ _ _ w2 VP_2.out VQ_2.out).mono ?_
  rintro e w3 ⟨rfl, hb⟩
  have A_3 := A_2.below hb A_2.lt
  have C_3 := C_2.below hb C_2.lt
  have VP_3 := hide (VP_2.out.below hb)
  have VL_3 := hide (VL_2.out.below hb)
  have VH_3 := hide (VH_2.out.below hb)
  have VQ_3 := hide (VQ_2.out.below hb)
  have VM_3 := hide (VM_2.out.below hb)
  have VI_3 := hide (VI_2.out.below hb)
  have B_3 := hide (Below.step B_2.out hb (Nat.le_refl _))
  have hz3 := hb.size
  clear hb
  have cA9 : w3.cell? ⟨w.heap.size, 9, none⟩ = some (l) := A_3.cell 9 (by simp)
  have cA10 : w3.cell? ⟨w.heap.size, 10, none⟩ = some (h) := A_3.cell 10 (by simp)
  have cC9 : w3.cell? ⟨w.heap.size + 1, 9, none⟩ = some (l') := C_3.cell 9 (by simp)
  have cC10 : w3.cell? ⟨w.heap.size + 1, 10, none⟩ = some (h') := C_3.cell 10 (by simp)
  go_wp2_with fail
  refine (eqPile_same l h l' h' m.low m.high w3 ((VL_3.out).mono (Nat.le_refl _) (VL_3.out).lt (Nat.le_refl _)) ((VH_3.out).mono (Nat.le_refl _) (VH_3.out).lt (Nat.le_refl _)) ((VM_3.out).mono (Nat.le_refl _) (VM_3.out).lt (Nat.le_refl _)) ((VI_3.out).mono (Nat.le_refl _) (VI_3.out).lt (Nat.le_refl _))).mono ?_
  rintro e w4 ⟨rfl, hb⟩
  have A_4 := A_3.below hb A_3.lt
  have C_4 := C_3.below hb C_3.lt
  have VP_4 := hide (VP_3.out.below hb)
  have VL_4 := hide (VL_3.out.below hb)
  have VH_4 := hide (VH_3.out.below hb)
  have VQ_4 := hide (VQ_3.out.below hb)
  have VM_4 := hide (VM_3.out.below hb)
  have VI_4 := hide (VI_3.out.below hb)
  have B_4 := hide (Below.step B_3.out hb (Nat.le_refl _))
  have hz4 := hb.size
  clear hb
  have cA11 : w4.cell? ⟨w.heap.size, 11, none⟩ = some (.int .i64 m.scrap) := A_4.cell 11 (by simp)
  have cC11 : w4.cell? ⟨w.heap.size + 1, 11, none⟩ = some (.int .i64 m.scrap) := C_4.cell 11 (by simp)
  go_wp2_with fail
  go_ret
  exact ⟨rfl, B_4.out⟩
def markSt (k : Int) (n : Nat) : List St := (List.range n).map fun (i : Nat) => mkSt (k + 5 * i)
def markPc (k : Int) (n : Nat) : List Pc := (List.range n).map fun (i : Nat) => mkPc (k + 2 * i)
def markI (k : Int) (n : Nat) : List Int := (List.range n).map fun (i : Nat) => k + i
theorem markSt_eq {k : Int} {n : Nat} {ys : List St} (hl : ys.length = n) (h : ∀ i (_ : i < ys.length), ys[i] = mkSt (k + 5 * i)) : ys = markSt k n := by
  refine List.ext_getElem (by simp [markSt, hl]) fun i h1 h2 => ?_
  rw [h i h1]; simp [markSt]
theorem markPc_eq {k : Int} {n : Nat} {ys : List Pc} (hl : ys.length = n) (h : ∀ i (_ : i < ys.length), ys[i] = mkPc (k + 2 * i)) : ys = markPc k n := by
  refine List.ext_getElem (by simp [markPc, hl]) fun i h1 h2 => ?_
  rw [h i h1]; simp [markPc]
theorem markI_eq {k : Int} {n : Nat} {ys : List Int} (hl : ys.length = n) (h : ∀ i (_ : i < ys.length), ys[i] = k + i) : ys = markI k n := by
  refine List.ext_getElem (by simp [markI, hl]) fun i h1 h2 => ?_
  rw [h i h1]; simp [markI]
theorem markSt_at (k : Int) (n : Nat) : ∀ i (_ : i < (markSt k n).length), (markSt k n)[i] = mkSt (k + 5 * i) := fun i _ => by simp [markSt]
theorem markPc_at (k : Int) (n : Nat) : ∀ i (_ : i < (markPc k n).length), (markPc k n)[i] = mkPc (k + 2 * i) := fun i _ => by simp [markPc]
theorem markI_at (k : Int) (n : Nat) : ∀ i (_ : i < (markI k n).length), (markI k n)[i] = k + i := fun i _ => by simp [markI]
/-- A mill overwritten with marks from k on. -/
def markedM (k : Int) (m : Mi) : Mi :=
  { m with store := markSt k m.store.length, pieces := markPc (k + 5 * m.store.length) m.pieces.length, low := markI (k + 5 * m.store.length + 2 * m.pieces.length) m.low.length, high := markI (k + 5 * m.store.length + 2 * m.pieces.length + m.low.length) m.high.length }
def marksM (m : Mi) : Int := 5 * m.store.length + 2 * m.pieces.length + m.low.length + m.high.length
theorem markI_any (v : Value) (xs : List Int) (lo hi : Nat) (k0 : Int) (w : World) (h : IntsAt lo hi w v xs) (hlen : xs.length ≤ 2097152) (hk0 : 0 ≤ k0) (hk1 : k0 ≤ 16777216) :
    Calls Tryz.prog 95 #[v, .int .i64 k0] w fun e w' => e = .returned (.int .i64 (k0 + xs.length)) ∧ Other lo hi w w' ∧ IntsAt lo hi w' v (markI k0 xs.length) :=
  (markIntS_any v xs lo hi k0 w h hlen hk0 hk1).mono fun e w' ⟨h1, h2, ys, h3, h4, h5⟩ => ⟨h1, h2, by rw [← markI_eq h3 h4]; exact h5⟩
theorem markS_any (v : Value) (xs : List St) (lo hi : Nat) (k0 : Int) (w : World) (h : StAt lo hi w v xs) (hlen : xs.length ≤ 2097152) (hk0 : 0 ≤ k0) (hk1 : k0 ≤ 16777216) :
    Calls Tryz.prog 47 #[v, .int .i64 k0] w fun e w' => e = .returned (.int .i64 (k0 + 5 * xs.length)) ∧ Other lo hi w w' ∧ StAt lo hi w' v (markSt k0 xs.length) :=
  (markStuffS_any v xs lo hi k0 w h hlen hk0 hk1).mono fun e w' ⟨h1, h2, ys, h3, h4, h5⟩ => ⟨h1, h2, by rw [← markSt_eq h3 h4]; exact h5⟩
theorem markP_any (v : Value) (xs : List Pc) (lo hi : Nat) (k0 : Int) (w : World) (h : PcAt lo hi w v xs) (hlen : xs.length ≤ 2097152) (hk0 : 0 ≤ k0) (hk1 : k0 ≤ 16777216) :
    Calls Tryz.prog 48 #[v, .int .i64 k0] w fun e w' => e = .returned (.int .i64 (k0 + 2 * xs.length)) ∧ Other lo hi w w' ∧ PcAt lo hi w' v (markPc k0 xs.length) :=
  (markPieceS_any v xs lo hi k0 w h hlen hk0 hk1).mono fun e w' ⟨h1, h2, ys, h3, h4, h5⟩ => ⟨h1, h2, by rw [← markPc_eq h3 h4]; exact h5⟩
set_option maxRecDepth 10000 in
theorem markPile_any (l h : Value) (xs ys : List Int) (a1 z1 a2 z2 : Nat) (k0 : Int) (w : World) (Hl : IntsAt a1 z1 w l xs) (Hh : IntsAt a2 z2 w h ys) (hd : z1 ≤ a2 ∨ z2 ≤ a1) (n1 : xs.length ≤ 1048576) (n2 : ys.length ≤ 1048576) (hk0 : 0 ≤ k0) (hk1 : k0 ≤ 8388608) (lo hi : Nat) (q1 : lo ≤ a1 ∧ z1 ≤ hi) (q2 : lo ≤ a2 ∧ z2 ≤ hi) (q3 : hi ≤ w.heap.size) :
    Calls Tryz.prog 49 #[pileV l h, .int .i64 k0] w fun e w' => e = .returned (.int .i64 (k0 + xs.length + ys.length)) ∧ Other lo hi w w' ∧ IntsAt a1 z1 w' l (markI k0 xs.length) ∧ IntsAt a2 z2 w' h (markI (k0 + xs.length) ys.length) ∧ (∀ k, k < w.heap.size → (k < a1 ∨ z1 ≤ k) → (k < a2 ∨ z2 ≤ k) → w'.heap[k]? = w.heap[k]?) := by
  have HL := hide Hl
  have HH := hide Hh
  clear Hl Hh
  unfold pileV
  go_enter Tryz.func49, Tryz.ntmps49
  go_wp2_with fail
  refine calls_at fun wx hwx => ?_
  have R1 : RowL wx w.heap.size 37 [l, h] := by rw [hwx]; exact RowL.new _ _ _
  have hb0 : Below w.heap.size w wx := by rw [hwx]; go_grown
  clear hwx
  refine (markI_any l xs _ _ k0 _ (HL.out.below hb0) (by omega) hk0 (by omega)).mono ?_
  rintro e w1 ⟨rfl, ho1, hi1⟩
  have R1b := R1.other ho1 (.inr (by omega))
  have HI1 := hide hi1
  have HH1 := hide ((HH.out.below hb0).other ho1 (by omega))
  have HK1 := hide (fun k (hk : k < w.heap.size) (h1 : k < a1 ∨ z1 ≤ k) => show w1.heap[k]? = w.heap[k]? from (ho1.block k (Nat.lt_of_lt_of_le hk hb0.size) h1).trans (hb0.block k hk))
  have HO1 := hide (show Other lo hi w w1 from (Other.of_below hb0).trans ⟨ho1.os, ho1.tape, ho1.output, ho1.size, fun k hk h => ho1.block k hk (by omega)⟩)
  have c1 : w1.cell? ⟨w.heap.size, 1, none⟩ = some h := R1b.cell 1 (by simp)
  have hz := R1b.lt
  clear ho1 hi1
  go_wp2_with fail
  refine (markI_any h ys _ _ (k0 + xs.length) _ HH1.out (by omega) (by omega) (by omega)).mono ?_
  rintro e w2 ⟨rfl, ho2, hi2⟩
  have HI2 := hide (HI1.out.other ho2 (by omega))
  have HJ2 := hide hi2
  have hsz1 := HO1.out.size
  have HK2 := hide (fun k (hk : k < w.heap.size) (h1 : k < a1 ∨ z1 ≤ k) (h2 : k < a2 ∨ z2 ≤ k) => show w2.heap[k]? = w.heap[k]? from (ho2.block k (by omega) h2).trans (HK1.out k hk h1))
  have HO2 := hide (show Other lo hi w w2 from HO1.out.trans ⟨ho2.os, ho2.tape, ho2.output, ho2.size, fun k hk h => ho2.block k hk (by omega)⟩)
  clear ho2 hi2
  go_wp2_with fail
  go_ret
  exact ⟨rfl, HO2.out, HI2.out, HJ2.out, HK2.out⟩
/-- A mill was marked. -/
def MarkGot (lo hi : Nat) (s p l h : Value) (m : Mi) (k : Int) (w : World) (e : Ending) (w' : World) : Prop :=
  e = .returned (.int .i64 (k + marksM m)) ∧ Other lo hi w w' ∧ MillSep lo hi w' s p l h (markedM k m)
set_option maxRecDepth 10000 in
set_option maxHeartbeats 800000 in
theorem markMill_any (s p l h : Value) (m : Mi) (lo hi : Nat) (w : World) (H : MillSep lo hi w s p l h m) (hs : sizeM m ≤ 1048576) :
    Calls Tryz.prog 11 #[millV s p l h m, .int .i64 1] w (MarkGot lo hi s p l h m 1 w) := by
  obtain ⟨a1, z1, a2, z2, a3, z3, a4, z4, ⟨q1, r1⟩, ⟨q2, r2⟩, ⟨q3, r3⟩, ⟨q4, r4⟩, ⟨d12, d13, d14, d23, d24, d34⟩, h1, h2, h3, h4, h5⟩ := H
  have VS := hide h1
  have VP := hide h2
  have VL := hide h3
  have VH := hide h4
  unfold sizeM at hs
  clear h1 h2 h3 h4
  unfold millV
  go_enter Tryz.func11, Tryz.ntmps11
  go_wp2_with fail
  refine calls_at fun wx hwx => ?_
  have R0 : RowL wx w.heap.size 39 [s, .int .i64 m.rule.lc, .int .i64 m.rule.hc, .int .i64 m.rule.lm, .int .i64 m.rule.hm, .int .i64 m.rule.ls, .int .i64 m.rule.hs, .int .i64 m.strand, p, l, h, .int .i64 m.scrap] := by rw [hwx]; exact RowL.new _ _ _
  have hb0 : Below w.heap.size w wx := by rw [hwx]; go_grown
  clear hwx
  have wide : ∀ {x y : World} {a z : Nat}, Other a z x y → lo ≤ a → z ≤ hi → Other lo hi x y := fun ho ha hz => ⟨ho.os, ho.tape, ho.output, ho.size, fun k hk h => ho.block k hk (by omega)⟩
  refine (markS_any s m.store _ _ 1 _ (VS.out.below hb0) (by omega) (by omega) (by omega)).mono ?_
  rintro e w1 ⟨rfl, ho1, hi1⟩
  have R1 := R0.other ho1 (.inr (by omega))
  have VS1 := hide hi1
  have VP1 := hide ((VP.out.below hb0).other ho1 (by omega))
  have VL1 := hide ((VL.out.below hb0).other ho1 (by omega))
  have VH1 := hide ((VH.out.below hb0).other ho1 (by omega))
  have HO1 := hide ((Other.of_below (lo := lo) (hi := hi) hb0).trans (wide ho1 q1 r1))
  have c8 : w1.cell? ⟨w.heap.size, 8, none⟩ = some p := R1.cell 8 (by simp)
  have hz1 := R1.lt
  clear ho1 hi1
  go_wp2_with fail
  refine (markP_any p m.pieces _ _ (1 + 5 * m.store.length) _ VP1.out (by omega) (by omega) (by omega)).mono ?_
  rintro e w2 ⟨rfl, ho2, hi2⟩
  have R2 := R1.other ho2 (.inr (by omega))
  have VP2 := hide hi2
  have VS2 := hide (VS1.out.other ho2 (by omega))
  have VL2 := hide (VL1.out.other ho2 (by omega))
  have VH2 := hide (VH1.out.other ho2 (by omega))
  have HO2 := hide (HO1.out.trans (wide ho2 q2 r2))
  have c9 : w2.cell? ⟨w.heap.size, 9, none⟩ = some l := R2.cell 9 (by simp)
  have c10 : w2.cell? ⟨w.heap.size, 10, none⟩ = some h := R2.cell 10 (by simp)
  have hz2 := R2.lt
  clear ho2 hi2
  go_wp2_with fail
  have hpl := markPile_any l h m.low m.high a3 z3 a4 z4 (1 + 5 * m.store.length + 2 * m.pieces.length) w2 VL2.out VH2.out d34 (by omega) (by omega) (by omega) (by omega) lo hi ⟨q3, r3⟩ ⟨q4, r4⟩ (by omega)
  unfold pileV at hpl
  refine hpl.mono ?_
  rintro e w3 ⟨rfl, ho3, hi3, hi4, hk3⟩
  have VS3 := hide (VS2.out.keep (fun k k1 k2 => hk3 k (by have := VS2.out.lt; omega) (by omega) (by omega)) ho3.size)
  have VP3 := hide (VP2.out.keep (fun k k1 k2 => hk3 k (by have := VP2.out.lt; omega) (by omega) (by omega)) ho3.size)
  have VL3 := hide hi3
  have VH3 := hide hi4
  have HO3 := hide (HO2.out.trans ho3)
  have hz3 := ho3.size
  clear ho3 hi3 hi4 hpl hk3
  go_wp2_with fail
  go_ret
  refine ⟨?_, HO3.out, a1, z1, a2, z2, a3, z3, a4, z4, ⟨q1, r1⟩, ⟨q2, r2⟩, ⟨q3, r3⟩, ⟨q4, r4⟩, ⟨d12, d13, d14, d23, d24, d34⟩, VS3.out, VP3.out, VL3.out, VH3.out, by omega⟩
  exact ret_i64 (by unfold marksM; omega)
end Go.Proofs.YtajjnciookhamaaGreat
namespace Go.Proofs.YtajjnciookhamaaGreat
open Go.RowKit
theorem MillGot.sep {base : Nat} {w : World} {s p l h : Value} {m : Mi} (H : MillGot base w s p l h m) : MillSep base w.heap.size w s p l h m := by
  obtain ⟨a1, z1, b1, c1, d1, e1, f1, g1⟩ := ownE_S H.so rfl H.hb
  obtain ⟨a2, z2, b2, c2, d2, e2, f2, g2⟩ := ownE_P H.po rfl H.hb
  obtain ⟨a3, z3, b3, c3, d3, e3, f3, g3⟩ := ownE_I H.lo rfl H.hb
  obtain ⟨a4, z4, b4, c4, d4, e4, f4, g4⟩ := ownE_I H.ho rfl H.hb
  exact ⟨a1, z1, a2, z2, a3, z3, a4, z4, ⟨b1, d1⟩, ⟨b2, d2⟩, ⟨b3, d3⟩, ⟨b4, d4⟩, ⟨sep_of H.sp g1 g2 c1 c2 f1 f2, sep_of H.sl g1 g3 c1 c3 f1 f3, sep_of H.sh g1 g4 c1 c4 f1 f4, sep_of H.pl g2 g3 c2 c3 f2 f3, sep_of H.ph g2 g4 c2 c4 f2 f4, sep_of H.lh g3 g4 c3 c4 f3 f4⟩, e1, e2, e3, e4, Nat.le_refl _⟩
theorem MillSep.lt {lo hi : Nat} {w : World} {s p l h : Value} {m : Mi} (H : MillSep lo hi w s p l h m) : hi ≤ w.heap.size := by
  obtain ⟨a1, z1, a2, z2, a3, z3, a4, z4, -, -, -, -, -, -, -, -, -, h⟩ := H
  exact h
theorem small_valid {m : Mi} (h : millB m = true) : sizeM m ≤ 1000 := by
  have hv := millB_iff.1 h
  have h1 := stsB_len hv.store
  have h2 := hv.len
  have h3 := hv.pile.l6
  have h4 := hv.pile.lh
  unfold sizeM
  omega
theorem small_zero : sizeM mi0 ≤ 1000 := by decide
theorem small_do (m : Mi) (d : J) : sizeM (doR m d).1 ≤ 1000 := by
  cases h : millB m with
  | false => rw [do_bad h]; exact small_zero
  | true => exact small_valid (millB_iff.2 (do_v d (millB_iff.1 h)).1)
theorem small_run (m : Mi) (l : List J) : sizeM (runR m l).1 ≤ 1000 := by
  cases h : millB m with
  | false => rw [run_bad (.inl h)]; exact small_zero
  | true =>
    by_cases hl : l.length ≤ 99
    · exact small_valid (run_valid h hl).1
    · rw [run_bad (.inr (by omega))]; exact small_zero
theorem marks_bd {m : Mi} (h : sizeM m ≤ 1048576) : 0 ≤ marksM m ∧ marksM m ≤ 5242880 := by
  unfold sizeM at h
  unfold marksM
  omega
/-- A box with a mill whose slices lie in ranges of their own. -/
def BoxS (base : Nat) (w : World) (y : Mi) (bx : Value) : Prop := ∃ G s p l h lo hi, bx = .pointer (some ⟨G, 0, none⟩) ∧ base ≤ G ∧ RowL w G 39 (millC s p l h y) ∧ MillSep lo hi w s p l h y ∧ base ≤ lo ∧ (G < lo ∨ hi ≤ G)
theorem row12_cells {w : World} {b T : Nat} {v0 v1 v2 v3 v4 v5 v6 v7 v8 v9 v10 v11 : Value} (h : RowL w b T [v0, v1, v2, v3, v4, v5, v6, v7, v8, v9, v10, v11]) :
    w.cell? ⟨b, 0, none⟩ = some v0 ∧ w.cell? ⟨b, 1, none⟩ = some v1 ∧ w.cell? ⟨b, 2, none⟩ = some v2 ∧ w.cell? ⟨b, 3, none⟩ = some v3 ∧ w.cell? ⟨b, 4, none⟩ = some v4 ∧ w.cell? ⟨b, 5, none⟩ = some v5 ∧ w.cell? ⟨b, 6, none⟩ = some v6 ∧ w.cell? ⟨b, 7, none⟩ = some v7 ∧ w.cell? ⟨b, 8, none⟩ = some v8 ∧ w.cell? ⟨b, 9, none⟩ = some v9 ∧ w.cell? ⟨b, 10, none⟩ = some v10 ∧ w.cell? ⟨b, 11, none⟩ = some v11 :=
  ⟨h.c 0 rfl, h.c 1 rfl, h.c 2 rfl, h.c 3 rfl, h.c 4 rfl, h.c 5 rfl, h.c 6 rfl, h.c 7 rfl, h.c 8 rfl, h.c 9 rfl, h.c 10 rfl, h.c 11 rfl⟩
theorem row3_cells {w : World} {b T : Nat} {v0 v1 v2 : Value} (h : RowL w b T [v0, v1, v2]) : w.cell? ⟨b, 0, none⟩ = some v0 ∧ w.cell? ⟨b, 1, none⟩ = some v1 ∧ w.cell? ⟨b, 2, none⟩ = some v2 :=
  ⟨h.c 0 rfl, h.c 1 rfl, h.c 2 rfl⟩
theorem RowL.stay {w w' : World} {b T : Nat} {vs : List Value} (h : RowL w b T vs) (k : Below w.heap.size w w') : RowL w' b T vs := h.below k h.lt
theorem boxS_new {base lo hi : Nat} {w0 w : World} {s p l h : Value} {y : Mi} {b : Bool} (hb : base ≤ lo) (hw : Below base w0 w) (hz : base ≤ w0.heap.size) (G : MillSep lo hi w s p l h y) :
    BoxS base (w.alloc (.cells #[s, .int .i64 y.rule.lc, .int .i64 y.rule.hc, .int .i64 y.rule.lm, .int .i64 y.rule.hm, .int .i64 y.rule.ls, .int .i64 y.rule.hs, .int .i64 y.strand, p, l, h, .int .i64 y.scrap] 39)) y (.pointer (some ⟨w.heap.size, 0, none⟩)) ∧ Value.bool b = .bool b ∧ Below base w0 (w.alloc (.cells #[s, .int .i64 y.rule.lc, .int .i64 y.rule.hc, .int .i64 y.rule.lm, .int .i64 y.rule.hm, .int .i64 y.rule.ls, .int .i64 y.rule.hs, .int .i64 y.strand, p, l, h, .int .i64 y.scrap] 39)) :=
  ⟨⟨_, s, p, l, h, lo, hi, rfl, Nat.le_trans hz hw.size, RowL.new w 39 (millC s p l h y), G.below ((Below.refl _ _).alloc (Nat.le_refl _) _), hb, .inr G.lt⟩, rfl, hw.alloc (Nat.le_trans hz hw.size) _⟩
theorem boxS_old {base lo hi C : Nat} {w0 w : World} {s p l h : Value} {y : Mi} {b : Bool} {us : List Value} (hb : base ≤ lo) (hw : Below base w0 w) (hz : base ≤ w0.heap.size) (G : MillSep lo hi w s p l h y) (r : RowL w C 39 us) (hl : us.length = 12) (hC : base ≤ C) (hd : C < lo) :
    BoxS base (((((((((((((w).setCell ⟨C, 0, none⟩ s).setCell ⟨C, 1, none⟩ (.int .i64 y.rule.lc)).setCell ⟨C, 2, none⟩ (.int .i64 y.rule.hc)).setCell ⟨C, 3, none⟩ (.int .i64 y.rule.lm)).setCell ⟨C, 4, none⟩ (.int .i64 y.rule.hm)).setCell ⟨C, 5, none⟩ (.int .i64 y.rule.ls)).setCell ⟨C, 6, none⟩ (.int .i64 y.rule.hs)).setCell ⟨C, 7, none⟩ (.int .i64 y.strand)).setCell ⟨C, 8, none⟩ p).setCell ⟨C, 9, none⟩ l).setCell ⟨C, 10, none⟩ h).setCell ⟨C, 11, none⟩ (.int .i64 y.scrap)) y (.pointer (some ⟨C, 0, none⟩)) ∧ Value.bool b = .bool b ∧ Below base w0 (((((((((((((w).setCell ⟨C, 0, none⟩ s).setCell ⟨C, 1, none⟩ (.int .i64 y.rule.lc)).setCell ⟨C, 2, none⟩ (.int .i64 y.rule.hc)).setCell ⟨C, 3, none⟩ (.int .i64 y.rule.lm)).setCell ⟨C, 4, none⟩ (.int .i64 y.rule.hm)).setCell ⟨C, 5, none⟩ (.int .i64 y.rule.ls)).setCell ⟨C, 6, none⟩ (.int .i64 y.rule.hs)).setCell ⟨C, 7, none⟩ (.int .i64 y.strand)).setCell ⟨C, 8, none⟩ p).setCell ⟨C, 9, none⟩ l).setCell ⟨C, 10, none⟩ h).setCell ⟨C, 11, none⟩ (.int .i64 y.scrap)) := by
  have T := other12 C w s (.int .i64 y.rule.lc) (.int .i64 y.rule.hc) (.int .i64 y.rule.lm) (.int .i64 y.rule.hm) (.int .i64 y.rule.ls) (.int .i64 y.rule.hs) (.int .i64 y.strand) p l h (.int .i64 y.scrap)
  exact ⟨⟨_, s, p, l, h, lo, hi, rfl, hC, row12 r hl _ _ _ _ _ _ _ _ _ _ _ _, G.other T (.inr hd), hb, .inl hd⟩, rfl, hw.trans (T.below hC (Nat.le_trans hz hw.size))⟩
end Go.Proofs.YtajjnciookhamaaGreat
