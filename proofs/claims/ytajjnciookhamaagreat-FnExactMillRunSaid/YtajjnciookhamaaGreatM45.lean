/-
  Parts of the proof, of 1 texts: what RunI show. Conditions: each theorem states its own.
-/
import Derived.Deep.CutRange
import Derived.Deep.RegionHeld
import Derived.Deep.RegionWith
import Derived.Test.YtajjnciookhamaaGreatM36
namespace Go.Proofs.YtajjnciookhamaaGreat
open Go.RowKit
set_option linter.unusedSimpArgs false in
set_option maxRecDepth 10000 in
set_option maxHeartbeats 16000000 in
theorem run_impl (s p l h v : Value) (m : Mi) (js : List J) (w : World) (H : MillIn 0 w.heap.size w s p l h m) (Hj : JobsAt 0 w.heap.size w v js) (hr : ∀ j ∈ js, j.d ≤ 9223372036854775807 ∧ j.g ≤ 9223372036854775807) :
    Calls Tryz.prog 16 #[millV s p l h m, v] w (RunGot w.heap.size (runR m js) w) := by
  obtain ⟨ao1, cap1, rfl, -, -, -, -⟩ := id H.store
  obtain ⟨ao2, cap2, rfl, -, -, -, -⟩ := id H.pieces
  obtain ⟨ao3, cap3, rfl, -, -, -, -⟩ := id H.low
  obtain ⟨ao4, cap4, rfl, -, -, -, -⟩ := id H.high
  have HM := hide H
  have HJ := hide Hj
  have HR := hide hr
  obtain ⟨aoj, cpj, rfl, -, -, -, -⟩ := Hj
  clear H hr
  unfold millV
  go_enter Tryz.func16, Tryz.ntmps16
  go_wp2_with fail
  refine calls_at fun wx hwx => ?_
  have A_0 : RowL wx (w.heap.size) 39 [.slice ao1 m.store.length cap1, .int .i64 m.rule.lc, .int .i64 m.rule.hc, .int .i64 m.rule.lm, .int .i64 m.rule.hm, .int .i64 m.rule.ls, .int .i64 m.rule.hs, .int .i64 m.strand, .slice ao2 m.pieces.length cap2, .slice ao3 m.low.length cap3, .slice ao4 m.high.length cap4, .int .i64 m.scrap] := by rw [hwx]; exact (RowL.new _ 39 [.slice ao1 m.store.length cap1, .int .i64 m.rule.lc, .int .i64 m.rule.hc, .int .i64 m.rule.lm, .int .i64 m.rule.hm, .int .i64 m.rule.ls, .int .i64 m.rule.hs, .int .i64 m.strand, .slice ao2 m.pieces.length cap2, .slice ao3 m.low.length cap3, .slice ao4 m.high.length cap4, .int .i64 m.scrap]).alloc _
  have R_0 : RowL wx (w.heap.size + 1) 39 [.slice none 0 0, .int .i64 0, .int .i64 0, .int .i64 0, .int .i64 0, .int .i64 0, .int .i64 0, .int .i64 0, .slice none 0 0, .slice none 0 0, .slice none 0 0, .int .i64 0] := by rw [hwx]; simpa using (RowL.new (World.alloc _ _) 39 [.slice none 0 0, .int .i64 0, .int .i64 0, .int .i64 0, .int .i64 0, .int .i64 0, .int .i64 0, .int .i64 0, .slice none 0 0, .slice none 0 0, .slice none 0 0, .int .i64 0])
  have B_0 : Below w.heap.size w wx := by rw [hwx]; go_grown
  clear hwx
  have hL0 := R_0.lt
  have V_0 := hide (HM.out.below B_0)
  have k1 := mill_impl _ _ _ _ m wx V_0.out.all
  unfold millV at k1
  cases hv : millB m with
  | false =>
    rw [hv] at k1
    have HZ := hide (run_bad (m := m) (l := js) (.inl hv))
    clear hv
    refine k1.mono ?_
    rintro e w1 ⟨rfl, hb⟩
    have R_1 := R_0.below hb R_0.lt
    have B_1 := hide (Below.step B_0 hb (Nat.le_refl _))
    clear hb k1
    have cR0 := R_1.c 0 rfl
    have cR1 := R_1.c 1 rfl
    have cR2 := R_1.c 2 rfl
    have cR3 := R_1.c 3 rfl
    have cR4 := R_1.c 4 rfl
    have cR5 := R_1.c 5 rfl
    have cR6 := R_1.c 6 rfl
    have cR7 := R_1.c 7 rfl
    have cR8 := R_1.c 8 rfl
    have cR9 := R_1.c 9 rfl
    have cR10 := R_1.c 10 rfl
    have cR11 := R_1.c 11 rfl
    have fR0 := R_1.frozen 0
    have fR1 := R_1.frozen 1
    have fR2 := R_1.frozen 2
    have fR3 := R_1.frozen 3
    have fR4 := R_1.frozen 4
    have fR5 := R_1.frozen 5
    have fR6 := R_1.frozen 6
    have fR7 := R_1.frozen 7
    have fR8 := R_1.frozen 8
    have fR9 := R_1.frozen 9
    have fR10 := R_1.frozen 10
    have fR11 := R_1.frozen 11
    go_wp2_with fail
    refine bodyPost_ret (by simp [results, Tryz.results16, go_sem, cR0, cR1, cR2, cR3, cR4, cR5, cR6, cR7, cR8, cR9, cR10, cR11]; try rfl) rfl ?_
    rw [HZ.out]
    exact ⟨_, _, _, _, rfl, zero_got B_1.out (Nat.le_refl _) (by omega) _ _ _ _ _ _ _ _ _ _ _ _⟩
  | true =>
    rw [hv] at k1
    obtain ⟨n1, n2, n3, n4⟩ := few_of hv
    have HV := hide hv
    clear hv
    refine k1.mono ?_
    rintro e w1 ⟨rfl, hb⟩
    have A_1 := A_0.below hb A_0.lt
    have R_1 := R_0.below hb R_0.lt
    have V_1 := hide (V_0.out.below hb)
    have B_1 := hide (Below.step B_0 hb (Nat.le_refl _))
    have hz1 := hb.size
    clear hb k1
    by_cases hl : js.length ≤ 99
    rotate_left
    · have hlB : decide (99 < (js.length : Int)) = true := by simp; omega
      have HZ := hide (run_bad (m := m) (l := js) (.inr (by omega)))
      have cR0 := R_1.c 0 rfl
      have cR1 := R_1.c 1 rfl
      have cR2 := R_1.c 2 rfl
      have cR3 := R_1.c 3 rfl
      have cR4 := R_1.c 4 rfl
      have cR5 := R_1.c 5 rfl
      have cR6 := R_1.c 6 rfl
      have cR7 := R_1.c 7 rfl
      have cR8 := R_1.c 8 rfl
      have cR9 := R_1.c 9 rfl
      have cR10 := R_1.c 10 rfl
      have cR11 := R_1.c 11 rfl
      have fR0 := R_1.frozen 0
      have fR1 := R_1.frozen 1
      have fR2 := R_1.frozen 2
      have fR3 := R_1.frozen 3
      have fR4 := R_1.frozen 4
      have fR5 := R_1.frozen 5
      have fR6 := R_1.frozen 6
      have fR7 := R_1.frozen 7
      have fR8 := R_1.frozen 8
      have fR9 := R_1.frozen 9
      have fR10 := R_1.frozen 10
      have fR11 := R_1.frozen 11
      go_wp2_with fail
      refine bodyPost_ret (by simp [results, Tryz.results16, go_sem, cR0, cR1, cR2, cR3, cR4, cR5, cR6, cR7, cR8, cR9, cR10, cR11]; try rfl) rfl ?_
      rw [HZ.out]
      exact ⟨_, _, _, _, rfl, zero_got B_1.out (Nat.le_refl _) (by omega) _ _ _ _ _ _ _ _ _ _ _ _⟩
    · have hlB : decide (99 < (js.length : Int)) = false := by simp; omega
      have HZ := hide (run_good HV.out hl)
      have cA0 := A_1.c 0 rfl
      have cA1 := A_1.c 1 rfl
      have cA2 := A_1.c 2 rfl
      have cA3 := A_1.c 3 rfl
      have cA4 := A_1.c 4 rfl
      have cA5 := A_1.c 5 rfl
      have cA6 := A_1.c 6 rfl
      have cA7 := A_1.c 7 rfl
      have cA8 := A_1.c 8 rfl
      have cA9 := A_1.c 9 rfl
      have cA10 := A_1.c 10 rfl
      have cA11 := A_1.c 11 rfl
      go_wp2_with fail
      clear cA0 cA1 cA2 cA3 cA4 cA5 cA6 cA7 cA8 cA9 cA10 cA11
      have k2 := copyMill_any _ _ _ _ m w1 V_1.out.all n1 n2 n3 n4
      unfold millV at k2
      refine k2.mono ?_
      clear k2
      rintro e w2 ⟨s2, p2, l2, h2, rfl, G, hb⟩
      have R_2 := R_1.below hb R_1.lt
      have B_2 := hide (Below.step B_1.out hb (Nat.le_refl _))
      have hz2 := hb.size
      have hL2 := R_2.lt
      have J_2 := hide (HJ.out.below B_2.out)
      clear hb
      have G_2 := hide G
      obtain ⟨aS, cs, rfl, -, -⟩ := G.so.form
      obtain ⟨ap, cp, rfl, -, -⟩ := G.po.form
      obtain ⟨al, cl, rfl, -, -⟩ := G.lo.form
      obtain ⟨ah, ch, rfl, -, -⟩ := G.ho.form
      clear G
      unfold millV
      go_wp2_with fail
      go_loopw [7, 25] (fun n i wr => ∃ (kk : Nat) (s p l h : Value), kk ≤ js.length ∧ i = .int .i64 (kk : Int) ∧ n = .int .i64 (runTo m (js.take kk)).2 ∧ Below w2.heap.size w2 wr ∧ RowL wr w2.heap.size 39 (millC s p l h (runTo m (js.take kk)).1) ∧ MillGot w1.heap.size wr s p l h (runTo m (js.take kk)).1) (fun _ i _ => js.length - (intOf i).toNat)
      case atStart => exact ⟨0, _, _, _, _, Nat.zero_le _, rfl, rfl, (Below.refl _ _).alloc (Nat.le_refl _) _, RowL.new w2 39 (millC _ _ _ _ m), G_2.out.below ((Below.refl _ _).alloc (Nat.le_refl _) _)⟩
      case round =>
        obtain ⟨kk, s3, p3, l3, h3, hkk, rfl, rfl, hb, C_r, G⟩ := hrel
        have R_r := R_2.below hb hL2
        have B_r := hide (B_2.out.trans (hb.mono (by omega)))
        have HB := hide hb
        have hzr := hb.size
        have J_r := hide (J_2.out.keep (fun g h1 h2 => hb.block g (by omega)) hb.size)
        clear hb
        by_cases hlt : kk < js.length
        · have HT := hide (run_take m hlt)
          have hnb := run_bd (js.take kk) (m, 0)
          have hnl : (js.take kk).length = kk := by rw [List.length_take]; omega
          rw [hnl] at hnb
          have hrj := HR.out _ (show js.getD kk jz ∈ js by rw [List.getD_eq_getElem?_getD, List.getElem?_eq_getElem hlt]; exact List.getElem_mem _)
          obtain ⟨b, ob, cpb, e1, hbj, hbj2, j0, j1, j2⟩ := jb_at J_r.out hlt
          cases e1
          obtain ⟨⟨x, nn⟩, hx⟩ : ∃ z, runTo m (js.take kk) = z := ⟨_, rfl⟩
          have hnb2 : 0 ≤ nn ∧ nn ≤ (kk : Int) := by
            have e : ((js.take kk).foldl runS (m, 0)).2 = nn := congrArg Prod.snd hx
            rw [e] at hnb
            simpa using hnb
          rw [hx] at HT C_r G
          rw [hx]
          have C_r : RowL wr w2.heap.size 39 (millC s3 p3 l3 h3 x) := C_r
          have G : MillGot w1.heap.size wr s3 p3 l3 h3 x := G
          obtain ⟨dj, hdj⟩ : ∃ d, js.getD kk jz = d := ⟨_, rfl⟩
          rw [hdj] at HT hrj j0 j1 j2
          have hkI : (kk : Int) < (js.length : Int) := by omega
          have hk0 : (0 : Int) ≤ (kk : Int) := by omega
          have hw1 : IntKind.i64.wrap ((kk : Int) + 1) = ((kk + 1 : Nat) : Int) := by rw [show (kk : Int) + 1 = ((kk + 1 : Nat) : Int) by omega]; exact IntWalk.i64_in _ (by omega)
          have hw2 : IntKind.i64.wrap (nn + 1) = nn + 1 := IntWalk.i64_in _ (by omega)
          obtain ⟨⟨y, ok⟩, hy⟩ : ∃ z, doR x dj = z := ⟨_, rfl⟩
          have HY := hide hy
          have G_r := hide G
          obtain ⟨aS3, cs3, rfl, -, -⟩ := G.so.form
          obtain ⟨ap3, cp3, rfl, -, -⟩ := G.po.form
          obtain ⟨al3, cl3, rfl, -, -⟩ := G.lo.form
          obtain ⟨ah3, ch3, rfl, -, -⟩ := G.ho.form
          have hLC := C_r.lt
          clear hx hdj hnl hnb G
          have cC0 : wr.cell? ⟨w2.heap.size, 0, none⟩ = some (.slice aS3 x.store.length cs3) := C_r.cell 0 (by simp [millC])
          have cC1 : wr.cell? ⟨w2.heap.size, 1, none⟩ = some (.int .i64 x.rule.lc) := C_r.cell 1 (by simp [millC])
          have cC2 : wr.cell? ⟨w2.heap.size, 2, none⟩ = some (.int .i64 x.rule.hc) := C_r.cell 2 (by simp [millC])
          have cC3 : wr.cell? ⟨w2.heap.size, 3, none⟩ = some (.int .i64 x.rule.lm) := C_r.cell 3 (by simp [millC])
          have cC4 : wr.cell? ⟨w2.heap.size, 4, none⟩ = some (.int .i64 x.rule.hm) := C_r.cell 4 (by simp [millC])
          have cC5 : wr.cell? ⟨w2.heap.size, 5, none⟩ = some (.int .i64 x.rule.ls) := C_r.cell 5 (by simp [millC])
          have cC6 : wr.cell? ⟨w2.heap.size, 6, none⟩ = some (.int .i64 x.rule.hs) := C_r.cell 6 (by simp [millC])
          have cC7 : wr.cell? ⟨w2.heap.size, 7, none⟩ = some (.int .i64 x.strand) := C_r.cell 7 (by simp [millC])
          have cC8 : wr.cell? ⟨w2.heap.size, 8, none⟩ = some (.slice ap3 x.pieces.length cp3) := C_r.cell 8 (by simp [millC])
          have cC9 : wr.cell? ⟨w2.heap.size, 9, none⟩ = some (.slice al3 x.low.length cl3) := C_r.cell 9 (by simp [millC])
          have cC10 : wr.cell? ⟨w2.heap.size, 10, none⟩ = some (.slice ah3 x.high.length ch3) := C_r.cell 10 (by simp [millC])
          have cC11 : wr.cell? ⟨w2.heap.size, 11, none⟩ = some (.int .i64 x.scrap) := C_r.cell 11 (by simp [millC])
          go_wp2_with fail
          refine calls_at fun wy hwy => ?_
          have hby : Below wr.heap.size wr wy := by rw [hwy]; exact (Below.refl _ _).alloc (Nat.le_refl _) _
          have C_y := C_r.below hby C_r.lt
          have G_y := hide (G_r.out.below hby)
          have hzy := hby.size
          have k3 := do_impl _ _ _ _ x dj wy G_y.out.all hrj.1 hrj.2
          unfold millV at k3
          rw [hy] at k3
          have HBY := hide (HB.out.trans (hby.mono (by omega)))
          clear hwy hby hy cC0 cC1 cC2 cC3 cC4 cC5 cC6 cC7 cC8 cC9 cC10 cC11 j0 j1 j2
          refine k3.mono ?_
          clear k3
          rintro e w4 ⟨s4, p4, l4, h4, he, G4, hb4⟩
          have he : e = .returned (.tuple #[millV s4 p4 l4 h4 y, .bool ok]) := he
          have G4 : MillGot wy.heap.size w4 s4 p4 l4 h4 y := G4
          subst he
          have C_4 := C_y.below hb4 C_y.lt
          have G_4 := hide G4
          have G_x := hide (G_y.out.below hb4)
          have HB4 := hide (HBY.out.trans (hb4.mono (by omega)))
          have hz4 := hb4.size
          have hLC4 := C_4.lt
          obtain ⟨aS4, cs4, rfl, -, -⟩ := G4.so.form
          obtain ⟨ap4, cp4, rfl, -, -⟩ := G4.po.form
          obtain ⟨al4, cl4, rfl, -, -⟩ := G4.lo.form
          obtain ⟨ah4, ch4, rfl, -, -⟩ := G4.ho.form
          clear G4 hb4
          unfold millV
          go_upto_region 9 with fail
          obtain ⟨wa, hwa⟩ : ∃ wa : World, wa = w4.alloc (.cells #[.slice aS4 y.store.length cs4, .int .i64 y.rule.lc, .int .i64 y.rule.hc, .int .i64 y.rule.lm, .int .i64 y.rule.hm, .int .i64 y.rule.ls, .int .i64 y.rule.hs, .int .i64 y.strand, .slice ap4 y.pieces.length cp4, .slice al4 y.low.length cl4, .slice ah4 y.high.length ch4, .int .i64 y.scrap] 39) := ⟨_, rfl⟩
          rw [← hwa]
          have hba : Below w4.heap.size w4 wa := by rw [hwa]; exact (Below.refl _ _).alloc (Nat.le_refl _) _
          have Y_a : RowL wa w4.heap.size 39 (millC (.slice aS4 y.store.length cs4) (.slice ap4 y.pieces.length cp4) (.slice al4 y.low.length cl4) (.slice ah4 y.high.length ch4) y) := by rw [hwa]; exact RowL.new w4 39 (millC _ _ _ _ y)
          have C_a := C_4.below hba C_4.lt
          have G_a := hide (G_4.out.below hba)
          have G_b := hide (G_x.out.below hba)
          have HBa := hide (HB4.out.trans (hba.mono (by omega)))
          have hza := hba.size
          have hLa := Y_a.lt
          have hLb := C_a.lt
          clear hwa hba
          cases ok with
          | false =>
            have HS := hide (HT.out.trans (runS_no HY.out))
            go_wp2_with fail
            go_roundw
            case rel =>
              refine ⟨kk + 1, .slice aS3 x.store.length cs3, .slice ap3 x.pieces.length cp3, .slice al3 x.low.length cl3, .slice ah3 x.high.length ch3, by omega, rfl, by rw [HS.out], HBa.out, ?_, ?_⟩
              · rw [HS.out]; exact C_a
              · rw [HS.out]; exact G_b.out
            case measure => simp [intOf]; omega
          | true =>
            have HS := hide (HT.out.trans (runS_yes HY.out))
            have cC0 : wa.cell? ⟨w2.heap.size, 0, none⟩ = some (.slice aS3 x.store.length cs3) := C_a.cell 0 (by simp [millC])
            have cC1 : wa.cell? ⟨w2.heap.size, 1, none⟩ = some (.int .i64 x.rule.lc) := C_a.cell 1 (by simp [millC])
            have cC2 : wa.cell? ⟨w2.heap.size, 2, none⟩ = some (.int .i64 x.rule.hc) := C_a.cell 2 (by simp [millC])
            have cC3 : wa.cell? ⟨w2.heap.size, 3, none⟩ = some (.int .i64 x.rule.lm) := C_a.cell 3 (by simp [millC])
            have cC4 : wa.cell? ⟨w2.heap.size, 4, none⟩ = some (.int .i64 x.rule.hm) := C_a.cell 4 (by simp [millC])
            have cC5 : wa.cell? ⟨w2.heap.size, 5, none⟩ = some (.int .i64 x.rule.ls) := C_a.cell 5 (by simp [millC])
            have cC6 : wa.cell? ⟨w2.heap.size, 6, none⟩ = some (.int .i64 x.rule.hs) := C_a.cell 6 (by simp [millC])
            have cC7 : wa.cell? ⟨w2.heap.size, 7, none⟩ = some (.int .i64 x.strand) := C_a.cell 7 (by simp [millC])
            have cC8 : wa.cell? ⟨w2.heap.size, 8, none⟩ = some (.slice ap3 x.pieces.length cp3) := C_a.cell 8 (by simp [millC])
            have cC9 : wa.cell? ⟨w2.heap.size, 9, none⟩ = some (.slice al3 x.low.length cl3) := C_a.cell 9 (by simp [millC])
            have cC10 : wa.cell? ⟨w2.heap.size, 10, none⟩ = some (.slice ah3 x.high.length ch3) := C_a.cell 10 (by simp [millC])
            have cC11 : wa.cell? ⟨w2.heap.size, 11, none⟩ = some (.int .i64 x.scrap) := C_a.cell 11 (by simp [millC])
            have fC0 := C_a.frozen 0
            have fC1 := C_a.frozen 1
            have fC2 := C_a.frozen 2
            have fC3 := C_a.frozen 3
            have fC4 := C_a.frozen 4
            have fC5 := C_a.frozen 5
            have fC6 := C_a.frozen 6
            have fC7 := C_a.frozen 7
            have fC8 := C_a.frozen 8
            have fC9 := C_a.frozen 9
            have fC10 := C_a.frozen 10
            have fC11 := C_a.frozen 11
            have cY0 : wa.cell? ⟨w4.heap.size, 0, none⟩ = some (.slice aS4 y.store.length cs4) := Y_a.cell 0 (by simp [millC])
            have cY1 : wa.cell? ⟨w4.heap.size, 1, none⟩ = some (.int .i64 y.rule.lc) := Y_a.cell 1 (by simp [millC])
            have cY2 : wa.cell? ⟨w4.heap.size, 2, none⟩ = some (.int .i64 y.rule.hc) := Y_a.cell 2 (by simp [millC])
            have cY3 : wa.cell? ⟨w4.heap.size, 3, none⟩ = some (.int .i64 y.rule.lm) := Y_a.cell 3 (by simp [millC])
            have cY4 : wa.cell? ⟨w4.heap.size, 4, none⟩ = some (.int .i64 y.rule.hm) := Y_a.cell 4 (by simp [millC])
            have cY5 : wa.cell? ⟨w4.heap.size, 5, none⟩ = some (.int .i64 y.rule.ls) := Y_a.cell 5 (by simp [millC])
            have cY6 : wa.cell? ⟨w4.heap.size, 6, none⟩ = some (.int .i64 y.rule.hs) := Y_a.cell 6 (by simp [millC])
            have cY7 : wa.cell? ⟨w4.heap.size, 7, none⟩ = some (.int .i64 y.strand) := Y_a.cell 7 (by simp [millC])
            have cY8 : wa.cell? ⟨w4.heap.size, 8, none⟩ = some (.slice ap4 y.pieces.length cp4) := Y_a.cell 8 (by simp [millC])
            have cY9 : wa.cell? ⟨w4.heap.size, 9, none⟩ = some (.slice al4 y.low.length cl4) := Y_a.cell 9 (by simp [millC])
            have cY10 : wa.cell? ⟨w4.heap.size, 10, none⟩ = some (.slice ah4 y.high.length ch4) := Y_a.cell 10 (by simp [millC])
            have cY11 : wa.cell? ⟨w4.heap.size, 11, none⟩ = some (.int .i64 y.scrap) := Y_a.cell 11 (by simp [millC])
            go_wp2_with fail
            go_roundw
            case rel =>
              have TW := other12 w2.heap.size wa (.slice aS4 y.store.length cs4) (.int .i64 y.rule.lc) (.int .i64 y.rule.hc) (.int .i64 y.rule.lm) (.int .i64 y.rule.hm) (.int .i64 y.rule.ls) (.int .i64 y.rule.hs) (.int .i64 y.strand) (.slice ap4 y.pieces.length cp4) (.slice al4 y.low.length cl4) (.slice ah4 y.high.length ch4) (.int .i64 y.scrap)
              refine ⟨kk + 1, .slice aS4 y.store.length cs4, .slice ap4 y.pieces.length cp4, .slice al4 y.low.length cl4, .slice ah4 y.high.length ch4, by omega, rfl, by rw [HS.out], HBa.out.trans (TW.below (Nat.le_refl _) (by omega)), ?_, ?_⟩
              · rw [HS.out]; exact row12 C_a rfl _ _ _ _ _ _ _ _ _ _ _ _
              · rw [HS.out]; exact (G_a.out.past C_a TW).mono (by omega)
            case measure => simp [intOf]; omega
        · obtain rfl : kk = js.length := by omega
          rw [List.take_length] at C_r G
          rw [List.take_length]
          have hkI : ¬ (js.length : Int) < (js.length : Int) := by omega
          obtain ⟨⟨x, nn⟩, hx⟩ : ∃ z, runTo m js = z := ⟨_, rfl⟩
          rw [hx] at C_r G
          rw [hx]
          have HX := hide (HZ.out.trans hx)
          have C_r : RowL wr w2.heap.size 39 (millC s3 p3 l3 h3 x) := C_r
          have G : MillGot w1.heap.size wr s3 p3 l3 h3 x := G
          have G_r := hide G
          obtain ⟨aS3, cs3, rfl, -, -⟩ := G.so.form
          obtain ⟨ap3, cp3, rfl, -, -⟩ := G.po.form
          obtain ⟨al3, cl3, rfl, -, -⟩ := G.lo.form
          obtain ⟨ah3, ch3, rfl, -, -⟩ := G.ho.form
          clear hx G
          have cC0 : wr.cell? ⟨w2.heap.size, 0, none⟩ = some (.slice aS3 x.store.length cs3) := C_r.cell 0 (by simp [millC])
          have cC1 : wr.cell? ⟨w2.heap.size, 1, none⟩ = some (.int .i64 x.rule.lc) := C_r.cell 1 (by simp [millC])
          have cC2 : wr.cell? ⟨w2.heap.size, 2, none⟩ = some (.int .i64 x.rule.hc) := C_r.cell 2 (by simp [millC])
          have cC3 : wr.cell? ⟨w2.heap.size, 3, none⟩ = some (.int .i64 x.rule.lm) := C_r.cell 3 (by simp [millC])
          have cC4 : wr.cell? ⟨w2.heap.size, 4, none⟩ = some (.int .i64 x.rule.hm) := C_r.cell 4 (by simp [millC])
          have cC5 : wr.cell? ⟨w2.heap.size, 5, none⟩ = some (.int .i64 x.rule.ls) := C_r.cell 5 (by simp [millC])
          have cC6 : wr.cell? ⟨w2.heap.size, 6, none⟩ = some (.int .i64 x.rule.hs) := C_r.cell 6 (by simp [millC])
          have cC7 : wr.cell? ⟨w2.heap.size, 7, none⟩ = some (.int .i64 x.strand) := C_r.cell 7 (by simp [millC])
          have cC8 : wr.cell? ⟨w2.heap.size, 8, none⟩ = some (.slice ap3 x.pieces.length cp3) := C_r.cell 8 (by simp [millC])
          have cC9 : wr.cell? ⟨w2.heap.size, 9, none⟩ = some (.slice al3 x.low.length cl3) := C_r.cell 9 (by simp [millC])
          have cC10 : wr.cell? ⟨w2.heap.size, 10, none⟩ = some (.slice ah3 x.high.length ch3) := C_r.cell 10 (by simp [millC])
          have cC11 : wr.cell? ⟨w2.heap.size, 11, none⟩ = some (.int .i64 x.scrap) := C_r.cell 11 (by simp [millC])
          have cR0 := R_r.c 0 rfl
          have cR1 := R_r.c 1 rfl
          have cR2 := R_r.c 2 rfl
          have cR3 := R_r.c 3 rfl
          have cR4 := R_r.c 4 rfl
          have cR5 := R_r.c 5 rfl
          have cR6 := R_r.c 6 rfl
          have cR7 := R_r.c 7 rfl
          have cR8 := R_r.c 8 rfl
          have cR9 := R_r.c 9 rfl
          have cR10 := R_r.c 10 rfl
          have cR11 := R_r.c 11 rfl
          have fR0 := R_r.frozen 0
          have fR1 := R_r.frozen 1
          have fR2 := R_r.frozen 2
          have fR3 := R_r.frozen 3
          have fR4 := R_r.frozen 4
          have fR5 := R_r.frozen 5
          have fR6 := R_r.frozen 6
          have fR7 := R_r.frozen 7
          have fR8 := R_r.frozen 8
          have fR9 := R_r.frozen 9
          have fR10 := R_r.frozen 10
          have fR11 := R_r.frozen 11
          go_wp2_with fail
          refine bodyPost_ret (by simp [results, Tryz.results16, go_sem, cR0, cR1, cR2, cR3, cR4, cR5, cR6, cR7, cR8, cR9, cR10, cR11]; try rfl) rfl ?_
          rw [HX.out]
          exact ⟨_, _, _, _, rfl, put_got G_r.out B_r.out (by omega) (by omega) (Nat.le_refl _) _ _ _ _ _ _ _ _ _ _ _ _⟩
end Go.Proofs.YtajjnciookhamaaGreat
