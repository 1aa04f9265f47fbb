/-
  Parts of the proofs over mills, of: RunI, JournB. Conditions: each theorem states its own.
-/
import Derived.Test.YtmemgbklgcjobaaGreatDoorX45
set_option linter.unusedSimpArgs false
set_option linter.unusedVariables false
set_option maxRecDepth 10000
namespace Go.Proofs.YtmemgbklgcjobaaGreatDoor
open Go.RowKit
set_option maxHeartbeats 16000000 in
theorem run_impl (s p l h v : Value) (m : Mi) (js : List J) (w : World) (H : MillIn 0 w.heap.size w s p l h m) (Hj : JobsAt 0 w.heap.size w v js) (hr : ∀ j ∈ js, j.d ≤ 9223372036854775807 ∧ j.g ≤ 9223372036854775807) :
    Calls Tryz.prog 22 #[millV s p l h m, v] w (RunGot w.heap.size (runR m js) w) := by
  obtain ⟨ao1, cap1, rfl, -, -, -, -⟩ := id H.store
  obtain ⟨ao2, cap2, rfl, -, -, -, -⟩ := id H.pieces
  obtain ⟨ao3, cap3, rfl, -, -, -, -⟩ := id H.low
  obtain ⟨ao4, cap4, rfl, -, -, -, -⟩ := id H.high
  have HM := hide H
  have HJ := hide Hj
  have HR := hide hr
  obtain ⟨aoj, cpj, rfl, -, -, -, -⟩ := Hj
  clear H hr
  unfold millV
  go_enter Tryz.func22, Tryz.ntmps22
  go_wp2_with fail
  refine calls_at fun wx hwx => ?_
  have A_0 : RowL wx (w.heap.size) 31 [.slice ao1 m.store.length cap1, .int .i64 m.rule.lc, .int .i64 m.rule.hc, .int .i64 m.rule.lm, .int .i64 m.rule.hm, .int .i64 m.rule.ls, .int .i64 m.rule.hs, .int .i64 m.strand, .slice ao2 m.pieces.length cap2, .slice ao3 m.low.length cap3, .slice ao4 m.high.length cap4, .int .i64 m.scrap] := by rw [hwx]; exact (RowL.new _ 31 [.slice ao1 m.store.length cap1, .int .i64 m.rule.lc, .int .i64 m.rule.hc, .int .i64 m.rule.lm, .int .i64 m.rule.hm, .int .i64 m.rule.ls, .int .i64 m.rule.hs, .int .i64 m.strand, .slice ao2 m.pieces.length cap2, .slice ao3 m.low.length cap3, .slice ao4 m.high.length cap4, .int .i64 m.scrap]).alloc _
  have R_0 : RowL wx (w.heap.size + 1) 31 [.slice none 0 0, .int .i64 0, .int .i64 0, .int .i64 0, .int .i64 0, .int .i64 0, .int .i64 0, .int .i64 0, .slice none 0 0, .slice none 0 0, .slice none 0 0, .int .i64 0] := by rw [hwx]; simpa using (RowL.new (World.alloc _ _) 31 [.slice none 0 0, .int .i64 0, .int .i64 0, .int .i64 0, .int .i64 0, .int .i64 0, .int .i64 0, .int .i64 0, .slice none 0 0, .slice none 0 0, .slice none 0 0, .int .i64 0])
  have B_0 : Below w.heap.size w wx := by rw [hwx]; go_grown
  clear hwx
  have hL0 := R_0.lt
  have V_0 := hide (HM.out.below B_0)
  have k1 := mill_impl _ _ _ _ m wx V_0.out.all
  unfold millV at k1
  cases hv : millB m with
  | false =>
    rw [hv] at k1
    have HZ := hide (run_bad (m := m) (l := js) (.inl hv))
    clear hv
    refine k1.mono ?_
    rintro e w1 ⟨rfl, hb⟩
    have R_1 := R_0.below hb R_0.lt
    have B_1 := hide (Below.step B_0 hb (Nat.le_refl _))
    clear hb k1
    obtain ⟨cR0, cR1, cR2, cR3, cR4, cR5, cR6, cR7, cR8, cR9, cR10, cR11⟩ := row12_c R_1
    obtain ⟨fR0, fR1, fR2, fR3, fR4, fR5, fR6, fR7, fR8, fR9, fR10, fR11⟩ := row12_f R_1
    go_wp2_with fail
    refine bodyPost_ret (by simp [results, Tryz.results22, go_sem, cR0, cR1, cR2, cR3, cR4, cR5, cR6, cR7, cR8, cR9, cR10, cR11]; try rfl) rfl ?_
    rw [HZ.out]
    exact ⟨_, _, _, _, rfl, zero_got B_1.out (Nat.le_refl _) (by omega) _ _ _ _ _ _ _ _ _ _ _ _⟩
  | true =>
    rw [hv] at k1
    obtain ⟨n1, n2, n3, n4⟩ := few_of hv
    have HV := hide hv
    clear hv
    refine k1.mono ?_
    rintro e w1 ⟨rfl, hb⟩
    have A_1 := A_0.below hb A_0.lt
    have R_1 := R_0.below hb R_0.lt
    have V_1 := hide (V_0.out.below hb)
    have B_1 := hide (Below.step B_0 hb (Nat.le_refl _))
    have hz1 := hb.size
    clear hb k1
    by_cases hl : js.length ≤ 99
    rotate_left
    · have hlB : decide (99 < (js.length : Int)) = true := by simp; omega
      have HZ := hide (run_bad (m := m) (l := js) (.inr (by omega)))
      obtain ⟨cR0, cR1, cR2, cR3, cR4, cR5, cR6, cR7, cR8, cR9, cR10, cR11⟩ := row12_c R_1
      obtain ⟨fR0, fR1, fR2, fR3, fR4, fR5, fR6, fR7, fR8, fR9, fR10, fR11⟩ := row12_f R_1
      go_wp2_with fail
      refine bodyPost_ret (by simp [results, Tryz.results22, go_sem, cR0, cR1, cR2, cR3, cR4, cR5, cR6, cR7, cR8, cR9, cR10, cR11]; try rfl) rfl ?_
      rw [HZ.out]
      exact ⟨_, _, _, _, rfl, zero_got B_1.out (Nat.le_refl _) (by omega) _ _ _ _ _ _ _ _ _ _ _ _⟩
    · have hlB : decide (99 < (js.length : Int)) = false := by simp; omega
      have HZ := hide (run_good HV.out hl)
      obtain ⟨cA0, cA1, cA2, cA3, cA4, cA5, cA6, cA7, cA8, cA9, cA10, cA11⟩ := row12_c A_1
      go_wp2_with fail
      clear cA0 cA1 cA2 cA3 cA4 cA5 cA6 cA7 cA8 cA9 cA10 cA11
      have k2 := copyMill_any _ _ _ _ m w1 V_1.out.all n1 n2 n3 n4
      unfold millV at k2
      refine k2.mono ?_
      clear k2
      rintro e w2 ⟨s2, p2, l2, h2, rfl, G, hb⟩
      have R_2 := R_1.below hb R_1.lt
      have B_2 := hide (Below.step B_1.out hb (Nat.le_refl _))
      have hz2 := hb.size
      have hL2 := R_2.lt
      have J_2 := hide (HJ.out.below B_2.out)
      clear hb
      have G_2 := hide G
      obtain ⟨aS, cs, rfl, -, -⟩ := G.so.form
      obtain ⟨ap, cp, rfl, -, -⟩ := G.po.form
      obtain ⟨al, cl, rfl, -, -⟩ := G.lo.form
      obtain ⟨ah, ch, rfl, -, -⟩ := G.ho.form
      clear G
      unfold millV
      go_wp2_with fail
      go_loopw [7, 25] (fun n i wr => ∃ (kk : Nat) (s p l h : Value), kk ≤ js.length ∧ i = .int .i64 (kk : Int) ∧ n = .int .i64 (runTo m (js.take kk)).2 ∧ Below w2.heap.size w2 wr ∧ RowL wr w2.heap.size 31 (millC s p l h (runTo m (js.take kk)).1) ∧ MillGot w1.heap.size wr s p l h (runTo m (js.take kk)).1) (fun _ i _ => js.length - (intOf i).toNat)
      case atStart => exact ⟨0, _, _, _, _, Nat.zero_le _, rfl, rfl, (Below.refl _ _).alloc (Nat.le_refl _) _, RowL.new w2 31 (millC _ _ _ _ m), G_2.out.below ((Below.refl _ _).alloc (Nat.le_refl _) _)⟩
      case round =>
        obtain ⟨kk, s3, p3, l3, h3, hkk, rfl, rfl, hb, C_r, G⟩ := hrel
        have R_r := R_2.below hb hL2
        have B_r := hide (B_2.out.trans (hb.mono (by omega)))
        have HB := hide hb
        have hzr := hb.size
        have J_r := hide (J_2.out.keep (fun g h1 h2 => hb.block g (by omega)) hb.size)
        clear hb
        by_cases hlt : kk < js.length
        · have HT := hide (run_take m hlt)
          have hnb := run_bd (js.take kk) (m, 0)
          have hnl : (js.take kk).length = kk := by rw [List.length_take]; omega
          rw [hnl] at hnb
          have hrj := HR.out _ (show js.getD kk jz ∈ js by rw [List.getD_eq_getElem?_getD, List.getElem?_eq_getElem hlt]; exact List.getElem_mem _)
          obtain ⟨b, ob, cpb, e1, hbj, hbj2, j0, j1, j2⟩ := jb_at J_r.out hlt
          cases e1
          obtain ⟨⟨x, nn⟩, hx⟩ : ∃ z, runTo m (js.take kk) = z := ⟨_, rfl⟩
          have hnb2 : 0 ≤ nn ∧ nn ≤ (kk : Int) := by
            have e : ((js.take kk).foldl runS (m, 0)).2 = nn := congrArg Prod.snd hx
            rw [e] at hnb
            simpa using hnb
          rw [hx] at HT C_r G
          rw [hx]
          have C_r : RowL wr w2.heap.size 31 (millC s3 p3 l3 h3 x) := C_r
          have G : MillGot w1.heap.size wr s3 p3 l3 h3 x := G
          obtain ⟨dj, hdj⟩ : ∃ d, js.getD kk jz = d := ⟨_, rfl⟩
          rw [hdj] at HT hrj j0 j1 j2
          have hkI : (kk : Int) < (js.length : Int) := by omega
          have hk0 : (0 : Int) ≤ (kk : Int) := by omega
          have hw1 : IntKind.i64.wrap ((kk : Int) + 1) = ((kk + 1 : Nat) : Int) := by rw [show (kk : Int) + 1 = ((kk + 1 : Nat) : Int) by omega]; exact IntWalk.i64_in _ (by omega)
          have hw2 : IntKind.i64.wrap (nn + 1) = nn + 1 := IntWalk.i64_in _ (by omega)
          obtain ⟨⟨y, ok⟩, hy⟩ : ∃ z, doR x dj = z := ⟨_, rfl⟩
          have HY := hide hy
          have G_r := hide G
          obtain ⟨aS3, cs3, rfl, -, -⟩ := G.so.form
          obtain ⟨ap3, cp3, rfl, -, -⟩ := G.po.form
          obtain ⟨al3, cl3, rfl, -, -⟩ := G.lo.form
          obtain ⟨ah3, ch3, rfl, -, -⟩ := G.ho.form
          have hLC := C_r.lt
          clear hx hdj hnl hnb G
          obtain ⟨cC0, cC1, cC2, cC3, cC4, cC5, cC6, cC7, cC8, cC9, cC10, cC11⟩ := row12_c C_r
          go_wp2_with fail
          refine calls_at fun wy hwy => ?_
          have hby : Below wr.heap.size wr wy := by rw [hwy]; exact (Below.refl _ _).alloc (Nat.le_refl _) _
          have C_y := C_r.below hby C_r.lt
          have G_y := hide (G_r.out.below hby)
          have hzy := hby.size
          have k3 := do_impl _ _ _ _ x dj wy G_y.out.all hrj.1 hrj.2
          unfold millV at k3
          rw [hy] at k3
          have HBY := hide (HB.out.trans (hby.mono (by omega)))
          clear hwy hby hy cC0 cC1 cC2 cC3 cC4 cC5 cC6 cC7 cC8 cC9 cC10 cC11 j0 j1 j2
          refine k3.mono ?_
          clear k3
          rintro e w4 ⟨s4, p4, l4, h4, he, G4, hb4⟩
          have he : e = .returned (.tuple #[millV s4 p4 l4 h4 y, .bool ok]) := he
          have G4 : MillGot wy.heap.size w4 s4 p4 l4 h4 y := G4
          subst he
          have C_4 := C_y.below hb4 C_y.lt
          have G_4 := hide G4
          have G_x := hide (G_y.out.below hb4)
          have HB4 := hide (HBY.out.trans (hb4.mono (by omega)))
          have hz4 := hb4.size
          have hLC4 := C_4.lt
          obtain ⟨aS4, cs4, rfl, -, -⟩ := G4.so.form
          obtain ⟨ap4, cp4, rfl, -, -⟩ := G4.po.form
          obtain ⟨al4, cl4, rfl, -, -⟩ := G4.lo.form
          obtain ⟨ah4, ch4, rfl, -, -⟩ := G4.ho.form
          clear G4 hb4
          unfold millV
          go_upto_region 9 with fail
          obtain ⟨wa, hwa⟩ : ∃ wa : World, wa = w4.alloc (.cells #[.slice aS4 y.store.length cs4, .int .i64 y.rule.lc, .int .i64 y.rule.hc, .int .i64 y.rule.lm, .int .i64 y.rule.hm, .int .i64 y.rule.ls, .int .i64 y.rule.hs, .int .i64 y.strand, .slice ap4 y.pieces.length cp4, .slice al4 y.low.length cl4, .slice ah4 y.high.length ch4, .int .i64 y.scrap] 31) := ⟨_, rfl⟩
          rw [← hwa]
          have hba : Below w4.heap.size w4 wa := by rw [hwa]; exact (Below.refl _ _).alloc (Nat.le_refl _) _
          have Y_a : RowL wa w4.heap.size 31 (millC (.slice aS4 y.store.length cs4) (.slice ap4 y.pieces.length cp4) (.slice al4 y.low.length cl4) (.slice ah4 y.high.length ch4) y) := by rw [hwa]; exact RowL.new w4 31 (millC _ _ _ _ y)
          have C_a := C_4.below hba C_4.lt
          have G_a := hide (G_4.out.below hba)
          have G_b := hide (G_x.out.below hba)
          have HBa := hide (HB4.out.trans (hba.mono (by omega)))
          have hza := hba.size
          have hLa := Y_a.lt
          have hLb := C_a.lt
          clear hwa hba
          cases ok with
          | false =>
            have HS := hide (HT.out.trans (runS_no HY.out))
            go_wp2_with fail
            go_roundw
            case rel =>
              refine ⟨kk + 1, .slice aS3 x.store.length cs3, .slice ap3 x.pieces.length cp3, .slice al3 x.low.length cl3, .slice ah3 x.high.length ch3, by omega, rfl, by rw [HS.out], HBa.out, ?_, ?_⟩
              · rw [HS.out]; exact C_a
              · rw [HS.out]; exact G_b.out
            case measure => simp [intOf]; omega
          | true =>
            have HS := hide (HT.out.trans (runS_yes HY.out))
            obtain ⟨cC0, cC1, cC2, cC3, cC4, cC5, cC6, cC7, cC8, cC9, cC10, cC11⟩ := row12_c C_a
            obtain ⟨fC0, fC1, fC2, fC3, fC4, fC5, fC6, fC7, fC8, fC9, fC10, fC11⟩ := row12_f C_a
            obtain ⟨cY0, cY1, cY2, cY3, cY4, cY5, cY6, cY7, cY8, cY9, cY10, cY11⟩ := row12_c Y_a
            go_wp2_with fail
            go_roundw
            case rel =>
              have TW := other12 w2.heap.size wa (.slice aS4 y.store.length cs4) (.int .i64 y.rule.lc) (.int .i64 y.rule.hc) (.int .i64 y.rule.lm) (.int .i64 y.rule.hm) (.int .i64 y.rule.ls) (.int .i64 y.rule.hs) (.int .i64 y.strand) (.slice ap4 y.pieces.length cp4) (.slice al4 y.low.length cl4) (.slice ah4 y.high.length ch4) (.int .i64 y.scrap)
              refine ⟨kk + 1, .slice aS4 y.store.length cs4, .slice ap4 y.pieces.length cp4, .slice al4 y.low.length cl4, .slice ah4 y.high.length ch4, by omega, rfl, by rw [HS.out], HBa.out.trans (TW.below (Nat.le_refl _) (by omega)), ?_, ?_⟩
              · rw [HS.out]; exact row12 C_a rfl _ _ _ _ _ _ _ _ _ _ _ _
              · rw [HS.out]; exact (G_a.out.past C_a TW).mono (by omega)
            case measure => simp [intOf]; omega
        · obtain rfl : kk = js.length := by omega
          rw [List.take_length] at C_r G
          rw [List.take_length]
          have hkI : ¬ (js.length : Int) < (js.length : Int) := by omega
          obtain ⟨⟨x, nn⟩, hx⟩ : ∃ z, runTo m js = z := ⟨_, rfl⟩
          rw [hx] at C_r G
          rw [hx]
          have HX := hide (HZ.out.trans hx)
          have C_r : RowL wr w2.heap.size 31 (millC s3 p3 l3 h3 x) := C_r
          have G : MillGot w1.heap.size wr s3 p3 l3 h3 x := G
          have G_r := hide G
          obtain ⟨aS3, cs3, rfl, -, -⟩ := G.so.form
          obtain ⟨ap3, cp3, rfl, -, -⟩ := G.po.form
          obtain ⟨al3, cl3, rfl, -, -⟩ := G.lo.form
          obtain ⟨ah3, ch3, rfl, -, -⟩ := G.ho.form
          clear hx G
          obtain ⟨cC0, cC1, cC2, cC3, cC4, cC5, cC6, cC7, cC8, cC9, cC10, cC11⟩ := row12_c C_r
          obtain ⟨cR0, cR1, cR2, cR3, cR4, cR5, cR6, cR7, cR8, cR9, cR10, cR11⟩ := row12_c R_r
          obtain ⟨fR0, fR1, fR2, fR3, fR4, fR5, fR6, fR7, fR8, fR9, fR10, fR11⟩ := row12_f R_r
          go_wp2_with fail
          refine bodyPost_ret (by simp [results, Tryz.results22, go_sem, cR0, cR1, cR2, cR3, cR4, cR5, cR6, cR7, cR8, cR9, cR10, cR11]; try rfl) rfl ?_
          rw [HX.out]
          exact ⟨_, _, _, _, rfl, put_got G_r.out B_r.out (by omega) (by omega) (Nat.le_refl _) _ _ _ _ _ _ _ _ _ _ _ _⟩
theorem line_at {l : List UInt8} {n i : Nat} (hni : n ≤ i) (h10 : 10 ∉ (l.drop n).take (i - n)) {r : List UInt8} (hd : l.drop i = 10 :: r) :
    10 ∈ l.drop n ∧ (l.drop n).takeWhile (· != 10) = (l.drop n).take (i - n) ∧ ((l.drop n).takeWhile (· != 10)).length = i - n := by
  have e : l.drop n = (l.drop n).take (i - n) ++ 10 :: r := by
    conv => lhs; rw [← List.take_append_drop (i - n) (l.drop n)]
    rw [List.drop_drop, show n + (i - n) = i by omega, hd]
  have h2 : (l.drop n).takeWhile (· != 10) = (l.drop n).take (i - n) := by
    conv => lhs; rw [e]
    exact tw_app h10
  refine ⟨?_, h2, ?_⟩
  · rw [e]; simp
  · have hl := congrArg List.length hd
    simp only [List.length_drop, List.length_cons] at hl
    rw [h2, List.length_take, List.length_drop]
    omega
theorem no10_step {l : List UInt8} {n i : Nat} (hni : n ≤ i) (h10 : 10 ∉ (l.drop n).take (i - n)) {u : UInt8} {r : List UInt8} (hd : l.drop i = u :: r) (hu : u ≠ 10) : 10 ∉ (l.drop n).take (i + 1 - n) := by
  have e : (l.drop n)[i - n]? = some u := by
    rw [List.getElem?_drop, show n + (i - n) = i + 0 by omega, ← List.getElem?_drop, hd]; rfl
  rw [show i + 1 - n = (i - n) + 1 by omega, List.take_add_one, e]
  simp only [Option.toList_some, List.mem_append, List.mem_singleton, not_or]
  exact ⟨h10, fun e => hu e.symm⟩
set_option maxHeartbeats 1600000 in
theorem readJournal_spec (s : ByteArray) (w : World) (hs : s.size < 4294967281) :
    Calls Tryz.prog 63 #[.string s] w fun e w' => ∃ v, e = .returned (.tuple #[v, .int .i64 ((rjR s).2 : Int)]) ∧ w'.ownsRow w.heap.size 48 3 v (rjR s).1.length (flatD (rjR s).1) ∧ Below w.heap.size w w' := by
  obtain ⟨j0, hj0, hzj, hj1, hj2⟩ := info_parts info_J
  go_enter Tryz.func63, Tryz.ntmps63
  go_wp2_with fail
  go_loopw [4, 5, 6, 7, 8] (fun o n i _ _ wr => ∃ (D : List J) (a k f : Nat), RjSt s D a f ∧ a ≤ k ∧ k ≤ s.size ∧ (10 : UInt8) ∉ (s.data.toList.drop a).take (k - a) ∧ n = .int .i64 a ∧ i = .int .i64 k ∧ Below w.heap.size w wr ∧ wr.ownsRow w.heap.size 48 3 o D.length (flatD D)) (fun _ _ i _ _ _ => s.size - (intOf i).toNat)
  case atStart => exact ⟨[], 0, 0, 99, .start s, Nat.le_refl _, Nat.zero_le _, by simp, rfl, rfl, by go_grown, by simpa [flatD] using World.ownsRow_lit (e := 48) (size := 3) (base := w.heap.size) w #[] 0 (Nat.le_refl _) (by unfold maxLen; omega) (by simp)⟩
  case round =>
    obtain ⟨D, a, k, f, hst, hak, hk, h10, rfl, rfl, hb, hown⟩ := hrel
    have HB := hide hb
    have HO := hide hown
    have HST := hide hst
    have H10 := hide h10
    have hDf := hst.len
    have hszr := hb.size
    obtain ⟨aow, capw, rfl, -, -⟩ := own_slice hown
    clear hown hst hb h10
    by_cases hlt : k < s.size
    · have hkI : (k : Int) < (s.size : Int) := by omega
      by_cases hD : D.length < 99
      · have hlI : (D.length : Int) < 99 := by omega
        obtain ⟨f, rfl⟩ : ∃ g, f = g + 1 := ⟨f - 1, by omega⟩
        have HD := hide (drop_byte s k hlt)
        obtain ⟨u, hu⟩ : ∃ u, s[k]'hlt = u := ⟨_, rfl⟩
        rw [hu] at HD
        obtain ⟨b, hb⟩ : ∃ b : Nat, u.toNat = b := ⟨_, rfl⟩
        have hk0 : (0 : Int) ≤ (k : Int) := by omega
        by_cases h1 : b = 10
        · subst h1
          have hu10 : u = 10 := by
            apply UInt8.toNat_inj.1
            rw [hb]; rfl
          have hL := line_at hak H10.out (hu10 ▸ HD.out)
          obtain ⟨B, hB⟩ : ∃ B : ByteArray, s.extract a k = B := ⟨_, rfl⟩
          have hBd : B.data.toList = (s.data.toList.drop a).takeWhile (· != 10) := by rw [← hB, ext_data, hL.2.1]
          have hBs : B.size = k - a := by rw [← size_len, hBd, hL.2.2]
          have HSTEP := hide (fun d hd => HST.out.step (d := d) hL.1 hd)
          have HBAD := hide (fun hd => HST.out.over (rjGo_bad hd))
          rw [hL.2.2] at HSTEP
          simp only [rdL_of hBd] at HSTEP HBAD
          have ha0 : (0 : Int) ≤ (a : Int) := by omega
          have haki : (a : Int) ≤ (k : Int) := by omega
          have hksi : (k : Int) ≤ (s.size : Int) := by omega
          have hrd := readDeed_spec B wr (by omega)
          clear hu10 hL hBd
          go_wp2_with fail
          refine hrd.mono ?_
          rintro e w2 ⟨⟨xs, hx, rfl⟩, hb2⟩
          rw [rd_parts hx]
          have HB2 := hide (Below.step HB.out hb2 (Nat.le_refl _))
          have HO2 := hide (ownsRow_below HO.out hb2 (Nat.le_refl _))
          have hz2 := HB2.out.size
          clear hb2 hrd hx hB
          rcases hr : rdI (partsB B) with _ | ⟨x, y, z⟩
          · rw [hr] at HBAD
            have HR := hide (HBAD.out rfl)
            clear HBAD HSTEP hr
            simp only [deedV]
            go_wp2_with fail
            go_ret2
            rw [HR.out]
            exact ⟨_, rfl, HO2.out.alloc _, HB2.out.alloc hz2 _⟩
          · rw [hr] at HSTEP
            have HR := hide (HSTEP.out ⟨x, y, z⟩ rfl)
            clear HBAD HSTEP hr
            simp only [deedV]
            go_wp2_with (at_builtin; refine wpList_append_view rfl _ _ 39 rfl w.heap.size 48 j0 _ 3 24 Tryz.underlying39 hj0 hzj hj1 hj2 rfl (by decide) _ _ _ rfl ((HO2.out.alloc _).alloc _) (.slice (some ⟨w2.heap.size + 1, 0, none⟩) 1 1) 1 [.int .i64 x, .int .i64 y, .int .i64 z] rfl ?c0 ?c1 ?c2 ?c3 ?_)
            case c0 => simpa using Source.lit (World.alloc w2 _) [.int .i64 x, .int .i64 y, .int .i64 z] 3 48 1 rfl (fun u hu => by simp at hu; rcases hu with rfl | rfl | rfl <;> rfl) 1
            case c1 => unfold maxLen; omega
            case c2 => omega
            case c3 => simp; omega
            intro v2 w3 hown2 hgrow2 _
            have hB3 := ((HB2.out.alloc hz2 (.cells #[.int .i64 x, .int .i64 y, .int .i64 z] 48)).alloc (by simp; omega) (.cells #[.int .i64 x, .int .i64 y, .int .i64 z] 48)).trans (Below.grow hgrow2 ((HO2.out.alloc _).alloc _) (Nat.le_refl _) (by simp; omega))
            have HB3 := hide hB3
            have HO3 := hide (show w3.ownsRow w.heap.size 48 3 v2 (D ++ [(⟨x, y, z⟩ : J)]).length (flatD (D ++ [⟨x, y, z⟩])) by rw [flatD_append, List.length_append]; exact hown2)
            have hR := HR.out
            rw [show a + (k - a + 1) = k + 1 by omega] at hR
            have HR2 := hide hR
            clear hown2 hgrow2 hB3 hR
            go_wp2_with fail
            go_roundw
            case rel => exact ⟨D ++ [⟨x, y, z⟩], k + 1, k + 1, f, HR2.out, Nat.le_refl _, by omega, by simp, by go_num, by go_num, HB3.out, HO3.out⟩
            case measure => simp [intOf]; omega
        · have hbB : ((b : Int) == 10) = false := by simp; omega
          have hu10 : u ≠ 10 := fun e => h1 (by rw [← hb, e]; rfl)
          have HN := hide (no10_step hak H10.out HD.out hu10)
          clear hu10
          go_wp2_with fail
          go_roundw
          case rel => exact ⟨D, a, k + 1, f + 1, HST.out, by omega, by omega, HN.out, rfl, by go_num, HB.out, HO.out⟩
          case measure => simp [intOf]; omega
      · have hlI : ¬ (D.length : Int) < 99 := by omega
        obtain rfl : f = 0 := by omega
        have HR := hide (HST.out.over rfl)
        go_wp2_with fail
        go_ret2
        rw [HR.out]
        exact ⟨_, rfl, HO.out, HB.out⟩
    · obtain rfl : k = s.size := by omega
      have HR := hide (HST.out.over (rjGo_no (by
        have := H10.out
        rwa [List.take_of_length_le (by rw [List.length_drop, size_len]; exact Nat.le_refl _)] at this)))
      have hkI : ¬ (s.size : Int) < (s.size : Int) := by omega
      go_wp2_with fail
      go_ret2
      rw [HR.out]
      exact ⟨_, rfl, HO.out, HB.out⟩
end Go.Proofs.YtmemgbklgcjobaaGreatDoor
