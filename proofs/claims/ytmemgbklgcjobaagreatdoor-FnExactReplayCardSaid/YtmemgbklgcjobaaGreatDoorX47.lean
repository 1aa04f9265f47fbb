/-
  Parts of the proofs over mills, of: RunS. Conditions: each theorem states its own.
-/
import Derived.Test.YtmemgbklgcjobaaGreatDoorX45
set_option linter.unusedSimpArgs false
set_option linter.unusedVariables false
set_option maxRecDepth 10000
namespace Go.Proofs.YtmemgbklgcjobaaGreatDoor
open Go.RowKit
set_option maxHeartbeats 16000000 in
theorem run_spec (s p l h v : Value) (m : Mi) (js : List J) (w : World) (H : MillIn 0 w.heap.size w s p l h m) (Hj : JobsAt 0 w.heap.size w v js) (hr : ∀ j ∈ js, j.d ≤ 9223372036854775807 ∧ j.g ≤ 9223372036854775807) :
    Calls Tryz.prog 51 #[millV s p l h m, v] w (RunGot w.heap.size (runR m js) w) := by
  obtain ⟨ao1, cap1, rfl, -, -, -, -⟩ := id H.store
  obtain ⟨ao2, cap2, rfl, -, -, -, -⟩ := id H.pieces
  obtain ⟨ao3, cap3, rfl, -, -, -, -⟩ := id H.low
  obtain ⟨ao4, cap4, rfl, -, -, -, -⟩ := id H.high
  have HM := hide H
  have HJ := hide Hj
  have HR := hide hr
  obtain ⟨aoj, cpj, rfl, -, -, -, -⟩ := Hj
  clear H hr
  unfold millV
  go_enter Tryz.func51, Tryz.ntmps51
  go_wp2_with fail
  refine calls_at fun wx hwx => ?_
  have A_0 : RowL wx (w.heap.size) 31 [.slice ao1 m.store.length cap1, .int .i64 m.rule.lc, .int .i64 m.rule.hc, .int .i64 m.rule.lm, .int .i64 m.rule.hm, .int .i64 m.rule.ls, .int .i64 m.rule.hs, .int .i64 m.strand, .slice ao2 m.pieces.length cap2, .slice ao3 m.low.length cap3, .slice ao4 m.high.length cap4, .int .i64 m.scrap] := by rw [hwx]; exact (RowL.new _ 31 [.slice ao1 m.store.length cap1, .int .i64 m.rule.lc, .int .i64 m.rule.hc, .int .i64 m.rule.lm, .int .i64 m.rule.hm, .int .i64 m.rule.ls, .int .i64 m.rule.hs, .int .i64 m.strand, .slice ao2 m.pieces.length cap2, .slice ao3 m.low.length cap3, .slice ao4 m.high.length cap4, .int .i64 m.scrap]).alloc _
  have R_0 : RowL wx (w.heap.size + 1) 31 [.slice none 0 0, .int .i64 0, .int .i64 0, .int .i64 0, .int .i64 0, .int .i64 0, .int .i64 0, .int .i64 0, .slice none 0 0, .slice none 0 0, .slice none 0 0, .int .i64 0] := by rw [hwx]; simpa using (RowL.new (World.alloc _ _) 31 [.slice none 0 0, .int .i64 0, .int .i64 0, .int .i64 0, .int .i64 0, .int .i64 0, .int .i64 0, .int .i64 0, .slice none 0 0, .slice none 0 0, .slice none 0 0, .int .i64 0])
  have B_0 : Below w.heap.size w wx := by rw [hwx]; go_grown
  clear hwx
  have hL0 := R_0.lt
  have V_0 := hide (HM.out.below B_0)
  have k1 := mill_spec _ _ _ _ m wx V_0.out.all
  unfold millV at k1
  cases hv : millB m with
  | false =>
    rw [hv] at k1
    have HZ := hide (run_bad (m := m) (l := js) (.inl hv))
    clear hv
    refine k1.mono ?_
    rintro e w1 ⟨rfl, hb⟩
    have R_1 := R_0.below hb R_0.lt
    have B_1 := hide (Below.step B_0 hb (Nat.le_refl _))
    clear hb k1
    obtain ⟨cR0, cR1, cR2, cR3, cR4, cR5, cR6, cR7, cR8, cR9, cR10, cR11⟩ := row12_c R_1
    obtain ⟨fR0, fR1, fR2, fR3, fR4, fR5, fR6, fR7, fR8, fR9, fR10, fR11⟩ := row12_f R_1
    go_wp2_with fail
    refine bodyPost_ret (by simp [results, Tryz.results51, go_sem, cR0, cR1, cR2, cR3, cR4, cR5, cR6, cR7, cR8, cR9, cR10, cR11]; try rfl) rfl ?_
    rw [HZ.out]
    exact ⟨_, _, _, _, rfl, zero_got B_1.out (Nat.le_refl _) (by omega) _ _ _ _ _ _ _ _ _ _ _ _⟩
  | true =>
    rw [hv] at k1
    obtain ⟨n1, n2, n3, n4⟩ := few_of hv
    have HV := hide hv
    clear hv
    refine k1.mono ?_
    rintro e w1 ⟨rfl, hb⟩
    have A_1 := A_0.below hb A_0.lt
    have R_1 := R_0.below hb R_0.lt
    have V_1 := hide (V_0.out.below hb)
    have B_1 := hide (Below.step B_0 hb (Nat.le_refl _))
    have hz1 := hb.size
    clear hb k1
    by_cases hl : js.length ≤ 99
    rotate_left
    · have hlB : decide (99 < (js.length : Int)) = true := by simp; omega
      have HZ := hide (run_bad (m := m) (l := js) (.inr (by omega)))
      obtain ⟨cR0, cR1, cR2, cR3, cR4, cR5, cR6, cR7, cR8, cR9, cR10, cR11⟩ := row12_c R_1
      obtain ⟨fR0, fR1, fR2, fR3, fR4, fR5, fR6, fR7, fR8, fR9, fR10, fR11⟩ := row12_f R_1
      go_wp2_with fail
      refine bodyPost_ret (by simp [results, Tryz.results51, go_sem, cR0, cR1, cR2, cR3, cR4, cR5, cR6, cR7, cR8, cR9, cR10, cR11]; try rfl) rfl ?_
      rw [HZ.out]
      exact ⟨_, _, _, _, rfl, zero_got B_1.out (Nat.le_refl _) (by omega) _ _ _ _ _ _ _ _ _ _ _ _⟩
    · have hlB : decide (99 < (js.length : Int)) = false := by simp; omega
      have HZ := hide (run_good HV.out hl)
      obtain ⟨cA0, cA1, cA2, cA3, cA4, cA5, cA6, cA7, cA8, cA9, cA10, cA11⟩ := row12_c A_1
      go_wp2_with fail
      clear cA0 cA1 cA2 cA3 cA4 cA5 cA6 cA7 cA8 cA9 cA10 cA11
      have k2 := l8Copy_any _ _ _ _ m w1 V_1.out.all n1 n2 n3 n4
      unfold millV at k2
      refine k2.mono ?_
      clear k2
      rintro e w2 ⟨s2, p2, l2, h2, rfl, G, hb⟩
      have R_2 := R_1.below hb R_1.lt
      have B_2 := hide (Below.step B_1.out hb (Nat.le_refl _))
      have hz2 := hb.size
      have hL2 := R_2.lt
      have J_2 := hide (HJ.out.below B_2.out)
      clear hb
      have G_2 := hide G
      obtain ⟨aS, cs, rfl, -, -⟩ := G.so.form
      obtain ⟨ap, cp, rfl, -, -⟩ := G.po.form
      obtain ⟨al, cl, rfl, -, -⟩ := G.lo.form
      obtain ⟨ah, ch, rfl, -, -⟩ := G.ho.form
      clear G
      unfold millV
      go_wp2_with fail
      go_loopw [7, 8] (fun n i wr => ∃ (kk : Nat) (s p l h : Value), kk ≤ js.length ∧ i = .int .i64 (kk : Int) ∧ n = .int .i64 (runTo m (js.take kk)).2 ∧ Below w2.heap.size w2 wr ∧ RowL wr w2.heap.size 31 (millC s p l h (runTo m (js.take kk)).1) ∧ MillGot w1.heap.size wr s p l h (runTo m (js.take kk)).1) (fun _ i _ => js.length - (intOf i).toNat)
      case atStart => exact ⟨0, _, _, _, _, Nat.zero_le _, rfl, rfl, (Below.refl _ _).alloc (Nat.le_refl _) _, RowL.new w2 31 (millC _ _ _ _ m), G_2.out.below ((Below.refl _ _).alloc (Nat.le_refl _) _)⟩
      case round =>
        obtain ⟨kk, s3, p3, l3, h3, hkk, rfl, rfl, hb, C_r, G⟩ := hrel
        have R_r := R_2.below hb hL2
        have B_r := hide (B_2.out.trans (hb.mono (by omega)))
        have HB := hide hb
        have hzr := hb.size
        have J_r := hide (J_2.out.keep (fun g h1 h2 => hb.block g (by omega)) hb.size)
        clear hb
        by_cases hlt : kk < js.length
        · have HT := hide (run_take m hlt)
          have hnb := run_bd (js.take kk) (m, 0)
          have hnl : (js.take kk).length = kk := by rw [List.length_take]; omega
          rw [hnl] at hnb
          have hrj := HR.out _ (show js.getD kk jz ∈ js by rw [List.getD_eq_getElem?_getD, List.getElem?_eq_getElem hlt]; exact List.getElem_mem _)
          obtain ⟨b, ob, cpb, e1, hbj, hbj2, j0, j1, j2⟩ := jb_at J_r.out hlt
          cases e1
          obtain ⟨⟨x, nn⟩, hx⟩ : ∃ z, runTo m (js.take kk) = z := ⟨_, rfl⟩
          have hnb2 : 0 ≤ nn ∧ nn ≤ (kk : Int) := by
            have e : ((js.take kk).foldl runS (m, 0)).2 = nn := congrArg Prod.snd hx
            rw [e] at hnb
            simpa using hnb
          rw [hx] at HT C_r G
          rw [hx]
          have C_r : RowL wr w2.heap.size 31 (millC s3 p3 l3 h3 x) := C_r
          have G : MillGot w1.heap.size wr s3 p3 l3 h3 x := G
          obtain ⟨dj, hdj⟩ : ∃ d, js.getD kk jz = d := ⟨_, rfl⟩
          rw [hdj] at HT hrj j0 j1 j2
          have hkI : (kk : Int) < (js.length : Int) := by omega
          have hk0 : (0 : Int) ≤ (kk : Int) := by omega
          have hw1 : IntKind.i64.wrap ((kk : Int) + 1) = ((kk + 1 : Nat) : Int) := by rw [show (kk : Int) + 1 = ((kk + 1 : Nat) : Int) by omega]; exact IntWalk.i64_in _ (by omega)
          have hw2 : IntKind.i64.wrap (nn + 1) = nn + 1 := IntWalk.i64_in _ (by omega)
          obtain ⟨⟨y, ok⟩, hy⟩ : ∃ z, doR x dj = z := ⟨_, rfl⟩
          have HY := hide hy
          have G_r := hide G
          obtain ⟨aS3, cs3, rfl, -, -⟩ := G.so.form
          obtain ⟨ap3, cp3, rfl, -, -⟩ := G.po.form
          obtain ⟨al3, cl3, rfl, -, -⟩ := G.lo.form
          obtain ⟨ah3, ch3, rfl, -, -⟩ := G.ho.form
          have hLC := C_r.lt
          clear hx hdj hnl hnb G
          obtain ⟨cC0, cC1, cC2, cC3, cC4, cC5, cC6, cC7, cC8, cC9, cC10, cC11⟩ := row12_c C_r
          clear hy
          go_wp2_with fail
          have hbL : b < wr.heap.size := by omega
          have hI : Below wr.heap.size wr wr.drew := (Below.refl _ _).drew
          have hI2 : ∀ o : Obj, Below wr.heap.size wr (wr.alloc o).drew := fun o => ((Below.refl _ _).alloc (Nat.le_refl _) o).drew
          have HKA : Hid (∀ (W : World) (o : Obj), Below wr.heap.size wr W → Below wr.heap.size wr (W.alloc o)) := hide (fun W o H => H.alloc H.size o)
          have HKC : Hid (∀ W W' : World, Below W.heap.size W W' → Below wr.heap.size wr W → Below wr.heap.size wr W') := hide (fun W W' q H => Below.step H q (Nat.le_refl _))
          have HKS : Hid (∀ (W : World) (G : Nat) (v0 v1 v2 v3 v4 v5 v6 v7 v8 v9 v10 v11 : Value), wr.heap.size ≤ G → Below wr.heap.size wr W → Below wr.heap.size wr (((((((((((((W).setCell ⟨G, 0, none⟩ v0).setCell ⟨G, 1, none⟩ v1).setCell ⟨G, 2, none⟩ v2).setCell ⟨G, 3, none⟩ v3).setCell ⟨G, 4, none⟩ v4).setCell ⟨G, 5, none⟩ v5).setCell ⟨G, 6, none⟩ v6).setCell ⟨G, 7, none⟩ v7).setCell ⟨G, 8, none⟩ v8).setCell ⟨G, 9, none⟩ v9).setCell ⟨G, 10, none⟩ v10).setCell ⟨G, 11, none⟩ v11)) := hide (fun W G v0 v1 v2 v3 v4 v5 v6 v7 v8 v9 v10 v11 hG H => H.trans ((other12 G W v0 v1 v2 v3 v4 v5 v6 v7 v8 v9 v10 v11).below hG H.size))
          have HNEW : Hid (∀ (w7 : World) (s7 p7 l7 h7 : Value) (b7 : Nat), wr.heap.size ≤ b7 → Below wr.heap.size wr w7 → MillGot b7 w7 s7 p7 l7 h7 y → BoxM wr.heap.size (w7.alloc (.cells #[s7, .int .i64 y.rule.lc, .int .i64 y.rule.hc, .int .i64 y.rule.lm, .int .i64 y.rule.hm, .int .i64 y.rule.ls, .int .i64 y.rule.hs, .int .i64 y.strand, p7, l7, h7, .int .i64 y.scrap] 31)) y (.pointer (some ⟨w7.heap.size, 0, none⟩)) ∧ Below wr.heap.size wr (w7.alloc (.cells #[s7, .int .i64 y.rule.lc, .int .i64 y.rule.hc, .int .i64 y.rule.lm, .int .i64 y.rule.hm, .int .i64 y.rule.ls, .int .i64 y.rule.hs, .int .i64 y.strand, p7, l7, h7, .int .i64 y.scrap] 31))) := hide (fun w7 s7 p7 l7 h7 b7 hb hw G => ⟨boxM_new G hb hw.size, hw.alloc hw.size _⟩)
          have HOLD : Hid (∀ (w7 : World) (s7 p7 l7 h7 : Value), Below (wr.alloc (.cells #[.slice none 0 0, .int .i64 0, .int .i64 0, .int .i64 0, .int .i64 0, .int .i64 0, .int .i64 0, .int .i64 0, .slice none 0 0, .slice none 0 0, .slice none 0 0, .int .i64 0] 31)).drew.heap.size (wr.alloc (.cells #[.slice none 0 0, .int .i64 0, .int .i64 0, .int .i64 0, .int .i64 0, .int .i64 0, .int .i64 0, .int .i64 0, .slice none 0 0, .slice none 0 0, .slice none 0 0, .int .i64 0] 31)).drew w7 → MillGot (wr.alloc (.cells #[.slice none 0 0, .int .i64 0, .int .i64 0, .int .i64 0, .int .i64 0, .int .i64 0, .int .i64 0, .int .i64 0, .slice none 0 0, .slice none 0 0, .slice none 0 0, .int .i64 0] 31)).drew.heap.size w7 s7 p7 l7 h7 y → BoxM wr.heap.size (((((((((((((w7).setCell ⟨wr.heap.size, 0, none⟩ s7).setCell ⟨wr.heap.size, 1, none⟩ (.int .i64 y.rule.lc)).setCell ⟨wr.heap.size, 2, none⟩ (.int .i64 y.rule.hc)).setCell ⟨wr.heap.size, 3, none⟩ (.int .i64 y.rule.lm)).setCell ⟨wr.heap.size, 4, none⟩ (.int .i64 y.rule.hm)).setCell ⟨wr.heap.size, 5, none⟩ (.int .i64 y.rule.ls)).setCell ⟨wr.heap.size, 6, none⟩ (.int .i64 y.rule.hs)).setCell ⟨wr.heap.size, 7, none⟩ (.int .i64 y.strand)).setCell ⟨wr.heap.size, 8, none⟩ p7).setCell ⟨wr.heap.size, 9, none⟩ l7).setCell ⟨wr.heap.size, 10, none⟩ h7).setCell ⟨wr.heap.size, 11, none⟩ (.int .i64 y.scrap)) y (.pointer (some ⟨wr.heap.size, 0, none⟩)) ∧ Below wr.heap.size wr (((((((((((((w7).setCell ⟨wr.heap.size, 0, none⟩ s7).setCell ⟨wr.heap.size, 1, none⟩ (.int .i64 y.rule.lc)).setCell ⟨wr.heap.size, 2, none⟩ (.int .i64 y.rule.hc)).setCell ⟨wr.heap.size, 3, none⟩ (.int .i64 y.rule.lm)).setCell ⟨wr.heap.size, 4, none⟩ (.int .i64 y.rule.hm)).setCell ⟨wr.heap.size, 5, none⟩ (.int .i64 y.rule.ls)).setCell ⟨wr.heap.size, 6, none⟩ (.int .i64 y.rule.hs)).setCell ⟨wr.heap.size, 7, none⟩ (.int .i64 y.strand)).setCell ⟨wr.heap.size, 8, none⟩ p7).setCell ⟨wr.heap.size, 9, none⟩ l7).setCell ⟨wr.heap.size, 10, none⟩ h7).setCell ⟨wr.heap.size, 11, none⟩ (.int .i64 y.scrap))) := hide (fun w7 s7 p7 l7 h7 hb G =>
            have hs : Below wr.heap.size wr w7 := (((Below.refl _ _).alloc (Nat.le_refl _) _).drew).trans (hb.mono (by simp))
            ⟨boxM_old ((RowL.new wr 31 [.slice none 0 0, .int .i64 0, .int .i64 0, .int .i64 0, .int .i64 0, .int .i64 0, .int .i64 0, .int .i64 0, .slice none 0 0, .slice none 0 0, .slice none 0 0, .int .i64 0]).drew.below hb (by simp)) rfl G (Nat.le_refl _) (by simp), hs.trans ((other12 wr.heap.size w7 _ _ _ _ _ _ _ _ _ _ _ _).below (Nat.le_refl _) hs.size)⟩)
          have hdo := fun (W : World) (q : Below wr.heap.size wr W) => do_spec (.slice aS3 x.store.length cs3) (.slice ap3 x.pieces.length cp3) (.slice al3 x.low.length cl3) (.slice ah3 x.high.length ch3) x dj W (G_r.out.below q).all hrj.1 hrj.2
          rw [HY.out] at hdo
          unfold millV at hdo
          have HDO := hide hdo
          clear hdo
          go_cut [9, 10] from 28 to 36 (fun bx okv W => BoxM wr.heap.size W y bx ∧ okv = .bool ok ∧ Below wr.heap.size wr W)
          case first =>
            go_region_with (first
              | (go_at_call 45; (with_reducible refine (HDO.out _ (by first | exact hI | exact hI2 _)).mono ?_); rintro e w7 ⟨s7, p7, l7, h7, he7, G7, hb7⟩; have he7 : e = .returned (.tuple #[millV s7 p7 l7 h7 y, .bool ok]) := he7; have G7 : MillGot _ w7 s7 p7 l7 h7 y := G7; subst he7; have hS7 := HKC.out _ _ hb7 (by first | exact hI | exact hI2 _); have hz7 := hS7.size; obtain ⟨hc7, hf7⟩ := bcell hb7; have hzz7 := hb7.size; (try simp at hzz7); have G_7 := hide G7; obtain ⟨as7, cs7, hs7, -, -⟩ := G7.so.form; obtain ⟨ap7, cp7, hp7, -, -⟩ := G7.po.form; obtain ⟨al7, cl7, hl7, -, -⟩ := G7.lo.form; obtain ⟨ah7, ch7, hh7, -, -⟩ := G7.ho.form; subst hs7 hp7 hl7 hh7; clear G7; unfold millV))
            all_goals
              have hwd : wr.drew.heap.size = wr.heap.size := rfl
              clear cC0 cC1 cC2 cC3 cC4 cC5 cC6 cC7 cC8 cC9 cC10 cC11 j0 j1 j2
              go_wp2_with fail
              go_meet
            all_goals
              first
                | (have hx := HNEW.out w7 (.slice as7 y.store.length cs7) (.slice ap7 y.pieces.length cp7) (.slice al7 y.low.length cl7) (.slice ah7 y.high.length ch7) _ (by first | omega | (simp; done) | (simp; omega)) hS7 G_7.out
                   with_reducible exact ⟨hx.1, rfl, hx.2⟩)
                | (have hx := HOLD.out w7 (.slice as7 y.store.length cs7) (.slice ap7 y.pieces.length cp7) (.slice al7 y.low.length cl7) (.slice ah7 y.high.length ch7) hb7 G_7.out
                   with_reducible exact ⟨hx.1, rfl, hx.2⟩)
          clear cC0 cC1 cC2 cC3 cC4 cC5 cC6 cC7 cC8 cC9 cC10 cC11 j0 j1 j2
          obtain ⟨⟨G, s4, p4, l4, h4, rfl, hG, hrow, hgot⟩, rfl, hbw⟩ := hcut
          have C_4 := C_r.below hbw C_r.lt
          have G_x := hide (G_r.out.below hbw)
          have G_4 := hide hgot
          have HB4 := hide (HB.out.trans (hbw.mono (by omega)))
          have hz4 := hbw.size
          have hLC4 := C_4.lt
          obtain ⟨aS4, cs4, rfl, -, -⟩ := hgot.so.form
          obtain ⟨ap4, cp4, rfl, -, -⟩ := hgot.po.form
          obtain ⟨al4, cl4, rfl, -, -⟩ := hgot.lo.form
          obtain ⟨ah4, ch4, rfl, -, -⟩ := hgot.ho.form
          obtain ⟨cG0, cG1, cG2, cG3, cG4, cG5, cG6, cG7, cG8, cG9, cG10, cG11⟩ := row12_c hrow
          clear hgot hI hI2 hbw hrow
          cases ok with
          | false =>
            have HS := hide (HT.out.trans (runS_no HY.out))
            go_wp2_with fail
            go_roundw
            case rel => exact ⟨kk + 1, .slice aS3 x.store.length cs3, .slice ap3 x.pieces.length cp3, .slice al3 x.low.length cl3, .slice ah3 x.high.length ch3, by omega, rfl, by rw [HS.out], HB4.out, by rw [HS.out]; exact C_4, by rw [HS.out]; exact G_x.out⟩
            case measure => simp [intOf]; omega
          | true =>
            have HS := hide (HT.out.trans (runS_yes HY.out))
            obtain ⟨cC0, cC1, cC2, cC3, cC4, cC5, cC6, cC7, cC8, cC9, cC10, cC11⟩ := row12_c C_4
            obtain ⟨fC0, fC1, fC2, fC3, fC4, fC5, fC6, fC7, fC8, fC9, fC10, fC11⟩ := row12_f C_4
            go_wp2_with fail
            go_roundw
            case rel =>
              refine ⟨kk + 1, .slice aS4 y.store.length cs4, .slice ap4 y.pieces.length cp4, .slice al4 y.low.length cl4, .slice ah4 y.high.length ch4, by omega, rfl, by rw [HS.out], HB4.out.trans ((other12 w2.heap.size _ _ _ _ _ _ _ _ _ _ _ _ _).below (Nat.le_refl _) (by omega)), ?_, ?_⟩
              · rw [HS.out]; exact row12 C_4 rfl _ _ _ _ _ _ _ _ _ _ _ _
              · rw [HS.out]; exact (G_4.out.past C_4 (other12 _ _ _ _ _ _ _ _ _ _ _ _ _ _)).mono (by omega)
            case measure => simp [intOf]; omega
        · obtain rfl : kk = js.length := by omega
          rw [List.take_length] at C_r G
          rw [List.take_length]
          have hkI : ¬ (js.length : Int) < (js.length : Int) := by omega
          obtain ⟨⟨x, nn⟩, hx⟩ : ∃ z, runTo m js = z := ⟨_, rfl⟩
          rw [hx] at C_r G
          rw [hx]
          have HX := hide (HZ.out.trans hx)
          have C_r : RowL wr w2.heap.size 31 (millC s3 p3 l3 h3 x) := C_r
          have G : MillGot w1.heap.size wr s3 p3 l3 h3 x := G
          have G_r := hide G
          obtain ⟨aS3, cs3, rfl, -, -⟩ := G.so.form
          obtain ⟨ap3, cp3, rfl, -, -⟩ := G.po.form
          obtain ⟨al3, cl3, rfl, -, -⟩ := G.lo.form
          obtain ⟨ah3, ch3, rfl, -, -⟩ := G.ho.form
          clear hx G
          obtain ⟨cC0, cC1, cC2, cC3, cC4, cC5, cC6, cC7, cC8, cC9, cC10, cC11⟩ := row12_c C_r
          obtain ⟨cR0, cR1, cR2, cR3, cR4, cR5, cR6, cR7, cR8, cR9, cR10, cR11⟩ := row12_c R_r
          obtain ⟨fR0, fR1, fR2, fR3, fR4, fR5, fR6, fR7, fR8, fR9, fR10, fR11⟩ := row12_f R_r
          go_wp2_with fail
          refine bodyPost_ret (by simp [results, Tryz.results51, go_sem, cR0, cR1, cR2, cR3, cR4, cR5, cR6, cR7, cR8, cR9, cR10, cR11]; try rfl) rfl ?_
          rw [HX.out]
          exact ⟨_, _, _, _, rfl, put_got G_r.out B_r.out (by omega) (by omega) (Nat.le_refl _) _ _ _ _ _ _ _ _ _ _ _ _⟩
end Go.Proofs.YtmemgbklgcjobaaGreatDoor
