/-
  Parts of the proofs over mills, of: RunS, PlainRD. Conditions: each theorem states its own.
-/
import Derived.Test.YtmemgbklgcjobaaGreatDoorY27
import Derived.Test.YtmemgbklgcjobaaGreatDoorY47
set_option linter.unusedSimpArgs false
set_option linter.unusedVariables false
set_option maxRecDepth 10000
set_option maxHeartbeats 64000000
namespace Go.Proofs.YtmemgbklgcjobaaGreatDoor
open Go.RowKit
theorem run_spec (s p l h v : Value) (m : Mi) (js : List J) (w : World) (H : MillIn 0 w.heap.size w s p l h m) (Hj : JobsAt 0 w.heap.size w v js) (hr : ∀ j ∈ js, j.d ≤ 9223372036854775807 ∧ j.g ≤ 9223372036854775807) :
 Calls Tryz.prog 51 #[millV s p l h m, v] w (RunGot w.heap.size (runR m js) w) := by
 obtain ⟨ao1, cap1, rfl, -, -, -, -⟩ := id H.store;obtain ⟨ao2, cap2, rfl, -, -, -, -⟩ := id H.pieces;obtain ⟨ao3, cap3, rfl, -, -, -, -⟩ := id H.low;obtain ⟨ao4, cap4, rfl, -, -, -, -⟩ := id H.high;have HM := hide H;have HJ := hide Hj;have HR := hide hr;obtain ⟨aoj, cpj, rfl, -, -, -, -⟩ := Hj;clear H hr;unfold millV;go_enter Tryz.func51, Tryz.ntmps51;go_wp2_with fail
 refine calls_at fun wx hwx => ?_;have A_0 : RowL wx (w.heap.size) 31 [.slice ao1 m.store.length cap1, .int .i64 m.rule.lc, .int .i64 m.rule.hc, .int .i64 m.rule.lm, .int .i64 m.rule.hm, .int .i64 m.rule.ls, .int .i64 m.rule.hs, .int .i64 m.strand, .slice ao2 m.pieces.length cap2, .slice ao3 m.low.length cap3, .slice ao4 m.high.length cap4, .int .i64 m.scrap] := by rw [hwx]; exact (RowL.new _ _ _).alloc _
 have R_0 : RowL wx (w.heap.size + 1) 31 [.slice none 0 0, .int .i64 0, .int .i64 0, .int .i64 0, .int .i64 0, .int .i64 0, .int .i64 0, .int .i64 0, .slice none 0 0, .slice none 0 0, .slice none 0 0, .int .i64 0] := by rw [hwx]; simpa using (RowL.new (World.alloc _ _) 31 [.slice none 0 0, .int .i64 0, .int .i64 0, .int .i64 0, .int .i64 0, .int .i64 0, .int .i64 0, .int .i64 0, .slice none 0 0, .slice none 0 0, .slice none 0 0, .int .i64 0])
 have B_0 : Below w.heap.size w wx := by rw [hwx]; go_grown
 clear hwx;have hL0 := R_0.lt;have V_0 := hide (HM.out.below B_0);have k1 := mill_spec _ _ _ _ m wx V_0.out.all;unfold millV at k1;cases hv : millB m with
 | false =>
  rw [hv] at k1;have HZ := hide (run_bad (m := m) (l := js) (.inl hv));clear hv;refine k1.mono ?_;rintro e w1 ⟨rfl, hb⟩;have R_1 := R_0.below hb R_0.lt;have B_1 := hide (Below.step B_0 hb nl);clear hb k1;obtain ⟨cR0, cR1, cR2, cR3, cR4, cR5, cR6, cR7, cR8, cR9, cR10, cR11⟩ := row12_c R_1;obtain ⟨fR0, fR1, fR2, fR3, fR4, fR5, fR6, fR7, fR8, fR9, fR10, fR11⟩ := row12_f R_1;go_wp2_with fail
  refine bodyPost_ret (by simp [results, Tryz.results51, go_sem, cR0, cR1, cR2, cR3, cR4, cR5, cR6, cR7, cR8, cR9, cR10, cR11]; try rfl) rfl ?_;rw [HZ.out];exact ⟨_, _, _, _, rfl, zero_got B_1.out nl (by omega) _ _ _ _ _ _ _ _ _ _ _ _⟩
 | true =>
  rw [hv] at k1;obtain ⟨n1, n2, n3, n4⟩ := few_of hv;have HV := hide hv;clear hv;refine k1.mono ?_;rintro e w1 ⟨rfl, hb⟩;have A_1 := A_0.below hb A_0.lt;have R_1 := R_0.below hb R_0.lt;have V_1 := hide (V_0.out.below hb);have B_1 := hide (Below.step B_0 hb nl);have hz1 := hb.size;clear hb k1;by_cases hl : js.length ≤ 99;rotate_left
  ·have hlB : decide (99 < (js.length : Int)) = true := by simp; omega
   have HZ := hide (run_bad (m := m) (l := js) (.inr (by omega)));obtain ⟨cR0, cR1, cR2, cR3, cR4, cR5, cR6, cR7, cR8, cR9, cR10, cR11⟩ := row12_c R_1;obtain ⟨fR0, fR1, fR2, fR3, fR4, fR5, fR6, fR7, fR8, fR9, fR10, fR11⟩ := row12_f R_1;go_wp2_with fail
   refine bodyPost_ret (by simp [results, Tryz.results51, go_sem, cR0, cR1, cR2, cR3, cR4, cR5, cR6, cR7, cR8, cR9, cR10, cR11]; try rfl) rfl ?_;rw [HZ.out];exact ⟨_, _, _, _, rfl, zero_got B_1.out nl (by omega) _ _ _ _ _ _ _ _ _ _ _ _⟩
  ·have hlB : decide (99 < (js.length : Int)) = false := by simp; omega
   have HZ := hide (run_good HV.out hl);obtain ⟨cA0, cA1, cA2, cA3, cA4, cA5, cA6, cA7, cA8, cA9, cA10, cA11⟩ := row12_c A_1;go_wp2_with fail
   clear cA0 cA1 cA2 cA3 cA4 cA5 cA6 cA7 cA8 cA9 cA10 cA11;have k2 := l8Copy_any _ _ _ _ m w1 V_1.out.all n1 n2 n3 n4;unfold millV at k2;refine k2.mono ?_;clear k2;rintro e w2 ⟨s2, p2, l2, h2, rfl, G, hb⟩;have R_2 := R_1.below hb R_1.lt;have B_2 := hide (Below.step B_1.out hb nl);have hz2 := hb.size;have hL2 := R_2.lt;have J_2 := hide (HJ.out.below B_2.out);clear hb;have G_2 := hide G;obtain ⟨aS, cs, rfl, -, -⟩ := G.so.form;obtain ⟨ap, cp, rfl, -, -⟩ := G.po.form;obtain ⟨al, cl, rfl, -, -⟩ := G.lo.form;obtain ⟨ah, ch, rfl, -, -⟩ := G.ho.form;clear G;unfold millV;go_wp2_with fail
   go_loopw [7, 8] (fun n i wr => ∃ (kk : Nat) (s p l h : Value), kk ≤ js.length ∧ i = .int .i64 (kk : Int) ∧ n = .int .i64 (runTo m (js.take kk)).2 ∧ Below w2.heap.size w2 wr ∧ RowL wr w2.heap.size 31 (millC s p l h (runTo m (js.take kk)).1) ∧ MillGot w1.heap.size wr s p l h (runTo m (js.take kk)).1) (fun _ i _ => js.length - (intOf i).toNat)
   case atStart => exact ⟨0, _, _, _, _, Nat.zero_le _, rfl, rfl, (Below.refl _ _).alloc nl _, RowL.new w2 31 (millC _ _ _ _ m), G_2.out.below ((Below.refl _ _).alloc nl _)⟩
   case round =>
    obtain ⟨kk, s3, p3, l3, h3, hkk, rfl, rfl, hb, C_r, G⟩ := hrel;have R_r := R_2.below hb hL2;have B_r := hide (B_2.out.trans (hb.mono (by omega)));have HB := hide hb;have hzr := hb.size;have J_r := hide (J_2.out.keep (fun g h1 h2 => hb.block g (by omega)) hb.size);clear hb;by_cases hlt : kk < js.length
    ·have HT := hide (run_take m hlt)
     have hnb := run_bd (js.take kk) (m, 0);have hnl : (js.take kk).length = kk := by rw [List.length_take]; omega
     rw [hnl] at hnb;have hrj := HR.out _ (show js.getD kk jz ∈ js by rw [List.getD_eq_getElem?_getD, List.getElem?_eq_getElem hlt]; exact List.getElem_mem _);obtain ⟨b, ob, cpb, e1, hbj, hbj2, j0, j1, j2⟩ := jb_at J_r.out hlt;cases e1;obtain ⟨⟨x, nn⟩, hx⟩ : ∃ z, runTo m (js.take kk) = z := ⟨_, rfl⟩;have hnb2 : 0 ≤ nn ∧ nn ≤ (kk : Int) := by
      have e : ((js.take kk).foldl runS (m, 0)).2 = nn := congrArg Prod.snd hx;rw [e] at hnb;simpa using hnb
     rw [hx] at HT C_r G;rw [hx];have C_r : RowL wr w2.heap.size 31 (millC s3 p3 l3 h3 x) := C_r;have G : MillGot w1.heap.size wr s3 p3 l3 h3 x := G;obtain ⟨dj, hdj⟩ : ∃ d, js.getD kk jz = d := ⟨_, rfl⟩;rw [hdj] at HT hrj j0 j1 j2;have hkI : (kk : Int) < (js.length : Int) := by omega
     have hk0 : (0 : Int) ≤ (kk : Int) := by omega
     have hw1 : IntKind.i64.wrap ((kk : Int) + 1) = ((kk + 1 : Nat) : Int) := by rw [show (kk : Int) + 1 = ((kk + 1 : Nat) : Int) by omega]; exact IntWalk.i64_in _ (by omega)
     have hw2 : IntKind.i64.wrap (nn + 1) = nn + 1 := IntWalk.i64_in _ (by omega);obtain ⟨⟨y, ok⟩, hy⟩ : ∃ z, doR x dj = z := ⟨_, rfl⟩;have HY := hide hy;have G_r := hide G;obtain ⟨aS3, cs3, rfl, -, -⟩ := G.so.form;obtain ⟨ap3, cp3, rfl, -, -⟩ := G.po.form;obtain ⟨al3, cl3, rfl, -, -⟩ := G.lo.form;obtain ⟨ah3, ch3, rfl, -, -⟩ := G.ho.form;have hLC := C_r.lt;clear hx hdj hnl hnb G;obtain ⟨cC0, cC1, cC2, cC3, cC4, cC5, cC6, cC7, cC8, cC9, cC10, cC11⟩ := row12_c C_r;clear hy;go_wp2_with fail
     have hbL : b < wr.heap.size := by omega
     have hI : Below wr.heap.size wr wr.drew := (Below.refl _ _).drew;have hI2 : ∀ o : Obj, Below wr.heap.size wr (wr.alloc o).drew := fun o => ((Below.refl _ _).alloc nl o).drew;have HKA : Hid (∀ (W : World) (o : Obj), Below wr.heap.size wr W → Below wr.heap.size wr (W.alloc o)) := hide (fun W o H => H.alloc H.size o);have HKC : Hid (∀ W W' : World, Below W.heap.size W W' → Below wr.heap.size wr W → Below wr.heap.size wr W') := hide (fun W W' q H => Below.step H q nl);have HKS : Hid (∀ (W : World) (G : Nat) (v0 v1 v2 v3 v4 v5 v6 v7 v8 v9 v10 v11 : Value), wr.heap.size ≤ G → Below wr.heap.size wr W → Below wr.heap.size wr (((((((((((((W).setCell ⟨G, 0, none⟩ v0).setCell ⟨G, 1, none⟩ v1).setCell ⟨G, 2, none⟩ v2).setCell ⟨G, 3, none⟩ v3).setCell ⟨G, 4, none⟩ v4).setCell ⟨G, 5, none⟩ v5).setCell ⟨G, 6, none⟩ v6).setCell ⟨G, 7, none⟩ v7).setCell ⟨G, 8, none⟩ v8).setCell ⟨G, 9, none⟩ v9).setCell ⟨G, 10, none⟩ v10).setCell ⟨G, 11, none⟩ v11)) := hide (fun W G v0 v1 v2 v3 v4 v5 v6 v7 v8 v9 v10 v11 hG H => H.trans ((other12 G W v0 v1 v2 v3 v4 v5 v6 v7 v8 v9 v10 v11).below hG H.size));have HNEW : Hid (∀ (w7 : World) (s7 p7 l7 h7 : Value) (b7 : Nat), wr.heap.size ≤ b7 → Below wr.heap.size wr w7 → MillGot b7 w7 s7 p7 l7 h7 y → BoxM wr.heap.size (w7.alloc (.cells #[s7, .int .i64 y.rule.lc, .int .i64 y.rule.hc, .int .i64 y.rule.lm, .int .i64 y.rule.hm, .int .i64 y.rule.ls, .int .i64 y.rule.hs, .int .i64 y.strand, p7, l7, h7, .int .i64 y.scrap] 31)) y (.pointer (some ⟨w7.heap.size, 0, none⟩)) ∧ Below wr.heap.size wr (w7.alloc (.cells #[s7, .int .i64 y.rule.lc, .int .i64 y.rule.hc, .int .i64 y.rule.lm, .int .i64 y.rule.hm, .int .i64 y.rule.ls, .int .i64 y.rule.hs, .int .i64 y.strand, p7, l7, h7, .int .i64 y.scrap] 31))) := hide (fun w7 s7 p7 l7 h7 b7 hb hw G => ⟨boxM_new G hb hw.size, hw.alloc hw.size _⟩);have HOLD : Hid (∀ (w7 : World) (s7 p7 l7 h7 : Value), Below (wr.alloc (.cells #[.slice none 0 0, .int .i64 0, .int .i64 0, .int .i64 0, .int .i64 0, .int .i64 0, .int .i64 0, .int .i64 0, .slice none 0 0, .slice none 0 0, .slice none 0 0, .int .i64 0] 31)).drew.heap.size (wr.alloc (.cells #[.slice none 0 0, .int .i64 0, .int .i64 0, .int .i64 0, .int .i64 0, .int .i64 0, .int .i64 0, .int .i64 0, .slice none 0 0, .slice none 0 0, .slice none 0 0, .int .i64 0] 31)).drew w7 → MillGot (wr.alloc (.cells #[.slice none 0 0, .int .i64 0, .int .i64 0, .int .i64 0, .int .i64 0, .int .i64 0, .int .i64 0, .int .i64 0, .slice none 0 0, .slice none 0 0, .slice none 0 0, .int .i64 0] 31)).drew.heap.size w7 s7 p7 l7 h7 y → BoxM wr.heap.size (((((((((((((w7).setCell ⟨wr.heap.size, 0, none⟩ s7).setCell ⟨wr.heap.size, 1, none⟩ (.int .i64 y.rule.lc)).setCell ⟨wr.heap.size, 2, none⟩ (.int .i64 y.rule.hc)).setCell ⟨wr.heap.size, 3, none⟩ (.int .i64 y.rule.lm)).setCell ⟨wr.heap.size, 4, none⟩ (.int .i64 y.rule.hm)).setCell ⟨wr.heap.size, 5, none⟩ (.int .i64 y.rule.ls)).setCell ⟨wr.heap.size, 6, none⟩ (.int .i64 y.rule.hs)).setCell ⟨wr.heap.size, 7, none⟩ (.int .i64 y.strand)).setCell ⟨wr.heap.size, 8, none⟩ p7).setCell ⟨wr.heap.size, 9, none⟩ l7).setCell ⟨wr.heap.size, 10, none⟩ h7).setCell ⟨wr.heap.size, 11, none⟩ (.int .i64 y.scrap)) y (.pointer (some ⟨wr.heap.size, 0, none⟩)) ∧ Below wr.heap.size wr (((((((((((((w7).setCell ⟨wr.heap.size, 0, none⟩ s7).setCell ⟨wr.heap.size, 1, none⟩ (.int .i64 y.rule.lc)).setCell ⟨wr.heap.size, 2, none⟩ (.int .i64 y.rule.hc)).setCell ⟨wr.heap.size, 3, none⟩ (.int .i64 y.rule.lm)).setCell ⟨wr.heap.size, 4, none⟩ (.int .i64 y.rule.hm)).setCell ⟨wr.heap.size, 5, none⟩ (.int .i64 y.rule.ls)).setCell ⟨wr.heap.size, 6, none⟩ (.int .i64 y.rule.hs)).setCell ⟨wr.heap.size, 7, none⟩ (.int .i64 y.strand)).setCell ⟨wr.heap.size, 8, none⟩ p7).setCell ⟨wr.heap.size, 9, none⟩ l7).setCell ⟨wr.heap.size, 10, none⟩ h7).setCell ⟨wr.heap.size, 11, none⟩ (.int .i64 y.scrap))) := hide (fun w7 s7 p7 l7 h7 hb G =>
      have hs : Below wr.heap.size wr w7 := (((Below.refl _ _).alloc nl _).drew).trans (hb.mono (by simp))
      ⟨boxM_old ((RowL.new wr 31 [.slice none 0 0, .int .i64 0, .int .i64 0, .int .i64 0, .int .i64 0, .int .i64 0, .int .i64 0, .int .i64 0, .slice none 0 0, .slice none 0 0, .slice none 0 0, .int .i64 0]).drew.below hb (by simp)) rfl G nl (by simp), hs.trans ((other12 wr.heap.size w7 _ _ _ _ _ _ _ _ _ _ _ _).below nl hs.size)⟩)
     have hdo := fun (W : World) (q : Below wr.heap.size wr W) => do_spec (.slice aS3 x.store.length cs3) (.slice ap3 x.pieces.length cp3) (.slice al3 x.low.length cl3) (.slice ah3 x.high.length ch3) x dj W (G_r.out.below q).all hrj.1 hrj.2;rw [HY.out] at hdo;unfold millV at hdo;have HDO := hide hdo;clear hdo
     go_cut [9, 10] from 28 to 36 (fun bx okv W => BoxM wr.heap.size W y bx ∧ okv = .bool ok ∧ Below wr.heap.size wr W)
     case first =>
      go_region_with (first
       | (go_at_call 45; (with_reducible refine (HDO.out _ (by first | exact hI | exact hI2 _)).mono ?_); rintro e w7 ⟨s7, p7, l7, h7, he7, G7, hb7⟩; have he7 : e = .returned (.tuple #[millV s7 p7 l7 h7 y, .bool ok]) := he7; have G7 : MillGot _ w7 s7 p7 l7 h7 y := G7; subst he7; have hS7 := HKC.out _ _ hb7 (by first | exact hI | exact hI2 _); have hz7 := hS7.size; obtain ⟨hc7, hf7⟩ := bcell hb7; have hzz7 := hb7.size; (try simp at hzz7); have G_7 := hide G7; obtain ⟨as7, cs7, hs7, -, -⟩ := G7.so.form; obtain ⟨ap7, cp7, hp7, -, -⟩ := G7.po.form; obtain ⟨al7, cl7, hl7, -, -⟩ := G7.lo.form; obtain ⟨ah7, ch7, hh7, -, -⟩ := G7.ho.form; subst hs7 hp7 hl7 hh7; clear G7; unfold millV))
      all_goals
       have hwd : wr.drew.heap.size = wr.heap.size := rfl;clear cC0 cC1 cC2 cC3 cC4 cC5 cC6 cC7 cC8 cC9 cC10 cC11 j0 j1 j2;go_wp2_with fail
       go_meet
      all_goals
       first
        | (have hx := HNEW.out w7 (.slice as7 y.store.length cs7) (.slice ap7 y.pieces.length cp7) (.slice al7 y.low.length cl7) (.slice ah7 y.high.length ch7) _ (by first | omega | (simp; done) | (simp; omega)) hS7 G_7.out
           with_reducible exact ⟨hx.1, rfl, hx.2⟩)
        | (have hx := HOLD.out w7 (.slice as7 y.store.length cs7) (.slice ap7 y.pieces.length cp7) (.slice al7 y.low.length cl7) (.slice ah7 y.high.length ch7) hb7 G_7.out
           with_reducible exact ⟨hx.1, rfl, hx.2⟩)
     clear cC0 cC1 cC2 cC3 cC4 cC5 cC6 cC7 cC8 cC9 cC10 cC11 j0 j1 j2;obtain ⟨⟨G, s4, p4, l4, h4, rfl, hG, hrow, hgot⟩, rfl, hbw⟩ := hcut;have C_4 := C_r.below hbw C_r.lt;have G_x := hide (G_r.out.below hbw);have G_4 := hide hgot;have HB4 := hide (HB.out.trans (hbw.mono (by omega)));have hz4 := hbw.size;have hLC4 := C_4.lt;obtain ⟨aS4, cs4, rfl, -, -⟩ := hgot.so.form;obtain ⟨ap4, cp4, rfl, -, -⟩ := hgot.po.form;obtain ⟨al4, cl4, rfl, -, -⟩ := hgot.lo.form;obtain ⟨ah4, ch4, rfl, -, -⟩ := hgot.ho.form;obtain ⟨cG0, cG1, cG2, cG3, cG4, cG5, cG6, cG7, cG8, cG9, cG10, cG11⟩ := row12_c hrow;clear hgot hI hI2 hbw hrow;cases ok with
     | false =>
      have HS := hide (HT.out.trans (runS_no HY.out));go_wp2_with fail
      go_roundw
      case rel => exact ⟨kk + 1, .slice aS3 x.store.length cs3, .slice ap3 x.pieces.length cp3, .slice al3 x.low.length cl3, .slice ah3 x.high.length ch3, by omega, rfl, by rw [HS.out], HB4.out, by rw [HS.out]; exact C_4, by rw [HS.out]; exact G_x.out⟩
      case measure => simp [intOf]; omega
     | true =>
      have HS := hide (HT.out.trans (runS_yes HY.out));obtain ⟨cC0, cC1, cC2, cC3, cC4, cC5, cC6, cC7, cC8, cC9, cC10, cC11⟩ := row12_c C_4;obtain ⟨fC0, fC1, fC2, fC3, fC4, fC5, fC6, fC7, fC8, fC9, fC10, fC11⟩ := row12_f C_4;go_wp2_with fail
      go_roundw
      case rel =>
       refine ⟨kk + 1, .slice aS4 y.store.length cs4, .slice ap4 y.pieces.length cp4, .slice al4 y.low.length cl4, .slice ah4 y.high.length ch4, by omega, rfl, by rw [HS.out], HB4.out.trans ((other12 w2.heap.size _ _ _ _ _ _ _ _ _ _ _ _ _).below nl (by omega)), ?_, ?_⟩
       ·rw [HS.out]; exact row12 C_4 rfl _ _ _ _ _ _ _ _ _ _ _ _
       ·rw [HS.out]; exact (G_4.out.past C_4 (other12 _ _ _ _ _ _ _ _ _ _ _ _ _ _)).mono (by omega)
      case measure => simp [intOf]; omega
    ·obtain rfl : kk = js.length := by omega
     rw [List.take_length] at C_r G;rw [List.take_length];have hkI : ¬ (js.length : Int) < (js.length : Int) := by omega
     obtain ⟨⟨x, nn⟩, hx⟩ : ∃ z, runTo m js = z := ⟨_, rfl⟩;rw [hx] at C_r G;rw [hx];have HX := hide (HZ.out.trans hx);have C_r : RowL wr w2.heap.size 31 (millC s3 p3 l3 h3 x) := C_r;have G : MillGot w1.heap.size wr s3 p3 l3 h3 x := G;have G_r := hide G;obtain ⟨aS3, cs3, rfl, -, -⟩ := G.so.form;obtain ⟨ap3, cp3, rfl, -, -⟩ := G.po.form;obtain ⟨al3, cl3, rfl, -, -⟩ := G.lo.form;obtain ⟨ah3, ch3, rfl, -, -⟩ := G.ho.form;clear hx G;obtain ⟨cC0, cC1, cC2, cC3, cC4, cC5, cC6, cC7, cC8, cC9, cC10, cC11⟩ := row12_c C_r;obtain ⟨cR0, cR1, cR2, cR3, cR4, cR5, cR6, cR7, cR8, cR9, cR10, cR11⟩ := row12_c R_r;obtain ⟨fR0, fR1, fR2, fR3, fR4, fR5, fR6, fR7, fR8, fR9, fR10, fR11⟩ := row12_f R_r;go_wp2_with fail
     refine bodyPost_ret (by simp [results, Tryz.results51, go_sem, cR0, cR1, cR2, cR3, cR4, cR5, cR6, cR7, cR8, cR9, cR10, cR11]; try rfl) rfl ?_;rw [HX.out];exact ⟨_, _, _, _, rfl, put_got G_r.out B_r.out (by omega) (by omega) nl _ _ _ _ _ _ _ _ _ _ _ _⟩
theorem rdGo_val : ∀ (l : List UInt8) (acc m : Int), 0 ≤ acc → acc ≤ 9999 → (rdGo acc l = some m ↔ allD l ∧ valG acc l = m ∧ m ≤ 9999)
 | [], acc, m, h0, h9 => by
  simp only [rdGo, Option.some.injEq, valG, List.foldl_nil, allD, List.not_mem_nil, false_implies, implies_true, true_and];constructor
  ·rintro rfl; exact ⟨rfl, h9⟩
  ·rintro ⟨h, _⟩; exact h
 | b :: l, acc, m, h0, h9 => by
  by_cases hb : b.toNat < 48 ∨ 57 < b.toNat
  ·rw [rdGo_none hb]
   constructor
   ·intro h; cases h
   ·rintro ⟨hd, _⟩; have := hd b (by simp); omega
  ·by_cases hg : 9999 < 10 * acc + ((b.toNat : Int) - 48)
   ·rw [rdGo_big hb hg]
    constructor
    ·intro h; cases h
    ·rintro ⟨hd, hv, hm⟩
     have := valG_ge l (10 * acc + ((b.toNat : Int) - 48)) (by omega) (fun x hx => hd x (by simp [hx]));rw [valG_cons] at hv; omega
   ·rw [rdGo_step hb hg, rdGo_val l _ m (by omega) (by omega), valG_cons]
    constructor
    ·rintro ⟨hd, h⟩
     refine ⟨fun x hx => ?_, h⟩;rcases List.mem_cons.1 hx with rfl | hx
     ·omega
     ·exact hd x hx
    ·rintro ⟨hd, h⟩; exact ⟨fun x hx => hd x (by simp [hx]), h⟩
theorem lrGo_val : ∀ (l : List UInt8) (acc m : Int), (lrGo acc l = some m ↔ allD l ∧ valG acc l = m)
 | [], acc, m => by simp [lrGo, valG, allD]
 | b :: l, acc, m => by
  by_cases hb : b.toNat < 48 ∨ 57 < b.toNat
  ·rw [lrGo_none hb]
   constructor
   ·intro h; cases h
   ·rintro ⟨hd, _⟩; have := hd b (by simp); omega
  ·rw [lrGo_step hb, lrGo_val l _ m, valG_cons]
   constructor
   ·rintro ⟨hd, h⟩
    refine ⟨fun x hx => ?_, h⟩;rcases List.mem_cons.1 hx with rfl | hx
    ·omega
    ·exact hd x hx
   ·rintro ⟨hd, h⟩; exact ⟨fun x hx => hd x (by simp [hx]), h⟩
theorem snoc_cases (l : List UInt8) : l = [] ∨ ∃ a b, l = a ++ [b] := by
 rcases List.eq_nil_or_concat l with h | ⟨a, b, h⟩
 ·exact .inl h
 ·exact .inr ⟨a, b, by rw [h]; simp⟩
theorem dec_canon : ∀ (n : Nat) (l : List UInt8), l.length = n → canon l → Lib.decDigits (valG 0 l).toNat = l ∧ 0 ≤ valG 0 l
 | 0, l, hn, hc => absurd (List.length_eq_zero_iff.1 hn) hc.1
 | n + 1, l, hn, ⟨h1, h2, h3⟩ => by
  rcases snoc_cases l with h | ⟨a, b, rfl⟩
  ·exact absurd h h1
  have hb := h2 b (by simp);rw [valG_snoc];cases a with
  | nil =>
   simp only [valG, List.foldl_nil, List.nil_append];have e : (10 * 0 + ((b.toNat : Int) - 48)).toNat = b.toNat - 48 := by omega
   rw [e, Lib.decDigits, dif_pos (by omega)];refine ⟨?_, by omega⟩;congr 1;apply UInt8.toNat_inj.1;rw [byte_digit (by omega)]; omega
  | cons c a =>
   have hca : canon (c :: a) := by
    refine ⟨by simp, fun x hx => h2 x (List.mem_append_left _ hx), fun ⟨h5, h6⟩ => h3 ⟨by simpa using h5, by simp at h6 ⊢⟩⟩
   have hc48 : c.toNat ≠ 48 := fun e => h3 ⟨by simpa using e, by simp⟩;have hc2 := h2 c (by simp);have hpos : 1 ≤ valG 0 (c :: a) := by
    rw [valG_cons];have := valG_ge a (10 * 0 + ((c.toNat : Int) - 48)) (by omega) (fun x hx => h2 x (by simp [hx]));omega
   obtain ⟨i1, i2⟩ := dec_canon n (c :: a) (by simpa using hn) hca;generalize valG 0 (c :: a) = v at *;refine ⟨?_, by omega⟩;have e : (10 * v + ((b.toNat : Int) - 48)).toNat = 10 * v.toNat + (b.toNat - 48) := by omega
   rw [e, Lib.decDigits, dif_neg (by omega), show (10 * v.toNat + (b.toNat - 48)) / 10 = v.toNat by omega, i1, show (10 * v.toNat + (b.toNat - 48)) % 10 = b.toNat - 48 by omega];congr 2;apply UInt8.toNat_inj.1;rw [byte_digit (by omega)]; omega
theorem dec_len (u : Nat) : (Lib.decDigits u).length ≤ 4 ↔ u ≤ 9999 := by
 rw [Lib.decDigits_length];by_cases h1 : u < 10
 ·rw [Lib.nDigits_small h1]; omega
 rw [Lib.nDigits_big h1];by_cases h2 : u / 10 < 10
 ·rw [Lib.nDigits_small h2]; omega
 rw [Lib.nDigits_big h2];by_cases h3 : u / 10 / 10 < 10
 ·rw [Lib.nDigits_small h3]; omega
 rw [Lib.nDigits_big h3];by_cases h4 : u / 10 / 10 / 10 < 10
 ·rw [Lib.nDigits_small h4]; omega
 rw [Lib.nDigits_big h4];have : 1 ≤ Lib.nDigits (u / 10 / 10 / 10 / 10) := by
  unfold Lib.nDigits; split <;> omega
 omega
theorem canon_iff (p : ByteArray) : canon p.data.toList ↔ (p.size ≠ 0 ∧ allD p.data.toList ∧ ¬ ((p.data.toList.headD 0).toNat = 48 ∧ 1 < p.size)) := by
 unfold canon;rw [size_len];have : p.data.toList ≠ [] ↔ p.size ≠ 0 := by
  rw [← size_len];cases p.data.toList <;> simp
 rw [this]
theorem rdNum_val (p : ByteArray) (n : Int) : rdNum p = some n ↔ canon p.data.toList ∧ valG 0 p.data.toList = n ∧ n ≤ 9999 := by
 rw [canon_iff];unfold rdNum;by_cases h0 : p.size = 0
 ·rw [if_pos h0]; simp [h0]
 rw [if_neg h0];by_cases h1 : (p.data.toList.headD 0).toNat = 48 ∧ 1 < p.size
 ·rw [if_pos h1]
  constructor
  ·intro h; cases h
  ·rintro ⟨⟨_, _, h⟩, _⟩; exact absurd h1 h
 rw [if_neg h1, rdGo_val _ _ _ (by omega) (by omega)];constructor
 ·rintro ⟨a, b⟩; exact ⟨⟨h0, a, h1⟩, b⟩
 ·rintro ⟨⟨_, a, _⟩, b⟩; exact ⟨a, b⟩
theorem rdNum_iff (p : ByteArray) (n : Int) : rdNum p = some n ↔ 0 ≤ n ∧ n ≤ 9999 ∧ numB n = p := by
 rw [rdNum_val];constructor
 ·rintro ⟨hc, rfl, h9⟩
  obtain ⟨h1, h2⟩ := dec_canon _ _ rfl hc;exact ⟨h2, h9, ext_list (by rw [numB_data _ h2, h1])⟩
 ·rintro ⟨h0, h9, rfl⟩
  rw [numB_data _ h0];refine ⟨canon_dec _, ?_, h9⟩;rw [(dec_props _).2.2.1]; omega
theorem lrNum_eq (p : ByteArray) : lrNum p = (rdNum p).getD (-1) := by
 by_cases hc : canon p.data.toList
 ·obtain ⟨h1, h2⟩ := dec_canon _ _ rfl hc
  have hc' := (canon_iff p).1 hc;have hl : p.size ≤ 4 ↔ valG 0 p.data.toList ≤ 9999 := by
   have := dec_len (valG 0 p.data.toList).toNat;rw [h1, size_len] at this;rw [this]; omega
  by_cases h4 : p.size ≤ 4
  ·have hr : rdNum p = some (valG 0 p.data.toList) := (rdNum_val p _).2 ⟨hc, rfl, hl.1 h4⟩
   have hg : lrGo 0 p.data.toList = some (valG 0 p.data.toList) := (lrGo_val _ _ _).2 ⟨hc'.2.1, rfl⟩;rw [hr, lrNum, if_neg (by omega), if_neg hc'.2.2, hg]
  ·have hr : rdNum p = none := by
    cases e : rdNum p with
    | none => rfl
    | some m =>
     obtain ⟨_, h5, h6⟩ := (rdNum_val p m).1 e;exact absurd (hl.2 (by omega)) h4
   rw [hr, lrNum, if_pos (.inr (by omega))]; rfl
 ·have hr : rdNum p = none := by
   cases e : rdNum p with
   | none => rfl
   | some m => exact absurd ((rdNum_val p m).1 e).1 hc
  rw [hr, lrNum];by_cases h1 : p.size < 1 ∨ 4 < p.size
  ·rw [if_pos h1]; rfl
  rw [if_neg h1];by_cases h2 : (p.data.toList.headD 0).toNat = 48 ∧ 1 < p.size
  ·rw [if_pos h2]; rfl
  rw [if_neg h2];cases e : lrGo 0 p.data.toList with
  | none => rfl
  | some m => exact absurd ((canon_iff p).2 ⟨by omega, ((lrGo_val _ _ _).1 e).1, h2⟩) hc
theorem cut_at : ∀ (a l : List UInt8), (∀ b ∈ a, b ≠ 32) → cut32 (a ++ 32 :: l) = a :: cut32 l
 | [], l, _ => by rw [List.nil_append, cut32, if_pos rfl]
 | b :: a, l, h => by
  rw [List.cons_append, cut32, if_neg (h b (by simp)), cut_at a l (fun x hx => h x (by simp [hx]))]; rfl
theorem cut_whole : ∀ (a : List UInt8), (∀ b ∈ a, b ≠ 32) → cut32 a = [a]
 | [], _ => rfl
 | b :: a, h => by rw [cut32, if_neg (h b (by simp)), cut_whole a (fun x hx => h x (by simp [hx]))]; rfl
theorem cut_join1 : ∀ (l p : List UInt8), cut32 l = [p] → l = p
 | [], p, h => by simp [cut32] at h; exact h.symm
 | b :: l, p, h => by
  rw [cut32] at h;split at h
  ·have := cut32_ne l
   simp only [List.cons.injEq] at h;exact absurd h.2 this
  ·cases hc : cut32 l with
   | nil => exact absurd hc (cut32_ne l)
   | cons q qs =>
    rw [hc] at h;simp only [glue, List.cons.injEq] at h;obtain ⟨h1, rfl⟩ := h;rw [cut_join1 l q hc, ← h1]; rfl
theorem cut_joinc : ∀ (l p : List UInt8) (r : List (List UInt8)), cut32 l = p :: r → r ≠ [] → ∃ l', l = p ++ 32 :: l' ∧ cut32 l' = r
 | [], p, r, h, hr => by simp [cut32] at h; exact absurd h.2 hr
 | b :: l, p, r, h, hr => by
  rw [cut32] at h;split at h
  ·rename_i hb
   simp only [List.cons.injEq] at h;obtain ⟨rfl, h⟩ := h;exact ⟨l, by rw [hb]; rfl, h⟩
  ·cases hc : cut32 l with
   | nil => exact absurd hc (cut32_ne l)
   | cons q qs =>
    rw [hc] at h;simp only [glue, List.cons.injEq] at h;obtain ⟨h1, rfl⟩ := h;obtain ⟨l', e1, e2⟩ := cut_joinc l q qs hc hr;exact ⟨l', by rw [e1, ← h1]; rfl, e2⟩
theorem kind_five {k : Int} (h : 0 ≤ k ∧ k ≤ 4) : k = 0 ∨ k = 1 ∨ k = 2 ∨ k = 3 ∨ k = 4 := by omega
theorem name_no32 {k : Int} (h : 0 ≤ k ∧ k ≤ 4) : ∀ b ∈ (nameB k).data.toList, b ≠ 32 := by
 rcases kind_five h with rfl | rfl | rfl | rfl | rfl <;> decide
theorem num_no32 {n : Int} (h : 0 ≤ n) : ∀ b ∈ (numB n).data.toList, b ≠ 32 := by
 intro b hb e;rw [numB_data n h] at hb;have := (dec_props n.toNat).1 b hb;rw [e] at this;exact absurd this.1 (by decide)
theorem kind_name {k : Int} (h : 0 ≤ k ∧ k ≤ 4) : kindB (nameB k) = k := by
 rcases kind_five h with rfl | rfl | rfl | rfl | rfl <;> decide
theorem kind_back {a : ByteArray} (h : 0 ≤ kindB a) : a = nameB (kindB a) := by
 by_cases h0 : a = nameB 0
 ·rw [h0, kind_name (by omega)]
 by_cases h1 : a = nameB 1
 ·rw [h1, kind_name (by omega)]
 by_cases h2 : a = nameB 2
 ·rw [h2, kind_name (by omega)]
 by_cases h3 : a = nameB 3
 ·rw [h3, kind_name (by omega)]
 by_cases h4 : a = nameB 4
 ·rw [h4, kind_name (by omega)]
 rw [kindB, if_neg h0, if_neg h1, if_neg h2, if_neg h3, if_neg h4] at h;omega
theorem dt_one {k o : Int} (hk : wi k 0 4 = true) (ho : wi o 0 9999 = true) (h2 : twoB k = false) : (dtB k o 0).data.toList = (nameB k).data.toList ++ 32 :: (numB o).data.toList := by
 have e : dtB k o 0 = (nameB k ++ spB) ++ numB o := by
  rw [dtB, hk, ho, h2]; rfl
 rw [e];simp [spB]
theorem dt_two {k o t : Int} (hk : wi k 0 4 = true) (ho : wi o 0 9999 = true) (ht : wi t 0 9999 = true) (h2 : twoB k = true) :
 (dtB k o t).data.toList = (nameB k).data.toList ++ 32 :: ((numB o).data.toList ++ 32 :: (numB t).data.toList) := by
 have e : dtB k o t = ((nameB k ++ spB) ++ numB o) ++ spB ++ numB t := by
  rw [dtB, hk, ho, ht, h2]; rfl
 rw [e];simp [spB]
theorem good_parts {k o t : Int} {s : ByteArray} (hs : s.size ≠ 0) (h : dtB k o t = s) : wi k 0 4 = true ∧ wi o 0 9999 = true ∧ wi t 0 9999 = true ∧ (twoB k = true ∨ t = 0) := by
 rcases h1 : (wi k 0 4 && (wi o 0 9999 && (wi t 0 9999 && (twoB k || t == 0))))
 ·exfalso
  apply hs;rw [← h, dtB, h1];rfl
 ·simpa using h1
theorem good_list {k o t : Int} {s : ByteArray} {L : List ByteArray} (hL : L.map (·.data.toList) = cut32 s.data.toList) (hs : s.size ≠ 0) (h : dtB k o t = s) :
    L = if twoB k then [nameB k, numB o, numB t] else [nameB k, numB o] := by
  obtain ⟨h1, h2, h3, h4⟩ := good_parts hs h;have hk := wi_iff.1 h1;have ho := wi_iff.1 h2;have ht := wi_iff.1 h3;apply list_of_data;rw [hL, ← h];rcases h5 : twoB k
  · obtain rfl : t = 0 := by rcases h4 with h4 | h4; · rw [h5] at h4; cases h4
                             · exact h4
    rw [dt_one h1 h2 h5, cut_at _ _ (name_no32 hk), cut_whole _ (num_no32 ho.1)];rfl
  · rw [dt_two h1 h2 h3 h5, cut_at _ _ (name_no32 hk), cut_at _ _ (num_no32 ho.1), cut_whole _ (num_no32 ht.1)]
    rfl
theorem rdS_iff {s : ByteArray} {L : List ByteArray} (hL : L.map (·.data.toList) = cut32 s.data.toList) (k o t : Int) : rdS L s = some (k, o, t) ↔ s.size ≠ 0 ∧ dtB k o t = s := by
  constructor
  · intro h
    obtain ⟨K, hK⟩ : ∃ K, kindB (L.getD 0 ⟨#[]⟩) = K := ⟨_, rfl⟩;obtain ⟨O, hO⟩ : ∃ O, (if 1 < L.length then lrNum (L.getD 1 ⟨#[]⟩) else 0) = O := ⟨_, rfl⟩;obtain ⟨T, hT⟩ : ∃ T, (if 2 < L.length then lrNum (L.getD 2 ⟨#[]⟩) else 0) = T := ⟨_, rfl⟩;have e : rdS L s = if s.size = 0 ∨ dtB K O T ≠ s then none else some (K, O, T) := by rw [← hK, ← hO, ← hT]; rfl
    rw [e] at h;by_cases hn : s.size = 0 ∨ dtB K O T ≠ s
    · rw [if_pos hn] at h; cases h
    · rw [if_neg hn] at h
      simp only [Option.some.injEq, Prod.mk.injEq] at h;obtain ⟨rfl, rfl, rfl⟩ := h;exact ⟨fun e => hn (.inl e), Classical.byContradiction fun e => hn (.inr e)⟩
  · rintro ⟨hs, h⟩
    have hl := good_list hL hs h;obtain ⟨h1, h2, h3, h4⟩ := good_parts hs h;have hk := wi_iff.1 h1;have ho := wi_iff.1 h2;have ht := wi_iff.1 h3;have no : lrNum (numB o) = o := by rw [lrNum_eq, (rdNum_iff _ o).2 ⟨ho.1, ho.2, rfl⟩]; rfl
    have nt : lrNum (numB t) = t := by rw [lrNum_eq, (rdNum_iff _ t).2 ⟨ht.1, ht.2, rfl⟩]; rfl
    rcases h5 : twoB k
    · obtain rfl : t = 0 := by rcases h4 with h4 | h4; · rw [h5] at h4; cases h4
                               · exact h4
      rw [h5] at hl;simp only [Bool.false_eq_true, if_false] at hl;subst hl;unfold rdS;simp only [List.getD_cons_zero, List.getD_cons_succ, List.length_cons, List.length_nil, kind_name hk, no];rw [if_neg]
      · rfl
      · rintro (e | e)
        · exact hs e
        · exact e h
    · rw [h5] at hl
      simp only [if_true] at hl;subst hl;unfold rdS;simp only [List.getD_cons_zero, List.getD_cons_succ, List.length_cons, List.length_nil, kind_name hk, no, nt];rw [if_neg]
      · rfl
      · rintro (e | e)
        · exact hs e
        · exact e h
theorem rdI_iff {s : ByteArray} {L : List ByteArray} (hL : L.map (·.data.toList) = cut32 s.data.toList) (k o t : Int) : rdI L = some (k, o, t) ↔ s.size ≠ 0 ∧ dtB k o t = s := by
  constructor
  · intro h
    obtain ⟨K, hK⟩ : ∃ K, kindB (L.getD 0 ⟨#[]⟩) = K := ⟨_, rfl⟩;have hKr := kindB_range (L.getD 0 ⟨#[]⟩);have hb := @kind_back (L.getD 0 ⟨#[]⟩);rw [hK] at hKr hb;unfold rdI at h;simp only [hK] at h;by_cases hn : K < 0
    · rw [if_pos hn] at h; cases h
    rw [if_neg hn] at h;have hb := hb (by omega);have hk : wi K 0 4 = true := wi_iff.2 ⟨by omega, by omega⟩;rcases h5 : twoB K
    · rw [h5] at h
      simp only [Bool.false_eq_true, if_false] at h;by_cases hl : L.length = 2
      · rw [if_neg (by omega)] at h
        match L, hl, hL, hb, h with
        | [x0, x1], _, hL, hb, h =>
          simp only [List.getD_cons_zero, List.getD_cons_succ] at hb h;cases e1 : rdNum x1 with
          | none => rw [e1] at h; cases h
          | some n =>
            rw [e1] at h;simp only [Option.some.injEq, Prod.mk.injEq] at h;obtain ⟨rfl, rfl, rfl⟩ := h;obtain ⟨n0, n9, hx1⟩ := (rdNum_iff _ _).1 e1;obtain ⟨l', e2, e3⟩ := cut_joinc s.data.toList x0.data.toList [x1.data.toList] (by rw [← hL]; rfl) (by simp);have e4 := cut_join1 _ _ e3;have hd : dtB K n 0 = s := ext_list (by rw [dt_one hk (wi_iff.2 ⟨n0, n9⟩) h5, e2, e4, hb, hx1]);refine ⟨fun hz => ?_, hd⟩;rw [← size_len, e2] at hz;simp at hz
      · rw [if_pos hl] at h; cases h
    · rw [h5] at h
      simp only [if_true] at h;by_cases hl : L.length = 3
      · rw [if_neg (by omega)] at h
        match L, hl, hL, hb, h with
        | [x0, x1, x2], _, hL, hb, h =>
          simp only [List.getD_cons_zero, List.getD_cons_succ] at hb h;cases e1 : rdNum x1 with
          | none => rw [e1] at h; cases h
          | some n =>
            rw [e1] at h;cases e6 : rdNum x2 with
            | none => rw [e6] at h; cases h
            | some n2 =>
              rw [e6] at h;simp only [Option.some.injEq, Prod.mk.injEq] at h;obtain ⟨rfl, rfl, rfl⟩ := h;obtain ⟨n0, n9, hx1⟩ := (rdNum_iff _ _).1 e1;obtain ⟨m0, m9, hx2⟩ := (rdNum_iff _ _).1 e6;obtain ⟨l', e2, e3⟩ := cut_joinc s.data.toList x0.data.toList [x1.data.toList, x2.data.toList] (by rw [← hL]; rfl) (by simp);obtain ⟨l'', e7, e8⟩ := cut_joinc l' x1.data.toList [x2.data.toList] e3 (by simp);have e4 := cut_join1 _ _ e8;have hd : dtB K n n2 = s := ext_list (by rw [dt_two hk (wi_iff.2 ⟨n0, n9⟩) (wi_iff.2 ⟨m0, m9⟩) h5, e2, e7, e4, hb, hx1, hx2]);refine ⟨fun hz => ?_, hd⟩;rw [← size_len, e2] at hz;simp at hz
      · rw [if_pos hl] at h; cases h
  · rintro ⟨hs, h⟩
    have hl := good_list hL hs h;obtain ⟨h1, h2, h3, h4⟩ := good_parts hs h;have hk := wi_iff.1 h1;have ho := wi_iff.1 h2;have ht := wi_iff.1 h3;have no : rdNum (numB o) = some o := (rdNum_iff _ o).2 ⟨ho.1, ho.2, rfl⟩;have nt : rdNum (numB t) = some t := (rdNum_iff _ t).2 ⟨ht.1, ht.2, rfl⟩;rcases h5 : twoB k
    · obtain rfl : t = 0 := by rcases h4 with h4 | h4; · rw [h5] at h4; cases h4
                               · exact h4
      rw [h5] at hl;simp only [Bool.false_eq_true, if_false] at hl;subst hl;unfold rdI;simp only [List.getD_cons_zero, List.getD_cons_succ, List.length_cons, List.length_nil, kind_name hk, no, h5];rw [if_neg (by omega)];rfl
    · rw [h5] at hl
      simp only [if_true] at hl;subst hl;unfold rdI;simp only [List.getD_cons_zero, List.getD_cons_succ, List.length_cons, List.length_nil, kind_name hk, no, nt, h5];rw [if_neg (by omega)];rfl
theorem rd_same {s : ByteArray} {L M : List ByteArray} (hL : L.map (·.data.toList) = cut32 s.data.toList) (hM : M.map (·.data.toList) = cut32 s.data.toList) : rdI L = rdS M s := by
 apply Option.ext;rintro ⟨k, o, t⟩;exact (rdI_iff hL k o t).trans (rdS_iff hM k o t).symm
theorem index_sp (s : ByteArray) : Lib.indexB s spB = Lib.indexByte s.data.toList 32 := by
 show Lib.index s.data.toList spB.data.toList = _
 exact Lib.index_one s.data.toList 32
theorem cut_miss (l : List UInt8) (h : Lib.indexByte l 32 = -1) : cut32 l = [l] :=
 cut_whole l (fun b hb e => by
  obtain ⟨i, hi, e'⟩ := List.getElem_of_mem hb;exact Lib.indexByte_none h i (by rw [List.getElem?_eq_getElem hi, e', e]))
theorem cut_hit (l : List UInt8) (i : Nat) (h : Lib.indexByte l 32 = i) : cut32 l = l.take i :: cut32 (l.drop (i + 1)) := by
 obtain ⟨h1, h2⟩ := Lib.indexByte_some h;obtain ⟨hi, e⟩ := List.getElem?_eq_some_iff.1 h1;have hl : l = l.take i ++ 32 :: l.drop (i + 1) := by
  rw [← e, ← List.drop_eq_getElem_cons hi, List.take_append_drop]
 conv => lhs; rw [hl]
 refine cut_at _ _ fun b hb e => ?_;obtain ⟨j, hj, e'⟩ := List.getElem_of_mem hb;simp only [List.length_take] at hj;refine h2 j (by omega) ?_;rw [List.getElem_take] at e';rw [List.getElem?_eq_getElem (by omega), e', e]
theorem parts_cut' : ∀ (k : Nat) (s : ByteArray), Lib.countB s spB = k → (Lib.splitB spB 0 k s).map (·.data.toList) = cut32 s.data.toList
 | k, s, hk => by
  rcases Lib.indexB_cases s spB with h | ⟨i, h, hi⟩
  ·rw [Lib.splitB_miss _ _ _ _ h, cut_miss _ (by rw [← index_sp]; exact h)]
   rfl
  ·have hc := Lib.countB_hit s spB i (by decide) h
   cases k with
   | zero => omega
   | succ k =>
    rw [Lib.splitB_hit _ _ _ _ i h, List.map_cons, parts_cut' k _ (by omega), cut_hit s.data.toList i (by rw [← index_sp]; exact h)];have e1 : (s.extract 0 (i + 0)).data.toList = s.data.toList.take i := by rw [Lib.extract_data]; simp
    have e2 : (s.extract (i + spB.size) s.size).data.toList = s.data.toList.drop (i + 1) := by
     rw [Lib.extract_data];show List.take _ (List.drop (i + 1) _) = _
     rw [List.take_of_length_le];rw [List.length_drop, size_len];exact Nat.le_refl _
    rw [e1, e2]
theorem parts_cut (s : ByteArray) : (partsB s).map (·.data.toList) = cut32 s.data.toList := parts_cut' _ s rfl
theorem rd_parts {s : ByteArray} {M : List ByteArray} (hM : M.map (·.data.toList) = cut32 s.data.toList) : rdS M s = rdI (partsB s) := (rd_same (parts_cut s) hM).symm
end Go.Proofs.YtmemgbklgcjobaaGreatDoor
