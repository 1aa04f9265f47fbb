/-
  Parts of the proofs over mills, of: RunP, DoI4, DoAI, RunI, PostV. Conditions: each theorem states its own.
-/
import Derived.OpenVars
import Derived.Stop.LaidErr
import Derived.Test.YtmemgbklgcjobaaGreatDoorY46
set_option linter.unusedSimpArgs false
set_option linter.unusedVariables false
set_option maxRecDepth 10000
set_option maxHeartbeats 64000000
namespace Go.Proofs.YtmemgbklgcjobaaGreatDoor
open Go.RowKit
def jz : J := ⟨0, 0, 0⟩
theorem jb_at {lo hi : Nat} {w : World} {v : Value} {xs : List J} (h : JobsAt lo hi w v xs) {k : Nat} (hk : k < xs.length) :
 ∃ b o cap, v = .slice (some ⟨b, o, none⟩) xs.length cap ∧ lo ≤ b ∧ b < hi ∧
  (w.cell? ⟨b, o + k * 3, none⟩ = some (.int .i64 (xs.getD k jz).s) ∧ w.cell? ⟨b, o + k * 3 + 1, none⟩ = some (.int .i64 (xs.getD k jz).d) ∧ w.cell? ⟨b, o + k * 3 + 2, none⟩ = some (.int .i64 (xs.getD k jz).g)) := by
 obtain ⟨ao, cap, rfl, h1, h2, h3, h4⟩ := h;obtain ⟨b, o, rfl, b1, b2, hc⟩ := h4 (by omega);have hg : xs.getD k jz = xs[k] := by simp [hk]
 rw [hg];exact ⟨b, o, cap, rfl, b1, b2, (hc k hk).1⟩
theorem run_take (m : Mi) {js : List J} {k : Nat} (h : k < js.length) : runTo m (js.take (k + 1)) = runS (runTo m (js.take k)) (js.getD k jz) := by
 unfold runTo;rw [List.take_succ_eq_append_getElem h, List.foldl_append];simp [h]
theorem runS_no {x : Mi} {n : Int} {d : J} {y : Mi} (h : doR x d = (y, false)) : runS (x, n) d = (x, n) := by unfold runS; simp [h]
theorem runS_yes {x : Mi} {n : Int} {d : J} {y : Mi} (h : doR x d = (y, true)) : runS (x, n) d = (y, n + 1) := by unfold runS; simp [h]
def BoxM (base : Nat) (w : World) (y : Mi) (bx : Value) : Prop := ∃ G s p l h, bx = .pointer (some ⟨G, 0, none⟩) ∧ base ≤ G ∧ RowL w G 31 (millC s p l h y) ∧ MillGot base w s p l h y
theorem boxM_new {base b : Nat} {w : World} {s p l h : Value} {y : Mi} (G : MillGot b w s p l h y) (hb : base ≤ b) (hz : base ≤ w.heap.size) :
 BoxM base (w.alloc (.cells (millC s p l h y).toArray 31)) y (.pointer (some ⟨w.heap.size, 0, none⟩)) :=
 ⟨_, s, p, l, h, rfl, hz, RowL.new _ _ _, (G.below ((Below.refl _ _).alloc nl _)).mono hb⟩
theorem boxM_old {base b C : Nat} {w : World} {s p l h : Value} {y : Mi} {us : List Value} (r : RowL w C 31 us) (hl : us.length = 12) (G : MillGot b w s p l h y) (hC : base ≤ C) (hb : base ≤ b) :
 BoxM base (((((((((((((w).setCell ⟨C, 0, none⟩ s).setCell ⟨C, 1, none⟩ (.int .i64 y.rule.lc)).setCell ⟨C, 2, none⟩ (.int .i64 y.rule.hc)).setCell ⟨C, 3, none⟩ (.int .i64 y.rule.lm)).setCell ⟨C, 4, none⟩ (.int .i64 y.rule.hm)).setCell ⟨C, 5, none⟩ (.int .i64 y.rule.ls)).setCell ⟨C, 6, none⟩ (.int .i64 y.rule.hs)).setCell ⟨C, 7, none⟩ (.int .i64 y.strand)).setCell ⟨C, 8, none⟩ p).setCell ⟨C, 9, none⟩ l).setCell ⟨C, 10, none⟩ h).setCell ⟨C, 11, none⟩ (.int .i64 y.scrap)) y (.pointer (some ⟨C, 0, none⟩)) :=
 ⟨_, s, p, l, h, rfl, hC, row12 r hl _ _ _ _ _ _ _ _ _ _ _ _, (G.past r (other12 _ _ _ _ _ _ _ _ _ _ _ _ _ _)).mono hb⟩
theorem do_i4 (s p l h : Value) (m : Mi) (a b : Int) (w : World) (H : MillIn 0 w.heap.size w s p l h m) (ha : a ≤ 9223372036854775807) (hb : b ≤ 9223372036854775807) :
 Calls Tryz.prog 44 #[millV s p l h m, .agg #[.int .i64 4, .int .i64 a, .int .i64 b]] w (DoGot w.heap.size (doR m ⟨4, a, b⟩) w) := by
 obtain ⟨ao1, cap1, rfl, -, -, -, -⟩ := id H.store;obtain ⟨ao2, cap2, rfl, -, -, -, -⟩ := id H.pieces;obtain ⟨ao3, cap3, rfl, -, -, -, -⟩ := id H.low;obtain ⟨ao4, cap4, rfl, -, -, -, -⟩ := id H.high;have HM := hide H;have HA := hide (And.intro ha hb);clear H ha hb;unfold millV;go_enter Tryz.func44, Tryz.ntmps44;go_wp2_with fail
 refine calls_at fun wx hwx => ?_;have A_0 : RowL wx (w.heap.size) 31 [.slice ao1 m.store.length cap1, .int .i64 m.rule.lc, .int .i64 m.rule.hc, .int .i64 m.rule.lm, .int .i64 m.rule.hm, .int .i64 m.rule.ls, .int .i64 m.rule.hs, .int .i64 m.strand, .slice ao2 m.pieces.length cap2, .slice ao3 m.low.length cap3, .slice ao4 m.high.length cap4, .int .i64 m.scrap] := by rw [hwx]; exact (((RowL.new _ _ _).alloc _).alloc _)
 have D_0 : RowL wx (w.heap.size + 1) 48 [.int .i64 4, .int .i64 a, .int .i64 b] := by rw [hwx]; simpa using ((RowL.new (World.alloc _ _) 48 [.int .i64 4, .int .i64 a, .int .i64 b]).alloc _)
 have R_0 : RowL wx (w.heap.size + 1 + 1) 31 [.slice none 0 0, .int .i64 0, .int .i64 0, .int .i64 0, .int .i64 0, .int .i64 0, .int .i64 0, .int .i64 0, .slice none 0 0, .slice none 0 0, .slice none 0 0, .int .i64 0] := by rw [hwx]; simpa using (RowL.new (World.alloc (World.alloc _ _) _) 31 [.slice none 0 0, .int .i64 0, .int .i64 0, .int .i64 0, .int .i64 0, .int .i64 0, .int .i64 0, .int .i64 0, .slice none 0 0, .slice none 0 0, .slice none 0 0, .int .i64 0])
 have B_0 : Below w.heap.size w wx := by rw [hwx]; go_grown
 clear hwx;have hL0 := R_0.lt;have V_0 := hide (HM.out.below B_0);have k1 := mill_impl _ _ _ _ m wx V_0.out.all;unfold millV at k1;cases hv : millB m with
 | false =>
  rw [hv] at k1;have HZ := hide (do_bad hv ⟨4, a, b⟩);clear hv;refine k1.mono ?_;rintro e w1 ⟨rfl, hb⟩;have R_1 := R_0.below hb R_0.lt;have B_1 := hide (Below.step B_0 hb nl);clear hb k1;obtain ⟨cR0, cR1, cR2, cR3, cR4, cR5, cR6, cR7, cR8, cR9, cR10, cR11⟩ := row12_c R_1;obtain ⟨fR0, fR1, fR2, fR3, fR4, fR5, fR6, fR7, fR8, fR9, fR10, fR11⟩ := row12_f R_1;go_wp2_with fail
  refine bodyPost_ret (by simp [results, Tryz.results44, go_sem, cR0, cR1, cR2, cR3, cR4, cR5, cR6, cR7, cR8, cR9, cR10, cR11]; try rfl) rfl ?_;rw [HZ.out];exact ⟨_, _, _, _, rfl, zero_got B_1.out nl (by omega) _ _ _ _ _ _ _ _ _ _ _ _⟩
 | true =>
  rw [hv] at k1;obtain ⟨n1, n2, n3, n4⟩ := few_of hv;have HV := hide hv;have hD := do_good hv 4 a b;rw [step_4] at hD;clear hv;refine k1.mono ?_;rintro e w1 ⟨rfl, hb⟩;have A_1 := A_0.below hb A_0.lt;have D_1 := D_0.below hb D_0.lt;have R_1 := R_0.below hb R_0.lt;have V_1 := hide (V_0.out.below hb);have B_1 := hide (Below.step B_0 hb nl);have hz1 := hb.size;clear hb k1;obtain ⟨cA0, cA1, cA2, cA3, cA4, cA5, cA6, cA7, cA8, cA9, cA10, cA11⟩ := row12_c A_1;go_wp2_with fail
  clear cA0 cA1 cA2 cA3 cA4 cA5 cA6 cA7 cA8 cA9 cA10 cA11;have k2 := copyMill_any _ _ _ _ m w1 V_1.out.all n1 n2 n3 n4;unfold millV at k2;refine k2.mono ?_;clear k2;rintro e w2 ⟨s2, p2, l2, h2, rfl, G, hb⟩;have A_2 := A_1.below hb A_1.lt;have D_2 := D_1.below hb D_1.lt;have R_2 := R_1.below hb R_1.lt;have V_2 := hide (V_1.out.below hb);have B_2 := hide (Below.step B_1.out hb nl);have hz2 := hb.size;have hL2 := R_2.lt;have hLD := D_2.lt;have hLA := A_2.lt;clear hb;have G_2 := hide G;obtain ⟨aS, cs, rfl, -, -⟩ := G.so.form;obtain ⟨ap, cp, rfl, -, -⟩ := G.po.form;obtain ⟨al, cl, rfl, -, -⟩ := G.lo.form;obtain ⟨ah, ch, rfl, -, -⟩ := G.ho.form;clear G;unfold millV;have cD0 := D_2.c 0 rfl;have cD1 := D_2.c 1 rfl;have cD2 := D_2.c 2 rfl;go_wp2_with fail
  refine calls_at fun wy hwy => ?_;have C_y : RowL wy w2.heap.size 31 (millC (.slice aS m.store.length cs) (.slice ap m.pieces.length cp) (.slice al m.low.length cl) (.slice ah m.high.length ch) m) := by
   rw [hwy];first
    | exact (RowL.new w2 31 (millC (.slice aS m.store.length cs) (.slice ap m.pieces.length cp) (.slice al m.low.length cl) (.slice ah m.high.length ch) m))
    | exact (row12 (RowL.new w2 31 [.slice none 0 0, .int .i64 0, .int .i64 0, .int .i64 0, .int .i64 0, .int .i64 0, .int .i64 0, .int .i64 0, .slice none 0 0, .slice none 0 0, .slice none 0 0, .int .i64 0]) rfl _ _ _ _ _ _ _ _ _ _ _ _)
  have hby : Below w2.heap.size w2 wy := by
   rw [hwy];first
    | exact ((Below.refl _ _).alloc nl _)
    | exact (((Below.refl _ _).alloc nl _).trans ((other12 w2.heap.size _ _ _ _ _ _ _ _ _ _ _ _ _).below nl (by simp)))
  have A_y := A_2.below hby A_2.lt;have R_y := R_2.below hby R_2.lt;have V_y := hide (V_2.out.below hby);have B_y := hide (Below.step B_2.out hby nl);have G_y := hide (G_2.out.below hby);have hzy := hby.size;clear hwy hby;have MB : MillBox w1.heap.size w2.heap.size wy _ _ _ _ m := ⟨C_y, G_y.out, ⟨fun e => Nat.lt_irrefl _ (G_2.out.so.lt _ e).2, fun e => Nat.lt_irrefl _ (G_2.out.po.lt _ e).2, fun e => Nat.lt_irrefl _ (G_2.out.lo.lt _ e).2, fun e => Nat.lt_irrefl _ (G_2.out.ho.lt _ e).2⟩, hz2⟩;have k3 := ship_meth a MB (millB_iff.1 HV.out);obtain ⟨o, ho⟩ : ∃ o, shipD m a = o := ⟨_, rfl⟩;rw [ho] at k3 hD;have HD := hide hD;clear hD ho MB cD0 cD1 cD2;refine k3.mono ?_;clear k3;rintro e w4 ⟨rfl, hb, hx⟩;have A_4 := A_y.below hb (by omega);have R_4 := R_y.below hb (by omega);have V_4 := hide (V_y.out.low_keep hb (by omega));have B_4 := hide (B_y.out.trans (hb.mono (by omega)));have hz4 := hb.size;clear hb;rcases o with _ | x;rotate_left
  ·obtain ⟨s4, p4, l4, h4, C_4, G⟩ := hx x rfl
   have HZ := hide (show doR m ⟨4, a, b⟩ = (x, true) from HD.out);have G_4 := hide G;obtain ⟨aS4, cs4, rfl, -, -⟩ := G.so.form;obtain ⟨ap4, cp4, rfl, -, -⟩ := G.po.form;obtain ⟨al4, cl4, rfl, -, -⟩ := G.lo.form;obtain ⟨ah4, ch4, rfl, -, -⟩ := G.ho.form;clear G hx;unfold millC at C_4;obtain ⟨cC0, cC1, cC2, cC3, cC4, cC5, cC6, cC7, cC8, cC9, cC10, cC11⟩ := row12_c C_4;obtain ⟨cR0, cR1, cR2, cR3, cR4, cR5, cR6, cR7, cR8, cR9, cR10, cR11⟩ := row12_c R_4;obtain ⟨fR0, fR1, fR2, fR3, fR4, fR5, fR6, fR7, fR8, fR9, fR10, fR11⟩ := row12_f R_4;go_wp2_with fail
   refine bodyPost_ret (by simp [results, Tryz.results44, go_sem, cR0, cR1, cR2, cR3, cR4, cR5, cR6, cR7, cR8, cR9, cR10, cR11]; try rfl) rfl ?_;rw [HZ.out];exact ⟨_, _, _, _, rfl, put_got G_4.out B_4.out (by omega) (by omega) nl _ _ _ _ _ _ _ _ _ _ _ _⟩
  ·clear hx
   have HZ := hide (show doR m ⟨4, a, b⟩ = (m, false) from HD.out);obtain ⟨cA0, cA1, cA2, cA3, cA4, cA5, cA6, cA7, cA8, cA9, cA10, cA11⟩ := row12_c A_4;go_wp2_with fail
   clear cA0 cA1 cA2 cA3 cA4 cA5 cA6 cA7 cA8 cA9 cA10 cA11;have k5 := copyMill_any _ _ _ _ m w4 V_4.out.all n1 n2 n3 n4;unfold millV at k5;refine k5.mono ?_;clear k5;rintro e w5 ⟨s5, p5, l5, h5, rfl, G, hb⟩;have R_5 := R_4.below hb R_4.lt;have B_5 := hide (Below.step B_4.out hb nl);clear hb;have G_5 := hide G;obtain ⟨aS5, cs5, rfl, -, -⟩ := G.so.form;obtain ⟨ap5, cp5, rfl, -, -⟩ := G.po.form;obtain ⟨al5, cl5, rfl, -, -⟩ := G.lo.form;obtain ⟨ah5, ch5, rfl, -, -⟩ := G.ho.form;clear G;unfold millV;obtain ⟨cR0, cR1, cR2, cR3, cR4, cR5, cR6, cR7, cR8, cR9, cR10, cR11⟩ := row12_c R_5;obtain ⟨fR0, fR1, fR2, fR3, fR4, fR5, fR6, fR7, fR8, fR9, fR10, fR11⟩ := row12_f R_5;go_wp2_with fail
   refine bodyPost_ret (by simp [results, Tryz.results44, go_sem, cR0, cR1, cR2, cR3, cR4, cR5, cR6, cR7, cR8, cR9, cR10, cR11]; try rfl) rfl ?_;rw [HZ.out];exact ⟨_, _, _, _, rfl, put_got G_5.out B_5.out (by omega) (by omega) nl _ _ _ _ _ _ _ _ _ _ _ _⟩
theorem do_impl (s p l h : Value) (m : Mi) (d : J) (w : World) (H : MillIn 0 w.heap.size w s p l h m) (ha : d.d ≤ 9223372036854775807) (hb : d.g ≤ 9223372036854775807) :
 Calls Tryz.prog 44 #[millV s p l h m, .agg #[.int .i64 d.s, .int .i64 d.d, .int .i64 d.g]] w (DoGot w.heap.size (doR m d) w) := by
 obtain ⟨k, a, b⟩ := d;by_cases e0 : k = 0
 ·subst e0; exact do_i0 s p l h m a b w H ha hb
 by_cases e1 : k = 1
 ·subst e1; exact do_i1 s p l h m a b w H ha hb
 by_cases e2 : k = 2
 ·subst e2; exact do_i2 s p l h m a b w H ha hb
 by_cases e3 : k = 3
 ·subst e3; exact do_i3 s p l h m a b w H ha hb
 by_cases e4 : k = 4
 ·subst e4; exact do_i4 s p l h m a b w H ha hb
 exact do_ix s p l h m k a b w H ha hb (by simpa using e0) (by simpa using e1) (by simpa using e2) (by simpa using e3) (by simpa using e4)
theorem run_impl (s p l h v : Value) (m : Mi) (js : List J) (w : World) (H : MillIn 0 w.heap.size w s p l h m) (Hj : JobsAt 0 w.heap.size w v js) (hr : ∀ j ∈ js, j.d ≤ 9223372036854775807 ∧ j.g ≤ 9223372036854775807) :
 Calls Tryz.prog 22 #[millV s p l h m, v] w (RunGot w.heap.size (runR m js) w) := by
 obtain ⟨ao1, cap1, rfl, -, -, -, -⟩ := id H.store;obtain ⟨ao2, cap2, rfl, -, -, -, -⟩ := id H.pieces;obtain ⟨ao3, cap3, rfl, -, -, -, -⟩ := id H.low;obtain ⟨ao4, cap4, rfl, -, -, -, -⟩ := id H.high;have HM := hide H;have HJ := hide Hj;have HR := hide hr;obtain ⟨aoj, cpj, rfl, -, -, -, -⟩ := Hj;clear H hr;unfold millV;go_enter Tryz.func22, Tryz.ntmps22;go_wp2_with fail
 refine calls_at fun wx hwx => ?_;have A_0 : RowL wx (w.heap.size) 31 [.slice ao1 m.store.length cap1, .int .i64 m.rule.lc, .int .i64 m.rule.hc, .int .i64 m.rule.lm, .int .i64 m.rule.hm, .int .i64 m.rule.ls, .int .i64 m.rule.hs, .int .i64 m.strand, .slice ao2 m.pieces.length cap2, .slice ao3 m.low.length cap3, .slice ao4 m.high.length cap4, .int .i64 m.scrap] := by rw [hwx]; exact (RowL.new _ _ _).alloc _
 have R_0 : RowL wx (w.heap.size + 1) 31 [.slice none 0 0, .int .i64 0, .int .i64 0, .int .i64 0, .int .i64 0, .int .i64 0, .int .i64 0, .int .i64 0, .slice none 0 0, .slice none 0 0, .slice none 0 0, .int .i64 0] := by rw [hwx]; simpa using (RowL.new (World.alloc _ _) 31 [.slice none 0 0, .int .i64 0, .int .i64 0, .int .i64 0, .int .i64 0, .int .i64 0, .int .i64 0, .int .i64 0, .slice none 0 0, .slice none 0 0, .slice none 0 0, .int .i64 0])
 have B_0 : Below w.heap.size w wx := by rw [hwx]; go_grown
 clear hwx;have hL0 := R_0.lt;have V_0 := hide (HM.out.below B_0);have k1 := mill_impl _ _ _ _ m wx V_0.out.all;unfold millV at k1;cases hv : millB m with
 | false =>
  rw [hv] at k1;have HZ := hide (run_bad (m := m) (l := js) (.inl hv));clear hv;refine k1.mono ?_;rintro e w1 ⟨rfl, hb⟩;have R_1 := R_0.below hb R_0.lt;have B_1 := hide (Below.step B_0 hb nl);clear hb k1;obtain ⟨cR0, cR1, cR2, cR3, cR4, cR5, cR6, cR7, cR8, cR9, cR10, cR11⟩ := row12_c R_1;obtain ⟨fR0, fR1, fR2, fR3, fR4, fR5, fR6, fR7, fR8, fR9, fR10, fR11⟩ := row12_f R_1;go_wp2_with fail
  refine bodyPost_ret (by simp [results, Tryz.results22, go_sem, cR0, cR1, cR2, cR3, cR4, cR5, cR6, cR7, cR8, cR9, cR10, cR11]; try rfl) rfl ?_;rw [HZ.out];exact ⟨_, _, _, _, rfl, zero_got B_1.out nl (by omega) _ _ _ _ _ _ _ _ _ _ _ _⟩
 | true =>
  rw [hv] at k1;obtain ⟨n1, n2, n3, n4⟩ := few_of hv;have HV := hide hv;clear hv;refine k1.mono ?_;rintro e w1 ⟨rfl, hb⟩;have A_1 := A_0.below hb A_0.lt;have R_1 := R_0.below hb R_0.lt;have V_1 := hide (V_0.out.below hb);have B_1 := hide (Below.step B_0 hb nl);have hz1 := hb.size;clear hb k1;by_cases hl : js.length ≤ 99;rotate_left
  ·have hlB : decide (99 < (js.length : Int)) = true := by simp; omega
   have HZ := hide (run_bad (m := m) (l := js) (.inr (by omega)));obtain ⟨cR0, cR1, cR2, cR3, cR4, cR5, cR6, cR7, cR8, cR9, cR10, cR11⟩ := row12_c R_1;obtain ⟨fR0, fR1, fR2, fR3, fR4, fR5, fR6, fR7, fR8, fR9, fR10, fR11⟩ := row12_f R_1;go_wp2_with fail
   refine bodyPost_ret (by simp [results, Tryz.results22, go_sem, cR0, cR1, cR2, cR3, cR4, cR5, cR6, cR7, cR8, cR9, cR10, cR11]; try rfl) rfl ?_;rw [HZ.out];exact ⟨_, _, _, _, rfl, zero_got B_1.out nl (by omega) _ _ _ _ _ _ _ _ _ _ _ _⟩
  ·have hlB : decide (99 < (js.length : Int)) = false := by simp; omega
   have HZ := hide (run_good HV.out hl);obtain ⟨cA0, cA1, cA2, cA3, cA4, cA5, cA6, cA7, cA8, cA9, cA10, cA11⟩ := row12_c A_1;go_wp2_with fail
   clear cA0 cA1 cA2 cA3 cA4 cA5 cA6 cA7 cA8 cA9 cA10 cA11;have k2 := copyMill_any _ _ _ _ m w1 V_1.out.all n1 n2 n3 n4;unfold millV at k2;refine k2.mono ?_;clear k2;rintro e w2 ⟨s2, p2, l2, h2, rfl, G, hb⟩;have R_2 := R_1.below hb R_1.lt;have B_2 := hide (Below.step B_1.out hb nl);have hz2 := hb.size;have hL2 := R_2.lt;have J_2 := hide (HJ.out.below B_2.out);clear hb;have G_2 := hide G;obtain ⟨aS, cs, rfl, -, -⟩ := G.so.form;obtain ⟨ap, cp, rfl, -, -⟩ := G.po.form;obtain ⟨al, cl, rfl, -, -⟩ := G.lo.form;obtain ⟨ah, ch, rfl, -, -⟩ := G.ho.form;clear G;unfold millV;go_wp2_with fail
   go_loopw [7, 25] (fun n i wr => ∃ (kk : Nat) (s p l h : Value), kk ≤ js.length ∧ i = .int .i64 (kk : Int) ∧ n = .int .i64 (runTo m (js.take kk)).2 ∧ Below w2.heap.size w2 wr ∧ RowL wr w2.heap.size 31 (millC s p l h (runTo m (js.take kk)).1) ∧ MillGot w1.heap.size wr s p l h (runTo m (js.take kk)).1) (fun _ i _ => js.length - (intOf i).toNat)
   case atStart => exact ⟨0, _, _, _, _, Nat.zero_le _, rfl, rfl, (Below.refl _ _).alloc nl _, RowL.new w2 31 (millC _ _ _ _ m), G_2.out.below ((Below.refl _ _).alloc nl _)⟩
   case round =>
    obtain ⟨kk, s3, p3, l3, h3, hkk, rfl, rfl, hb, C_r, G⟩ := hrel;have R_r := R_2.below hb hL2;have B_r := hide (B_2.out.trans (hb.mono (by omega)));have HB := hide hb;have hzr := hb.size;have J_r := hide (J_2.out.keep (fun g h1 h2 => hb.block g (by omega)) hb.size);clear hb;by_cases hlt : kk < js.length
    ·have HT := hide (run_take m hlt)
     have hnb := run_bd (js.take kk) (m, 0);have hnl : (js.take kk).length = kk := by rw [List.length_take]; omega
     rw [hnl] at hnb;have hrj := HR.out _ (show js.getD kk jz ∈ js by rw [List.getD_eq_getElem?_getD, List.getElem?_eq_getElem hlt]; exact List.getElem_mem _);obtain ⟨b, ob, cpb, e1, hbj, hbj2, j0, j1, j2⟩ := jb_at J_r.out hlt;cases e1;obtain ⟨⟨x, nn⟩, hx⟩ : ∃ z, runTo m (js.take kk) = z := ⟨_, rfl⟩;have hnb2 : 0 ≤ nn ∧ nn ≤ (kk : Int) := by
      have e : ((js.take kk).foldl runS (m, 0)).2 = nn := congrArg Prod.snd hx;rw [e] at hnb;simpa using hnb
     rw [hx] at HT C_r G;rw [hx];have C_r : RowL wr w2.heap.size 31 (millC s3 p3 l3 h3 x) := C_r;have G : MillGot w1.heap.size wr s3 p3 l3 h3 x := G;obtain ⟨dj, hdj⟩ : ∃ d, js.getD kk jz = d := ⟨_, rfl⟩;rw [hdj] at HT hrj j0 j1 j2;have hkI : (kk : Int) < (js.length : Int) := by omega
     have hk0 : (0 : Int) ≤ (kk : Int) := by omega
     have hw1 : IntKind.i64.wrap ((kk : Int) + 1) = ((kk + 1 : Nat) : Int) := by rw [show (kk : Int) + 1 = ((kk + 1 : Nat) : Int) by omega]; exact IntWalk.i64_in _ (by omega)
     have hw2 : IntKind.i64.wrap (nn + 1) = nn + 1 := IntWalk.i64_in _ (by omega);obtain ⟨⟨y, ok⟩, hy⟩ : ∃ z, doR x dj = z := ⟨_, rfl⟩;have HY := hide hy;have G_r := hide G;obtain ⟨aS3, cs3, rfl, -, -⟩ := G.so.form;obtain ⟨ap3, cp3, rfl, -, -⟩ := G.po.form;obtain ⟨al3, cl3, rfl, -, -⟩ := G.lo.form;obtain ⟨ah3, ch3, rfl, -, -⟩ := G.ho.form;have hLC := C_r.lt;clear hx hdj hnl hnb G;obtain ⟨cC0, cC1, cC2, cC3, cC4, cC5, cC6, cC7, cC8, cC9, cC10, cC11⟩ := row12_c C_r;go_wp2_with fail
     refine calls_at fun wy hwy => ?_;have hby : Below wr.heap.size wr wy := by rw [hwy]; exact (Below.refl _ _).alloc nl _
     have C_y := C_r.below hby C_r.lt;have G_y := hide (G_r.out.below hby);have hzy := hby.size;have k3 := do_impl _ _ _ _ x dj wy G_y.out.all hrj.1 hrj.2;unfold millV at k3;rw [hy] at k3;have HBY := hide (HB.out.trans (hby.mono (by omega)));clear hwy hby hy cC0 cC1 cC2 cC3 cC4 cC5 cC6 cC7 cC8 cC9 cC10 cC11 j0 j1 j2;refine k3.mono ?_;clear k3;rintro e w4 ⟨s4, p4, l4, h4, he, G4, hb4⟩;have he : e = .returned (.tuple #[millV s4 p4 l4 h4 y, .bool ok]) := he;have G4 : MillGot wy.heap.size w4 s4 p4 l4 h4 y := G4;subst he;have C_4 := C_y.below hb4 C_y.lt;have G_4 := hide G4;have G_x := hide (G_y.out.below hb4);have HB4 := hide (HBY.out.trans (hb4.mono (by omega)));have hz4 := hb4.size;have hLC4 := C_4.lt;obtain ⟨aS4, cs4, rfl, -, -⟩ := G4.so.form;obtain ⟨ap4, cp4, rfl, -, -⟩ := G4.po.form;obtain ⟨al4, cl4, rfl, -, -⟩ := G4.lo.form;obtain ⟨ah4, ch4, rfl, -, -⟩ := G4.ho.form;clear G4 hb4;unfold millV
     go_upto_region 9 with fail
     obtain ⟨wa, hwa⟩ : ∃ wa : World, wa = w4.alloc (.cells #[.slice aS4 y.store.length cs4, .int .i64 y.rule.lc, .int .i64 y.rule.hc, .int .i64 y.rule.lm, .int .i64 y.rule.hm, .int .i64 y.rule.ls, .int .i64 y.rule.hs, .int .i64 y.strand, .slice ap4 y.pieces.length cp4, .slice al4 y.low.length cl4, .slice ah4 y.high.length ch4, .int .i64 y.scrap] 31) := ⟨_, rfl⟩;rw [← hwa];have hba : Below w4.heap.size w4 wa := by rw [hwa]; exact (Below.refl _ _).alloc nl _
     have Y_a : RowL wa w4.heap.size 31 (millC (.slice aS4 y.store.length cs4) (.slice ap4 y.pieces.length cp4) (.slice al4 y.low.length cl4) (.slice ah4 y.high.length ch4) y) := by rw [hwa]; exact RowL.new w4 31 (millC _ _ _ _ y)
     have C_a := C_4.below hba C_4.lt;have G_a := hide (G_4.out.below hba);have G_b := hide (G_x.out.below hba);have HBa := hide (HB4.out.trans (hba.mono (by omega)));have hza := hba.size;have hLa := Y_a.lt;have hLb := C_a.lt;clear hwa hba;cases ok with
     | false =>
      have HS := hide (HT.out.trans (runS_no HY.out));go_wp2_with fail
      go_roundw
      case rel =>
       refine ⟨kk + 1, .slice aS3 x.store.length cs3, .slice ap3 x.pieces.length cp3, .slice al3 x.low.length cl3, .slice ah3 x.high.length ch3, by omega, rfl, by rw [HS.out], HBa.out, ?_, ?_⟩
       ·rw [HS.out]; exact C_a
       ·rw [HS.out]; exact G_b.out
      case measure => simp [intOf]; omega
     | true =>
      have HS := hide (HT.out.trans (runS_yes HY.out));obtain ⟨cC0, cC1, cC2, cC3, cC4, cC5, cC6, cC7, cC8, cC9, cC10, cC11⟩ := row12_c C_a;obtain ⟨fC0, fC1, fC2, fC3, fC4, fC5, fC6, fC7, fC8, fC9, fC10, fC11⟩ := row12_f C_a;obtain ⟨cY0, cY1, cY2, cY3, cY4, cY5, cY6, cY7, cY8, cY9, cY10, cY11⟩ := row12_c Y_a;go_wp2_with fail
      go_roundw
      case rel =>
       have TW := other12 w2.heap.size wa (.slice aS4 y.store.length cs4) (.int .i64 y.rule.lc) (.int .i64 y.rule.hc) (.int .i64 y.rule.lm) (.int .i64 y.rule.hm) (.int .i64 y.rule.ls) (.int .i64 y.rule.hs) (.int .i64 y.strand) (.slice ap4 y.pieces.length cp4) (.slice al4 y.low.length cl4) (.slice ah4 y.high.length ch4) (.int .i64 y.scrap);refine ⟨kk + 1, .slice aS4 y.store.length cs4, .slice ap4 y.pieces.length cp4, .slice al4 y.low.length cl4, .slice ah4 y.high.length ch4, by omega, rfl, by rw [HS.out], HBa.out.trans (TW.below nl (by omega)), ?_, ?_⟩
       ·rw [HS.out]; exact row12 C_a rfl _ _ _ _ _ _ _ _ _ _ _ _
       ·rw [HS.out]; exact (G_a.out.past C_a TW).mono (by omega)
      case measure => simp [intOf]; omega
    ·obtain rfl : kk = js.length := by omega
     rw [List.take_length] at C_r G;rw [List.take_length];have hkI : ¬ (js.length : Int) < (js.length : Int) := by omega
     obtain ⟨⟨x, nn⟩, hx⟩ : ∃ z, runTo m js = z := ⟨_, rfl⟩;rw [hx] at C_r G;rw [hx];have HX := hide (HZ.out.trans hx);have C_r : RowL wr w2.heap.size 31 (millC s3 p3 l3 h3 x) := C_r;have G : MillGot w1.heap.size wr s3 p3 l3 h3 x := G;have G_r := hide G;obtain ⟨aS3, cs3, rfl, -, -⟩ := G.so.form;obtain ⟨ap3, cp3, rfl, -, -⟩ := G.po.form;obtain ⟨al3, cl3, rfl, -, -⟩ := G.lo.form;obtain ⟨ah3, ch3, rfl, -, -⟩ := G.ho.form;clear hx G;obtain ⟨cC0, cC1, cC2, cC3, cC4, cC5, cC6, cC7, cC8, cC9, cC10, cC11⟩ := row12_c C_r;obtain ⟨cR0, cR1, cR2, cR3, cR4, cR5, cR6, cR7, cR8, cR9, cR10, cR11⟩ := row12_c R_r;obtain ⟨fR0, fR1, fR2, fR3, fR4, fR5, fR6, fR7, fR8, fR9, fR10, fR11⟩ := row12_f R_r;go_wp2_with fail
     refine bodyPost_ret (by simp [results, Tryz.results22, go_sem, cR0, cR1, cR2, cR3, cR4, cR5, cR6, cR7, cR8, cR9, cR10, cR11]; try rfl) rfl ?_;rw [HX.out];exact ⟨_, _, _, _, rfl, put_got G_r.out B_r.out (by omega) (by omega) nl _ _ _ _ _ _ _ _ _ _ _ _⟩
end Go.Proofs.YtmemgbklgcjobaaGreatDoor
namespace Go.Proofs.YtmemgbklgcjobaaGreatDoor
open Go.ChangeShapes Go.WideShapes Go.Deep Go.RowKit
section
variable {H : Type} {enc : TypeId × Value → H} {P : Program}
theorem cells_of_strs {w : World} {base : Nat} {sp : Nat → Bool} {held : Bool} {fuel : Nat} {t e : TypeId} {n : Nat} {cs : List Value} {zs : List (List UInt8)} {p : List MemPlace}
 (ht : P.underlying t = some (.array n e)) (he : P.underlying e = some .string) (hce : P.cellsOf e = 1) (hct : P.cellsOf t = n)
 (h : DataW.trod enc P w base sp held fuel t cs = some (.agg (zs.map fun z => .lit (.string z)), p)) : cs = zs.map fun z => Value.string ⟨z.toArray⟩ := by
 cases fuel with
 | zero => simp [DataW.trod] at h
 | succ fuel =>
  simp only [DataW.trod, ht, hce, hct, Nat.mul_one] at h;split at h
  ·rename_i hl
   obtain ⟨xs, hm, hx⟩ := Option.map_eq_some_iff.1 h;have hxs : xs.map (·.1) = zs.map fun z => (DataW.lit (.string z) : DataW H) := by
    have := congrArg Prod.fst hx;simpa using this
   have hxl : xs.length = n := by simpa using Lib.mapM_length hm
   have hzl : zs.length = n := by
    have := congrArg List.length hxs;simp at this;omega
   apply List.ext_getElem?;intro i;by_cases hi : i < n
   ·obtain ⟨b, hb, hf⟩ := Lib.mapM_at hm i i (by simp [hi])
    obtain ⟨z, hc, rfl, _⟩ := DataW.trod_string he hf;have h1 : cs[i]? = some (.string z) := by
     have := congrArg (·[0]?) hc
     simpa [List.getElem?_take, List.getElem?_drop] using this
    have h2 : (xs.map (·.1))[i]? = some (DataW.lit (.string z.data.toList) : DataW H) := by simp [hb]
    rw [hxs] at h2;simp only [List.getElem?_map, Option.map_eq_some_iff, DataW.lit.injEq, Lit.string.injEq] at h2;obtain ⟨z', hz', e'⟩ := h2;subst e';simp [h1, hz']
   ·rw [List.getElem?_eq_none (by omega), List.getElem?_eq_none (by simp; omega)]
  ·cases h
theorem law_post_v {f : Func} {s : ChangeSpec} {apart fresh handsOn : Bool} {W W' : World} {args : Array Value} {ds gs : List (DataW H)} {before : List MemPlace} {tb : TypeId}
 (hl : laidOutB P = true) (hts : ∀ t ∈ f.params.toList, P.readableRec t = true ∧ t < P.types.size) (hr : f.resultTypes = #[tb]) (hbool : P.underlying tb = some .bool)
 (hv : varsRowed P s.vars = true) (hsf : s.fn H (ds ++ gs) = { results := [.lit (.bool true)], args := ds, vars := gs })
 (hW : DataW.Whole enc P f.params.toList s.vars apart W args.toList ds gs before) (hb : Below W.heap.size W W') :
 s.post enc P f apart fresh handsOn false W args (.bool true) W' := by
 have hlt : ∀ p ∈ before, p.block < W.heap.size := fun p hp => hW.lt p hp;have hW0 := hW;obtain ⟨p, q, hA, hV, rfl, hz, hn⟩ := hW;have hargs : ∀ sp : Nat → Bool, (∀ x ∈ p, sp x.block = true) → DataW.TrodAll enc P W' 0 sp true f.params.toList args.toList (s.fn H (ds ++ gs)).args p := fun sp hsp => by
  rw [hsf];exact trodAll_stays hl hb sp hts hA (fun x hx => hlt x (List.mem_append_left _ hx)) hsp
 have hvars : DataW.TrodVars enc P W' (fun b => decide (b < W.heap.size)) s.vars (s.fn H (ds ++ gs)).vars q := by
  rw [hsf]; exact Below.trodVars hl hb hv hV
 have hres : ∀ (b : Nat) (sp : Nat → Bool) (hd : Bool), DataW.TrodAll enc P W' b sp hd f.resultTypes.toList ((Value.bool true).resultList f.resultTypes.size) (s.fn H (ds ++ gs)).results [] := fun b sp hd => by
  rw [hsf, hr];exact trodAll_mk1 (shut_bool hbool _)
 have hold : ∀ x ∈ p, (fun b => decide (b < W.heap.size)) x.block = true := fun x hx => by simpa using hlt x (List.mem_append_left _ hx)
 refine ⟨ds, gs, p ++ q, [], p, q, hW0, hres _ _ _, hargs _ hold, hvars, World.keptBut_mono (fun x hx => ⟨hx, ?_⟩) (hb.frame (· ∈ p ++ q)), fun h => by cases h⟩
 rcases List.mem_append.1 hx with h | h
 ·exact Or.inr (Or.inl h)
 ·exact Or.inr (Or.inr h)
end
end Go.Proofs.YtmemgbklgcjobaaGreatDoor
namespace Go.Proofs.YtmemgbklgcjobaaGreatDoor
open Go.ChangeShapes Go.WideShapes Go.Deep Go.RowKit
theorem names_of {W : World} {rest : List (String × DataW Unit)} (h : laidMet Tryz.prog (("loop.example/steelmill/impl.deedNames", Rows.laid_loop_example_steelmill_impl_deedNames) :: rest) W) : NamesIs W := by
 obtain ⟨ps, ⟨g', t', cs, fuel, p, q, hg', ht', hvar, hd, _, _⟩, _⟩ := h;obtain rfl := Option.some.inj (g_names.symm.trans hg');obtain rfl : 102 = t' := Option.some.inj ((show (Tryz.prog.globals[0]?).map (·.type) = some 102 by kernel_rfl).symm.trans ht')
 unfold NamesIs;rw [hvar];have := cells_of_strs (zs := [[109, 101, 108, 116], [99, 117, 116], [114, 111, 108, 108], [108, 105, 102, 116], [115, 104, 105, 112]]) Tryz.underlying102 Tryz.underlying9 (by kernel_rfl) (by kernel_rfl) hd;congr 1;apply Array.toList_inj.1;rw [this];rfl
end Go.Proofs.YtmemgbklgcjobaaGreatDoor
