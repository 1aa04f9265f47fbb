/-
  Parts of the proofs over mills, of: Spoil, DoI2, DoI4. Conditions: each theorem states its own.
-/
import Derived.Test.YtkhecelpafojdaaGreatDoorF35
import Derived.Test.YtkhecelpafojdaaGreatDoorF37
import Derived.Test.YtkhecelpafojdaaGreatDoorF42
set_option linter.unusedSimpArgs false
set_option linter.unusedVariables false
set_option maxRecDepth 10000
set_option maxHeartbeats 64000000
namespace Go.Proofs.YtkhecelpafojdaaGreatDoor
open Go.RowKit
def sixL : List Value := [.string ⟨#[]⟩, .string ⟨#[48]⟩, .string ⟨#[32]⟩, .string ⟨#[10]⟩, .string ⟨#[57]⟩, .string ⟨#[109, 101, 108, 116]⟩]
theorem six_at : ∀ j, j < 6 → ∃ z : ByteArray, sixL[j]? = some (.string z) ∧ z.size ≤ 4
 | 0, _ => ⟨_, rfl, by decide⟩
 | 1, _ => ⟨_, rfl, by decide⟩
 | 2, _ => ⟨_, rfl, by decide⟩
 | 3, _ => ⟨_, rfl, by decide⟩
 | 4, _ => ⟨_, rfl, by decide⟩
 | 5, _ => ⟨_, rfl, by decide⟩
 | n + 6, h => absurd h (by omega)
theorem six_cell (w : World) (j : Nat) (z : ByteArray) (h : sixL[j]? = some (.string z)) : (w.alloc (.cells #[.string ⟨#[]⟩, .string ⟨#[48]⟩, .string ⟨#[32]⟩, .string ⟨#[10]⟩, .string ⟨#[57]⟩, .string ⟨#[109, 101, 108, 116]⟩] 9)).cell? ⟨w.heap.size, j, none⟩ = some (.string z) := by
 have := jF w sixL 9 j _ h;rw [adds] at this;exact this
def SpoilGot (R k : Nat) (s : ByteArray) (w : World) (e : Ending) (w' : World) : Prop :=
 ∃ t : ByteArray, e = .returned (.string t) ∧ t.size ≤ s.size + 10 ∧ ai R (R + 1) w w' ∧ Rd R (k + 2) w'
theorem spoil_any (R k : Nat) (s : ByteArray) (w : World) (h : Rd R k w) (hk : k ≤ 900000) (hs : s.size ≤ 100000) :
 Calls Tryz.prog 38 #[.pointer (some ⟨R, 0, none⟩), .string s] w (SpoilGot R k s w) := by
 have HR := hide h;have hRl := h.lt;clear h;by_cases hz : s.size = 0
 ·have hzB : ((s.size : Int) == 0) = true := by simp [hz]
  go_enter Tryz.func38, Tryz.ntmps38;go_wp2_with fail
  go_ret;exact ⟨⟨#[10]⟩, rfl, Nat.le_trans (show (⟨#[10]⟩ : ByteArray).size ≤ 10 by decide) (Nat.le_add_left _ _), ai.refl _ _ _, HR.out.mono (by omega)⟩
 have hzB : ((s.size : Int) == 0) = false := by rw [beq_eq_false_iff_ne]; omega
 go_enter Tryz.func38, Tryz.ntmps38;go_wp2_with fail
 refine (aH R k (s.size : Int) w HR.out (by omega) (by omega) (by omega)).mono ?_;rintro e w1 ⟨x, rfl, p1, p2, ho, hr1⟩;obtain ⟨i, rfl⟩ : ∃ i : Nat, x = i := ⟨x.toNat, by omega⟩;have T_1 := hide ho;have hz1 := ho.size;have hR1 := hr1.lt;have hi0 : (0 : Int) ≤ (i : Int) := by omega
 have hi1 : (i : Int) ≤ (s.size : Int) := by omega
 have hi2 : ((i + 1 : Nat) : Int) ≤ (s.size : Int) := by omega
 have hi3 : (0 : Int) ≤ ((i + 1 : Nat) : Int) := by omega
 have hw : IntKind.i64.wrap ((i : Int) + 1) = ((i + 1 : Nat) : Int) := by rw [IntWalk.i64_in] <;> omega
 have HRD := hide (show Rd R (k + 1) w1.drew from hr1.drewN 1);have HRA := hide (show Rd R (k + 1) (w1.alloc (.cells #[.string ⟨#[]⟩, .string ⟨#[48]⟩, .string ⟨#[32]⟩, .string ⟨#[10]⟩, .string ⟨#[57]⟩, .string ⟨#[109, 101, 108, 116]⟩] 9)).drew from
  hr1.keep (B := w1.heap.size) (((Below.refl _ _).alloc nl _).drew) hR1)
 have hA : (s.extract 0 i).size ≤ s.size := by rw [ByteArray.size_extract]; omega
 have hC : (s.extract (i + 1) s.size).size ≤ s.size := by rw [ByteArray.size_extract]; omega
 have hAC : (s.extract 0 i).size + (s.extract (i + 1) s.size).size ≤ s.size := by rw [ByteArray.size_extract, ByteArray.size_extract]; omega
 obtain ⟨A, hAe⟩ : ∃ A, s.extract 0 i = A := ⟨_, rfl⟩;obtain ⟨C, hCe⟩ : ∃ C, s.extract (i + 1) s.size = C := ⟨_, rfl⟩;rw [hAe] at hA hAC;rw [hCe] at hC hAC;have hS := fun (z : ByteArray) (h : z.size ≤ 4) => (show ¬ 9223372036854775807 < A.size + z.size by omega);have hS2 := fun (z : ByteArray) (h : z.size ≤ 4) => (show ¬ 9223372036854775807 < (A ++ z).size + C.size by rw [ByteArray.size_append]; omega);have HS := hide hS;have HS2 := hide hS2;have HCA := hide (show ∀ (j : Nat) (z : ByteArray), sixL[j]? = some (.string z) → (w1.alloc (.cells #[.string ⟨#[]⟩, .string ⟨#[48]⟩, .string ⟨#[32]⟩, .string ⟨#[10]⟩, .string ⟨#[57]⟩, .string ⟨#[109, 101, 108, 116]⟩] 9)).drew.cell? ⟨w1.heap.size, j, none⟩ = some (.string z) from fun j z h => six_cell w1 j z h);clear ho hr1 p1 hS hS2 hzB;go_wp2_with fail
 go_region_with (first
  | (go_at_call 37; refine (aH R (k + 1) 6 _ (by first | with_reducible exact HRD.out | with_reducible exact HRA.out) (by omega) (by omega) (by omega)).mono ?_; rintro e w2 ⟨y, rfl, q1, q2, ho2, hr2⟩; obtain ⟨j, rfl⟩ : ∃ j : Nat, y = j := ⟨y.toNat, by omega⟩; obtain ⟨z, hz6, hzl⟩ := six_at j (by omega); have hs1 := HS.out z hzl; have hs2 := HS2.out z hzl; have cB := six_cell w2 j z hz6; (try have cA : w2.cell? ⟨w1.heap.size, j, none⟩ = some (.string z) := (by rw [World.cell?_of_block (ho2.block w1.heap.size (by simp) (.inr (by omega)))]; with_reducible exact HCA.out j z hz6)); clear hz6))
 all_goals
  go_wp2_with fail
  go_ret;refine ⟨_, rfl, by rw [ByteArray.size_append, ByteArray.size_append]; omega, ?_, ?_⟩
  ·first
    | with_reducible exact (ai.step T_1.out (((Below.refl _ _).alloc nl _).drew) hz1).trans ho2
    | exact ai.step ((ai.drew T_1.out).trans ho2) ((Below.refl _ _).alloc nl _) (Nat.le_trans hz1 ho2.size)
  ·first
    | with_reducible exact hr2
    | exact hr2.keep (B := w2.heap.size) ((Below.refl _ _).alloc nl _) hr2.lt
theorem do_i2 (s p l h : Value) (m : Mi) (a b : Int) (w : World) (H : aM 0 w.heap.size w s p l h m) (ha : a ≤ 9223372036854775807) (hb : b ≤ 9223372036854775807) :
 Calls Tryz.prog 21 #[ag s p l h m, .agg #[.int .i64 2, .int .i64 a, .int .i64 b]] w (jg w.heap.size (doR m ⟨2, a, b⟩) w) := by
 obtain ⟨ao1, cap1, ao2, cap2, ao3, cap3, ao4, cap4, rfl, rfl, rfl, rfl⟩ := H.op;have HM := hide H;have HA := hide (And.intro ha hb);clear H ha hb;unfold ag;go_enter Tryz.func21, Tryz.ntmps21;go_wp2_with fail
 refine aj fun wx hwx => ?_;have A_0 : ae wx (w.heap.size) 31 (mC ao1 cap1 ao2 cap2 ao3 cap3 ao4 cap4 m) := by rw [hwx]; exact (((ae.new _ _ _).alloc _).alloc _)
 have D_0 : ae wx (w.heap.size + 1) 42 [.int .i64 2, .int .i64 a, .int .i64 b] := by rw [hwx]; simpa using ((ae.new (World.alloc _ _) 42 [.int .i64 2, .int .i64 a, .int .i64 b]).alloc _)
 have R_0 : ae wx (w.heap.size + 1 + 1) 31 z12 := by rw [hwx]; simpa using (ae.new (World.alloc (World.alloc _ _) _) 31 z12)
 have B_0 : Below w.heap.size w wx := by rw [hwx]; go_grown
 clear hwx;have hL0 := R_0.lt;have V_0 := hide (HM.out.below B_0);have k1 := cz _ _ _ _ m wx V_0.out.all;unfold ag at k1;cases hv : aF m with
 | false =>
  rw [hv] at k1;have HZ := hide (iC hv ⟨2, a, b⟩);clear hv;refine k1.mono ?_;rintro e w1 ⟨rfl, hb⟩;have R_1 := R_0.below hb R_0.lt;have B_1 := bs B_0 hb;clear hb k1;have cRz := af R_1;have fRz := ay R_1;go_wp2_with fail
  refine bodyPost_ret (by simp [results, Tryz.results21, go_sem, cRz]; try rfl) rfl ?_;rw [HZ.out];exact ⟨_, _, _, _, rfl, bU B_1.out nl (by omega) _ _ _ _ _ _ _ _ _ _ _ _⟩
 | true =>
  rw [hv] at k1;obtain ⟨n1, n2, n3, n4⟩ := fV hv;have hD := gD hv 2 a b;rw [step_2] at hD;clear hv;refine k1.mono ?_;rintro e w1 ⟨rfl, hb⟩;have A_1 := A_0.below hb A_0.lt;have D_1 := D_0.below hb D_0.lt;have R_1 := R_0.below hb R_0.lt;have V_1 := hide (V_0.out.below hb);have B_1 := bs B_0 hb;have hz1 := hb.size;clear hb k1;have cAz := af A_1;go_wp2_with fail
  clear cAz;have k2 := bG _ _ _ _ m w1 V_1.out.all n1 n2 n3 n4;unfold ag at k2;refine k2.mono ?_;clear k2;rintro e w2 ⟨s2, p2, l2, h2, rfl, G, hb⟩;have A_2 := A_1.below hb A_1.lt;have D_2 := D_1.below hb D_1.lt;have R_2 := R_1.below hb R_1.lt;have V_2 := hide (V_1.out.below hb);have B_2 := bs B_1.out hb;have hz2 := hb.size;have hL2 := R_2.lt;have hLD := D_2.lt;have hLA := A_2.lt;clear hb;have G_2 := hide G;obtain ⟨aS, cs, ap, cp, al, cl, ah, ch, rfl, rfl, rfl, rfl⟩ := G.op;clear G;unfold ag;have cD0 := D_2.c 0 rfl;have cD1 := D_2.c 1 rfl;have cD2 := D_2.c 2 rfl;go_wp2_with fail
  refine aj fun wy hwy => ?_;have C_y : ae wy w2.heap.size 31 (mC aS cs ap cp al cl ah ch m) := by
   rw [hwy];first
    | exact (ae.new w2 31 (mC aS cs ap cp al cl ah ch m))
    | exact (dU (ae.new w2 31 z12) rfl _ _ _ _ _ _ _ _ _ _ _ _)
  have hby : Below w2.heap.size w2 wy := by
   rw [hwy];first
    | exact ((Below.refl _ _).alloc nl _)
    | exact (((Below.refl _ _).alloc nl _).trans ((aI w2.heap.size _ _ _ _ _ _ _ _ _ _ _ _ _).below nl (by simp)))
  have A_y := A_2.below hby A_2.lt;have R_y := R_2.below hby R_2.lt;have V_y := hide (V_2.out.below hby);have B_y := bs B_2.out hby;have G_y := hide (G_2.out.below hby);have hzy := hby.size;clear hwy hby;have MB : dm w1.heap.size w2.heap.size wy _ _ _ _ m := ⟨C_y, G_y.out, ⟨fun e => Nat.lt_irrefl _ (G_2.out.so.lt _ e).2, fun e => Nat.lt_irrefl _ (G_2.out.po.lt _ e).2, fun e => Nat.lt_irrefl _ (G_2.out.lo.lt _ e).2, fun e => Nat.lt_irrefl _ (G_2.out.ho.lt _ e).2⟩, hz2⟩;have k3 := roll_meth a b MB n2 HA.out.2;obtain ⟨o, ho⟩ : ∃ o, iI m a b = o := ⟨_, rfl⟩;rw [ho] at k3 hD;have HD := hide hD;clear hD ho MB cD0 cD1 cD2;refine k3.mono ?_;clear k3;rintro e w4 ⟨rfl, hb, hx⟩;have A_4 := A_y.below hb (by omega);have R_4 := R_y.below hb (by omega);have V_4 := hide (V_y.out.gW hb (by omega));have B_4 := hide (B_y.out.trans (hb.mono (by omega)));have hz4 := hb.size;clear hb;rcases o with _ | x;rotate_left
  ·obtain ⟨s4, p4, l4, h4, C_4, G⟩ := hx x rfl
   have HZ := hide (show doR m ⟨2, a, b⟩ = (x, true) from HD.out);have G_4 := hide G;obtain ⟨aS4, cs4, ap4, cp4, al4, cl4, ah4, ch4, rfl, rfl, rfl, rfl⟩ := G.op;clear G hx;unfold az at C_4;have cCz := af C_4;have cRz := af R_4;have fRz := ay R_4;go_wp2_with fail
   refine bodyPost_ret (by simp [results, Tryz.results21, go_sem, cRz]; try rfl) rfl ?_;rw [HZ.out];exact ⟨_, _, _, _, rfl, aV G_4.out B_4.out (by omega) (by omega) nl _ _ _ _ _ _ _ _ _ _ _ _⟩
  ·clear hx
   have HZ := hide (show doR m ⟨2, a, b⟩ = (m, false) from HD.out);have cAz := af A_4;go_wp2_with fail
   clear cAz;have k5 := bG _ _ _ _ m w4 V_4.out.all n1 n2 n3 n4;unfold ag at k5;refine k5.mono ?_;clear k5;rintro e w5 ⟨s5, p5, l5, h5, rfl, G, hb⟩;have R_5 := R_4.below hb R_4.lt;have B_5 := bs B_4.out hb;clear hb;have G_5 := hide G;obtain ⟨aS5, cs5, ap5, cp5, al5, cl5, ah5, ch5, rfl, rfl, rfl, rfl⟩ := G.op;clear G;unfold ag;have cRz := af R_5;have fRz := ay R_5;go_wp2_with fail
   refine bodyPost_ret (by simp [results, Tryz.results21, go_sem, cRz]; try rfl) rfl ?_;rw [HZ.out];exact ⟨_, _, _, _, rfl, aV G_5.out B_5.out (by omega) (by omega) nl _ _ _ _ _ _ _ _ _ _ _ _⟩
theorem do_i3 (s p l h : Value) (m : Mi) (a b : Int) (w : World) (H : aM 0 w.heap.size w s p l h m) (ha : a ≤ 9223372036854775807) (hb : b ≤ 9223372036854775807) :
 Calls Tryz.prog 21 #[ag s p l h m, .agg #[.int .i64 3, .int .i64 a, .int .i64 b]] w (jg w.heap.size (doR m ⟨3, a, b⟩) w) := by
 obtain ⟨ao1, cap1, ao2, cap2, ao3, cap3, ao4, cap4, rfl, rfl, rfl, rfl⟩ := H.op;have HM := hide H;have HA := hide (And.intro ha hb);clear H ha hb;unfold ag;go_enter Tryz.func21, Tryz.ntmps21;go_wp2_with fail
 refine aj fun wx hwx => ?_;have A_0 : ae wx (w.heap.size) 31 (mC ao1 cap1 ao2 cap2 ao3 cap3 ao4 cap4 m) := by rw [hwx]; exact (((ae.new _ _ _).alloc _).alloc _)
 have D_0 : ae wx (w.heap.size + 1) 42 [.int .i64 3, .int .i64 a, .int .i64 b] := by rw [hwx]; simpa using ((ae.new (World.alloc _ _) 42 [.int .i64 3, .int .i64 a, .int .i64 b]).alloc _)
 have R_0 : ae wx (w.heap.size + 1 + 1) 31 z12 := by rw [hwx]; simpa using (ae.new (World.alloc (World.alloc _ _) _) 31 z12)
 have B_0 : Below w.heap.size w wx := by rw [hwx]; go_grown
 clear hwx;have hL0 := R_0.lt;have V_0 := hide (HM.out.below B_0);have k1 := cz _ _ _ _ m wx V_0.out.all;unfold ag at k1;cases hv : aF m with
 | false =>
  rw [hv] at k1;have HZ := hide (iC hv ⟨3, a, b⟩);clear hv;refine k1.mono ?_;rintro e w1 ⟨rfl, hb⟩;have R_1 := R_0.below hb R_0.lt;have B_1 := bs B_0 hb;clear hb k1;have cRz := af R_1;have fRz := ay R_1;go_wp2_with fail
  refine bodyPost_ret (by simp [results, Tryz.results21, go_sem, cRz]; try rfl) rfl ?_;rw [HZ.out];exact ⟨_, _, _, _, rfl, bU B_1.out nl (by omega) _ _ _ _ _ _ _ _ _ _ _ _⟩
 | true =>
  rw [hv] at k1;obtain ⟨n1, n2, n3, n4⟩ := fV hv;have hD := gD hv 3 a b;rw [step_3] at hD;clear hv;refine k1.mono ?_;rintro e w1 ⟨rfl, hb⟩;have A_1 := A_0.below hb A_0.lt;have D_1 := D_0.below hb D_0.lt;have R_1 := R_0.below hb R_0.lt;have V_1 := hide (V_0.out.below hb);have B_1 := bs B_0 hb;have hz1 := hb.size;clear hb k1;have cAz := af A_1;go_wp2_with fail
  clear cAz;have k2 := bG _ _ _ _ m w1 V_1.out.all n1 n2 n3 n4;unfold ag at k2;refine k2.mono ?_;clear k2;rintro e w2 ⟨s2, p2, l2, h2, rfl, G, hb⟩;have A_2 := A_1.below hb A_1.lt;have D_2 := D_1.below hb D_1.lt;have R_2 := R_1.below hb R_1.lt;have V_2 := hide (V_1.out.below hb);have B_2 := bs B_1.out hb;have hz2 := hb.size;have hL2 := R_2.lt;have hLD := D_2.lt;have hLA := A_2.lt;clear hb;have G_2 := hide G;obtain ⟨aS, cs, ap, cp, al, cl, ah, ch, rfl, rfl, rfl, rfl⟩ := G.op;clear G;unfold ag;have cD0 := D_2.c 0 rfl;have cD1 := D_2.c 1 rfl;have cD2 := D_2.c 2 rfl;go_wp2_with fail
  refine aj fun wy hwy => ?_;have C_y : ae wy w2.heap.size 31 (mC aS cs ap cp al cl ah ch m) := by
   rw [hwy];first
    | exact (ae.new w2 31 (mC aS cs ap cp al cl ah ch m))
    | exact (dU (ae.new w2 31 z12) rfl _ _ _ _ _ _ _ _ _ _ _ _)
  have hby : Below w2.heap.size w2 wy := by
   rw [hwy];first
    | exact ((Below.refl _ _).alloc nl _)
    | exact (((Below.refl _ _).alloc nl _).trans ((aI w2.heap.size _ _ _ _ _ _ _ _ _ _ _ _ _).below nl (by simp)))
  have A_y := A_2.below hby A_2.lt;have R_y := R_2.below hby R_2.lt;have V_y := hide (V_2.out.below hby);have B_y := bs B_2.out hby;have G_y := hide (G_2.out.below hby);have hzy := hby.size;clear hwy hby;have MB : dm w1.heap.size w2.heap.size wy _ _ _ _ m := ⟨C_y, G_y.out, ⟨fun e => Nat.lt_irrefl _ (G_2.out.so.lt _ e).2, fun e => Nat.lt_irrefl _ (G_2.out.po.lt _ e).2, fun e => Nat.lt_irrefl _ (G_2.out.lo.lt _ e).2, fun e => Nat.lt_irrefl _ (G_2.out.ho.lt _ e).2⟩, hz2⟩;have k3 := lift_meth a b MB HA.out.1 HA.out.2;obtain ⟨o, ho⟩ : ∃ o, liftD m a b = o := ⟨_, rfl⟩;rw [ho] at k3 hD;have HD := hide hD;clear hD ho MB cD0 cD1 cD2;refine k3.mono ?_;clear k3;rintro e w4 ⟨rfl, hb, hx⟩;have A_4 := A_y.below hb (by omega);have R_4 := R_y.below hb (by omega);have V_4 := hide (V_y.out.gW hb (by omega));have B_4 := hide (B_y.out.trans (hb.mono (by omega)));have hz4 := hb.size;clear hb;rcases o with _ | x;rotate_left
  ·obtain ⟨s4, p4, l4, h4, C_4, G⟩ := hx x rfl
   have HZ := hide (show doR m ⟨3, a, b⟩ = (x, true) from HD.out);have G_4 := hide G;obtain ⟨aS4, cs4, ap4, cp4, al4, cl4, ah4, ch4, rfl, rfl, rfl, rfl⟩ := G.op;clear G hx;unfold az at C_4;have cCz := af C_4;have cRz := af R_4;have fRz := ay R_4;go_wp2_with fail
   refine bodyPost_ret (by simp [results, Tryz.results21, go_sem, cRz]; try rfl) rfl ?_;rw [HZ.out];exact ⟨_, _, _, _, rfl, aV G_4.out B_4.out (by omega) (by omega) nl _ _ _ _ _ _ _ _ _ _ _ _⟩
  ·clear hx
   have HZ := hide (show doR m ⟨3, a, b⟩ = (m, false) from HD.out);have cAz := af A_4;go_wp2_with fail
   clear cAz;have k5 := bG _ _ _ _ m w4 V_4.out.all n1 n2 n3 n4;unfold ag at k5;refine k5.mono ?_;clear k5;rintro e w5 ⟨s5, p5, l5, h5, rfl, G, hb⟩;have R_5 := R_4.below hb R_4.lt;have B_5 := bs B_4.out hb;clear hb;have G_5 := hide G;obtain ⟨aS5, cs5, ap5, cp5, al5, cl5, ah5, ch5, rfl, rfl, rfl, rfl⟩ := G.op;clear G;unfold ag;have cRz := af R_5;have fRz := ay R_5;go_wp2_with fail
   refine bodyPost_ret (by simp [results, Tryz.results21, go_sem, cRz]; try rfl) rfl ?_;rw [HZ.out];exact ⟨_, _, _, _, rfl, aV G_5.out B_5.out (by omega) (by omega) nl _ _ _ _ _ _ _ _ _ _ _ _⟩
theorem do_i4 (s p l h : Value) (m : Mi) (a b : Int) (w : World) (H : aM 0 w.heap.size w s p l h m) (ha : a ≤ 9223372036854775807) (hb : b ≤ 9223372036854775807) :
 Calls Tryz.prog 21 #[ag s p l h m, .agg #[.int .i64 4, .int .i64 a, .int .i64 b]] w (jg w.heap.size (doR m ⟨4, a, b⟩) w) := by
 obtain ⟨ao1, cap1, ao2, cap2, ao3, cap3, ao4, cap4, rfl, rfl, rfl, rfl⟩ := H.op;have HM := hide H;clear H ha hb;unfold ag;go_enter Tryz.func21, Tryz.ntmps21;go_wp2_with fail
 refine aj fun wx hwx => ?_;have A_0 : ae wx (w.heap.size) 31 (mC ao1 cap1 ao2 cap2 ao3 cap3 ao4 cap4 m) := by rw [hwx]; exact (((ae.new _ _ _).alloc _).alloc _)
 have D_0 : ae wx (w.heap.size + 1) 42 [.int .i64 4, .int .i64 a, .int .i64 b] := by rw [hwx]; simpa using ((ae.new (World.alloc _ _) 42 [.int .i64 4, .int .i64 a, .int .i64 b]).alloc _)
 have R_0 : ae wx (w.heap.size + 1 + 1) 31 z12 := by rw [hwx]; simpa using (ae.new (World.alloc (World.alloc _ _) _) 31 z12)
 have B_0 : Below w.heap.size w wx := by rw [hwx]; go_grown
 clear hwx;have hL0 := R_0.lt;have V_0 := hide (HM.out.below B_0);have k1 := cz _ _ _ _ m wx V_0.out.all;unfold ag at k1;cases hv : aF m with
 | false =>
  rw [hv] at k1;have HZ := hide (iC hv ⟨4, a, b⟩);clear hv;refine k1.mono ?_;rintro e w1 ⟨rfl, hb⟩;have R_1 := R_0.below hb R_0.lt;have B_1 := bs B_0 hb;clear hb k1;have cRz := af R_1;have fRz := ay R_1;go_wp2_with fail
  refine bodyPost_ret (by simp [results, Tryz.results21, go_sem, cRz]; try rfl) rfl ?_;rw [HZ.out];exact ⟨_, _, _, _, rfl, bU B_1.out nl (by omega) _ _ _ _ _ _ _ _ _ _ _ _⟩
 | true =>
  rw [hv] at k1;obtain ⟨n1, n2, n3, n4⟩ := fV hv;have HV := hide hv;have hD := gD hv 4 a b;rw [step_4] at hD;clear hv;refine k1.mono ?_;rintro e w1 ⟨rfl, hb⟩;have A_1 := A_0.below hb A_0.lt;have D_1 := D_0.below hb D_0.lt;have R_1 := R_0.below hb R_0.lt;have V_1 := hide (V_0.out.below hb);have B_1 := bs B_0 hb;have hz1 := hb.size;clear hb k1;have cAz := af A_1;go_wp2_with fail
  clear cAz;have k2 := bG _ _ _ _ m w1 V_1.out.all n1 n2 n3 n4;unfold ag at k2;refine k2.mono ?_;clear k2;rintro e w2 ⟨s2, p2, l2, h2, rfl, G, hb⟩;have A_2 := A_1.below hb A_1.lt;have D_2 := D_1.below hb D_1.lt;have R_2 := R_1.below hb R_1.lt;have V_2 := hide (V_1.out.below hb);have B_2 := bs B_1.out hb;have hz2 := hb.size;have hL2 := R_2.lt;have hLD := D_2.lt;have hLA := A_2.lt;clear hb;have G_2 := hide G;obtain ⟨aS, cs, ap, cp, al, cl, ah, ch, rfl, rfl, rfl, rfl⟩ := G.op;clear G;unfold ag;have cD0 := D_2.c 0 rfl;have cD1 := D_2.c 1 rfl;have cD2 := D_2.c 2 rfl;go_wp2_with fail
  refine aj fun wy hwy => ?_;have C_y : ae wy w2.heap.size 31 (mC aS cs ap cp al cl ah ch m) := by
   rw [hwy];first
    | exact (ae.new w2 31 (mC aS cs ap cp al cl ah ch m))
    | exact (dU (ae.new w2 31 z12) rfl _ _ _ _ _ _ _ _ _ _ _ _)
  have hby : Below w2.heap.size w2 wy := by
   rw [hwy];first
    | exact ((Below.refl _ _).alloc nl _)
    | exact (((Below.refl _ _).alloc nl _).trans ((aI w2.heap.size _ _ _ _ _ _ _ _ _ _ _ _ _).below nl (by simp)))
  have A_y := A_2.below hby A_2.lt;have R_y := R_2.below hby R_2.lt;have V_y := hide (V_2.out.below hby);have B_y := bs B_2.out hby;have G_y := hide (G_2.out.below hby);have hzy := hby.size;clear hwy hby;have MB : dm w1.heap.size w2.heap.size wy _ _ _ _ m := ⟨C_y, G_y.out, ⟨fun e => Nat.lt_irrefl _ (G_2.out.so.lt _ e).2, fun e => Nat.lt_irrefl _ (G_2.out.po.lt _ e).2, fun e => Nat.lt_irrefl _ (G_2.out.lo.lt _ e).2, fun e => Nat.lt_irrefl _ (G_2.out.ho.lt _ e).2⟩, hz2⟩;have k3 := ship_meth a MB (aQ.1 HV.out);obtain ⟨o, ho⟩ : ∃ o, iT m a = o := ⟨_, rfl⟩;rw [ho] at k3 hD;have HD := hide hD;clear hD ho MB cD0 cD1 cD2;refine k3.mono ?_;clear k3;rintro e w4 ⟨rfl, hb, hx⟩;have A_4 := A_y.below hb (by omega);have R_4 := R_y.below hb (by omega);have V_4 := hide (V_y.out.gW hb (by omega));have B_4 := hide (B_y.out.trans (hb.mono (by omega)));have hz4 := hb.size;clear hb;rcases o with _ | x;rotate_left
  ·obtain ⟨s4, p4, l4, h4, C_4, G⟩ := hx x rfl
   have HZ := hide (show doR m ⟨4, a, b⟩ = (x, true) from HD.out);have G_4 := hide G;obtain ⟨aS4, cs4, ap4, cp4, al4, cl4, ah4, ch4, rfl, rfl, rfl, rfl⟩ := G.op;clear G hx;unfold az at C_4;have cCz := af C_4;have cRz := af R_4;have fRz := ay R_4;go_wp2_with fail
   refine bodyPost_ret (by simp [results, Tryz.results21, go_sem, cRz]; try rfl) rfl ?_;rw [HZ.out];exact ⟨_, _, _, _, rfl, aV G_4.out B_4.out (by omega) (by omega) nl _ _ _ _ _ _ _ _ _ _ _ _⟩
  ·clear hx
   have HZ := hide (show doR m ⟨4, a, b⟩ = (m, false) from HD.out);have cAz := af A_4;go_wp2_with fail
   clear cAz;have k5 := bG _ _ _ _ m w4 V_4.out.all n1 n2 n3 n4;unfold ag at k5;refine k5.mono ?_;clear k5;rintro e w5 ⟨s5, p5, l5, h5, rfl, G, hb⟩;have R_5 := R_4.below hb R_4.lt;have B_5 := bs B_4.out hb;clear hb;have G_5 := hide G;obtain ⟨aS5, cs5, ap5, cp5, al5, cl5, ah5, ch5, rfl, rfl, rfl, rfl⟩ := G.op;clear G;unfold ag;have cRz := af R_5;have fRz := ay R_5;go_wp2_with fail
   refine bodyPost_ret (by simp [results, Tryz.results21, go_sem, cRz]; try rfl) rfl ?_;rw [HZ.out];exact ⟨_, _, _, _, rfl, aV G_5.out B_5.out (by omega) (by omega) nl _ _ _ _ _ _ _ _ _ _ _ _⟩
end Go.Proofs.YtkhecelpafojdaaGreatDoor
