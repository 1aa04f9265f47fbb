/-
  Parts of the proofs over mills, of: Has, DoS0, DoSX. Conditions: each theorem states its own.
-/
import Derived.Test.YtkhecelpafojdaaGreatDoorF27
import Derived.Test.YtkhecelpafojdaaGreatDoorF29
import Derived.Test.YtkhecelpafojdaaGreatDoorF30
set_option linter.unusedSimpArgs false
set_option linter.unusedVariables false
set_option maxRecDepth 10000
set_option maxHeartbeats 64000000
namespace Go.Proofs.YtkhecelpafojdaaGreatDoor
open Go.RowKit
theorem has_any (b : Nat) (p : Value) (m : Mi) (id st : Int) (w : World) (hp : fo 0 w.heap.size w p m.pieces) (hc : w.cell? ⟨b, 8, none⟩ = some p) (hl : m.pieces.length ≤ 1000000) :
 Calls Tryz.prog 113 #[.pointer (some ⟨b, 0, none⟩), .int .i64 id, .int .i64 st] w fun e w' => e = .returned (.bool (hasB m id st)) ∧ w = w' := by
 have HP := hide hp;have hp2 := hp;obtain ⟨ap, cp, rfl, -, -, -, -⟩ := hp2;clear hp;have hW := fun W => aU id 1 (m.pieces.length : Int) W;by_cases hi : wi id 1 (m.pieces.length : Int) = true
 ·have HI := hide hi
  rw [hi] at hW;obtain ⟨h1, h2⟩ := aN.1 hi;obtain ⟨k, rfl⟩ : ∃ k : Nat, id = k + 1 := ⟨(id - 1).toNat, by omega⟩;have hk : k < m.pieces.length := by omega
  obtain ⟨b2, o, cp2, e, -, -, c0, c1⟩ := pc_at HP.out hk;cases e;have hsub : IntKind.i64.wrap ((k : Int) + 1 - 1) = (k : Int) := by rw [show (k : Int) + 1 - 1 = (k : Int) by omega]; exact IntWalk.i64_in _ (by omega)
  have hkI : (k : Int) < (m.pieces.length : Int) := by omega
  have HW := hide hW;clear hW hi;go_enter Tryz.func113, Tryz.ntmps113;have hj0 : (0 : Int) ≤ (k : Int) := by omega
  go_wp2_with fail
  refine (HW.out w).mono ?_;rintro e w1 ⟨rfl, rfl⟩;go_wp2_with fail
  go_ret;have hg : hasB m ((k : Int) + 1) st = (m.pieces[k].s == st) := by
   have : ((k : Int) + 1 - 1).toNat = k := by omega
   simp [hasB, HI.out, hk]
  simp [hg]
 ·have hi' : wi id 1 (m.pieces.length : Int) = false := by simpa using hi
  rw [hi'] at hW;have HI := hide hi';have HW := hide hW;clear hW hi hi';go_enter Tryz.func113, Tryz.ntmps113;go_wp2_with fail
  refine (HW.out w).mono ?_;rintro e w1 ⟨rfl, rfl⟩;go_wp2_with fail
  go_ret;simp [hasB, HI.out]
theorem state_any (s p l h : Value) (m : Mi) (id st : Int) (w : World) (HM : aM 0 w.heap.size w s p l h m) (hl : m.pieces.length ≤ 1000000) :
 Calls Tryz.prog 81 #[ag s p l h m, .int .i64 id, .int .i64 st] w fun e w' => e = .returned (.bool (hasB m id st)) ∧ Below w.heap.size w w' := by
 have hp := HM.pieces;have HP := hide hp;have hp2 := hp;clear HM;unfold ag;obtain ⟨ap, cp, rfl, -, -, -, -⟩ := hp2;clear hp;have hW := fun W => aY id 1 (m.pieces.length : Int) W;by_cases hi : wi id 1 (m.pieces.length : Int) = true
 ·have HI := hide hi
  rw [hi] at hW;obtain ⟨h1, h2⟩ := aN.1 hi;obtain ⟨k, rfl⟩ : ∃ k : Nat, id = k + 1 := ⟨(id - 1).toNat, by omega⟩;have hk : k < m.pieces.length := by omega
  obtain ⟨b2, o, cp2, e, -, hb2, c0, c1⟩ := pc_at HP.out hk;cases e;have hsub : IntKind.i64.wrap ((k : Int) + 1 - 1) = (k : Int) := by rw [show (k : Int) + 1 - 1 = (k : Int) by omega]; exact IntWalk.i64_in _ (by omega)
  have hkI : (k : Int) < (m.pieces.length : Int) := by omega
  have HW := hide hW;clear hW hi;go_enter Tryz.func81, Tryz.ntmps81;have hj0 : (0 : Int) ≤ (k : Int) := by omega
  go_wp2_with fail
  refine (HW.out _).mono ?_;rintro e w1 ⟨rfl, rfl⟩;go_wp2_with fail
  go_ret;have hg : hasB m ((k : Int) + 1) st = (m.pieces[k].s == st) := by
   have : ((k : Int) + 1 - 1).toNat = k := by omega
   simp [hasB, HI.out, hk]
  exact ⟨by simp [hg], by go_grown⟩
 ·have hi' : wi id 1 (m.pieces.length : Int) = false := by simpa using hi
  rw [hi'] at hW;have HI := hide hi';have HW := hide hW;clear hW hi hi';go_enter Tryz.func81, Tryz.ntmps81;go_wp2_with fail
  refine (HW.out _).mono ?_;rintro e w1 ⟨rfl, rfl⟩;go_wp2_with fail
  go_ret;exact ⟨by simp [hasB, HI.out], by go_grown⟩
theorem do_s0 (s p l h : Value) (m : Mi) (a b : Int) (w : World) (H : aM 0 w.heap.size w s p l h m) (ha : a ≤ 9223372036854775807) (hb : b ≤ 9223372036854775807) :
 Calls Tryz.prog 27 #[ag s p l h m, .agg #[.int .i64 0, .int .i64 a, .int .i64 b]] w (jg w.heap.size (doR m ⟨0, a, b⟩) w) := by
 obtain ⟨ao1, cap1, ao2, cap2, ao3, cap3, ao4, cap4, rfl, rfl, rfl, rfl⟩ := H.op;have HM := hide H;clear H ha hb;unfold ag;go_enter Tryz.func27, Tryz.ntmps27;go_wp2_with fail
 refine aj fun wx hwx => ?_;have A_0 : ae wx (w.heap.size) 31 (mC ao1 cap1 ao2 cap2 ao3 cap3 ao4 cap4 m) := by rw [hwx]; exact (((ae.new _ _ _).alloc _).alloc _)
 have D_0 : ae wx (w.heap.size + 1) 42 [.int .i64 0, .int .i64 a, .int .i64 b] := by rw [hwx]; simpa using ((ae.new (World.alloc _ _) 42 [.int .i64 0, .int .i64 a, .int .i64 b]).alloc _)
 have R_0 : ae wx (w.heap.size + 1 + 1) 31 z12 := by rw [hwx]; simpa using (ae.new (World.alloc (World.alloc _ _) _) 31 z12)
 have B_0 : Below w.heap.size w wx := by rw [hwx]; go_grown
 clear hwx;have hL0 := R_0.lt;have V_0 := hide (HM.out.below B_0);have k1 := cu _ _ _ _ m wx V_0.out.all;unfold ag at k1;cases hv : aF m with
 | false =>
  rw [hv] at k1;have HZ := hide (iC hv ⟨0, a, b⟩);clear hv;refine k1.mono ?_;rintro e w1 ⟨rfl, hb⟩;have R_1 := R_0.below hb R_0.lt;have B_1 := bs B_0 hb;clear hb k1;have cRz := af R_1;have fRz := ay R_1;go_wp2_with fail
  refine bodyPost_ret (by simp [results, Tryz.results27, go_sem, cRz]; try rfl) rfl ?_;rw [HZ.out];exact ⟨_, _, _, _, rfl, bU B_1.out nl (by omega) _ _ _ _ _ _ _ _ _ _ _ _⟩
 | true =>
  rw [hv] at k1;obtain ⟨n1, n2, n3, n4⟩ := fV hv;have HV := hide hv;have hD := gD hv 0 a b;rw [step_0] at hD;clear hv;refine k1.mono ?_;rintro e w1 ⟨rfl, hb⟩;have A_1 := A_0.below hb A_0.lt;have D_1 := D_0.below hb D_0.lt;have R_1 := R_0.below hb R_0.lt;have V_1 := hide (V_0.out.below hb);have B_1 := bs B_0 hb;have hz1 := hb.size;clear hb k1;have cAz := af A_1;go_wp2_with fail
  clear cAz;have k2 := bu _ _ _ _ m w1 V_1.out.all n1 n2 n3 n4;unfold ag at k2;refine k2.mono ?_;clear k2;rintro e w2 ⟨s2, p2, l2, h2, rfl, G, hb⟩;have A_2 := A_1.below hb A_1.lt;have D_2 := D_1.below hb D_1.lt;have R_2 := R_1.below hb R_1.lt;have V_2 := hide (V_1.out.below hb);have B_2 := bs B_1.out hb;have hz2 := hb.size;have hL2 := R_2.lt;have hLD := D_2.lt;have hLA := A_2.lt;clear hb;have G_2 := hide G;obtain ⟨aS, cs, ap, cp, al, cl, ah, ch, rfl, rfl, rfl, rfl⟩ := G.op;clear G;unfold ag;have cD0 := D_2.c 0 rfl;have cD1 := D_2.c 1 rfl;have cD2 := D_2.c 2 rfl;go_wp2_with fail
  refine aj fun wy hwy => ?_;have C_y : ae wy w2.heap.size 31 (mC aS cs ap cp al cl ah ch m) := by
   rw [hwy];first
    | exact ae.new w2 31 (mC aS cs ap cp al cl ah ch m)
    | exact dU (ae.new w2 31 z12) rfl _ _ _ _ _ _ _ _ _ _ _ _
  have hby : Below w2.heap.size w2 wy := by
   rw [hwy];first
    | exact (Below.refl _ _).alloc nl _
    | exact ((Below.refl _ _).alloc nl _).trans ((aI w2.heap.size _ _ _ _ _ _ _ _ _ _ _ _ _).below nl (by simp))
  have A_y := A_2.below hby A_2.lt;have R_y := R_2.below hby R_2.lt;have V_y := hide (V_2.out.below hby);have B_y := bs B_2.out hby;have G_y := hide (G_2.out.below hby);have hzy := hby.size;have hLy := C_y.lt;have MB := hide (show dm w1.heap.size w2.heap.size wy (.slice aS m.store.length cs) (.slice ap m.pieces.length cp) (.slice al m.low.length cl) (.slice ah m.high.length ch) m from ⟨C_y, G_y.out, ⟨fun e => Nat.lt_irrefl _ (G_2.out.so.lt _ e).2, fun e => Nat.lt_irrefl _ (G_2.out.po.lt _ e).2, fun e => Nat.lt_irrefl _ (G_2.out.lo.lt _ e).2, fun e => Nat.lt_irrefl _ (G_2.out.ho.lt _ e).2⟩, hz2⟩);clear hwy hby;have hpC : Value.ownBlock (.slice ap m.pieces.length cp) ≠ some w2.heap.size := MB.out.off.2.1;have k3 := melt_spec a G_y.out (aQ.1 HV.out);unfold ag at k3;obtain ⟨o, ho⟩ : ∃ o, jv m a = o := ⟨_, rfl⟩;rw [ho] at k3 hD;clear ho;rcases o with _ | x
  ·have HZ := hide (show doR m ⟨0, a, b⟩ = (m, false) from hD)
   clear hD cD0 cD1 cD2;refine k3.mono ?_;clear k3;rintro e w4 ⟨⟨s4, p4, l4, h4, he, G, hb⟩, hrow⟩;have he : e = .returned (.tuple #[ag s4 p4 l4 h4 m, .bool false]) := he;have G : ak w1.heap.size w4 s4 p4 l4 h4 m := G;subst he;have C_4 := hrow _ _ _ C_y hpC;have A_4 := A_y.below hb (by omega);have R_4 := R_y.below hb (by omega);have V_4 := hide (V_y.out.gW hb (by omega));have B_4 := hide (B_y.out.trans (hb.mono (by omega)));have hz4 := hb.size;have hL4 := C_4.lt;clear hb hrow;have G_4 := hide G;obtain ⟨aS4, cs4, ap4, cp4, al4, cl4, ah4, ch4, rfl, rfl, rfl, rfl⟩ := G.op;clear G;unfold ag;have cCz := af C_4;have fCz := ay C_4;have cAz := af A_4;go_wp2_with fail
   refine aj fun wz hwz => ?_;have TZ : ai w2.heap.size (w2.heap.size + 1) w4 wz := by rw [hwz]; exact aI _ _ _ _ _ _ _ _ _ _ _ _ _ _
   have R_z := R_4.other TZ (by omega);have V_z := hide (V_4.out.other TZ (by omega));have B_z := hide (B_4.out.trans (TZ.below (B := w.heap.size) (by omega) B_4.out.size));have hzz := TZ.size;clear hwz TZ cAz cCz fCz;have k5 := bu _ _ _ _ m wz V_z.out.all n1 n2 n3 n4;unfold ag at k5;refine k5.mono ?_;clear k5;rintro e w5 ⟨s5, p5, l5, h5, rfl, G, hb⟩;have R_5 := R_z.below hb R_z.lt;have B_5 := bs B_z.out hb;clear hb;have G_5 := hide G;obtain ⟨aS5, cs5, ap5, cp5, al5, cl5, ah5, ch5, rfl, rfl, rfl, rfl⟩ := G.op;clear G;unfold ag;have cRz := af R_5;have fRz := ay R_5;go_wp2_with fail
   refine bodyPost_ret (by simp [results, Tryz.results27, go_sem, cRz]; try rfl) rfl ?_;rw [HZ.out];exact ⟨_, _, _, _, rfl, aV G_5.out B_5.out (by omega) (by omega) nl _ _ _ _ _ _ _ _ _ _ _ _⟩
  ·have HZ := hide (show doR m ⟨0, a, b⟩ = (x, true) from hD)
   clear hD cD0 cD1 cD2;refine k3.mono ?_;clear k3;rintro e w4 ⟨⟨s4, p4, l4, h4, he, G, hb⟩, hrow⟩;have he : e = .returned (.tuple #[ag s4 p4 l4 h4 x, .bool true]) := he;have G : ak w1.heap.size w4 s4 p4 l4 h4 x := G;subst he;have C_4 := hrow _ _ _ C_y hpC;have R_4 := R_y.below hb (by omega);have B_4 := hide (B_y.out.trans (hb.mono (by omega)));have hz4 := hb.size;have hL4 := C_4.lt;clear hb hrow;have G_4 := hide G;obtain ⟨aS4, cs4, ap4, cp4, al4, cl4, ah4, ch4, rfl, rfl, rfl, rfl⟩ := G.op;clear G;unfold ag;have cCz := af C_4;have fCz := ay C_4
   go_upto_region 28 with fail
   obtain ⟨wz, hwz⟩ : ∃ wz : World, wz = ((((((((((((w4).setCell ⟨w2.heap.size, 0, none⟩ (.slice aS4 x.store.length cs4)).setCell ⟨w2.heap.size, 1, none⟩ (.int .i64 x.rule.lc)).setCell ⟨w2.heap.size, 2, none⟩ (.int .i64 x.rule.hc)).setCell ⟨w2.heap.size, 3, none⟩ (.int .i64 x.rule.lm)).setCell ⟨w2.heap.size, 4, none⟩ (.int .i64 x.rule.hm)).setCell ⟨w2.heap.size, 5, none⟩ (.int .i64 x.rule.ls)).setCell ⟨w2.heap.size, 6, none⟩ (.int .i64 x.rule.hs)).setCell ⟨w2.heap.size, 7, none⟩ (.int .i64 x.strand)).setCell ⟨w2.heap.size, 8, none⟩ (.slice ap4 x.pieces.length cp4)).setCell ⟨w2.heap.size, 9, none⟩ (.slice al4 x.low.length cl4)).setCell ⟨w2.heap.size, 10, none⟩ (.slice ah4 x.high.length ch4)).setCell ⟨w2.heap.size, 11, none⟩ (.int .i64 x.scrap) := ⟨_, rfl⟩;rw [← hwz];have TZ : ai w2.heap.size (w2.heap.size + 1) w4 wz := by rw [hwz]; exact aI _ _ _ _ _ _ _ _ _ _ _ _ _ _
   have C_z : ae wz w2.heap.size 31 (mC aS4 cs4 ap4 cp4 al4 cl4 ah4 ch4 x) := by rw [hwz]; exact dU C_4 rfl _ _ _ _ _ _ _ _ _ _ _ _
   have R_z := R_4.other TZ (by omega);have B_z := hide (B_4.out.trans (TZ.below (B := w.heap.size) (by omega) B_4.out.size));have G_z := hide (G_4.out.past C_4 TZ);clear hwz TZ cCz fCz;have cCz := af C_z;have cRz := af R_z;have fRz := ay R_z;go_wp2_with fail
   refine bodyPost_ret (by simp [results, Tryz.results27, go_sem, cRz]; try rfl) rfl ?_;rw [HZ.out];exact ⟨_, _, _, _, rfl, aV G_z.out B_z.out (by omega) (by omega) nl _ _ _ _ _ _ _ _ _ _ _ _⟩
theorem do_sx (s p l h : Value) (m : Mi) (k a b : Int) (w : World) (H : aM 0 w.heap.size w s p l h m) (ha : a ≤ 9223372036854775807) (hb : b ≤ 9223372036854775807) (e0 : (k == 0) = false) (e1 : (k == 1) = false) (e2 : (k == 2) = false) (e3 : (k == 3) = false) (e4 : (k == 4) = false) :
 Calls Tryz.prog 27 #[ag s p l h m, .agg #[.int .i64 k, .int .i64 a, .int .i64 b]] w (jg w.heap.size (doR m ⟨k, a, b⟩) w) := by
 obtain ⟨ao1, cap1, ao2, cap2, ao3, cap3, ao4, cap4, rfl, rfl, rfl, rfl⟩ := H.op;have HM := hide H;clear H ha hb;unfold ag;go_enter Tryz.func27, Tryz.ntmps27;go_wp2_with fail
 refine aj fun wx hwx => ?_;have A_0 : ae wx (w.heap.size) 31 (mC ao1 cap1 ao2 cap2 ao3 cap3 ao4 cap4 m) := by rw [hwx]; exact (((ae.new _ _ _).alloc _).alloc _)
 have D_0 : ae wx (w.heap.size + 1) 42 [.int .i64 k, .int .i64 a, .int .i64 b] := by rw [hwx]; simpa using ((ae.new (World.alloc _ _) 42 [.int .i64 k, .int .i64 a, .int .i64 b]).alloc _)
 have R_0 : ae wx (w.heap.size + 1 + 1) 31 z12 := by rw [hwx]; simpa using (ae.new (World.alloc (World.alloc _ _) _) 31 z12)
 have B_0 : Below w.heap.size w wx := by rw [hwx]; go_grown
 clear hwx;have hL0 := R_0.lt;have V_0 := hide (HM.out.below B_0);have k1 := cu _ _ _ _ m wx V_0.out.all;unfold ag at k1;cases hv : aF m with
 | false =>
  rw [hv] at k1;have HZ := hide (iC hv ⟨k, a, b⟩);clear hv;refine k1.mono ?_;rintro e w1 ⟨rfl, hb⟩;have R_1 := R_0.below hb R_0.lt;have B_1 := bs B_0 hb;clear hb k1;have cRz := af R_1;have fRz := ay R_1;go_wp2_with fail
  refine bodyPost_ret (by simp [results, Tryz.results27, go_sem, cRz]; try rfl) rfl ?_;rw [HZ.out];exact ⟨_, _, _, _, rfl, bU B_1.out nl (by omega) _ _ _ _ _ _ _ _ _ _ _ _⟩
 | true =>
  rw [hv] at k1;obtain ⟨n1, n2, n3, n4⟩ := fV hv;have hD := gD hv k a b;rw [step_x e0 e1 e2 e3 e4] at hD;have HZ := hide (show doR m ⟨k, a, b⟩ = (m, false) from hD);clear hD;clear hv;refine k1.mono ?_;rintro e w1 ⟨rfl, hb⟩;have A_1 := A_0.below hb A_0.lt;have D_1 := D_0.below hb D_0.lt;have R_1 := R_0.below hb R_0.lt;have V_1 := hide (V_0.out.below hb);have B_1 := bs B_0 hb;have hz1 := hb.size;clear hb k1;have cAz := af A_1;go_wp2_with fail
  clear cAz;have k2 := bu _ _ _ _ m w1 V_1.out.all n1 n2 n3 n4;unfold ag at k2;refine k2.mono ?_;clear k2;rintro e w2 ⟨s2, p2, l2, h2, rfl, G, hb⟩;have A_2 := A_1.below hb A_1.lt;have D_2 := D_1.below hb D_1.lt;have R_2 := R_1.below hb R_1.lt;have V_2 := hide (V_1.out.below hb);have B_2 := bs B_1.out hb;have hz2 := hb.size;have hL2 := R_2.lt;have hLD := D_2.lt;have hLA := A_2.lt;clear hb;obtain ⟨aS, cs, ap, cp, al, cl, ah, ch, rfl, rfl, rfl, rfl⟩ := G.op;clear G;unfold ag;have cD0 := D_2.c 0 rfl;have cD1 := D_2.c 1 rfl;have cD2 := D_2.c 2 rfl;have cAz := af A_2;go_wp2_with fail
  refine aj fun wy hwy => ?_;have hby : Below w2.heap.size w2 wy := by
   rw [hwy];first
    | exact (Below.refl _ _).alloc nl _
    | exact ((Below.refl _ _).alloc nl _).trans ((aI w2.heap.size _ _ _ _ _ _ _ _ _ _ _ _ _).below nl (by simp))
  have R_4 := R_2.below hby R_2.lt;have V_4 := hide (V_2.out.below hby);have B_4 := bs B_2.out hby;have hz4 := hby.size;clear hwy hby cD0 cD1 cD2 cAz;have k5 := bu _ _ _ _ m wy V_4.out.all n1 n2 n3 n4;unfold ag at k5;refine k5.mono ?_;clear k5;rintro e w5 ⟨s5, p5, l5, h5, rfl, G, hb⟩;have R_5 := R_4.below hb R_4.lt;have B_5 := bs B_4.out hb;clear hb;have G_5 := hide G;obtain ⟨aS5, cs5, ap5, cp5, al5, cl5, ah5, ch5, rfl, rfl, rfl, rfl⟩ := G.op;clear G;unfold ag;have cRz := af R_5;have fRz := ay R_5;go_wp2_with fail
  refine bodyPost_ret (by simp [results, Tryz.results27, go_sem, cRz]; try rfl) rfl ?_;rw [HZ.out];exact ⟨_, _, _, _, rfl, aV G_5.out B_5.out (by omega) (by omega) nl _ _ _ _ _ _ _ _ _ _ _ _⟩
end Go.Proofs.YtkhecelpafojdaaGreatDoor
