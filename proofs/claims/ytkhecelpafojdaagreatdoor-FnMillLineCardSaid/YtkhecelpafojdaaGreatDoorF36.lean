/-
  Parts of the proofs over mills, of: DoS3. Conditions: each theorem states its own.
-/
import Derived.Test.YtkhecelpafojdaaGreatDoorF24
import Derived.Test.YtkhecelpafojdaaGreatDoorF27
import Derived.Test.YtkhecelpafojdaaGreatDoorF29
set_option linter.unusedSimpArgs false
set_option linter.unusedVariables false
set_option maxRecDepth 10000
set_option maxHeartbeats 64000000
namespace Go.Proofs.YtkhecelpafojdaaGreatDoor
open Go.RowKit
theorem do_s3 (s p l h : Value) (m : Mi) (a b : Int) (w : World) (H : aM 0 w.heap.size w s p l h m) (ha : a ≤ 9223372036854775807) (hb : b ≤ 9223372036854775807) :
 Calls Tryz.prog 27 #[ag s p l h m, .agg #[.int .i64 3, .int .i64 a, .int .i64 b]] w (jg w.heap.size (doR m ⟨3, a, b⟩) w) := by
 obtain ⟨ao1, cap1, ao2, cap2, ao3, cap3, ao4, cap4, rfl, rfl, rfl, rfl⟩ := H.op;have HM := hide H;have HA := hide (And.intro ha hb);clear H ha hb;unfold ag;go_enter Tryz.func27, Tryz.ntmps27;go_wp2_with fail
 refine aj fun wx hwx => ?_;have A_0 : ae wx (w.heap.size) 31 (mC ao1 cap1 ao2 cap2 ao3 cap3 ao4 cap4 m) := by rw [hwx]; exact (((ae.new _ _ _).alloc _).alloc _)
 have D_0 : ae wx (w.heap.size + 1) 42 [.int .i64 3, .int .i64 a, .int .i64 b] := by rw [hwx]; simpa using ((ae.new (World.alloc _ _) 42 [.int .i64 3, .int .i64 a, .int .i64 b]).alloc _)
 have R_0 : ae wx (w.heap.size + 1 + 1) 31 z12 := by rw [hwx]; simpa using (ae.new (World.alloc (World.alloc _ _) _) 31 z12)
 have B_0 : Below w.heap.size w wx := by rw [hwx]; go_grown
 clear hwx;have hL0 := R_0.lt;have V_0 := hide (HM.out.below B_0);have k1 := cu _ _ _ _ m wx V_0.out.all;unfold ag at k1;cases hv : aF m with
 | false =>
  rw [hv] at k1;have HZ := hide (iC hv ⟨3, a, b⟩);clear hv;refine k1.mono ?_;rintro e w1 ⟨rfl, hb⟩;have R_1 := R_0.below hb R_0.lt;have B_1 := bs B_0 hb;clear hb k1;have cRz := af R_1;have fRz := ay R_1;go_wp2_with fail
  refine bodyPost_ret (by simp [results, Tryz.results27, go_sem, cRz]; try rfl) rfl ?_;rw [HZ.out];exact ⟨_, _, _, _, rfl, bU B_1.out nl (by omega) _ _ _ _ _ _ _ _ _ _ _ _⟩
 | true =>
  rw [hv] at k1;obtain ⟨n1, n2, n3, n4⟩ := fV hv;have hD := gD hv 3 a b;rw [step_3] at hD;clear hv;refine k1.mono ?_;rintro e w1 ⟨rfl, hb⟩;have A_1 := A_0.below hb A_0.lt;have D_1 := D_0.below hb D_0.lt;have R_1 := R_0.below hb R_0.lt;have V_1 := hide (V_0.out.below hb);have B_1 := bs B_0 hb;have hz1 := hb.size;clear hb k1;have cAz := af A_1;go_wp2_with fail
  clear cAz;have k2 := bu _ _ _ _ m w1 V_1.out.all n1 n2 n3 n4;unfold ag at k2;refine k2.mono ?_;clear k2;rintro e w2 ⟨s2, p2, l2, h2, rfl, G, hb⟩;have A_2 := A_1.below hb A_1.lt;have D_2 := D_1.below hb D_1.lt;have R_2 := R_1.below hb R_1.lt;have V_2 := hide (V_1.out.below hb);have B_2 := bs B_1.out hb;have hz2 := hb.size;have hL2 := R_2.lt;have hLD := D_2.lt;have hLA := A_2.lt;clear hb;have G_2 := hide G;obtain ⟨aS, cs, ap, cp, al, cl, ah, ch, rfl, rfl, rfl, rfl⟩ := G.op;clear G;unfold ag;have cD0 := D_2.c 0 rfl;have cD1 := D_2.c 1 rfl;have cD2 := D_2.c 2 rfl;by_cases ha0 : 0 ≤ a;rotate_left
  ·have haB : decide (0 ≤ a) = false := by simpa using ha0
   rw [liftD_no1 (m := m) (a := a) (b := b) (by simp [ha0])] at hD;have HZ := hide (show doR m ⟨3, a, b⟩ = (m, false) from hD);clear ha0 hD;have cAz := af A_2;go_wp2_with fail
   refine aj fun wy hwy => ?_;have C_y : ae wy w2.heap.size 31 (mC aS cs ap cp al cl ah ch m) := by
    rw [hwy];first
     | exact ae.new w2 31 (mC aS cs ap cp al cl ah ch m)
     | exact dU (ae.new w2 31 z12) rfl _ _ _ _ _ _ _ _ _ _ _ _
   have hby : Below w2.heap.size w2 wy := by
    rw [hwy];first
     | exact (Below.refl _ _).alloc nl _
     | exact ((Below.refl _ _).alloc nl _).trans ((aI w2.heap.size _ _ _ _ _ _ _ _ _ _ _ _ _).below nl (by simp))
   have A_y := A_2.below hby A_2.lt;have D_y := D_2.below hby D_2.lt;have R_y := R_2.below hby R_2.lt;have V_y := hide (V_2.out.below hby);have B_y := bs B_2.out hby;have G_y := hide (G_2.out.below hby);have hzy := hby.size;have hLy := C_y.lt;have MB := hide (show dm w1.heap.size w2.heap.size wy (.slice aS m.store.length cs) (.slice ap m.pieces.length cp) (.slice al m.low.length cl) (.slice ah m.high.length ch) m from ⟨C_y, G_y.out, ⟨fun e => Nat.lt_irrefl _ (G_2.out.so.lt _ e).2, fun e => Nat.lt_irrefl _ (G_2.out.po.lt _ e).2, fun e => Nat.lt_irrefl _ (G_2.out.lo.lt _ e).2, fun e => Nat.lt_irrefl _ (G_2.out.ho.lt _ e).2⟩, hz2⟩);clear hwy hby;clear cAz cD0 cD1 cD2;have k5 := bu _ _ _ _ m wy V_y.out.all n1 n2 n3 n4;unfold ag at k5;refine k5.mono ?_;clear k5;rintro e w5 ⟨s5, p5, l5, h5, rfl, G, hb⟩;have R_5 := R_y.below hb R_y.lt;have B_5 := bs B_y.out hb;clear hb;have G_5 := hide G;obtain ⟨aS5, cs5, ap5, cp5, al5, cl5, ah5, ch5, rfl, rfl, rfl, rfl⟩ := G.op;clear G;unfold ag;have cRz := af R_5;have fRz := ay R_5;go_wp2_with fail
   refine bodyPost_ret (by simp [results, Tryz.results27, go_sem, cRz]; try rfl) rfl ?_;rw [HZ.out];exact ⟨_, _, _, _, rfl, aV G_5.out B_5.out (by omega) (by omega) nl _ _ _ _ _ _ _ _ _ _ _ _⟩
  ·have haB : decide (0 ≤ a) = true := by simpa using ha0
   by_cases hb0 : 0 ≤ b;rotate_left
   ·have hbB : decide (0 ≤ b) = false := by simpa using hb0
    rw [liftD_no1 (m := m) (a := a) (b := b) (by simp [hb0])] at hD;have HZ := hide (show doR m ⟨3, a, b⟩ = (m, false) from hD);clear hb0 hD;have cAz := af A_2;go_wp2_with fail
    refine aj fun wy hwy => ?_;have C_y : ae wy w2.heap.size 31 (mC aS cs ap cp al cl ah ch m) := by
     rw [hwy];first
      | exact ae.new w2 31 (mC aS cs ap cp al cl ah ch m)
      | exact dU (ae.new w2 31 z12) rfl _ _ _ _ _ _ _ _ _ _ _ _
    have hby : Below w2.heap.size w2 wy := by
     rw [hwy];first
      | exact (Below.refl _ _).alloc nl _
      | exact ((Below.refl _ _).alloc nl _).trans ((aI w2.heap.size _ _ _ _ _ _ _ _ _ _ _ _ _).below nl (by simp))
    have A_y := A_2.below hby A_2.lt;have D_y := D_2.below hby D_2.lt;have R_y := R_2.below hby R_2.lt;have V_y := hide (V_2.out.below hby);have B_y := bs B_2.out hby;have G_y := hide (G_2.out.below hby);have hzy := hby.size;have hLy := C_y.lt;have MB := hide (show dm w1.heap.size w2.heap.size wy (.slice aS m.store.length cs) (.slice ap m.pieces.length cp) (.slice al m.low.length cl) (.slice ah m.high.length ch) m from ⟨C_y, G_y.out, ⟨fun e => Nat.lt_irrefl _ (G_2.out.so.lt _ e).2, fun e => Nat.lt_irrefl _ (G_2.out.po.lt _ e).2, fun e => Nat.lt_irrefl _ (G_2.out.lo.lt _ e).2, fun e => Nat.lt_irrefl _ (G_2.out.ho.lt _ e).2⟩, hz2⟩);clear hwy hby;clear cAz cD0 cD1 cD2;have k5 := bu _ _ _ _ m wy V_y.out.all n1 n2 n3 n4;unfold ag at k5;refine k5.mono ?_;clear k5;rintro e w5 ⟨s5, p5, l5, h5, rfl, G, hb⟩;have R_5 := R_y.below hb R_y.lt;have B_5 := bs B_y.out hb;clear hb;have G_5 := hide G;obtain ⟨aS5, cs5, ap5, cp5, al5, cl5, ah5, ch5, rfl, rfl, rfl, rfl⟩ := G.op;clear G;unfold ag;have cRz := af R_5;have fRz := ay R_5;go_wp2_with fail
    refine bodyPost_ret (by simp [results, Tryz.results27, go_sem, cRz]; try rfl) rfl ?_;rw [HZ.out];exact ⟨_, _, _, _, rfl, aV G_5.out B_5.out (by omega) (by omega) nl _ _ _ _ _ _ _ _ _ _ _ _⟩
   ·have hbB : decide (0 ≤ b) = true := by simpa using hb0
    go_wp2_with fail
    obtain ⟨wy, hwy⟩ : ∃ wy : World, wy = w2.alloc (.cells #[.slice aS m.store.length cs, .int .i64 m.rule.lc, .int .i64 m.rule.hc, .int .i64 m.rule.lm, .int .i64 m.rule.hm, .int .i64 m.rule.ls, .int .i64 m.rule.hs, .int .i64 m.strand, .slice ap m.pieces.length cp, .slice al m.low.length cl, .slice ah m.high.length ch, .int .i64 m.scrap] 31) := ⟨_, rfl⟩;rw [← hwy];have C_y : ae wy w2.heap.size 31 (mC aS cs ap cp al cl ah ch m) := by
     rw [hwy];first
      | exact ae.new w2 31 (mC aS cs ap cp al cl ah ch m)
      | exact dU (ae.new w2 31 z12) rfl _ _ _ _ _ _ _ _ _ _ _ _
    have hby : Below w2.heap.size w2 wy := by
     rw [hwy];first
      | exact (Below.refl _ _).alloc nl _
      | exact ((Below.refl _ _).alloc nl _).trans ((aI w2.heap.size _ _ _ _ _ _ _ _ _ _ _ _ _).below nl (by simp))
    have A_y := A_2.below hby A_2.lt;have D_y := D_2.below hby D_2.lt;have R_y := R_2.below hby R_2.lt;have V_y := hide (V_2.out.below hby);have B_y := bs B_2.out hby;have G_y := hide (G_2.out.below hby);have hzy := hby.size;have hLy := C_y.lt;have MB := hide (show dm w1.heap.size w2.heap.size wy (.slice aS m.store.length cs) (.slice ap m.pieces.length cp) (.slice al m.low.length cl) (.slice ah m.high.length ch) m from ⟨C_y, G_y.out, ⟨fun e => Nat.lt_irrefl _ (G_2.out.so.lt _ e).2, fun e => Nat.lt_irrefl _ (G_2.out.po.lt _ e).2, fun e => Nat.lt_irrefl _ (G_2.out.lo.lt _ e).2, fun e => Nat.lt_irrefl _ (G_2.out.ho.lt _ e).2⟩, hz2⟩);clear hwy hby;have M_y := hide MB.out;clear cD0 cD1 cD2;have A_z := A_y;have D_z := D_y;have R_z := R_y;have V_z := hide V_y.out;have B_z := hide B_y.out;have M_z := hide M_y.out;have hzC : w2.heap.size < wy.heap.size := M_z.out.row.lt;obtain ⟨⟨q, r⟩, hQ⟩ : ∃ Q, eX m.low m.high (aP a) (aG a) (aP b) (aG b) = Q := ⟨_, rfl⟩;have HQ := hide hQ;have HA2 := hide (fun W => spotN_spec a W ha0 HA.out.1);have HB2 := hide (fun W => spotN_spec b W hb0 HA.out.2);have hlf := fun (W : World) (kx : Below wy.heap.size wy W) => lift_spec (.slice ao3 m.low.length cap3) (.slice ao4 m.high.length cap4) m.low m.high (aP a) (aG a) (aP b) (aG b) W ((V_z.out.low.below kx).mono nl (Nat.le_trans V_z.out.low.lt kx.size) nl) ((V_z.out.high.below kx).mono nl (Nat.le_trans V_z.out.high.lt kx.size) nl);rw [hQ] at hlf;unfold aD at hlf;have HLF := hide hlf;clear hlf;obtain ⟨ta, hta⟩ : ∃ t, aP a = t := ⟨_, rfl⟩;obtain ⟨pa, hpa⟩ : ∃ t, aG a = t := ⟨_, rfl⟩;obtain ⟨tb, htb⟩ : ∃ t, aP b = t := ⟨_, rfl⟩;obtain ⟨pb, hpb⟩ : ∃ t, aG b = t := ⟨_, rfl⟩;rw [hta, hpa] at HA2 HLF;rw [htb, hpb] at HB2 HLF;clear hta hpa htb hpb hQ;have hI : ((wy.drew.cell? ⟨w.heap.size, 9, none⟩ = some (.slice ao3 m.low.length cap3) ∧ wy.drew.cell? ⟨w.heap.size, 10, none⟩ = some (.slice ao4 m.high.length cap4)) ∧ (wy.drew.cell? ⟨w.heap.size + 1, 1, none⟩ = some (.int .i64 a) ∧ wy.drew.cell? ⟨w.heap.size + 1, 2, none⟩ = some (.int .i64 b))) ∧ Below wy.heap.size wy wy.drew := ⟨⟨⟨A_z.cell 9 (by simp), A_z.cell 10 (by simp)⟩, D_z.cell 1 (by simp), D_z.cell 2 (by simp)⟩, (Below.refl _ _).drew⟩;have hlA := A_z.lt;have hlD := D_z.lt
    go_cut [10, 11] from 86 to 98 (fun bx ok wr => BoxGot wy.heap.size wr q bx ∧ ok = .bool r ∧ Below wy.heap.size wy wr)
    case first =>
     go_region_held (fun W => ((W.cell? ⟨w.heap.size, 9, none⟩ = some (.slice ao3 m.low.length cap3) ∧ W.cell? ⟨w.heap.size, 10, none⟩ = some (.slice ao4 m.high.length cap4)) ∧ (W.cell? ⟨w.heap.size + 1, 1, none⟩ = some (.int .i64 a) ∧ W.cell? ⟨w.heap.size + 1, 2, none⟩ = some (.int .i64 b))) ∧ Below wy.heap.size wy W) (first | exact hI | assumption | exact heldD_alloc hlA hlD (by assumption) | exact heldD_store hlA hlD (by first | exact Nat.le_refl _ | omega) (by assumption) | fail) (first
      | (go_at_call 83; (with_reducible refine (HA2.out _).mono ?_); rintro e w5 ⟨rfl, hb5⟩; have hS5 := iD hlA hlD hb5 (by assumption); have hz5 := hS5.2.size; obtain ⟨hc5, hf5⟩ := gX hb5; have hzz5 := hb5.size; (try simp at hzz5); (try have hx50 : wy.heap.size < w5.heap.size := by omega); (try have hx51 : w6.heap.size < w5.heap.size := by omega))
      | (go_at_call 83; (with_reducible refine (HB2.out _).mono ?_); rintro e w6 ⟨rfl, hb6⟩; have hS6 := iD hlA hlD hb6 (by assumption); have hz6 := hS6.2.size; obtain ⟨hc6, hf6⟩ := gX hb6; have hzz6 := hb6.size; (try simp at hzz6); (try have hx60 : wy.heap.size < w6.heap.size := by omega); (try have hx61 : w5.heap.size < w6.heap.size := by omega))
      | (go_at_call 84; (with_reducible refine (HLF.out _ (And.right (by assumption : _ ∧ Below wy.heap.size wy _))).mono ?_); rintro e w7 ⟨lx, hx, rfl, own, hb7⟩; have hS7 := iD hlA hlD hb7 (by assumption); have hz7 := hS7.2.size; obtain ⟨hc7, hf7⟩ := gX hb7; have hzz7 := hb7.size; (try simp at hzz7); (try have hx70 : wy.heap.size < w7.heap.size := by omega); (try have hx71 : w5.heap.size < w7.heap.size := by omega); (try have hx72 : w6.heap.size < w7.heap.size := by omega); obtain ⟨alx, clx, hlx, -, -⟩ := own.lo.form; obtain ⟨ahx, chx, hhx, -, -⟩ := own.ho.form; subst hlx hhx; simp only [aD]))
     all_goals
      have hwd : wy.drew.heap.size = wy.heap.size := rfl;go_wp2_with fail
      go_meet
     ·exact ⟨box_new (base := wy.heap.size) own (by omega) (by omega), rfl, And.right (by assumption)⟩
     ·exact ⟨ic ((ae.new w6 _ _).below hb7 (by simp)) own (by omega) (by simp), rfl, And.right (by assumption)⟩
     ·exact ⟨ic (((ae.new w5 _ _).below hb6 (by simp)).below hb7 (by omega)) own (by omega) (by omega), rfl, And.right (by assumption)⟩
     ·exact ⟨ic ((((ae.new wy.drew _ _).below hb5 (by simp)).below hb6 (by omega)).below hb7 (by omega)) own (by omega) (by omega), rfl, And.right (by assumption)⟩
    obtain ⟨⟨G, lx, hx, rfl, hG, hrow, hown⟩, rfl, hbw⟩ := hcut;have HO := hide hown;have hGz := hrow.lt;have g0 : wc.cell? ⟨G, 0, none⟩ = some lx := hrow.cell 0 (by simp);have g1 : wc.cell? ⟨G, 1, none⟩ = some hx := hrow.cell 1 (by simp);have A_c := A_z.below hbw A_z.lt;have R_c := R_z.below hbw R_z.lt;have V_c := hide (V_z.out.below hbw);have B_c := bs B_z.out hbw;have M_c := hide (M_z.out.below hbw);have hzc := hbw.size;have f9 := M_c.out.row.frozen 9;have f10 := M_c.out.row.frozen 10;have d9 : wc.cell? ⟨w2.heap.size, 9, none⟩ = some (.slice al m.low.length cl) := M_c.out.row.cell 9 (by simp [az]);have d10 : wc.cell? ⟨w2.heap.size, 10, none⟩ = some (.slice ah m.high.length ch) := M_c.out.row.cell 10 (by simp [az]);have d8 : wc.cell? ⟨w2.heap.size, 8, none⟩ = some (.slice ap m.pieces.length cp) := M_c.out.row.cell 8 (by simp [az]);have hltc := M_c.out.row.lt;have G_w := hide (M_z.out.got.yard hbw nl HO.out);have O_w := hide (iq M_z.out.off (show w2.heap.size < wy.heap.size from M_z.out.row.lt) HO.out);obtain ⟨alx, clx, rfl, -, -⟩ := hown.lo.form;obtain ⟨ahx, chx, rfl, -, -⟩ := hown.ho.form;clear hrow hown hbw hI A_z;cases r with
    | false =>
     rw [liftD_no2 (m := m) (a := a) (b := b) (by rw [HQ.out])] at hD;have HZ := hide (show doR m ⟨3, a, b⟩ = (m, false) from hD);clear hD;have cAz := af A_c;obtain ⟨r1, k1, b1⟩ := df M_c.out.row G_w.out O_w.out M_c.out.hB (j := 9) (by simp [az]) (.slice alx q.1.length clx);obtain ⟨r2, k2, b2⟩ := df r1 k1 O_w.out M_c.out.hB (j := 10) (by simp [az]) (.slice ahx q.2.length chx);have BX := hide (b1.trans b2);clear k1 k2 r1 r2 b1 b2;go_wp2_with fail
     refine aj fun wz hwz => ?_;have hbz : Below w1.heap.size wc wz := by rw [hwz]; exact BX.out
     have R_f := R_c.below hbz (by omega);have V_f := hide (V_c.out.gW hbz (by omega));have B_f := hide (B_c.out.trans (hbz.mono (by omega)));have hzf := hbz.size;clear hwz hbz cAz;have k5 := bu _ _ _ _ m wz V_f.out.all n1 n2 n3 n4;unfold ag at k5;refine k5.mono ?_;clear k5;rintro e w5 ⟨s5, p5, l5, h5, rfl, G, hb⟩;have R_5 := R_f.below hb R_f.lt;have B_5 := bs B_f.out hb;clear hb;have G_5 := hide G;obtain ⟨aS5, cs5, ap5, cp5, al5, cl5, ah5, ch5, rfl, rfl, rfl, rfl⟩ := G.op;clear G;unfold ag;have cRz := af R_5;have fRz := ay R_5;go_wp2_with fail
     refine bodyPost_ret (by simp [results, Tryz.results27, go_sem, cRz]; try rfl) rfl ?_;rw [HZ.out];exact ⟨_, _, _, _, rfl, aV G_5.out B_5.out (by omega) (by omega) nl _ _ _ _ _ _ _ _ _ _ _ _⟩
    | true =>
     rw [liftD_yes (m := m) ha0 hb0 HQ.out] at hD;have HZ := hide (show doR m ⟨3, a, b⟩ = ({ m with low := q.1, high := q.2 }, true) from hD);clear hD;have cC0 : wc.cell? ⟨w2.heap.size, 0, none⟩ = some (.slice aS m.store.length cs) := M_c.out.row.cell 0 (by simp [az]);have cC1 : wc.cell? ⟨w2.heap.size, 1, none⟩ = some (.int .i64 m.rule.lc) := M_c.out.row.cell 1 (by simp [az]);have cC2 : wc.cell? ⟨w2.heap.size, 2, none⟩ = some (.int .i64 m.rule.hc) := M_c.out.row.cell 2 (by simp [az]);have cC3 : wc.cell? ⟨w2.heap.size, 3, none⟩ = some (.int .i64 m.rule.lm) := M_c.out.row.cell 3 (by simp [az]);have cC4 : wc.cell? ⟨w2.heap.size, 4, none⟩ = some (.int .i64 m.rule.hm) := M_c.out.row.cell 4 (by simp [az]);have cC5 : wc.cell? ⟨w2.heap.size, 5, none⟩ = some (.int .i64 m.rule.ls) := M_c.out.row.cell 5 (by simp [az]);have cC6 : wc.cell? ⟨w2.heap.size, 6, none⟩ = some (.int .i64 m.rule.hs) := M_c.out.row.cell 6 (by simp [az]);have cC7 : wc.cell? ⟨w2.heap.size, 7, none⟩ = some (.int .i64 m.strand) := M_c.out.row.cell 7 (by simp [az]);have cC11 : wc.cell? ⟨w2.heap.size, 11, none⟩ = some (.int .i64 m.scrap) := M_c.out.row.cell 11 (by simp [az]);have cRz := af R_c;have fRz := ay R_c;go_wp2_with fail
     refine bodyPost_ret (by simp [results, Tryz.results27, go_sem, cRz]; try rfl) rfl ?_;rw [HZ.out];obtain ⟨r1, k1, b1⟩ := df M_c.out.row G_w.out O_w.out M_c.out.hB (j := 9) (by simp [az]) (.slice alx q.1.length clx);obtain ⟨r2, k2, b2⟩ := df r1 k1 O_w.out M_c.out.hB (j := 10) (by simp [az]) (.slice ahx q.2.length chx);exact ⟨_, _, _, _, rfl, aV k2 (B_c.out.trans ((b1.trans b2).mono (by omega))) (by omega) (by omega) nl _ _ _ _ _ _ _ _ _ _ _ _⟩
end Go.Proofs.YtkhecelpafojdaaGreatDoor
