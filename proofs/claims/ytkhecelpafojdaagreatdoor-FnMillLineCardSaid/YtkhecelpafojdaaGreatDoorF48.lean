/-
  Parts of the proofs over mills, of: RunI, ClearA, IdsT, RunS, RepI. Conditions: each theorem states its own.
-/
import Derived.Test.YtkhecelpafojdaaGreatDoorF38
import Derived.Test.YtkhecelpafojdaaGreatDoorF47
set_option linter.unusedSimpArgs false
set_option linter.unusedVariables false
set_option maxRecDepth 10000
set_option maxHeartbeats 64000000
namespace Go.Proofs.YtkhecelpafojdaaGreatDoor
open Go.RowKit
theorem run_impl (s p l h v : Value) (m : Mi) (js : List J) (w : World) (H : aM 0 w.heap.size w s p l h m) (Hj : bz 0 w.heap.size w v js) (hr : ∀ j ∈ js, j.d ≤ 9223372036854775807 ∧ j.g ≤ 9223372036854775807) :
 Calls Tryz.prog 22 #[ag s p l h m, v] w (RunGot w.heap.size (iX m js) w) := by
 obtain ⟨ao1, cap1, ao2, cap2, ao3, cap3, ao4, cap4, rfl, rfl, rfl, rfl⟩ := H.op;have HM := hide H;have HJ := hide Hj;have HR := hide hr;obtain ⟨aoj, cpj, rfl, -, -, -, -⟩ := Hj;clear H hr;unfold ag;go_enter Tryz.func22, Tryz.ntmps22;go_wp2_with fail
 refine aj fun wx hwx => ?_;have A_0 : ae wx (w.heap.size) 31 (mC ao1 cap1 ao2 cap2 ao3 cap3 ao4 cap4 m) := by rw [hwx]; exact (ae.new _ _ _).alloc _
 have R_0 : ae wx (w.heap.size + 1) 31 z12 := by rw [hwx]; simpa using (ae.new (World.alloc _ _) 31 z12)
 have B_0 : Below w.heap.size w wx := by rw [hwx]; go_grown
 clear hwx;have hL0 := R_0.lt;have V_0 := hide (HM.out.below B_0);have k1 := cz _ _ _ _ m wx V_0.out.all;unfold ag at k1;cases hv : aF m with
 | false =>
  rw [hv] at k1;have HZ := hide (run_bad (m := m) (l := js) (.inl hv));clear hv;refine k1.mono ?_;rintro e w1 ⟨rfl, hb⟩;have R_1 := R_0.below hb R_0.lt;have B_1 := bs B_0 hb;clear hb k1;have cRz := af R_1;have fRz := ay R_1;go_wp2_with fail
  refine bodyPost_ret (by simp [results, Tryz.results22, go_sem, cRz]; try rfl) rfl ?_;rw [HZ.out];exact ⟨_, _, _, _, rfl, bU B_1.out nl (by omega) _ _ _ _ _ _ _ _ _ _ _ _⟩
 | true =>
  rw [hv] at k1;obtain ⟨n1, n2, n3, n4⟩ := fV hv;have HV := hide hv;clear hv;refine k1.mono ?_;rintro e w1 ⟨rfl, hb⟩;have A_1 := A_0.below hb A_0.lt;have R_1 := R_0.below hb R_0.lt;have V_1 := hide (V_0.out.below hb);have B_1 := bs B_0 hb;have hz1 := hb.size;clear hb k1;by_cases hl : js.length ≤ 99;rotate_left
  ·have hlB : decide (99 < (js.length : Int)) = true := by simp; omega
   have HZ := hide (run_bad (m := m) (l := js) (.inr (by omega)));have cRz := af R_1;have fRz := ay R_1;go_wp2_with fail
   refine bodyPost_ret (by simp [results, Tryz.results22, go_sem, cRz]; try rfl) rfl ?_;rw [HZ.out];exact ⟨_, _, _, _, rfl, bU B_1.out nl (by omega) _ _ _ _ _ _ _ _ _ _ _ _⟩
  ·have hlB : decide (99 < (js.length : Int)) = false := by simp; omega
   have HZ := hide (jL HV.out hl);have cAz := af A_1;go_wp2_with fail
   clear cAz;have k2 := bG _ _ _ _ m w1 V_1.out.all n1 n2 n3 n4;unfold ag at k2;refine k2.mono ?_;clear k2;rintro e w2 ⟨s2, p2, l2, h2, rfl, G, hb⟩;have R_2 := R_1.below hb R_1.lt;have B_2 := bs B_1.out hb;have hz2 := hb.size;have hL2 := R_2.lt;have J_2 := hide (HJ.out.below B_2.out);clear hb;have G_2 := hide G;obtain ⟨aS, cs, ap, cp, al, cl, ah, ch, rfl, rfl, rfl, rfl⟩ := G.op;clear G;unfold ag;go_wp2_with fail
   go_loopw [7, 25] (fun n i wr => ∃ (kk : Nat) (s p l h : Value), kk ≤ js.length ∧ i = .int .i64 (kk : Int) ∧ n = .int .i64 (dX m (js.take kk)).2 ∧ Below w2.heap.size w2 wr ∧ ae wr w2.heap.size 31 (az s p l h (dX m (js.take kk)).1) ∧ ak w1.heap.size wr s p l h (dX m (js.take kk)).1) (fun _ i _ => js.length - (intOf i).toNat)
   case atStart => exact ⟨0, _, _, _, _, Nat.zero_le _, rfl, rfl, (Below.refl _ _).alloc nl _, ae.new w2 31 (az _ _ _ _ m), G_2.out.below ((Below.refl _ _).alloc nl _)⟩
   case round =>
    obtain ⟨kk, s3, p3, l3, h3, hkk, rfl, rfl, hb, C_r, G⟩ := hrel;have R_r := R_2.below hb hL2;have B_r := hide (B_2.out.trans (hb.mono (by omega)));have HB := hide hb;have hzr := hb.size;have J_r := hide (J_2.out.keep (fun g h1 h2 => hb.block g (by omega)) hb.size);clear hb;by_cases hlt : kk < js.length
    ·have HT := hide (run_take m hlt)
     have hnb := run_bd (js.take kk) (m, 0);have hnl : (js.take kk).length = kk := by rw [List.length_take]; omega
     rw [hnl] at hnb;have hrj := HR.out _ (show js.getD kk jz ∈ js by rw [List.getD_eq_getElem?_getD, List.getElem?_eq_getElem hlt]; exact List.getElem_mem _);obtain ⟨b, ob, cpb, e1, hbj, hbj2, j0, j1, j2⟩ := jb_at J_r.out hlt;cases e1;obtain ⟨⟨x, nn⟩, hx⟩ : ∃ z, dX m (js.take kk) = z := ⟨_, rfl⟩;have hnb2 : 0 ≤ nn ∧ nn ≤ (kk : Int) := by
      have e : ((js.take kk).foldl iJ (m, 0)).2 = nn := congrArg Prod.snd hx;rw [e] at hnb;simpa using hnb
     rw [hx] at HT C_r G;rw [hx];have C_r : ae wr w2.heap.size 31 (az s3 p3 l3 h3 x) := C_r;have G : ak w1.heap.size wr s3 p3 l3 h3 x := G;obtain ⟨dj, hdj⟩ : ∃ d, js.getD kk jz = d := ⟨_, rfl⟩;rw [hdj] at HT hrj j0 j1 j2;have hkI : (kk : Int) < (js.length : Int) := by omega
     have hk0 : (0 : Int) ≤ (kk : Int) := by omega
     have hw1 : IntKind.i64.wrap ((kk : Int) + 1) = ((kk + 1 : Nat) : Int) := by rw [show (kk : Int) + 1 = ((kk + 1 : Nat) : Int) by omega]; exact IntWalk.i64_in _ (by omega)
     have hw2 : IntKind.i64.wrap (nn + 1) = nn + 1 := IntWalk.i64_in _ (by omega);obtain ⟨⟨y, ok⟩, hy⟩ : ∃ z, doR x dj = z := ⟨_, rfl⟩;have HY := hide hy;have G_r := hide G;obtain ⟨aS3, cs3, ap3, cp3, al3, cl3, ah3, ch3, rfl, rfl, rfl, rfl⟩ := G.op;have hLC := C_r.lt;clear hx hdj hnl hnb G;have cCz := af C_r;go_wp2_with fail
     refine aj fun wy hwy => ?_;have hby : Below wr.heap.size wr wy := by rw [hwy]; exact (Below.refl _ _).alloc nl _
     have C_y := C_r.below hby C_r.lt;have G_y := hide (G_r.out.below hby);have hzy := hby.size;have k3 := do_impl _ _ _ _ x dj wy G_y.out.all hrj.1 hrj.2;unfold ag at k3;rw [hy] at k3;have HBY := hide (HB.out.trans (hby.mono (by omega)));clear hwy hby hy cCz j0 j1 j2;refine k3.mono ?_;clear k3;rintro e w4 ⟨s4, p4, l4, h4, he, G4, hb4⟩;have he : e = .returned (.tuple #[ag s4 p4 l4 h4 y, .bool ok]) := he;have G4 : ak wy.heap.size w4 s4 p4 l4 h4 y := G4;subst he;have C_4 := C_y.below hb4 C_y.lt;have G_4 := hide G4;have G_x := hide (G_y.out.below hb4);have HB4 := hide (HBY.out.trans (hb4.mono (by omega)));have hz4 := hb4.size;have hLC4 := C_4.lt;obtain ⟨aS4, cs4, ap4, cp4, al4, cl4, ah4, ch4, rfl, rfl, rfl, rfl⟩ := G4.op;clear G4 hb4;unfold ag
     go_upto_region 9 with fail
     obtain ⟨wa, hwa⟩ : ∃ wa : World, wa = w4.alloc (.cells #[.slice aS4 y.store.length cs4, .int .i64 y.rule.lc, .int .i64 y.rule.hc, .int .i64 y.rule.lm, .int .i64 y.rule.hm, .int .i64 y.rule.ls, .int .i64 y.rule.hs, .int .i64 y.strand, .slice ap4 y.pieces.length cp4, .slice al4 y.low.length cl4, .slice ah4 y.high.length ch4, .int .i64 y.scrap] 31) := ⟨_, rfl⟩;rw [← hwa];have hba : Below w4.heap.size w4 wa := by rw [hwa]; exact (Below.refl _ _).alloc nl _
     have Y_a : ae wa w4.heap.size 31 (mC aS4 cs4 ap4 cp4 al4 cl4 ah4 ch4 y) := by rw [hwa]; exact ae.new w4 31 (az _ _ _ _ y)
     have C_a := C_4.below hba C_4.lt;have G_a := hide (G_4.out.below hba);have G_b := hide (G_x.out.below hba);have HBa := hide (HB4.out.trans (hba.mono (by omega)));have hza := hba.size;have hLa := Y_a.lt;have hLb := C_a.lt;clear hwa hba;cases ok with
     | false =>
      have HS := hide (HT.out.trans (runS_no HY.out));go_wp2_with fail
      go_roundw
      case rel =>
       refine ⟨kk + 1, .slice aS3 x.store.length cs3, .slice ap3 x.pieces.length cp3, .slice al3 x.low.length cl3, .slice ah3 x.high.length ch3, by omega, rfl, by rw [HS.out], HBa.out, ?_, ?_⟩
       ·rw [HS.out]; exact C_a
       ·rw [HS.out]; exact G_b.out
      case measure => simp [intOf]; omega
     | true =>
      have HS := hide (HT.out.trans (runS_yes HY.out));have cCz := af C_a;have fCz := ay C_a;have cYz := af Y_a;go_wp2_with fail
      go_roundw
      case rel =>
       have TW := aI w2.heap.size wa (.slice aS4 y.store.length cs4) (.int .i64 y.rule.lc) (.int .i64 y.rule.hc) (.int .i64 y.rule.lm) (.int .i64 y.rule.hm) (.int .i64 y.rule.ls) (.int .i64 y.rule.hs) (.int .i64 y.strand) (.slice ap4 y.pieces.length cp4) (.slice al4 y.low.length cl4) (.slice ah4 y.high.length ch4) (.int .i64 y.scrap);refine ⟨kk + 1, .slice aS4 y.store.length cs4, .slice ap4 y.pieces.length cp4, .slice al4 y.low.length cl4, .slice ah4 y.high.length ch4, by omega, rfl, by rw [HS.out], HBa.out.trans (TW.below nl (by omega)), ?_, ?_⟩
       ·rw [HS.out]; exact dU C_a rfl _ _ _ _ _ _ _ _ _ _ _ _
       ·rw [HS.out]; exact (G_a.out.past C_a TW).mono (by omega)
      case measure => simp [intOf]; omega
    ·obtain rfl : kk = js.length := by omega
     rw [List.take_length] at C_r G;rw [List.take_length];have hkI : ¬ (js.length : Int) < (js.length : Int) := by omega
     obtain ⟨⟨x, nn⟩, hx⟩ : ∃ z, dX m js = z := ⟨_, rfl⟩;rw [hx] at C_r G;rw [hx];have HX := hide (HZ.out.trans hx);have C_r : ae wr w2.heap.size 31 (az s3 p3 l3 h3 x) := C_r;have G : ak w1.heap.size wr s3 p3 l3 h3 x := G;have G_r := hide G;obtain ⟨aS3, cs3, ap3, cp3, al3, cl3, ah3, ch3, rfl, rfl, rfl, rfl⟩ := G.op;clear hx G;have cCz := af C_r;have cRz := af R_r;have fRz := ay R_r;go_wp2_with fail
     refine bodyPost_ret (by simp [results, Tryz.results22, go_sem, cRz]; try rfl) rfl ?_;rw [HX.out];exact ⟨_, _, _, _, rfl, aV G_r.out B_r.out (by omega) (by omega) nl _ _ _ _ _ _ _ _ _ _ _ _⟩
theorem clear_impl (s p l h : Value) (m : Mi) (w : World) (H : aM 0 w.heap.size w s p l h m) :
 Calls Tryz.prog 23 #[ag s p l h m] w (DeedsNew w.heap.size (bM m) w) := by
 obtain ⟨ao1, cap1, ao2, cap2, ao3, cap3, ao4, cap4, rfl, rfl, rfl, rfl⟩ := H.op;have hpl := H.pieces.len;obtain ⟨j0, hj0, hzj, hj1, hj2⟩ := info_parts info_J;unfold ag;go_enter Tryz.func23, Tryz.ntmps23;go_wp2_with fail
 refine aj fun wx hwx => ?_;have A_0 : ae wx (w.heap.size) 31 (mC ao1 cap1 ao2 cap2 ao3 cap3 ao4 cap4 m) := by rw [hwx]; exact (ae.new _ _ _)
 have B_0 : Below w.heap.size w wx := by rw [hwx]; go_grown
 clear hwx;have hL0 := A_0.lt;have VV_0 := hide (H.below B_0);have KV := cz _ _ _ _ m wx VV_0.out.all;cases hv : aF m with
 | false =>
  rw [hv] at KV;refine KV.mono ?_;rintro e w1 ⟨rfl, hb⟩;have HB := bs B_0 hb;have HF := hide (show bM m = [] by simp [bM, hv]);clear hb KV hv;go_wp2_with fail
  go_ret;exact ⟨_, rfl, by rw [HF.out]; exact World.ownsRow_nil _ _ _ _, HB.out⟩
 | true =>
  rw [hv] at KV;have HF := hide (show bM m = (nz (m.high ++ m.low)).map dK ++ (dA m.pieces 0).flatMap eG by simp [bM, hv]);have MV := aQ.1 hv;have h5 := MV.len;have q1 := MV.pile.l1;have q2 := MV.pile.l6;have q3 := MV.pile.lh;clear MV hv;refine (KV).mono ?_;rintro e w1 ⟨rfl, hb⟩;have A_1 := A_0.below hb A_0.lt;have VV_1 := hide (VV_0.out.below hb);have B_1 := bs B_0 hb;have hz1 := hb.size;clear hb;have cA9 := A_1.c 9 rfl;have cA10 := A_1.c 10 rfl;clear KV;have hzw := B_1.out.size;go_wp2_with fail
  refine aj fun y hwy => ?_;have R2 : ae y w1.heap.size 27 [.slice ao4 m.high.length cap4, .slice ao3 m.low.length cap3] := by rw [hwy]; exact ae.new _ _ _
  have hby : Below w1.heap.size w1 y := by rw [hwy]; go_grown
  clear hwy cA9 cA10;have A_y := A_1.below hby A_1.lt;have VV_y := hide (VV_1.out.below hby);have B_y := bs B_1.out hby;have hLy := A_y.lt;refine (concat_any _ _ _ _ m.high m.low y R2 VV_y.out.all.high VV_y.out.all.low (by omega) (by omega)).mono ?_;rintro e w2 ⟨v, rfl, hown, hb2⟩;have hat := bH hown rfl hb2.size;have A_2 := A_y.below hb2 hLy;have VV_2 := hide (VV_y.out.below hb2);have B_2 := bs B_y.out hb2;have hL2 := A_2.lt;have hzw2 := B_2.out.size;obtain ⟨ids, hids⟩ : ∃ ids, m.high ++ m.low = ids := ⟨_, rfl⟩;have hil : ids.length = m.high.length + m.low.length := by rw [← hids]; simp
  rw [hids] at hat hown HF;have hl3 : ids.length ≤ 20 := by omega
  have HAT := hide hat;obtain ⟨aov, capv, rfl, -, -⟩ := aB hown;clear hown hb2 hids hat hil hby;obtain ⟨aov', capv', e', -, -, -, hcv⟩ := HAT.out;simp only [Value.slice.injEq] at e';obtain ⟨rfl, -, rfl⟩ := e';have HCV := hide hcv;clear hcv;go_wp2_with fail
  go_loopw [3, 5, 20] (fun o _ i wr => ∃ k : Nat, k ≤ ids.length ∧ i = .int .i64 k ∧ Below w2.heap.size w2 wr ∧ wr.ownsRow w2.heap.size 42 3 o ((nz (ids.take k)).map dK).length (dh ((nz (ids.take k)).map dK))) (fun _ _ i _ => ids.length - (intOf i).toNat)
  case atStart => exact ⟨0, Nat.zero_le _, rfl, Below.refl _ _, World.ownsRow_nil _ _ _ _⟩
  case round =>
   obtain ⟨k, hk, rfl, hb, hown⟩ := hrel;have HB := hide hb;have HO := hide hown;have hnl := nz_len (ids.take k);have htk : (ids.take k).length ≤ k := List.length_take_le _ _;have hszr := hb.size;obtain ⟨aow, capw, rfl, -, -⟩ := aB hown;have A_r := A_2.below hb hL2;have cA8 := A_r.c 8 rfl;clear hown A_r;by_cases hlt : k < ids.length
   ·obtain ⟨b, o, rfl, hx1, hx2, hcs⟩ := HCV.out (by omega)
    obtain ⟨r1, -⟩ := hcs k hlt;rw [← hb.cell (p := ⟨b, _, none⟩) (by simpa using by omega)] at r1;have HN := hide (nz_take hlt);obtain ⟨x, hx⟩ : ∃ x, ids[k] = x := ⟨_, rfl⟩;rw [hx] at r1 HN;have hkI : (k : Int) < (ids.length : Int) := by omega
    clear hcs hx hb;obtain ⟨D, hD⟩ : ∃ D, (nz (ids.take k)).map dK = D := ⟨_, rfl⟩;have hDl : D.length ≤ 20 := by rw [← hD]; simp; omega
    rw [hD] at HO ⊢;by_cases hq : x = 0
    ·have hqB : (x != 0) = false := by simp [hq]
     have HN2 := hide (show (nz (ids.take (k + 1))).map dK = D by rw [HN.out, if_pos hq, hD]);clear hq hD;go_wp2_with fail
     go_roundw
     case rel => exact ⟨k + 1, by omega, by go_num, HB.out, by rw [HN2.out]; exact HO.out⟩
     case measure => simp [intOf]; omega
    ·have hqB : (x != 0) = true := by simp [hq]
     have HN2 := hide (show (nz (ids.take (k + 1))).map dK = D ++ [dK x] by rw [HN.out, if_neg hq, List.map_append, hD]; rfl);clear hq hD;go_wp2_with (at_builtin; refine aA rfl _ _ 36 rfl w2.heap.size 42 j0 _ 3 24 Tryz.underlying36 hj0 hzj hj1 hj2 rfl (by decide) _ _ _ rfl (HO.out.alloc _) (.slice (some ⟨wr.heap.size, 0, none⟩) 1 1) 1 [.int .i64 4, .int .i64 x, .int .i64 0] rfl ?c0 ?c1 ?c2 ?c3 ?_)
     case c0 => exact Source.lit wr [.int .i64 4, .int .i64 x, .int .i64 0] 3 42 1 rfl (fun u hu => by simp at hu; rcases hu with rfl | rfl | rfl <;> rfl) 1
     case c1 => unfold maxLen; omega
     case c2 => omega
     case c3 => simp; omega
     intro v2 w3 hown2 hgrow2 _;have hB3 := (HB.out.alloc hszr (.cells #[.int .i64 4, .int .i64 x, .int .i64 0] 42)).trans (Below.grow hgrow2 (HO.out.alloc _) nl (by simp; omega));have HB3 := hide hB3;have HO3 := hide (show w3.ownsRow w2.heap.size 42 3 v2 ((nz (ids.take (k + 1))).map dK).length (dh ((nz (ids.take (k + 1))).map dK)) by rw [HN2.out, dQ, List.length_append]; exact hown2);clear hown2 hgrow2 hB3;go_wp2_with fail
     go_roundw
     case rel => exact ⟨k + 1, by omega, by go_num, HB3.out, HO3.out⟩
     case measure => simp [intOf]; omega
   ·obtain rfl : k = ids.length := by omega
    rw [List.take_of_length_le nl] at HO hnl ⊢;have HBO := bs B_2.out hb;have VO := hide (VV_2.out.below hb);clear hb;obtain ⟨D1, hD1⟩ : ∃ D, (nz ids).map dK = D := ⟨_, rfl⟩;have hDl : D1.length ≤ 20 := by rw [← hD1]; simp; omega
    rw [hD1] at HO HF ⊢;clear hD1;obtain ⟨wo, rfl⟩ : ∃ wo : World, wo = wr := ⟨_, rfl⟩;go_wp2_with fail
    refine (idsIn_any _ m.pieces 0 _ _ wo VO.out.pieces (by omega)).mono ?_;rintro e w5 ⟨v5, rfl, hown5, hb5⟩;obtain ⟨zs, hzs⟩ : ∃ zs, dA m.pieces 0 = zs := ⟨_, rfl⟩;have hzl : zs.length ≤ 30 := by rw [← hzs]; exact Nat.le_trans (gK m.pieces 0 m.pieces.length) h5
    rw [hzs] at hown5 HF;have HI5 := hide hown5;have HO5 := hide (ownsRow_below HO.out hb5 nl);have HAP := hide (eZ HO.out hown5 nl);have HB5 := bs HBO.out hb5;have hz5 := hb5.size;obtain ⟨ao5, cap5, rfl, -, -⟩ := aB hown5;clear hown5 hb5 hzs cA8;go_wp2_with fail
    go_loopw [3, 7, 36] (fun o _ i wr => ∃ k : Nat, k ≤ zs.length ∧ i = .int .i64 k ∧ Below w2.heap.size w5 wr ∧ wr.ownsRow w2.heap.size 42 3 o (D1 ++ (zs.take k).flatMap eG).length (dh (D1 ++ (zs.take k).flatMap eG)) ∧ wr.ownsRow wo.heap.size 3 1 (.slice ao5 zs.length cap5) zs.length (aC zs) ∧ Apart o (.slice ao5 zs.length cap5)) (fun _ _ i _ => zs.length - (intOf i).toNat)
    case atStart => exact ⟨0, Nat.zero_le _, rfl, Below.refl _ _, by simpa using HO5.out, HI5.out, HAP.out⟩
    case round =>
     obtain ⟨k, hk, rfl, hb, hown, hids, hap⟩ := hrel;have HB := hide hb;have HO := hide hown;have HI := hide hids;have HA := hide hap;have hszr := hb.size;obtain ⟨aow, capw, rfl, -, -⟩ := aB hown;clear hown hap;obtain ⟨_, _, e1, -, -, -, hcl⟩ := bH hids rfl (by omega);simp only [Value.slice.injEq] at e1;obtain ⟨rfl, -, rfl⟩ := e1;clear hids hb;obtain ⟨D, hD⟩ : ∃ D, D1 ++ (zs.take k).flatMap eG = D := ⟨_, rfl⟩;have hDl : D.length ≤ 80 := by
      rw [← hD, List.length_append, flat_len];have := List.length_take_le k zs;omega
     rw [hD] at HO HA ⊢;by_cases hlt : k < zs.length
     ·obtain ⟨b, o, rfl, hx1, hx2, hcs⟩ := hcl (by omega)
      obtain ⟨r1, -⟩ := hcs k hlt;obtain ⟨x, hx⟩ : ∃ x, zs[k] = x := ⟨_, rfl⟩;rw [hx] at r1;have hkI : (k : Int) < (zs.length : Int) := by omega
      have HN2 := hide (show D1 ++ (zs.take (k + 1)).flatMap eG = D ++ eG x by rw [slab_take hlt, hx, ← List.append_assoc, hD]);clear hcs hx hD hcl;go_wp2_with (at_builtin; refine aA rfl _ _ 36 rfl w2.heap.size 42 j0 _ 3 24 Tryz.underlying36 hj0 hzj hj1 hj2 rfl (by decide) _ _ _ rfl (HO.out.alloc _) (.slice (some ⟨wr.heap.size, 0, none⟩) 2 2) 2 [.int .i64 2, .int .i64 x, .int .i64 0, .int .i64 4, .int .i64 x, .int .i64 0] rfl ?c0 ?c1 ?c2 ?c3 ?_)
      case c0 => exact Source.lit wr [.int .i64 2, .int .i64 x, .int .i64 0, .int .i64 4, .int .i64 x, .int .i64 0] 3 42 2 rfl (fun u hu => by simp at hu; rcases hu with rfl | rfl | rfl | rfl | rfl | rfl <;> rfl) 2
      case c1 => unfold maxLen; omega
      case c2 => omega
      case c3 => simp; omega
      intro v2 w3 hown2 hgrow2 h4;have hB3 := (HB.out.alloc (by omega) (.cells #[.int .i64 2, .int .i64 x, .int .i64 0, .int .i64 4, .int .i64 x, .int .i64 0] 42)).trans (Below.grow hgrow2 (HO.out.alloc _) nl (by simp; omega));have HB3 := hide hB3;have HI3 := hide (iG (HI.out.alloc _) hgrow2 HA.out);have HA3 := hide (HA.out.grow (HI.out.alloc (.cells #[.int .i64 2, .int .i64 x, .int .i64 0, .int .i64 4, .int .i64 x, .int .i64 0] 42)) (by simpa using h4));have HO3 := hide (show w3.ownsRow w2.heap.size 42 3 v2 (D1 ++ (zs.take (k + 1)).flatMap eG).length (dh (D1 ++ (zs.take (k + 1)).flatMap eG)) by rw [HN2.out, dQ, List.length_append]; exact hown2);clear hown2 hgrow2 hB3 h4;go_wp2_with fail
      go_roundw
      case rel => exact ⟨k + 1, by omega, by go_num, HB3.out, HO3.out, HI3.out, HA3.out⟩
      case measure => simp [intOf]; omega
     ·obtain rfl : k = zs.length := by omega
      have HR := hide (show bM m = D by rw [HF.out, ← hD, List.take_of_length_le nl]);have HO4 := hide (aJ HO.out hzw2);have HB4 := hide (HB5.out.trans (HB.out.mono hzw2));clear hcl hD;go_wp2_with fail
      go_ret;exact ⟨_, rfl, by rw [HR.out]; exact HO4.out, HB4.out⟩
theorem joinN_len {ids : List Int} (h : ∀ n ∈ ids, 0 ≤ n ∧ n ≤ 999) (hl : ids.length ≤ 30) : (dW ids).size ≤ 660 := by
 have := joinN_size (B := 21) ids (fun n hn => fC (h n hn).1 (h n hn).2);have : ids.length * 22 ≤ 30 * 22 := Nat.mul_le_mul_right _ hl;omega
theorem joinN_data (ids : List Int) : (⟨(Lib.join ((ids.map aW).map (·.data.toList)) (⟨#[44]⟩ : ByteArray).data.toList).toArray⟩ : ByteArray) = dW ids := by
 simp [dW, Function.comp_def]
theorem info_strI : (Tryz.prog.info? 9).map (fun i => (i.zero, i.size, i.bytes)) = some (some (.string ⟨#[]⟩), 1, 16) := by kernel_rfl
theorem rowL_strs (w : World) (n : Nat) : ae (w.alloc (.cells (madeCells #[.string ⟨#[]⟩] n) 9)) w.heap.size 9 (List.replicate n (.string ⟨#[]⟩)) := by
 have h := World.rowIs_made w (.string ⟨#[]⟩) n 9;unfold ae;rw [List.length_replicate];exact h.congr fun i hi => by simp [hi]
theorem ids_text (v : Value) (ids : List Int) (lo hi : Nat) (w : World) (H : au lo hi w v ids) (hl : ids.length ≤ 30) (hb : ∀ n ∈ ids, 0 ≤ n ∧ n ≤ 999) (hp : ik w) :
 Calls Tryz.prog 75 #[v] w fun e w' => e = .returned (.string (iQ ids)) ∧ Below w.heap.size w w' := by
 have HI := hide H;have HB := hide hb;have HP := hide hp;obtain ⟨ao, cap, rfl, -, -, -, -⟩ := H;clear hb hp;by_cases h0 : ids = []
 ·subst h0
  go_enter Tryz.func75, Tryz.ntmps75;go_wp2_with fail
  go_ret;exact ⟨by simp [iQ]; rfl, Below.refl _ _⟩
 have hlB : ((ids.length : Int) == 0) = false := by
  rw [beq_eq_false_iff_ne];have : ids.length ≠ 0 := fun e => h0 (List.length_eq_zero_iff.1 e);omega
 have HZ := hide (show iQ ids = dW ids by simp [iQ, h0]);clear h0;have hmk := fun W => gN (P := Tryz.prog) 89 9 _ _ _ Tryz.underlying89 info_strI .i64 .i64 ids.length (by omega) (by omega) W;go_enter Tryz.func75, Tryz.ntmps75;go_wp2_with fail
 clear hmk
 go_loopw [14] (fun i wr => ∃ (k : Nat) (vs : List Value), k ≤ ids.length ∧ i = .int .i64 (k : Int) ∧ Below w.heap.size w wr ∧ ae wr w.heap.size 9 vs ∧ vs.length = ids.length ∧ ∀ j, j < k → vs[j]? = some (.string (aW (ids.getD j 0)))) (fun i _ => ids.length - (intOf i).toNat)
 case atStart => exact ⟨0, _, Nat.zero_le _, rfl, (Below.refl _ _).alloc nl _, rowL_strs w _, by simp, fun j h => absurd h (Nat.not_lt_zero _)⟩
 case round =>
  obtain ⟨k, vs, hk, rfl, hbw, hrow, hvl, hvs⟩ := hrel;have HVS := hide hvs;have HR := hide hrow;have HW := hide hbw;have hGl := hrow.lt;clear hvs;by_cases hlt : k < ids.length
  ·obtain ⟨ao2, cap2, e1, -, -, -, hc⟩ := HI.out.below hbw
   obtain ⟨b1, o1, rfl, -, -, hcs⟩ := hc (by omega);cases e1;have c0 := (hcs k hlt).1;rw [show ids[k] = ids.getD k 0 by simp [hlt]] at c0;clear hc hcs;obtain ⟨x, hx⟩ : ∃ x, ids.getD k 0 = x := ⟨_, rfl⟩;have hxb := HB.out x (by rw [← hx, List.getD_eq_getElem?_getD, List.getElem?_eq_getElem hlt]; exact List.getElem_mem _);rw [hx] at c0;have HX := hide hx;have hkI : (k : Int) < (ids.length : Int) := by omega
   have hk0 : (0 : Int) ≤ (k : Int) := by omega
   have hw1 : IntKind.i64.wrap ((k : Int) + 1) = ((k + 1 : Nat) : Int) := by rw [show (k : Int) + 1 = ((k + 1 : Nat) : Int) by omega]; exact IntWalk.i64_in _ (by omega)
   clear hx hbw hrow;go_wp2_with fail
   refine (iK x (by omega) (by omega) wr (HP.out.stays HW.out)).mono ?_;rintro e w1 ⟨rfl, hb1⟩;have R1 := HR.out.below hb1 hGl;have cG := R1.cell k (by omega);have fG := R1.frozen k;have HR1 := hide R1;have HB1 := bs HW.out hb1;clear R1 hb1;go_wp2_with fail
   go_roundw
   case rel =>
    refine ⟨k + 1, vs.set k (.string (aW x)), by omega, by go_num, HB1.out.setCell nl _, HR1.out.set k _ (by omega), by simpa using hvl, fun j hj => ?_⟩;by_cases e : j = k
    ·subst e
     rw [List.getElem?_set, if_pos rfl, if_pos (by omega), HX.out]
    ·rw [List.getElem?_set, if_neg (fun h => e h.symm)]
     exact HVS.out j (by omega)
   case measure => simp [intOf]; omega
  ·obtain rfl : k = ids.length := by omega
   have hkI : ¬ (ids.length : Int) < (ids.length : Int) := by omega
   have hjl := joinN_len HB.out hl;have hJ := Tryz.strings_Join w.heap.size 0 ids.length (ids.map aW) ⟨#[44]⟩ wr (fun j y hy => by
    obtain ⟨n, hn, rfl⟩ : ∃ n, ids[j]? = some n ∧ aW n = y := by simpa using hy
    have hj : j < ids.length := (List.getElem?_eq_some_iff.1 hn).1;rw [Nat.zero_add, HR.out.cell j (by omega)];have := HVS.out j hj;rw [List.getD_eq_getElem?_getD, this];simp [hn]) hGl (by simp; omega) (by simp) (by
    have e := congrArg ByteArray.size (joinN_data ids);have e2 : (Lib.join ((ids.map aW).map (·.data.toList)) (⟨#[44]⟩ : ByteArray).data.toList).length = (dW ids).size := by rw [← e]; simp [ByteArray.size]
    rw [e2]; omega)
   rw [joinN_data, List.length_map] at hJ;have HJ := hide hJ;clear hJ hjl hbw hrow;go_wp2_with fail
   refine HJ.out.mono ?_;rintro e w1 ⟨rfl, hb1⟩;have HB1 := bs HW.out hb1;clear hb1;go_wp2_with fail
   go_ret;exact ⟨by rw [HZ.out]; rfl, HB1.out⟩
theorem run_spec (s p l h v : Value) (m : Mi) (js : List J) (w : World) (H : aM 0 w.heap.size w s p l h m) (Hj : bz 0 w.heap.size w v js) (hr : ∀ j ∈ js, j.d ≤ 9223372036854775807 ∧ j.g ≤ 9223372036854775807) :
 Calls Tryz.prog 28 #[ag s p l h m, v] w (RunGot w.heap.size (iX m js) w) := by
 obtain ⟨ao1, cap1, ao2, cap2, ao3, cap3, ao4, cap4, rfl, rfl, rfl, rfl⟩ := H.op;have HM := hide H;have HJ := hide Hj;have HR := hide hr;obtain ⟨aoj, cpj, rfl, -, -, -, -⟩ := Hj;clear H hr;unfold ag;go_enter Tryz.func28, Tryz.ntmps28;go_wp2_with fail
 refine aj fun wx hwx => ?_;have A_0 : ae wx (w.heap.size) 31 (mC ao1 cap1 ao2 cap2 ao3 cap3 ao4 cap4 m) := by rw [hwx]; exact (ae.new _ _ _).alloc _
 have R_0 : ae wx (w.heap.size + 1) 31 z12 := by rw [hwx]; simpa using (ae.new (World.alloc _ _) 31 z12)
 have B_0 : Below w.heap.size w wx := by rw [hwx]; go_grown
 clear hwx;have hL0 := R_0.lt;have V_0 := hide (HM.out.below B_0);have k1 := cu _ _ _ _ m wx V_0.out.all;unfold ag at k1;cases hv : aF m with
 | false =>
  rw [hv] at k1;have HZ := hide (run_bad (m := m) (l := js) (.inl hv));clear hv;refine k1.mono ?_;rintro e w1 ⟨rfl, hb⟩;have R_1 := R_0.below hb R_0.lt;have B_1 := bs B_0 hb;clear hb k1;have cRz := af R_1;have fRz := ay R_1;go_wp2_with fail
  refine bodyPost_ret (by simp [results, Tryz.results28, go_sem, cRz]; try rfl) rfl ?_;rw [HZ.out];exact ⟨_, _, _, _, rfl, bU B_1.out nl (by omega) _ _ _ _ _ _ _ _ _ _ _ _⟩
 | true =>
  rw [hv] at k1;obtain ⟨n1, n2, n3, n4⟩ := fV hv;have HV := hide hv;clear hv;refine k1.mono ?_;rintro e w1 ⟨rfl, hb⟩;have A_1 := A_0.below hb A_0.lt;have R_1 := R_0.below hb R_0.lt;have V_1 := hide (V_0.out.below hb);have B_1 := bs B_0 hb;have hz1 := hb.size;clear hb k1;by_cases hl : js.length ≤ 99;rotate_left
  ·have hlB : decide (99 < (js.length : Int)) = true := by simp; omega
   have HZ := hide (run_bad (m := m) (l := js) (.inr (by omega)));have cRz := af R_1;have fRz := ay R_1;go_wp2_with fail
   refine bodyPost_ret (by simp [results, Tryz.results28, go_sem, cRz]; try rfl) rfl ?_;rw [HZ.out];exact ⟨_, _, _, _, rfl, bU B_1.out nl (by omega) _ _ _ _ _ _ _ _ _ _ _ _⟩
  ·have hlB : decide (99 < (js.length : Int)) = false := by simp; omega
   have HZ := hide (jL HV.out hl);have cAz := af A_1;go_wp2_with fail
   clear cAz;have k2 := bu _ _ _ _ m w1 V_1.out.all n1 n2 n3 n4;unfold ag at k2;refine k2.mono ?_;clear k2;rintro e w2 ⟨s2, p2, l2, h2, rfl, G, hb⟩;have R_2 := R_1.below hb R_1.lt;have B_2 := bs B_1.out hb;have hz2 := hb.size;have hL2 := R_2.lt;have J_2 := hide (HJ.out.below B_2.out);clear hb;have G_2 := hide G;obtain ⟨aS, cs, ap, cp, al, cl, ah, ch, rfl, rfl, rfl, rfl⟩ := G.op;clear G;unfold ag;go_wp2_with fail
   go_loopw [7, 8] (fun n i wr => ∃ (kk : Nat) (s p l h : Value), kk ≤ js.length ∧ i = .int .i64 (kk : Int) ∧ n = .int .i64 (dX m (js.take kk)).2 ∧ Below w2.heap.size w2 wr ∧ ae wr w2.heap.size 31 (az s p l h (dX m (js.take kk)).1) ∧ ak w1.heap.size wr s p l h (dX m (js.take kk)).1) (fun _ i _ => js.length - (intOf i).toNat)
   case atStart => exact ⟨0, _, _, _, _, Nat.zero_le _, rfl, rfl, (Below.refl _ _).alloc nl _, ae.new w2 31 (az _ _ _ _ m), G_2.out.below ((Below.refl _ _).alloc nl _)⟩
   case round =>
    obtain ⟨kk, s3, p3, l3, h3, hkk, rfl, rfl, hb, C_r, G⟩ := hrel;have R_r := R_2.below hb hL2;have B_r := hide (B_2.out.trans (hb.mono (by omega)));have HB := hide hb;have hzr := hb.size;have J_r := hide (J_2.out.keep (fun g h1 h2 => hb.block g (by omega)) hb.size);clear hb;by_cases hlt : kk < js.length
    ·have HT := hide (run_take m hlt)
     have hnb := run_bd (js.take kk) (m, 0);have hnl : (js.take kk).length = kk := by rw [List.length_take]; omega
     rw [hnl] at hnb;have hrj := HR.out _ (show js.getD kk jz ∈ js by rw [List.getD_eq_getElem?_getD, List.getElem?_eq_getElem hlt]; exact List.getElem_mem _);obtain ⟨b, ob, cpb, e1, hbj, hbj2, j0, j1, j2⟩ := jb_at J_r.out hlt;cases e1;obtain ⟨⟨x, nn⟩, hx⟩ : ∃ z, dX m (js.take kk) = z := ⟨_, rfl⟩;have hnb2 : 0 ≤ nn ∧ nn ≤ (kk : Int) := by
      have e : ((js.take kk).foldl iJ (m, 0)).2 = nn := congrArg Prod.snd hx;rw [e] at hnb;simpa using hnb
     rw [hx] at HT C_r G;rw [hx];have C_r : ae wr w2.heap.size 31 (az s3 p3 l3 h3 x) := C_r;have G : ak w1.heap.size wr s3 p3 l3 h3 x := G;obtain ⟨dj, hdj⟩ : ∃ d, js.getD kk jz = d := ⟨_, rfl⟩;rw [hdj] at HT hrj j0 j1 j2;have hkI : (kk : Int) < (js.length : Int) := by omega
     have hk0 : (0 : Int) ≤ (kk : Int) := by omega
     have hw1 : IntKind.i64.wrap ((kk : Int) + 1) = ((kk + 1 : Nat) : Int) := by rw [show (kk : Int) + 1 = ((kk + 1 : Nat) : Int) by omega]; exact IntWalk.i64_in _ (by omega)
     have hw2 : IntKind.i64.wrap (nn + 1) = nn + 1 := IntWalk.i64_in _ (by omega);obtain ⟨⟨y, ok⟩, hy⟩ : ∃ z, doR x dj = z := ⟨_, rfl⟩;have HY := hide hy;have G_r := hide G;obtain ⟨aS3, cs3, ap3, cp3, al3, cl3, ah3, ch3, rfl, rfl, rfl, rfl⟩ := G.op;have hLC := C_r.lt;clear hx hdj hnl hnb G;have cCz := af C_r;clear hy;go_wp2_with fail
     have hbL : b < wr.heap.size := by omega
     have hI : Below wr.heap.size wr wr.drew := (Below.refl _ _).drew;have hI2 : ∀ o : Obj, Below wr.heap.size wr (wr.alloc o).drew := fun o => ((Below.refl _ _).alloc nl o).drew;have HKA : Hid (∀ (W : World) (o : Obj), Below wr.heap.size wr W → Below wr.heap.size wr (W.alloc o)) := hide (fun W o H => H.alloc H.size o);have HKC : Hid (∀ W W' : World, Below W.heap.size W W' → Below wr.heap.size wr W → Below wr.heap.size wr W') := hide (fun W W' q H => Below.step H q nl);have HKS : Hid (∀ (W : World) (G : Nat) (v0 v1 v2 v3 v4 v5 v6 v7 v8 v9 v10 v11 : Value), wr.heap.size ≤ G → Below wr.heap.size wr W → Below wr.heap.size wr (((((((((((((W).setCell ⟨G, 0, none⟩ v0).setCell ⟨G, 1, none⟩ v1).setCell ⟨G, 2, none⟩ v2).setCell ⟨G, 3, none⟩ v3).setCell ⟨G, 4, none⟩ v4).setCell ⟨G, 5, none⟩ v5).setCell ⟨G, 6, none⟩ v6).setCell ⟨G, 7, none⟩ v7).setCell ⟨G, 8, none⟩ v8).setCell ⟨G, 9, none⟩ v9).setCell ⟨G, 10, none⟩ v10).setCell ⟨G, 11, none⟩ v11)) := hide (fun W G v0 v1 v2 v3 v4 v5 v6 v7 v8 v9 v10 v11 hG H => H.trans ((aI G W v0 v1 v2 v3 v4 v5 v6 v7 v8 v9 v10 v11).below hG H.size));have hdo := fun (W : World) (q : Below wr.heap.size wr W) => do_spec (.slice aS3 x.store.length cs3) (.slice ap3 x.pieces.length cp3) (.slice al3 x.low.length cl3) (.slice ah3 x.high.length ch3) x dj W (G_r.out.below q).all hrj.1 hrj.2;rw [HY.out] at hdo;unfold ag at hdo;have HDO := hide hdo;clear hdo
     go_cut [9, 10] from 28 to 36 (fun bx okv W => BoxM wr.heap.size W y bx ∧ okv = .bool ok ∧ Below wr.heap.size wr W)
     case first =>
      go_region_with (first
       | (go_at_call 27; (with_reducible refine (HDO.out _ (by first | exact hI | exact hI2 _)).mono ?_); rintro e w7 ⟨s7, p7, l7, h7, he7, G7, hb7⟩; have he7 : e = .returned (.tuple #[ag s7 p7 l7 h7 y, .bool ok]) := he7; have G7 : ak _ w7 s7 p7 l7 h7 y := G7; subst he7; have hS7 := HKC.out _ _ hb7 (by first | exact hI | exact hI2 _); have hz7 := hS7.size; obtain ⟨hc7, hf7⟩ := gX hb7; have hzz7 := hb7.size; (try simp at hzz7); have G_7 := hide G7; obtain ⟨as7, cs7, hs7, -, -⟩ := G7.so.form; obtain ⟨ap7, cp7, hp7, -, -⟩ := G7.po.form; obtain ⟨al7, cl7, hl7, -, -⟩ := G7.lo.form; obtain ⟨ah7, ch7, hh7, -, -⟩ := G7.ho.form; subst hs7 hp7 hl7 hh7; clear G7; unfold ag))
      all_goals
       have hwd : wr.drew.heap.size = wr.heap.size := rfl;clear cCz j0 j1 j2;go_wp2_with fail
       go_meet
      all_goals
       first
        | (have hx := boxN (W := wr) (by first | omega | (simp; done) | (simp; omega)) hS7 G_7.out
           with_reducible exact ⟨hx.1, rfl, hx.2⟩)
        | (have hx := boxO (W := wr) ((zrow wr).drew.stay hb7) rfl nl (by first | omega | (simp; done) | (simp; omega)) hS7 G_7.out
           with_reducible exact ⟨hx.1, rfl, hx.2⟩)
     clear cCz j0 j1 j2;obtain ⟨⟨G, s4, p4, l4, h4, rfl, hG, hrow, hgot⟩, rfl, hbw⟩ := hcut;have C_4 := C_r.below hbw C_r.lt;have G_x := hide (G_r.out.below hbw);have G_4 := hide hgot;have HB4 := hide (HB.out.trans (hbw.mono (by omega)));have hz4 := hbw.size;have hLC4 := C_4.lt;obtain ⟨aS4, cs4, ap4, cp4, al4, cl4, ah4, ch4, rfl, rfl, rfl, rfl⟩ := hgot.op;have cGz := af hrow;clear hgot hI hI2 hbw hrow;cases ok with
     | false =>
      have HS := hide (HT.out.trans (runS_no HY.out));go_wp2_with fail
      go_roundw
      case rel => exact ⟨kk + 1, .slice aS3 x.store.length cs3, .slice ap3 x.pieces.length cp3, .slice al3 x.low.length cl3, .slice ah3 x.high.length ch3, by omega, rfl, by rw [HS.out], HB4.out, by rw [HS.out]; exact C_4, by rw [HS.out]; exact G_x.out⟩
      case measure => simp [intOf]; omega
     | true =>
      have HS := hide (HT.out.trans (runS_yes HY.out));have cCz := af C_4;have fCz := ay C_4;go_wp2_with fail
      go_roundw
      case rel =>
       refine ⟨kk + 1, .slice aS4 y.store.length cs4, .slice ap4 y.pieces.length cp4, .slice al4 y.low.length cl4, .slice ah4 y.high.length ch4, by omega, rfl, by rw [HS.out], HB4.out.trans ((aI w2.heap.size _ _ _ _ _ _ _ _ _ _ _ _ _).below nl (by omega)), ?_, ?_⟩
       ·rw [HS.out]; exact dU C_4 rfl _ _ _ _ _ _ _ _ _ _ _ _
       ·rw [HS.out]; exact (G_4.out.past C_4 (aI _ _ _ _ _ _ _ _ _ _ _ _ _ _)).mono (by omega)
      case measure => simp [intOf]; omega
    ·obtain rfl : kk = js.length := by omega
     rw [List.take_length] at C_r G;rw [List.take_length];have hkI : ¬ (js.length : Int) < (js.length : Int) := by omega
     obtain ⟨⟨x, nn⟩, hx⟩ : ∃ z, dX m js = z := ⟨_, rfl⟩;rw [hx] at C_r G;rw [hx];have HX := hide (HZ.out.trans hx);have C_r : ae wr w2.heap.size 31 (az s3 p3 l3 h3 x) := C_r;have G : ak w1.heap.size wr s3 p3 l3 h3 x := G;have G_r := hide G;obtain ⟨aS3, cs3, ap3, cp3, al3, cl3, ah3, ch3, rfl, rfl, rfl, rfl⟩ := G.op;clear hx G;have cCz := af C_r;have cRz := af R_r;have fRz := ay R_r;go_wp2_with fail
     refine bodyPost_ret (by simp [results, Tryz.results28, go_sem, cRz]; try rfl) rfl ?_;rw [HX.out];exact ⟨_, _, _, _, rfl, aV G_r.out B_r.out (by omega) (by omega) nl _ _ _ _ _ _ _ _ _ _ _ _⟩
theorem replay_impl (s p l h : Value) (m : Mi) (t : ByteArray) (nn : Int) (w : World) (H : aM 0 w.heap.size w s p l h m) (ht : t.size < 4294967281) (hm : w.cell? ⟨1, 0, none⟩ = some (.int .i64 nn)) (hna : dz w) :
 Calls Tryz.prog 12 #[ag s p l h m, .string t] w (RunGot w.heap.size (iU m t) w) := by
 obtain ⟨ao1, cap1, ao2, cap2, ao3, cap3, ao4, cap4, rfl, rfl, rfl, rfl⟩ := H.op;have HM := hide H;have h1lt : 1 < w.heap.size := by
  rcases Nat.lt_or_ge 1 w.heap.size with h | h
  ·exact h
  ·simp [World.cell?, Array.getElem?_eq_none h] at hm
 have HC := hide hm;have HN := hide hna;clear hm hna;obtain ⟨⟨js, nb⟩, hjs⟩ : ∃ z, rjR t = z := ⟨_, rfl⟩;have HSML := hide (show ∀ j ∈ js, J.d j ≤ 9223372036854775807 ∧ J.g j ≤ 9223372036854775807 from by have h := rj_small t; rw [hjs] at h; exact h);have HGD := hide (show aF m = true → iU m t = ((iX m js).1, (js.length : Int)) from fun hv => by have h := replay_good hv t; rw [hjs] at h; exact h);have HRJ := hide (fun (W : World) (q1 : W.cell? ⟨1, 0, none⟩ = some (.int .i64 nn)) (q2 : dz W) => (by have h := jC t nn W ht q1 q2; rw [hjs] at h; exact h : Calls Tryz.prog 9 #[.string t] W _));clear hjs;clear H;unfold ag;go_enter Tryz.func12, Tryz.ntmps12;go_wp2_with fail
 refine aj fun wx hwx => ?_;have A_0 : ae wx (w.heap.size) 31 (mC ao1 cap1 ao2 cap2 ao3 cap3 ao4 cap4 m) := by rw [hwx]; exact (ae.new _ _ _).alloc _
 have R_0 : ae wx (w.heap.size + 1) 31 z12 := by rw [hwx]; simpa using (ae.new (World.alloc _ _) 31 z12)
 have hb : Below w.heap.size w wx := by rw [hwx]; go_grown
 clear hwx;have B_0 := hide hb;have hz0 := R_0.lt;have V_0 := hide (HM.out.below hb);clear hb;have k1 := cz _ _ _ _ m wx V_0.out.all;unfold ag at k1;cases hv : aF m with
 | false =>
  rw [hv] at k1;have HZ := hide (replay_bad hv t);clear hv;refine k1.mono ?_;rintro e w1 ⟨rfl, hb⟩;have A_1 := A_0.below hb A_0.lt;have R_1 := R_0.below hb R_0.lt;have B_1 := bs B_0.out hb;have V_1 := hide (V_0.out.below hb);have hz1 := hb.size;clear hb;clear k1;have cRz := af R_1;have fRz := ay R_1;go_wp2_with fail
  refine bodyPost_ret (by simp [results, Tryz.results12, go_sem, cRz]; try rfl) rfl ?_;rw [HZ.out];exact ⟨_, _, _, _, rfl, bU B_1.out nl (by omega) _ _ _ _ _ _ _ _ _ _ _ _⟩
 | true =>
  rw [hv] at k1;have HZ := hide (HGD.out hv);clear hv;refine k1.mono ?_;rintro e w1 ⟨rfl, hb⟩;have A_1 := A_0.below hb A_0.lt;have R_1 := R_0.below hb R_0.lt;have B_1 := bs B_0.out hb;have V_1 := hide (V_0.out.below hb);have hz1 := hb.size;clear hb;clear k1;go_wp2_with fail
  have hm1 : w1.cell? ⟨1, 0, none⟩ = some (.int .i64 nn) := by rw [B_1.out.cell (p := ⟨1, 0, none⟩) h1lt]; exact HC.out
  refine (HRJ.out w1 hm1 (HN.out.stays B_1.out)).mono ?_;rintro e w2 ⟨v, he, own, hb⟩;have he : e = .returned (.tuple #[v, .int .i64 nb]) := he;subst he;have own := (show World.ownsRow _ _ 42 3 v js.length (dh js) from own);obtain ⟨aoj, cpj, rfl, -, -⟩ := aB own;have J_2 := hide (ownD_at own rfl (by have := hb.size; omega));clear own;have A_2 := A_1.below hb A_1.lt;have R_2 := R_1.below hb R_1.lt;have B_2 := bs B_1.out hb;have V_2 := hide (V_1.out.below hb);have hz2 := hb.size;clear hb;have cAz := af A_2;go_wp2_with fail
  clear cAz;have k2 := run_impl _ _ _ _ _ m js w2 V_2.out.all (J_2.out.mono (Nat.zero_le _) (by omega) nl) HSML.out;obtain ⟨⟨y, q⟩, hy⟩ : ∃ z, iX m js = z := ⟨_, rfl⟩;rw [hy] at k2 HZ;unfold ag at k2;refine k2.mono ?_;clear k2 hy;rintro e w8 ⟨s4, p4, l4, h4, he, G, hb⟩;have he : e = .returned (.tuple #[ag s4 p4 l4 h4 y, .int .i64 q]) := he;subst he;have G : ak _ w8 s4 p4 l4 h4 y := G;obtain ⟨aS4, cs4, ap4, cp4, al4, cl4, ah4, ch4, rfl, rfl, rfl, rfl⟩ := G.op;have R_8 := R_2.below hb R_2.lt;have B_8 := bs B_2.out hb;have hz8 := hb.size;have G_8 := hide G;have hlR := R_8.lt;clear hb G;unfold ag
  go_upto_region 5 with fail
  obtain ⟨wa, hwa⟩ : ∃ q : World, q = w8.alloc (.cells #[.slice aS4 y.store.length cs4, .int .i64 y.rule.lc, .int .i64 y.rule.hc, .int .i64 y.rule.lm, .int .i64 y.rule.hm, .int .i64 y.rule.ls, .int .i64 y.rule.hs, .int .i64 y.strand, .slice ap4 y.pieces.length cp4, .slice al4 y.low.length cl4, .slice ah4 y.high.length ch4, .int .i64 y.scrap] 31) := ⟨_, rfl⟩;rw [← hwa];have Y_a : ae wa w8.heap.size 31 (mC aS4 cs4 ap4 cp4 al4 cl4 ah4 ch4 y) := by rw [hwa]; exact ae.new _ _ _
  have hba : Below w8.heap.size w8 wa := by rw [hwa]; exact (Below.refl _ _).alloc nl _
  clear hwa;have R_a := R_8.below hba R_8.lt;have G_a := hide (G_8.out.below hba);have B_a := bs B_8.out hba;have hza := hba.size;have hlY := Y_a.lt;clear hba;have cYz := af Y_a;have cRz := af R_a;have fRz := ay R_a;go_wp2_with fail
  refine bodyPost_ret (by simp [results, Tryz.results12, go_sem, cRz]; try rfl) rfl ?_;rw [HZ.out];exact ⟨_, _, _, _, rfl, aV G_a.out B_a.out (by omega) (by omega) nl _ _ _ _ _ _ _ _ _ _ _ _⟩
end Go.Proofs.YtkhecelpafojdaaGreatDoor
