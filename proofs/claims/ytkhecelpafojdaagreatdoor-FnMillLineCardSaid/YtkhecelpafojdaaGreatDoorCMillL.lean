/-
  FnMillLine, its law and its card: for every two codes the law answers true and the codes read as they did; and what the row lists is tied to the program's text. No condition.
-/
import Derived.Test.YtkhecelpafojdaaGreatDoorF45
import Derived.Test.YtkhecelpafojdaaGreatDoorF52
import Derived.Test.YtkhecelpafojdaaGreatDoorCMillA
set_option linter.unusedSimpArgs false
set_option linter.unusedVariables false
set_option maxRecDepth 10000
set_option maxHeartbeats 64000000
namespace Go.Proofs.YtkhecelpafojdaaGreatDoor
open Go.RowKit
theorem ok_list : okB.toList = [111, 107] := by rw [ByteArray.toList_eq]; rfl
theorem no_list : noB.toList = [110, 111] := by rw [ByteArray.toList_eq]; rfl
theorem law_MillLine (v v2 : Value) (n n2 : Nat) (nn : Int) (w : World) (h : BytesAt 0 w.heap.size w v n) (h2 : BytesAt 0 w.heap.size w v2 n2) (hm : w.cell? ⟨1, 0, none⟩ = some (.int .i64 nn)) (hna : dz w) (hpo : ik w) :
 Calls Tryz.prog 3 #[v, v2] w fun e w' => e = .returned (.bool true) ∧ Below w.heap.size w w' := by
 have h1lt : 1 < w.heap.size := by
  rcases Nat.lt_or_ge 1 w.heap.size with h | h
  ·exact h
  ·simp [World.cell?, Array.getElem?_eq_none h] at hm
 have HNC := hide (show ∀ W : World, Below w.heap.size w W → (W.cell? ⟨1, 0, none⟩ = some (.int .i64 nn) ∧ dz W ∧ ik W) from fun W q => ⟨by rw [q.cell (p := ⟨1, 0, none⟩) h1lt]; exact hm, hna.stays q, hpo.stays q⟩);clear hm hna hpo;obtain ⟨aod, capd, rfl, hncd, hcapd, -, -⟩ := id h2;obtain ⟨ao, cap, rfl, hnc, hcap, -, -⟩ := id h;have HB := hide h;have HD := hide h2;clear h h2;by_cases hlong : 1048576 < n
 ·go_enter Tryz.func3, Tryz.ntmps3
  go_wp2_with fail
  go_ret;exact ⟨rfl, by go_grown⟩
 by_cases hlong2 : 1048576 < n2
 ·go_enter Tryz.func3, Tryz.ntmps3
  go_wp2_with fail
  go_ret;exact ⟨rfl, by go_grown⟩
 go_enter Tryz.func3, Tryz.ntmps3;go_wp2_with fail
 refine (drawMillLine _ n _ HB.out).mono ?_;rintro e w1 ⟨s, p, l, h, m, t, rfl, htl, hG, hf, hb⟩;obtain ⟨ao1, cap1, ao2, cap2, ao3, cap3, ao4, cap4, rfl, rfl, rfl, rfl⟩ := hG.all.op;have B_1 := hide hb;have VV_1 := hide hG;have hz1 := hb.size;clear hb hG hf;unfold ag;go_wp2_with fail
 refine aj fun wx hwx => ?_;have M_wx : ae wx (w1.heap.size) 31 (mC ao1 cap1 ao2 cap2 ao3 cap3 ao4 cap4 m) := by rw [hwx]; exact (ae.new _ _ _)
 have hb : Below w1.heap.size w1 wx := by rw [hwx]; exact ((Below.refl _ _).alloc nl _)
 clear hwx;have VV_wx := hide (VV_1.out.below hb);have B_wx := bs B_1.out hb;have hzwx := hb.size;have hLwx := M_wx.lt;clear hb;have ht2 : t.size < 4294967281 := by omega
 obtain ⟨⟨x, u⟩, hx⟩ : ∃ z, iM m t = z := ⟨_, rfl⟩;have HX := hide hx;have KI := line_impl _ _ _ _ m t nn wx VV_wx.out.all ht2 (HNC.out _ B_wx.out).1 (HNC.out _ B_wx.out).2.1 (HNC.out _ B_wx.out).2.2;rw [hx] at KI;unfold ag at KI;refine (KI).mono ?_;rintro e w2 ⟨s5, p5, l5, h5, he5, G5, hb⟩;have M_2 := M_wx.below hb M_wx.lt;have VV_2 := hide (VV_wx.out.below hb);have B_2 := bs B_wx.out hb;have hz2 := hb.size;clear hb;have he5 : e = .returned (.tuple #[ag s5 p5 l5 h5 x, .string u]) := he5;subst he5;have G5 : ak _ w2 s5 p5 l5 h5 x := G5;obtain ⟨ao51, cap51, ao52, cap52, ao53, cap53, ao54, cap54, rfl, rfl, rfl, rfl⟩ := G5.op;have VX_2 := hide G5;clear G5;have cMz := af M_2;have hqM2 := M_2.lt;unfold ag;go_wp2_with fail
 clear cMz;refine aj fun y1 hwx => ?_;have X_y1 : ae y1 (w2.heap.size) 31 (mC ao51 cap51 ao52 cap52 ao53 cap53 ao54 cap54 x) := by rw [hwx]; exact (ae.new _ _ _)
 have hb : Below w2.heap.size w2 y1 := by rw [hwx]; exact ((Below.refl _ _).alloc nl _)
 clear hwx;have M_y1 := M_2.below hb M_2.lt;have VV_y1 := hide (VV_2.out.below hb);have VX_y1 := hide (VX_2.out.below hb);have B_y1 := bs B_2.out hb;have hzy1 := hb.size;have hLy1 := X_y1.lt;clear hb;have KS := line_spec _ _ _ _ m t y1 VV_y1.out.all ht2 (HNC.out _ B_y1.out).2.2;rw [hx] at KS;unfold ag at KS;refine (KS).mono ?_;rintro e w3 ⟨s6, p6, l6, h6, he6, G6, hb⟩;have M_3 := M_y1.below hb M_y1.lt;have X_3 := X_y1.below hb X_y1.lt;have VV_3 := hide (VV_y1.out.below hb);have VX_3 := hide (VX_y1.out.below hb);have B_3 := bs B_y1.out hb;have hz3 := hb.size;clear hb;have he6 : e = .returned (.tuple #[ag s6 p6 l6 h6 x, .string u]) := he6;subst he6;have G6 : ak _ w3 s6 p6 l6 h6 x := G6;obtain ⟨ao61, cap61, ao62, cap62, ao63, cap63, ao64, cap64, rfl, rfl, rfl, rfl⟩ := G6.op;have VY_3 := hide G6;clear G6;have cXz := af X_3;have hqX3 := X_3.lt;unfold ag;go_wp2_with fail
 clear cXz;refine aj fun y2 hwx => ?_;have Y_y2 : ae y2 (w3.heap.size) 31 (mC ao61 cap61 ao62 cap62 ao63 cap63 ao64 cap64 x) := by rw [hwx]; exact (ae.new _ _ _)
 have hb : Below w3.heap.size w3 y2 := by rw [hwx]; exact ((Below.refl _ _).alloc nl _)
 clear hwx;have M_y2 := M_3.below hb M_3.lt;have X_y2 := X_3.below hb X_3.lt;have VV_y2 := hide (VV_3.out.below hb);have VX_y2 := hide (VX_3.out.below hb);have VY_y2 := hide (VY_3.out.below hb);have B_y2 := bs B_3.out hb;have hzy2 := hb.size;have hLy2 := Y_y2.lt;clear hb;have KQ := iV _ _ _ _ _ _ _ _ x x y2 VX_y2.out.all VY_y2.out.all;rw [decide_eq_true (rfl : x = x)] at KQ;unfold ag at KQ;have hnn : (u.toList != u.toList) = false := by simp
 refine (KQ).mono ?_;rintro e w4 ⟨rfl, hb⟩;have M_4 := M_y2.below hb M_y2.lt;have X_4 := X_y2.below hb X_y2.lt;have VV_4 := hide (VV_y2.out.below hb);have VX_4 := hide (VX_y2.out.below hb);have B_4 := bs B_y2.out hb;have hz4 := hb.size;clear hb;go_wp2_with fail
 clear KI KS KQ hx hnn;refine (drawReplay _ n2 _ ((HD.out.below B_4.out nl).mono B_4.out.size nl)).mono ?_;rintro e w5 ⟨sZ, pZ, lZ, hZ, z, r, rfl, hrl, GZ, hf, hb⟩;have M_5 := M_4.below hb M_4.lt;have X_5 := X_4.below hb X_4.lt;have VV_5 := hide (VV_4.out.below hb);have VX_5 := hide (VX_4.out.below hb);have B_5 := bs B_4.out hb;have hz5 := hb.size;clear hb;obtain ⟨aoz1, capz1, aoz2, capz2, aoz3, capz3, aoz4, capz4, rfl, rfl, rfl, rfl⟩ := GZ.op;have VZ_5 := hide GZ;clear GZ hf;unfold ag;go_wp2_with fail
 refine aj fun y3 hwx => ?_;have S_y3 : ae y3 (w5.heap.size) 31 (mC aoz1 capz1 aoz2 capz2 aoz3 capz3 aoz4 capz4 z) := by rw [hwx]; exact (ae.new _ _ _)
 have hb : Below w5.heap.size w5 y3 := by rw [hwx]; exact ((Below.refl _ _).alloc nl _)
 clear hwx;have M_y3 := M_5.below hb M_5.lt;have X_y3 := X_5.below hb X_5.lt;have VV_y3 := hide (VV_5.out.below hb);have VX_y3 := hide (VX_5.out.below hb);have VZ_y3 := hide (VZ_5.out.below hb);have B_y3 := bs B_5.out hb;have hzy3 := hb.size;have hLy3 := S_y3.lt;clear hb;have hr2 : r.size < 4294967281 := by omega
 have hjg := rj_good r;have hfit := (rj_fits r).2.1;have HAL := hide (fun h => run_all (m := z) (s := r) h);obtain ⟨js, hjs⟩ : ∃ js, (rjR r).1 = js := ⟨_, rfl⟩;obtain ⟨q9, hq9⟩ : ∃ q, (rjR r).2 = q := ⟨_, rfl⟩;rw [hjs] at hjg hfit HAL;have HJG := hide hjg;have KJ := jC r nn y3 hr2 (HNC.out _ B_y3.out).1 (HNC.out _ B_y3.out).2.1;rw [hjs, hq9] at KJ;clear hjs hq9 hjg;refine (KJ).mono ?_;rintro e w6 ⟨v9, rfl, own9, hb⟩;have M_6 := M_y3.below hb M_y3.lt;have X_6 := X_y3.below hb X_y3.lt;have S_6 := S_y3.below hb S_y3.lt;have VV_6 := hide (VV_y3.out.below hb);have VX_6 := hide (VX_y3.out.below hb);have VZ_6 := hide (VZ_y3.out.below hb);have B_6 := bs B_y3.out hb;have hz6 := hb.size;clear hb;obtain ⟨aoj, capj, rfl, hjc, hjc2⟩ := aB own9;have VJ_6 := hide (ownD_at own9 rfl (by omega));clear own9 KJ;have cSz := af S_6;go_wp2_with fail
 clear cSz
 go_loopw [16, 17, 18] (fun i _ _ wr => ∃ (k : Nat) (s p l h : Value), k ≤ js.length ∧ i = .int .i64 (k : Int) ∧ Below w6.heap.size w6 wr ∧ ae wr w6.heap.size 31 (az s p l h (dX z (js.take k)).1) ∧ ak 0 wr s p l h (dX z (js.take k)).1) (fun i _ _ _ => js.length - (intOf i).toNat)
 case atStart => exact ⟨0, _, _, _, _, Nat.zero_le _, rfl, (Below.refl _ _).alloc nl _, ae.new w6 31 (az _ _ _ _ z), (VZ_6.out.below ((Below.refl _ _).alloc nl _)).mono (Nat.zero_le _)⟩
 case round =>
  obtain ⟨k, s3, p3, l3, h3, hkl, rfl, hb, N_wr, G⟩ := hrel;have HBr := hide hb;have M_wr := M_6.below hb M_6.lt;have X_wr := X_6.below hb X_6.lt;have S_wr := S_6.below hb S_6.lt;have VV_wr := hide (VV_6.out.below hb);have VX_wr := hide (VX_6.out.below hb);have VZ_wr := hide (VZ_6.out.below hb);have VJ_wr := hide (VJ_6.out.below hb);have B_wr := bs B_6.out hb;have hzwr := hb.size;clear hb;have hNl := N_wr.lt;obtain ⟨b2, hb2⟩ : ∃ q, aF z = q := ⟨_, rfl⟩;have HB2 := hide hb2;have KV := cu _ _ _ _ z wr VZ_wr.out.all;rw [hb2] at KV;unfold ag at KV;clear hb2
  go_upto_region 12 with fail
  go_cut [75] from 68 to 94 (fun c W => c = .bool (decide (k < js.length) && b2) ∧ Below wr.heap.size wr W)
  case first =>
   by_cases hlt : k < js.length
   ·have hkI : (k : Int) < (js.length : Int) := by omega
    have cSz := af S_wr;go_wp2_with fail
    clear cSz;refine KV.mono ?_;rintro e w9 ⟨rfl, hb⟩;go_wp2_with fail
    go_meet;exact ⟨by simp [hlt], hb⟩
   ·have hkI : ¬ (k : Int) < (js.length : Int) := by omega
    go_wp2_with fail
    go_meet;exact ⟨by simp [hlt], Below.refl _ _⟩
  obtain ⟨rfl, hb⟩ := hcut;obtain ⟨v0, rfl⟩ : ∃ q : World, q = wc := ⟨_, rfl⟩;clear KV;have V3_wr := hide G;clear G;have VK_wr := hide HBr.out;have M_v0 := M_wr.below hb M_wr.lt;have X_v0 := X_wr.below hb X_wr.lt;have S_v0 := S_wr.below hb S_wr.lt;have N_v0 := N_wr.below hb N_wr.lt;have VV_v0 := hide (VV_wr.out.below hb);have VX_v0 := hide (VX_wr.out.below hb);have VZ_v0 := hide (VZ_wr.out.below hb);have VJ_v0 := hide (VJ_wr.out.below hb);have V3_v0 := hide (V3_wr.out.below hb);have B_v0 := bs B_wr.out hb;have hzv0 := hb.size;have HBv := hide (HBr.out.trans (hb.mono (by omega)));clear hb VK_wr;cases hc : (decide (k < js.length) && b2) with
  | true =>
   rw [Bool.and_eq_true, decide_eq_true_eq] at hc;obtain ⟨hlt, rfl⟩ := hc;have hkI : (k : Int) < (js.length : Int) := by omega
   have hk0 : (0 : Int) ≤ (k : Int) := by omega
   obtain ⟨ok, hst⟩ := line_step HB2.out hfit HJG.out hlt;obtain ⟨b, ob, cpb, e1, hbj, hbj2, j0, j1, j2⟩ := jb_at VJ_v0.out hlt;cases e1;obtain ⟨dj, hdj⟩ : ∃ d, js.getD k jz = d := ⟨_, rfl⟩;rw [hdj] at hst j0 j1 j2;have hbj3 : b < v0.heap.size := by omega
   have htj : (dtJ dj).size < 4294967281 := by have := dtJ_len dj; omega
   obtain ⟨tj, htj2⟩ : ∃ q, dtJ dj = q := ⟨_, rfl⟩;obtain ⟨u2, hu2⟩ : ∃ q : ByteArray, (if ok then okB else noB) = q := ⟨_, rfl⟩;obtain ⟨x3, hx3⟩ : ∃ q, (dX z (js.take k)).1 = q := ⟨_, rfl⟩;obtain ⟨y3m, hy3⟩ : ∃ q, (dX z (js.take (k + 1))).1 = q := ⟨_, rfl⟩;rw [htj2, hu2, hx3, hy3] at hst;rw [htj2] at htj;have HST := hide hst;have HY3 := hide hy3;have HTJ := hide htj2;have HU2 := hide hu2;have N_q : ae v0 w6.heap.size 31 (az s3 p3 l3 h3 x3) := by rw [← hx3]; exact N_v0
   have V3_q : Hid (ak 0 v0 s3 p3 l3 h3 x3) := by rw [← hx3]; exact hide V3_v0.out
   obtain ⟨ao31, cap31, ao32, cap32, ao33, cap33, ao34, cap34, rfl, rfl, rfl, rfl⟩ := V3_q.out.op;clear hst hx3 hy3 htj2 hu2 hdj;have N_q : ae v0 w6.heap.size 31 (mC ao31 cap31 ao32 cap32 ao33 cap33 ao34 cap34 x3) := N_q;have hI : Below v0.heap.size v0 (World.drew v0) := (Below.refl _ _).drew;have hI2 : Below v0.heap.size v0 (World.drew (v0.alloc (.cells #[.slice none 0 0, .int .i64 0, .int .i64 0, .int .i64 0, .int .i64 0, .int .i64 0, .int .i64 0, .int .i64 0, .slice none 0 0, .slice none 0 0, .slice none 0 0, .int .i64 0] 31))) := ((Below.refl _ _).alloc nl _).drew;have hNl := N_q.lt;have HN3 := hide N_q;have H3J := hide (And.intro j0 (And.intro j1 j2));have HS := hide (fun (X : World) (q : Below v0.heap.size v0 X) => And.intro (bQ (HN3.out.below q hNl)) (by have h := H3J.out; rw [← q.cell (p := ⟨b, ob + k * 3, none⟩) hbj3, ← q.cell (p := ⟨b, ob + k * 3 + 1, none⟩) hbj3, ← q.cell (p := ⟨b, ob + k * 3 + 2, none⟩) hbj3] at h; exact h : X.cell? ⟨b, ob + k * 3, none⟩ = some (.int .i64 dj.s) ∧ X.cell? ⟨b, ob + k * 3 + 1, none⟩ = some (.int .i64 dj.d) ∧ X.cell? ⟨b, ob + k * 3 + 2, none⟩ = some (.int .i64 dj.g)));have HCL := hide (fun (X : World) (q : Below v0.heap.size v0 X) => (by have h := dt_impl dj.s dj.d dj.g X (HNC.out _ (Below.step B_v0.out q nl)).2.1 (HNC.out _ (Below.step B_v0.out q nl)).2.2; rw [show dtB dj.s dj.d dj.g = tj from HTJ.out] at h; exact h : Calls Tryz.prog 11 _ X fun e w' => e = .returned (.string tj) ∧ Below X.heap.size X w'));have HRU := hide (fun (X : World) (q : Below v0.heap.size v0 X) => (by have h := line_impl _ _ _ _ x3 tj nn X (V3_q.out.below q).all htj (HNC.out _ (Below.step B_v0.out q nl)).1 (HNC.out _ (Below.step B_v0.out q nl)).2.1 (HNC.out _ (Below.step B_v0.out q nl)).2.2; rw [HST.out] at h; exact h : Calls Tryz.prog 5 _ X (LineGot X.heap.size (y3m, u2) X)));clear j0 j1 j2;go_wp2_with fail
   go_cut [17, 18] from 68 to 94 (fun bx sv W => BoxM v0.heap.size W y3m bx ∧ sv = .string u2 ∧ Below v0.heap.size v0 W)
   case first =>
    go_region_held (fun X => (X.cell? ⟨w6.heap.size, 0, none⟩ = some (.slice ao31 x3.store.length cap31) ∧ X.cell? ⟨w6.heap.size, 1, none⟩ = some (.int .i64 x3.rule.lc) ∧ X.cell? ⟨w6.heap.size, 2, none⟩ = some (.int .i64 x3.rule.hc) ∧ X.cell? ⟨w6.heap.size, 3, none⟩ = some (.int .i64 x3.rule.lm) ∧ X.cell? ⟨w6.heap.size, 4, none⟩ = some (.int .i64 x3.rule.hm) ∧ X.cell? ⟨w6.heap.size, 5, none⟩ = some (.int .i64 x3.rule.ls) ∧ X.cell? ⟨w6.heap.size, 6, none⟩ = some (.int .i64 x3.rule.hs) ∧ X.cell? ⟨w6.heap.size, 7, none⟩ = some (.int .i64 x3.strand) ∧ X.cell? ⟨w6.heap.size, 8, none⟩ = some (.slice ao32 x3.pieces.length cap32) ∧ X.cell? ⟨w6.heap.size, 9, none⟩ = some (.slice ao33 x3.low.length cap33) ∧ X.cell? ⟨w6.heap.size, 10, none⟩ = some (.slice ao34 x3.high.length cap34) ∧ X.cell? ⟨w6.heap.size, 11, none⟩ = some (.int .i64 x3.scrap)) ∧ (X.cell? ⟨b, ob + k * 3, none⟩ = some (.int .i64 dj.s) ∧ X.cell? ⟨b, ob + k * 3 + 1, none⟩ = some (.int .i64 dj.d) ∧ X.cell? ⟨b, ob + k * 3 + 2, none⟩ = some (.int .i64 dj.g))) (first | (with_reducible exact HS.out _ hI) | (with_reducible exact HS.out _ hI2) | (with_reducible exact HS.out _ hB7) | (with_reducible exact HS.out _ (hB7.alloc hB7.size _)) | (with_reducible exact HS.out _ hB5) | (with_reducible exact HS.out _ (hB5.alloc hB5.size _)) | (with_reducible exact HS.out _ (hB7.trans ((aI _ _ _ _ _ _ _ _ _ _ _ _ _ _).below (by omega) hB7.size)))) (first
     | (go_at_call 5; (first | (have hk := HRU.out _ hB5; (try unfold ag at hk); with_reducible refine hk.mono ?_) | (have hk := HRU.out _ (hB5.alloc hB5.size (.cells #[.slice none 0 0, .int .i64 0, .int .i64 0, .int .i64 0, .int .i64 0, .int .i64 0, .int .i64 0, .int .i64 0, .slice none 0 0, .slice none 0 0, .slice none 0 0, .int .i64 0] 31)); (try unfold ag at hk); with_reducible refine hk.mono ?_)); clear hk; rintro e q7 ⟨s7, p7, l7, h7, he7, G7, hb7⟩; have he7 : e = .returned (.tuple #[ag s7 p7 l7 h7 y3m, .string u2]) := he7; have G7 : ak _ q7 s7 p7 l7 h7 y3m := G7; subst he7; have hB7 : Below v0.heap.size v0 q7 := (by first | with_reducible exact Below.step hB5 hb7 nl | with_reducible exact Below.step (hB5.alloc hB5.size _) hb7 nl); have hzz7 := hB7.size; obtain ⟨hc7, hf7⟩ := gX hb7; have hzy7 := hb7.size; (try simp at hzy7); (try have hx70 : v0.heap.size < q7.heap.size := by omega); (try have hx71 : q5.heap.size < q7.heap.size := by omega); obtain ⟨aS7, cs7, rfl, -, -⟩ := G7.so.form; obtain ⟨ap7, cp7, rfl, -, -⟩ := G7.po.form; obtain ⟨al7, cl7, rfl, -, -⟩ := G7.lo.form; obtain ⟨ah7, ch7, rfl, -, -⟩ := G7.ho.form; (try unfold ag))
     | (go_at_call 11; (first | (have hk := HCL.out _ hI; with_reducible refine hk.mono ?_) | (have hk := HCL.out _ hI2; with_reducible refine hk.mono ?_)); clear hk; rintro e q5 ⟨he5, hb5⟩; subst he5; have hB5 : Below v0.heap.size v0 q5 := (by first | with_reducible exact Below.step hI hb5 nl | with_reducible exact Below.step hI2 hb5 nl); have hzz5 := hB5.size; obtain ⟨hc5, hf5⟩ := gX hb5; have hzy5 := hb5.size; (try simp at hzy5); (try have hx50 : v0.heap.size < q5.heap.size := by omega)))
    all_goals
     go_wp2_with fail
     go_meet;first
      | (have hx := boxN (W := v0) (by first | omega | (simp; done) | (simp; omega)) hB7 G7
         with_reducible exact ⟨hx.1, rfl, hx.2⟩)
      | (have hx := boxO (W := v0) (((zrow v0).drew.stay hb5).stay hb7) rfl nl (by first | omega | (simp; done) | (simp; omega)) hB7 G7
         with_reducible exact ⟨hx.1, rfl, hx.2⟩)
      | (have hx := boxO (W := v0) ((zrow q5).stay hb7) rfl (by first | omega | (simp; done) | (simp; omega)) (by first | omega | (simp; done) | (simp; omega)) hB7 G7
         with_reducible exact ⟨hx.1, rfl, hx.2⟩)
   obtain ⟨⟨g4, s4, p4, l4, h4, rfl, hg4, hrow, G4⟩, rfl, hb⟩ := hcut;obtain ⟨v1, rfl⟩ : ∃ q : World, q = wc := ⟨_, rfl⟩;obtain ⟨ao41, cap41, ao42, cap42, ao43, cap43, ao44, cap44, rfl, rfl, rfl, rfl⟩ := G4.op;have N_1 := N_q.below hb N_q.lt;have hzv1 := hb.size;have HB1 := hide (HBv.out.trans (hb.mono (by omega)));have G_1 := hide G4;have hN1 := N_1.lt;have hQ1 := hrow.lt;clear hb hI hI2 HS HCL HRU HN3 H3J G4;have Q_1 : ae v1 g4 31 (mC ao41 cap41 ao42 cap42 ao43 cap43 ao44 cap44 y3m) := hrow;clear hrow
   go_upto_region 15 with fail
   go_cut [93] from 68 to 94 (fun c W => c = .bool false ∧ W = v1)
   case first =>
    cases ok with
    | false =>
     have hp : u2.toList = [110, 111] := by rw [← HU2.out]; exact no_list
     go_wp2_with fail
     go_meet;exact ⟨rfl, rfl⟩
    | true =>
     have hp : u2.toList = [111, 107] := by rw [← HU2.out]; exact ok_list
     go_wp2_with fail
     go_meet;exact ⟨rfl, rfl⟩
   obtain ⟨rfl, hw⟩ := hcut;subst hw;have cNz := af N_1;have fNz := ay N_1;have cQz := af Q_1;have hwk : IntKind.i64.wrap ((k : Int) + 1) = ((k + 1 : Nat) : Int) := by rw [show (k : Int) + 1 = ((k + 1 : Nat) : Int) by omega]; exact IntWalk.i64_in _ (by omega)
   go_wp2_with fail
   go_roundw
   case rel =>
    have TW := aI w6.heap.size wc (.slice ao41 y3m.store.length cap41) (.int .i64 y3m.rule.lc) (.int .i64 y3m.rule.hc) (.int .i64 y3m.rule.lm) (.int .i64 y3m.rule.hm) (.int .i64 y3m.rule.ls) (.int .i64 y3m.rule.hs) (.int .i64 y3m.strand) (.slice ao42 y3m.pieces.length cap42) (.slice ao43 y3m.low.length cap43) (.slice ao44 y3m.high.length cap44) (.int .i64 y3m.scrap);refine ⟨k + 1, .slice ao41 y3m.store.length cap41, .slice ao42 y3m.pieces.length cap42, .slice ao43 y3m.low.length cap43, .slice ao44 y3m.high.length cap44, by omega, rfl, HB1.out.trans (TW.below nl (by omega)), ?_, ?_⟩
    ·rw [HY3.out]; exact dU N_1 rfl _ _ _ _ _ _ _ _ _ _ _ _
    ·rw [HY3.out]; exact (G_1.out.past N_1 TW).mono (Nat.zero_le _)
   case measure => simp [intOf]; omega
  | false =>
   have hend : b2 = true → (dX z (js.take k)).1 = (iU z r).1 := fun e => by
    subst e;have hk2 : k = js.length := by simp at hc; omega
    rw [hk2];exact HAL.out HB2.out
   obtain ⟨x3, hx3⟩ : ∃ q, (dX z (js.take k)).1 = q := ⟨_, rfl⟩;obtain ⟨⟨y9, q4⟩, hy9⟩ : ∃ q, iU z r = q := ⟨_, rfl⟩;rw [hx3, hy9] at hend;have HEND := hide hend;have N_q : ae v0 w6.heap.size 31 (az s3 p3 l3 h3 x3) := by rw [← hx3]; exact N_v0
   have V3_q : Hid (ak 0 v0 s3 p3 l3 h3 x3) := by rw [← hx3]; exact hide V3_v0.out
   obtain ⟨ao31, cap31, ao32, cap32, ao33, cap33, ao34, cap34, rfl, rfl, rfl, rfl⟩ := V3_q.out.op;have KP := replay_impl _ _ _ _ z r nn v0 VZ_v0.out.all hr2 (HNC.out _ B_v0.out).1 (HNC.out _ B_v0.out).2.1;rw [hy9] at KP;unfold ag at KP;clear hend hx3 hy9 hc;have N_q : ae v0 w6.heap.size 31 (mC ao31 cap31 ao32 cap32 ao33 cap33 ao34 cap34 x3) := N_q;have cSz := af S_v0;go_wp2_with fail
   clear cSz;refine (KP).mono ?_;rintro e w7 ⟨s8, p8, l8, h8, he8, G8, hb⟩;have M_7 := M_v0.below hb M_v0.lt;have X_7 := X_v0.below hb X_v0.lt;have S_7 := S_v0.below hb S_v0.lt;have N_7 := N_q.below hb N_q.lt;have VV_7 := hide (VV_v0.out.below hb);have VX_7 := hide (VX_v0.out.below hb);have VZ_7 := hide (VZ_v0.out.below hb);have V3_7 := hide (V3_q.out.below hb);have B_7 := bs B_v0.out hb;have hz7 := hb.size;clear hb;have he8 : e = .returned (.tuple #[ag s8 p8 l8 h8 y9, .int .i64 q4]) := he8;subst he8;have G8 : ak _ w7 s8 p8 l8 h8 y9 := G8;obtain ⟨ao81, cap81, ao82, cap82, ao83, cap83, ao84, cap84, rfl, rfl, rfl, rfl⟩ := G8.op;have VE_7 := hide G8;clear G8;unfold ag;clear KP
   go_upto_region 19 with fail
   obtain ⟨y5, hwy⟩ : ∃ q : World, q = w7.alloc (.cells #[.slice ao81 y9.store.length cap81, .int .i64 y9.rule.lc, .int .i64 y9.rule.hc, .int .i64 y9.rule.lm, .int .i64 y9.rule.hm, .int .i64 y9.rule.ls, .int .i64 y9.rule.hs, .int .i64 y9.strand, .slice ao82 y9.pieces.length cap82, .slice ao83 y9.low.length cap83, .slice ao84 y9.high.length cap84, .int .i64 y9.scrap] 31) := ⟨_, rfl⟩;rw [← hwy];have E_y5 : ae y5 (w7.heap.size) 31 (mC ao81 cap81 ao82 cap82 ao83 cap83 ao84 cap84 y9) := by rw [hwy]; exact ae.new _ _ _
   have hb : Below w7.heap.size w7 y5 := by rw [hwy]; go_grown
   clear hwy;have M_y5 := M_7.below hb M_7.lt;have X_y5 := X_7.below hb X_7.lt;have S_y5 := S_7.below hb S_7.lt;have N_y5 := N_7.below hb N_7.lt;have VV_y5 := hide (VV_7.out.below hb);have VX_y5 := hide (VX_7.out.below hb);have VZ_y5 := hide (VZ_7.out.below hb);have V3_y5 := hide (V3_7.out.below hb);have VE_y5 := hide (VE_7.out.below hb);have B_y5 := bs B_7.out hb;have hzy5 := hb.size;have hly5 := E_y5.lt;clear hb;have KV := cu _ _ _ _ z y5 VZ_y5.out.all;rw [HB2.out] at KV;unfold ag at KV
   go_cut [108] from 101 (fun c W => c = .bool false ∧ Below y5.heap.size y5 W)
   case first =>
    have cSz := af S_y5;cases b2 with
    | false =>
     go_wp2_with fail
     refine KV.mono ?_;rintro e w9 ⟨rfl, hb⟩;go_wp2_with fail
     go_meet;exact ⟨rfl, hb⟩
    | true =>
     go_wp2_with fail
     refine (KV).mono ?_;rintro e w8 ⟨rfl, hb⟩;have HC9 := hide hb;have M_8 := M_y5.below hb M_y5.lt;have X_8 := X_y5.below hb X_y5.lt;have N_8 := N_y5.below hb N_y5.lt;have E_8 := E_y5.below hb E_y5.lt;have VV_8 := hide (VV_y5.out.below hb);have VX_8 := hide (VX_y5.out.below hb);have V3_8 := hide (V3_y5.out.below hb);have VE_8 := hide (VE_y5.out.below hb);have B_8 := bs B_y5.out hb;have hz8 := hb.size;clear hb;have cNz := af N_8;have cEz := af E_8;go_wp2_with fail
     have KQ := sm_yes (iV _ _ _ _ _ _ _ _ x3 y9 w8 V3_8.out.all VE_8.out.all) (HEND.out (by simp));unfold ag at KQ;refine KQ.mono ?_;rintro e w99 ⟨rfl, hb⟩;go_wp2_with fail
     go_meet;exact ⟨rfl, Below.step HC9.out hb nl⟩
   obtain ⟨rfl, hb⟩ := hcut;obtain ⟨v2, rfl⟩ : ∃ q : World, q = wc := ⟨_, rfl⟩;clear KV;have M_v2 := M_y5.below hb M_y5.lt;have X_v2 := X_y5.below hb X_y5.lt;have VV_v2 := hide (VV_y5.out.below hb);have VX_v2 := hide (VX_y5.out.below hb);have B_v2 := bs B_y5.out hb;have hzv2 := hb.size;clear hb;have KM := cu _ _ _ _ m v2 VV_v2.out.all;unfold ag at KM;have cMz := af M_v2;go_wp2_with fail
   clear cMz;have hem := eu u;cases hv : aF m with
   | false =>
    rw [hv] at KM;have hbad := line_bad hv t;rw [HX.out, Prod.mk.injEq] at hbad;obtain ⟨hx0, rfl⟩ := hbad;have HX0 := hide hx0;clear hx0;refine (KM).mono ?_;rintro e w8 ⟨rfl, hb⟩;have M_8 := M_v2.below hb M_v2.lt;have X_8 := X_v2.below hb X_v2.lt;have VV_8 := hide (VV_v2.out.below hb);have VX_8 := hide (VX_v2.out.below hb);have B_8 := bs B_v2.out hb;have hz8 := hb.size;clear hb;have cXz := af X_8;go_wp2_with fail
    clear cXz;have KN := noMill_any _ _ _ _ x w8 VX_8.out.all;rw [decide_eq_true HX0.out] at KN;unfold ag at KN;refine (KN).mono ?_;rintro e w9 ⟨rfl, hb⟩;have M_9 := M_8.below hb M_8.lt;have X_9 := X_8.below hb X_8.lt;have VV_9 := hide (VV_8.out.below hb);have VX_9 := hide (VX_8.out.below hb);have B_9 := bs B_8.out hb;have hz9 := hb.size;clear hb;go_wp2_with fail
    refine (alive_any w9).mono ?_;rintro e w10 ⟨rfl, hb⟩;have B_10 := bs B_9.out hb;have hz10 := hb.size;clear hb;go_wp2_with fail
    go_ret;exact ⟨rfl, B_10.out⟩
   | true =>
    rw [hv] at KM;have hll := line_law hv t;rw [HX.out] at hll;obtain ⟨hvx, hux⟩ := hll;have hcl := (clear_law hv).2.1;have hlc := line_clr hv;obtain ⟨c9, hc9⟩ : ∃ q, (iX m (bM m)).1 = q := ⟨_, rfl⟩;rw [hc9] at hcl hlc;have HVX := hide hvx;have HUX := hide hux;have HCL := hide hcl;have HLC := hide hlc;clear hvx hux hcl hlc hc9;refine (KM).mono ?_;rintro e w8 ⟨rfl, hb⟩;have M_8 := M_v2.below hb M_v2.lt;have X_8 := X_v2.below hb X_v2.lt;have VV_8 := hide (VV_v2.out.below hb);have VX_8 := hide (VX_v2.out.below hb);have B_8 := bs B_v2.out hb;have hz8 := hb.size;clear hb;have cMz := af M_8;clear KM;go_wp2_with fail
    clear cMz;have KC := line_impl _ _ _ _ m fU nn w8 VV_8.out.all (by decide) (HNC.out _ B_8.out).1 (HNC.out _ B_8.out).2.1 (HNC.out _ B_8.out).2.2;rw [HLC.out] at KC;unfold ag fU at KC;refine (KC).mono ?_;rintro e w9 ⟨s9, p9, l9, h9, he9, G9, hb⟩;have M_9 := M_8.below hb M_8.lt;have X_9 := X_8.below hb X_8.lt;have VV_9 := hide (VV_8.out.below hb);have VX_9 := hide (VX_8.out.below hb);have B_9 := bs B_8.out hb;have hz9 := hb.size;clear hb;have he9 : e = .returned (.tuple #[ag s9 p9 l9 h9 c9, .string okB]) := he9;subst he9;have G9 : ak _ w9 s9 p9 l9 h9 c9 := G9;obtain ⟨ao91, cap91, ao92, cap92, ao93, cap93, ao94, cap94, rfl, rfl, rfl, rfl⟩ := G9.op;have VC_9 := hide G9;clear G9;unfold ag;clear KC
    go_upto_region 24 with fail
    obtain ⟨y6, hwy⟩ : ∃ q : World, q = w9.alloc (.cells #[.slice ao91 c9.store.length cap91, .int .i64 c9.rule.lc, .int .i64 c9.rule.hc, .int .i64 c9.rule.lm, .int .i64 c9.rule.hm, .int .i64 c9.rule.ls, .int .i64 c9.rule.hs, .int .i64 c9.strand, .slice ao92 c9.pieces.length cap92, .slice ao93 c9.low.length cap93, .slice ao94 c9.high.length cap94, .int .i64 c9.scrap] 31) := ⟨_, rfl⟩;rw [← hwy];have C_y6 : ae y6 (w9.heap.size) 31 (mC ao91 cap91 ao92 cap92 ao93 cap93 ao94 cap94 c9) := by rw [hwy]; exact ae.new _ _ _
    have hb : Below w9.heap.size w9 y6 := by rw [hwy]; go_grown
    clear hwy;have M_y6 := M_9.below hb M_9.lt;have X_y6 := X_9.below hb X_9.lt;have VV_y6 := hide (VV_9.out.below hb);have VX_y6 := hide (VX_9.out.below hb);have VC_y6 := hide (VC_9.out.below hb);have B_y6 := bs B_9.out hb;have hzy6 := hb.size;have hly6 := C_y6.lt;clear hb;by_cases hu : u = okB
    ·have hq : (u.toList == [111, 107]) = true := by rw [hu, ok_list]; rfl
     clear hu hem;have HX6 := hide (fun (W : World) (q : Below y6.heap.size y6 W) => X_y6.below q X_y6.lt);have HM6 := hide (fun (W : World) (q : Below y6.heap.size y6 W) => M_y6.below q M_y6.lt);have HC6 := hide (fun (W : World) (q : Below y6.heap.size y6 W) => C_y6.below q C_y6.lt);refine wp_region_held_drew (S := fun W => Below y6.heap.size y6 W) (by kernel_rfl) ((Below.refl _ _).drew) (fun hs0 => ?_);refine tkH (i := 0) (v := ?v0) rfl (Or.inl ⟨by rfl, ?hy0⟩) hs0 ?rest0
     case hy0 => (intro wz hSw; obtain ⟨c0, c1, c2, c3, c4, c5, c6, c7, c8, c9, c10, c11⟩ := af (HX6.out _ hSw); go_simp; first | done | with_reducible rfl)
     simp only [Act.put, List.getElem_toArray, List.getElem_cons_zero, List.getElem_cons_succ, List.setIfInBounds_toArray, List.set_cons_zero, List.set_cons_succ];refine wpAnyH_ready (rs := [1]) (by kernel_rfl) (by simp) ?_;refine AllReadyH.cons rfl (fun K hK => ?_) AllReadyH.nil
     go_simp
     go_wp2_with (go_at_call 15; refine (mv_yes (cz _ _ _ _ x _ (VX_y6.out.below hs0).all) HVX.out).mono ?_; rintro e k0 ⟨rfl, hb⟩; have hs1 := Below.step hs0 hb nl; clear hb)
     refine hK.out _ _ hs1 (fun hHeld => ?_);clear hK K hHeld;refine tkH (i := 2) (v := ?v2) rfl (Or.inl ⟨by rfl, ?hy2⟩) hs1 ?rest2
     case hy2 => (intro wz hSw; go_simp; first | done | with_reducible rfl)
     simp only [Act.put, List.getElem_toArray, List.getElem_cons_zero, List.getElem_cons_succ, List.setIfInBounds_toArray, List.set_cons_zero, List.set_cons_succ];refine tkH (i := 3) (v := ?v3) rfl (Or.inl ⟨by rfl, ?hy3⟩) hs1 ?rest3
     case hy3 => (intro wz hSw; go_simp; first | done | with_reducible rfl)
     simp only [Act.put, List.getElem_toArray, List.getElem_cons_zero, List.getElem_cons_succ, List.setIfInBounds_toArray, List.set_cons_zero, List.set_cons_succ];refine tkH (i := 4) (v := ?v4) rfl (Or.inl ⟨by rfl, ?hy4⟩) hs1 ?rest4
     case hy4 => (intro wz hSw; go_simp; first | done | with_reducible rfl)
     simp only [Act.put, List.getElem_toArray, List.getElem_cons_zero, List.getElem_cons_succ, List.setIfInBounds_toArray, List.set_cons_zero, List.set_cons_succ];refine tkH (i := 5) (v := ?v5) rfl (Or.inl ⟨by rfl, ?hy5⟩) hs1 ?rest5
     case hy5 => (intro wz hSw; go_simp; first | done | with_reducible rfl)
     simp only [Act.put, List.getElem_toArray, List.getElem_cons_zero, List.getElem_cons_succ, List.setIfInBounds_toArray, List.set_cons_zero, List.set_cons_succ];refine tkH (i := 6) (v := undef) rfl (Or.inr ⟨by rfl, rfl⟩) hs1 ?rest6;simp only [Act.put, List.getElem_toArray, List.getElem_cons_zero, List.getElem_cons_succ, List.setIfInBounds_toArray, List.set_cons_zero, List.set_cons_succ];refine tkH (i := 7) (v := undef) rfl (Or.inr ⟨by rfl, rfl⟩) hs1 ?rest7;simp only [Act.put, List.getElem_toArray, List.getElem_cons_zero, List.getElem_cons_succ, List.setIfInBounds_toArray, List.set_cons_zero, List.set_cons_succ];refine tkH (i := 8) (v := undef) rfl (Or.inr ⟨by rfl, rfl⟩) hs1 ?rest8;simp only [Act.put, List.getElem_toArray, List.getElem_cons_zero, List.getElem_cons_succ, List.setIfInBounds_toArray, List.set_cons_zero, List.set_cons_succ];refine tkH (i := 9) (v := ?v9) rfl (Or.inl ⟨by rfl, ?hy9⟩) hs1 ?rest9
     case hy9 => (intro wz hSw; go_simp; first | done | with_reducible rfl)
     simp only [Act.put, List.getElem_toArray, List.getElem_cons_zero, List.getElem_cons_succ, List.setIfInBounds_toArray, List.set_cons_zero, List.set_cons_succ];refine tkH (i := 10) (v := ?v10) rfl (Or.inl ⟨by rfl, ?hy10⟩) hs1 ?rest10
     case hy10 => (intro wz hSw; go_simp; first | done | with_reducible rfl)
     simp only [Act.put, List.getElem_toArray, List.getElem_cons_zero, List.getElem_cons_succ, List.setIfInBounds_toArray, List.set_cons_zero, List.set_cons_succ];refine tkH (i := 11) (v := ?v11) rfl (Or.inl ⟨by rfl, ?hy11⟩) hs1 ?rest11
     case hy11 => (intro wz hSw; go_simp; first | done | with_reducible rfl)
     simp only [Act.put, List.getElem_toArray, List.getElem_cons_zero, List.getElem_cons_succ, List.setIfInBounds_toArray, List.set_cons_zero, List.set_cons_succ];refine tkH (i := 12) (v := ?v12) rfl (Or.inl ⟨by rfl, ?hy12⟩) hs1 ?rest12
     case hy12 => (intro wz hSw; obtain ⟨c0, c1, c2, c3, c4, c5, c6, c7, c8, c9, c10, c11⟩ := af (HC6.out _ hSw); go_simp; first | done | with_reducible rfl)
     simp only [Act.put, List.getElem_toArray, List.getElem_cons_zero, List.getElem_cons_succ, List.setIfInBounds_toArray, List.set_cons_zero, List.set_cons_succ];refine tkH (i := 15) (v := ?v15) rfl (Or.inl ⟨by rfl, ?hy15⟩) hs1 ?rest15
     case hy15 => (intro wz hSw; go_simp; first | done | with_reducible rfl)
     simp only [Act.put, List.getElem_toArray, List.getElem_cons_zero, List.getElem_cons_succ, List.setIfInBounds_toArray, List.set_cons_zero, List.set_cons_succ];refine tkH (i := 16) (v := ?v16) rfl (Or.inl ⟨by rfl, ?hy16⟩) hs1 ?rest16
     case hy16 => (intro wz hSw; have c8 := (HM6.out _ hSw).c 8 rfl; go_simp; first | done | with_reducible rfl)
     simp only [Act.put, List.getElem_toArray, List.getElem_cons_zero, List.getElem_cons_succ, List.setIfInBounds_toArray, List.set_cons_zero, List.set_cons_succ];refine tkH (i := 17) (v := ?v17) rfl (Or.inl ⟨by rfl, ?hy17⟩) hs1 ?rest17
     case hy17 => (intro wz hSw; go_simp; first | done | with_reducible rfl)
     simp only [Act.put, List.getElem_toArray, List.getElem_cons_zero, List.getElem_cons_succ, List.setIfInBounds_toArray, List.set_cons_zero, List.set_cons_succ];refine wpAnyH_ready (rs := [13]) (by kernel_rfl) (by simp) ?_;refine AllReadyH.cons rfl (fun K hK => ?_) AllReadyH.nil
     go_simp
     go_wp2_with (go_at_call 16; refine (iL _ _ _ _ c9 2 _ (VC_y6.out.below hs1).all).mono ?_; rintro e k1 ⟨v7, rfl, hv7, hb⟩; have hs2 := Below.step hs1 hb nl; obtain ⟨ai7, ci7, rfl, -, -⟩ := aB hv7; clear hv7 hb; rw [HCL.out])
     refine hK.out _ _ hs2 (fun hHeld => ?_);clear hK K hHeld;refine tkH (i := 14) (v := ?v14) rfl (Or.inl ⟨by rfl, ?hy14⟩) hs2 ?rest14
     case hy14 => (intro wz hSw; go_simp; first | done | with_reducible rfl)
     simp only [Act.put, List.getElem_toArray, List.getElem_cons_zero, List.getElem_cons_succ, List.setIfInBounds_toArray, List.set_cons_zero, List.set_cons_succ];refine tkH (i := 18) (v := ?v18) rfl (Or.inl ⟨by rfl, ?hy18⟩) hs2 ?rest18
     case hy18 => (intro wz hSw; go_simp; first | done | with_reducible rfl)
     simp only [Act.put, List.getElem_toArray, List.getElem_cons_zero, List.getElem_cons_succ, List.setIfInBounds_toArray, List.set_cons_zero, List.set_cons_succ];refine tkH (i := 19) (v := ?v19) rfl (Or.inl ⟨by rfl, ?hy19⟩) hs2 ?rest19
     case hy19 => (intro wz hSw; go_simp; first | done | with_reducible rfl)
     simp only [Act.put, List.getElem_toArray, List.getElem_cons_zero, List.getElem_cons_succ, List.setIfInBounds_toArray, List.set_cons_zero, List.set_cons_succ];refine tkH (i := 20) (v := ?v20) rfl (Or.inl ⟨by rfl, ?hy20⟩) hs2 ?rest20
     case hy20 => (intro wz hSw; go_simp; first | done | with_reducible rfl)
     simp only [Act.put, List.getElem_toArray, List.getElem_cons_zero, List.getElem_cons_succ, List.setIfInBounds_toArray, List.set_cons_zero, List.set_cons_succ];refine wpAnyH_done (by kernel_rfl) ?_ _;go_wp2_with fail
     go_ret;exact ⟨rfl, Below.step B_y6.out hs2 nl⟩
    ·have hq : (u.toList == [111, 107]) = false := by rw [← ok_list, bP, decide_eq_false hu]
     have HXM := hide (HUX.out.resolve_left hu);clear hu hem;have hI := And.intro (aR M_y6.drew) (And.intro (aR X_y6.drew) (aR C_y6.drew));have hb : Below y6.heap.size y6 (World.drew y6) := (Below.refl _ _).drew;have M_d := M_y6.drew;have X_d := X_y6.drew;have C_d := C_y6.drew;have VV_d := hide (VV_y6.out.below hb);have VX_d := hide (VX_y6.out.below hb);have VC_d := hide (VC_y6.out.below hb);have B_d := bs B_y6.out hb;clear hb
     go_region_held (fun W => (W.cell? ⟨w1.heap.size, 0, none⟩ = some (.slice ao1 m.store.length cap1) ∧ W.cell? ⟨w1.heap.size, 1, none⟩ = some (.int .i64 m.rule.lc) ∧ W.cell? ⟨w1.heap.size, 2, none⟩ = some (.int .i64 m.rule.hc) ∧ W.cell? ⟨w1.heap.size, 3, none⟩ = some (.int .i64 m.rule.lm) ∧ W.cell? ⟨w1.heap.size, 4, none⟩ = some (.int .i64 m.rule.hm) ∧ W.cell? ⟨w1.heap.size, 5, none⟩ = some (.int .i64 m.rule.ls) ∧ W.cell? ⟨w1.heap.size, 6, none⟩ = some (.int .i64 m.rule.hs) ∧ W.cell? ⟨w1.heap.size, 7, none⟩ = some (.int .i64 m.strand) ∧ W.cell? ⟨w1.heap.size, 8, none⟩ = some (.slice ao2 m.pieces.length cap2) ∧ W.cell? ⟨w1.heap.size, 9, none⟩ = some (.slice ao3 m.low.length cap3) ∧ W.cell? ⟨w1.heap.size, 10, none⟩ = some (.slice ao4 m.high.length cap4) ∧ W.cell? ⟨w1.heap.size, 11, none⟩ = some (.int .i64 m.scrap)) ∧ (W.cell? ⟨w2.heap.size, 0, none⟩ = some (.slice ao51 x.store.length cap51) ∧ W.cell? ⟨w2.heap.size, 1, none⟩ = some (.int .i64 x.rule.lc) ∧ W.cell? ⟨w2.heap.size, 2, none⟩ = some (.int .i64 x.rule.hc) ∧ W.cell? ⟨w2.heap.size, 3, none⟩ = some (.int .i64 x.rule.lm) ∧ W.cell? ⟨w2.heap.size, 4, none⟩ = some (.int .i64 x.rule.hm) ∧ W.cell? ⟨w2.heap.size, 5, none⟩ = some (.int .i64 x.rule.ls) ∧ W.cell? ⟨w2.heap.size, 6, none⟩ = some (.int .i64 x.rule.hs) ∧ W.cell? ⟨w2.heap.size, 7, none⟩ = some (.int .i64 x.strand) ∧ W.cell? ⟨w2.heap.size, 8, none⟩ = some (.slice ao52 x.pieces.length cap52) ∧ W.cell? ⟨w2.heap.size, 9, none⟩ = some (.slice ao53 x.low.length cap53) ∧ W.cell? ⟨w2.heap.size, 10, none⟩ = some (.slice ao54 x.high.length cap54) ∧ W.cell? ⟨w2.heap.size, 11, none⟩ = some (.int .i64 x.scrap)) ∧ (W.cell? ⟨w9.heap.size, 0, none⟩ = some (.slice ao91 c9.store.length cap91) ∧ W.cell? ⟨w9.heap.size, 1, none⟩ = some (.int .i64 c9.rule.lc) ∧ W.cell? ⟨w9.heap.size, 2, none⟩ = some (.int .i64 c9.rule.hc) ∧ W.cell? ⟨w9.heap.size, 3, none⟩ = some (.int .i64 c9.rule.lm) ∧ W.cell? ⟨w9.heap.size, 4, none⟩ = some (.int .i64 c9.rule.hm) ∧ W.cell? ⟨w9.heap.size, 5, none⟩ = some (.int .i64 c9.rule.ls) ∧ W.cell? ⟨w9.heap.size, 6, none⟩ = some (.int .i64 c9.rule.hs) ∧ W.cell? ⟨w9.heap.size, 7, none⟩ = some (.int .i64 c9.strand) ∧ W.cell? ⟨w9.heap.size, 8, none⟩ = some (.slice ao92 c9.pieces.length cap92) ∧ W.cell? ⟨w9.heap.size, 9, none⟩ = some (.slice ao93 c9.low.length cap93) ∧ W.cell? ⟨w9.heap.size, 10, none⟩ = some (.slice ao94 c9.high.length cap94) ∧ W.cell? ⟨w9.heap.size, 11, none⟩ = some (.int .i64 c9.scrap))) (first | (with_reducible exact hI) | (with_reducible exact hS0) | (with_reducible exact hS1) | (with_reducible exact hS2)) (first
      | (go_at_call 16; refine (iL _ _ _ _ c9 2 _ VC_k1.out.all).mono ?_; rintro e k2 ⟨v7, rfl, hv7, hb⟩; have M_k2 := M_k1.below hb M_k1.lt; have X_k2 := X_k1.below hb X_k1.lt; have C_k2 := C_k1.below hb C_k1.lt; have VV_k2 := hide (VV_k1.out.below hb); have VX_k2 := hide (VX_k1.out.below hb); have VC_k2 := hide (VC_k1.out.below hb); obtain ⟨ai7, ci7, rfl, -, -⟩ := aB hv7; clear hv7; rw [HCL.out]; have B_k2 := bs B_k1.out hb; have hzk2 := hb.size; have hS2 := And.intro (aR M_k2) (And.intro (aR X_k2) (aR C_k2)); clear hb)
      | (go_at_call 7; refine (sm_yes (iV _ _ _ _ _ _ _ _ x m _ VX_k0.out.all VV_k0.out.all) HXM.out).mono ?_; rintro e k1 ⟨rfl, hb⟩; have M_k1 := M_k0.below hb M_k0.lt; have X_k1 := X_k0.below hb X_k0.lt; have C_k1 := C_k0.below hb C_k0.lt; have VV_k1 := hide (VV_k0.out.below hb); have VX_k1 := hide (VX_k0.out.below hb); have VC_k1 := hide (VC_k0.out.below hb); have B_k1 := bs B_k0.out hb; have hzk1 := hb.size; have hS1 := And.intro (aR M_k1) (And.intro (aR X_k1) (aR C_k1)); clear hb)
      | (go_at_call 15; refine (mv_yes (cz _ _ _ _ x _ VX_d.out.all) HVX.out).mono ?_; rintro e k0 ⟨rfl, hb⟩; have M_k0 := M_d.below hb M_d.lt; have X_k0 := X_d.below hb X_d.lt; have C_k0 := C_d.below hb C_d.lt; have VV_k0 := hide (VV_d.out.below hb); have VX_k0 := hide (VX_d.out.below hb); have VC_k0 := hide (VC_d.out.below hb); have B_k0 := bs B_d.out hb; have hzk0 := hb.size; have hS0 := And.intro (aR M_k0) (And.intro (aR X_k0) (aR C_k0)); clear hb))
     clear hI hS0 hS1 hS2;go_wp2_with fail
     go_ret;exact ⟨rfl, B_k2.out⟩
end Go.Proofs.YtkhecelpafojdaaGreatDoor
namespace Go.Proofs.YtkhecelpafojdaaGreatDoor.fnMillLine
open Go.ChangeShapes Go.WideShapes Go.ChangeAt Go.RowKit

set_option maxRecDepth 100000 in
theorem contract (H : Type) (enc : TypeId × Value → H) (W : World) (base : Nat) (args : Array Value) (ds gs : List (DataW H)) (before : List MemPlace)
    (hval : ∀ (j : Nat) t v, Tryz.f3.params[j]? = some t → args[j]? = some v → Value.okWide Tryz.prog W .any base t v)
    (hW : DataW.Whole enc Tryz.prog Tryz.f3.params.toList Rows.fnMillLineSpec.vars false W args.toList ds gs before) (hna : dz W) (hpo : ik W) (m : Int) (hm : W.cell? ⟨1, 0, none⟩ = some (.int .i64 m)) :
    Calls Tryz.prog 3 args W fun e W' => ∃ v, e = .returned v ∧ Rows.fnMillLineSpec.post enc Tryz.prog Tryz.f3 false true false false W args v W' := by
  have hW' := hW
  obtain ⟨p, q, hA0, hV, rfl, hfz, hnd⟩ := hW
  have hA : DataW.TrodAll enc Tryz.prog W 0 (fun _ => true) true Tryz.f3.params.toList args.toList ds p := hA0
  rw [Tryz.params3] at hA hval
  obtain ⟨v0, v1, d0, d1, p0, p1, rfl, rfl, rfl, h0, h1⟩ := trodAll_two hA
  obtain ⟨n, hb⟩ := open_bytesAt Tryz.underlying22 Tryz.underlying5 (by kernel_rfl) h0 (okWide_slice Tryz.underlying22 (hval 0 22 v0 rfl rfl))
  obtain ⟨n2, hb2⟩ := open_bytesAt Tryz.underlying22 Tryz.underlying5 (by kernel_rfl) h1 (okWide_slice Tryz.underlying22 (hval 1 22 v1 rfl rfl))
  obtain ⟨_, _, _, _, g1, _, rfl, -⟩ := trodVars_one hV
  clear hA0
  refine (law_MillLine v0 v1 n n2 m W hb hb2 hm hna hpo).mono fun e W' ⟨he, hb⟩ => ?_
  subst he
  exact ⟨_, rfl, law_post_v laidOut (by rw [Tryz.params3]; intro t ht; simp at ht; subst ht; exact ⟨by kernel_rfl, of_decide_eq_true (by kernel_rfl)⟩) rfl Tryz.underlying4 (by kernel_rfl) rfl hW' hb⟩

set_option maxRecDepth 100000 in
theorem lifted (os : Os) (started : os.Started) (H : Type) (enc : TypeId × Value → H) (F : Stop.Interp) :
    ReturnsInHanded {} Tryz.checked os 3 .any ((OpenSpec.ofChange Rows.fnMillLineSpec).preRow enc Tryz.prog Tryz.f3 Rows.fnMillLineRow.domain false Rows.fnMillLineRow.laid) (((OpenSpec.ofChange Rows.fnMillLineSpec).at F).post enc Tryz.prog Tryz.f3 false true false false) := by
  obtain ⟨places, hx⟩ := reads os enc
  refine returnsInHanded_of_row (C := Tryz.checked) (s := OpenSpec.ofChange Rows.fnMillLineSpec) own started (by kernel_rfl) Tryz.func3
    (witness_row_at (enc := enc) (C := Tryz.checked) false (pinWorld os) #[.slice none 0 0, .slice none 0 0] rfl (by kernel_rfl) (by kernel_rfl) (by kernel_rfl)
      (OpenSpec.preRow_of_cond 8 hx (by kernel_rfl) (fun k hk => by cases hk) (by kernel_rfl) (laid_met4 os))) ?_
  intro W base args ds gs before hval hW _ _ _ hL hsh _
  obtain ⟨m, hm⟩ : ∃ m, W.cell? ⟨1, 0, none⟩ = some (.int .i64 m) := Tryz.laysM146.s1_3 W hsh
  exact contract H enc W base args ds gs before hval hW (names_of (laidMet.tail (laidMet.tail (laidMet.tail (laidMet.tail hL))))) (pow_of (laidMet.tail (laidMet.tail hL))) m hm

theorem said : Rows.FnMillLineSaid :=
  OpenClaim.holds_of_cond 3 Tryz.f3 rfl rfl rfl rfl rfl rfl rfl ⟨rfl, rfl, rfl, rfl, rfl⟩ rfl rfl rfl rfl rfl (by kernel_rfl) Tryz.func3 closed
    (of_decide_eq_true (by kernel_rfl)) (by unfold Func.isWrapper; first | (rw [if_pos (by decide +kernel)]; kernel_rfl) | (rw [if_neg (by decide +kernel)]; exact ⟨rfl, rfl⟩))
    (fun os started H enc _ F => by rw [OpenClaim.pre_eq_preRow]; exact lifted os started H enc F)

theorem card : Rows.FnMillLineCardSaid :=
  Claim7.holds_tied_plain_at .later [] _ _ _ _ said (fun _ h => by cases h) (by kernel_rfl) (fun _ h => by cases h) fnMillLine_row_tie rfl ⟨rfl, rfl⟩ (by kernel_rfl) rfl plain (by kernel_rfl)
#print axioms card
end Go.Proofs.YtkhecelpafojdaaGreatDoor.fnMillLine
