/-
  Parts of the proofs over mills, of: CoilC, MixC, BestF, BestMI, MethA. Conditions: each theorem states its own.
-/
import Derived.Test.YtmemgbklgcjobaaGreatDoorY39
set_option linter.unusedSimpArgs false
set_option linter.unusedVariables false
set_option maxRecDepth 10000
set_option maxHeartbeats 64000000
namespace Go.Proofs.YtmemgbklgcjobaaGreatDoor
open Go.RowKit
theorem heldAR {P : Program} {f : FuncId} {args : Array Value} {xs : List Int} {w0 W : World} (hc : Calls P f args W (IntsNew W.heap.size xs W)) {B : Nat} {u v x y : Value}
 (h0 : W.cell? ⟨B, 0, none⟩ = some u) (h1 : W.cell? ⟨B, 1, none⟩ = some v) (g0 : W.cell? ⟨B + 1, 0, none⟩ = some x) (g1 : W.cell? ⟨B + 1, 1, none⟩ = some y) (f0 : W.frozen? ⟨B + 1, 0, none⟩ = false) (f1 : W.frozen? ⟨B + 1, 1, none⟩ = false) (h2 : B + 1 < W.heap.size) (h3 : Below w0.heap.size w0 W) :
 Calls P f args W fun e w2 => ∃ r ao cap, e = .returned r ∧ r = .slice ao xs.length cap ∧ w2.ownsRow W.heap.size 3 1 r xs.length (flatI xs) ∧ Below W.heap.size W w2 ∧ (w2.cell? ⟨B, 0, none⟩ = some u ∧ w2.cell? ⟨B, 1, none⟩ = some v) ∧ (w2.cell? ⟨B + 1, 0, none⟩ = some x ∧ w2.cell? ⟨B + 1, 1, none⟩ = some y) ∧ (w2.frozen? ⟨B + 1, 0, none⟩ = false ∧ w2.frozen? ⟨B + 1, 1, none⟩ = false) ∧ B + 1 < w2.heap.size ∧ Below w0.heap.size w0 w2 :=
 hc.mono fun e w2 ⟨r, he, ho, hb⟩ => let ⟨ao, cap, hr, _, _⟩ := own_slice ho; ⟨r, ao, cap, he, hr, ho, hb, ⟨by rw [hb.cell (Nat.lt_of_succ_lt h2)]; exact h0, by rw [hb.cell (Nat.lt_of_succ_lt h2)]; exact h1⟩, ⟨by rw [hb.cell h2]; exact g0, by rw [hb.cell h2]; exact g1⟩, ⟨by rw [hb.frozen h2]; exact f0, by rw [hb.frozen h2]; exact f1⟩, Nat.lt_of_lt_of_le h2 hb.size, Below.step h3 hb nl⟩
theorem copyPile_any (l h : Value) (lo hi : List Int) (w : World) (Hl : IntsAt 0 w.heap.size w l lo) (Hh : IntsAt 0 w.heap.size w h hi) (n1 : lo.length ≤ 1000000) (n2 : hi.length ≤ 1000000) :
 Calls Tryz.prog 140 #[pileV l h] w (PileGot1 w.heap.size lo hi w) := by
 have HL := hide Hl;have HH := hide Hh;clear Hl Hh;obtain ⟨i0, hi0, hz0, hi1, hi2⟩ := info_parts info_int;unfold pileV;go_enter Tryz.func140, Tryz.ntmps140;go_wp2_with fail
 obtain ⟨wx, hwx⟩ : ∃ wx, wx = (w.alloc (.cells #[l, h] 29)).alloc (.cells #[.slice none 0 0, .slice none 0 0] 29) := ⟨_, rfl⟩;rw [← hwx];have A_0 : RowL wx w.heap.size 29 [l, h] := by rw [hwx]; exact (RowL.new _ _ _).alloc _
 have R_0 : RowL wx (w.heap.size + 1) 29 [.slice none 0 0, .slice none 0 0] := by rw [hwx]; simpa using RowL.new (World.alloc _ _) 29 [.slice none 0 0, .slice none 0 0]
 have B_0 : Below w.heap.size w wx := by rw [hwx]; go_grown
 clear hwx;obtain ⟨⟨s0, s1⟩, ⟨s2, s3⟩, ⟨s4, s5⟩, s6, s7⟩ : (wx.drew.cell? ⟨w.heap.size, 0, none⟩ = some l ∧ wx.drew.cell? ⟨w.heap.size, 1, none⟩ = some h) ∧ (wx.drew.cell? ⟨w.heap.size + 1, 0, none⟩ = some (.slice none 0 0) ∧ wx.drew.cell? ⟨w.heap.size + 1, 1, none⟩ = some (.slice none 0 0)) ∧ (wx.drew.frozen? ⟨w.heap.size + 1, 0, none⟩ = false ∧ wx.drew.frozen? ⟨w.heap.size + 1, 1, none⟩ = false) ∧ w.heap.size + 1 < wx.drew.heap.size ∧ Below w.heap.size w wx.drew := ⟨⟨A_0.cell 0 (by simp), A_0.cell 1 (by simp)⟩, ⟨R_0.cell 0 (by simp), R_0.cell 1 (by simp)⟩, ⟨R_0.frozen 0, R_0.frozen 1⟩, R_0.lt, B_0.drew⟩;have hwz : w.heap.size + 1 < wx.heap.size := R_0.lt;clear A_0 R_0 B_0
 go_region_with (first | (go_at_call 183; refine (heldAR (w0 := w) (B := w.heap.size) (u := l) (v := h) (x := .slice none 0 0) (y := .slice none 0 0) (cloneI_any l lo 0 w.heap.size _ (HL.out.below (by assumption)) n1) (by assumption) (by assumption) (by assumption) (by assumption) (by assumption) (by assumption) (by assumption) (by assumption)).mono ?_; rintro e w5 ⟨_, a5, c5, rfl, rfl, ho5, hb5, ⟨k0, k1⟩, ⟨k2, k3⟩, ⟨k4, k5⟩, k6, k7⟩) | (go_at_call 183; refine (heldAR (w0 := w) (B := w.heap.size) (u := l) (v := h) (x := .slice none 0 0) (y := .slice none 0 0) (cloneI_any h hi 0 w.heap.size _ (HH.out.below (by assumption)) n2) (by assumption) (by assumption) (by assumption) (by assumption) (by assumption) (by assumption) (by assumption) (by assumption)).mono ?_; rintro e w6 ⟨_, a6, c6, rfl, rfl, ho6, hb6, ⟨k0, k1⟩, ⟨k2, k3⟩, ⟨k4, k5⟩, k6, k7⟩))
 all_goals
  first
   | (have HP := hide (show PileOwn (w.heap.size + 2) w6 (.slice a5 lo.length c5) (.slice a6 hi.length c6) lo hi from ⟨k6, ((OwnE.own ho5).below hb6 nl).mono s6, (OwnE.own ho6).mono (Nat.le_trans s6 hb5.size), (OwnE.own ho5).apart (OwnE.own ho6) nl⟩)
      have HK := hide k7;clear ho5 ho6 hb5 hb6;go_wp2_with fail
      refine bodyPost_ret (by simp [results, Tryz.results140, go_sem, k2, k3]; try rfl) rfl ?_;exact ⟨_, _, rfl, (HP.out.other (((Other.refl (w.heap.size + 1) (w.heap.size + 2) w6).setCell (p := ⟨w.heap.size + 1, 0, none⟩) nl (Nat.lt_succ_self _) _).setCell (p := ⟨w.heap.size + 1, 1, none⟩) nl (Nat.lt_succ_self _) _) nl).mono (Nat.le_add_right _ 2), (HK.out.setCell (by simp) _).setCell (by simp) _⟩)
   | (have HP := hide (show PileOwn (w.heap.size + 2) w5 (.slice a5 lo.length c5) (.slice a6 hi.length c6) lo hi from ⟨k6, (OwnE.own ho5).mono (Nat.le_trans s6 hb6.size), ((OwnE.own ho6).below hb5 nl).mono s6, ((OwnE.own ho6).apart (OwnE.own ho5) nl).symm⟩)
      have HK := hide k7;clear ho5 ho6 hb5 hb6;go_wp2_with fail
      refine bodyPost_ret (by simp [results, Tryz.results140, go_sem, k2, k3]; try rfl) rfl ?_;exact ⟨_, _, rfl, (HP.out.other (((Other.refl (w.heap.size + 1) (w.heap.size + 2) w5).setCell (p := ⟨w.heap.size + 1, 0, none⟩) nl (Nat.lt_succ_self _) _).setCell (p := ⟨w.heap.size + 1, 1, none⟩) nl (Nat.lt_succ_self _) _) nl).mono (Nat.le_add_right _ 2), (HK.out.setCell (by simp) _).setCell (by simp) _⟩)
theorem take_impl (sv mv : Value) (sts : List St) (mix : List Int) (w : World) (Hs : StAt 0 w.heap.size w sv sts) (Hm : IntsAt 0 w.heap.size w mv mix) (hv : mixB sts mix = true) :
 Calls Tryz.prog 160 #[sv, mv] w (TakeGot w.heap.size (takeM sts mix) w) := by
 have HS := hide Hs;have HM := hide Hm;obtain ⟨hvs, hlen, -⟩ := mixB_parts hv;have hl4 := stsB_len hvs;have hlo : mix.length ≤ sts.length := by omega
 have hlo2 : sts.length ≤ mix.length := by omega
 have HV := hide hv;obtain ⟨ao1, cap1, rfl, -, -, -, -⟩ := Hs;obtain ⟨ao2, cap2, rfl, -, -, -, -⟩ := Hm;have k1 := mixv_impl (.slice ao1 sts.length cap1) (.slice ao2 mix.length cap2) sts mix w HS.out HM.out;rw [hv] at k1;have HVS := hide hvs;clear hv hvs hlen;have hmk := fun W => make_rowN (P := Tryz.prog) 23 65 _ _ _ Tryz.underlying23 info_St .i64 .i64 sts.length (by omega) (by omega) W;go_enter Tryz.func160, Tryz.ntmps160;go_wp2_with fail
 refine k1.mono ?_;rintro e w1 ⟨rfl, hb⟩;have HB := hide hb;have VS := hide (HS.out.below hb);have VM := hide (HM.out.below hb);have hz1 := hb.size;clear hb k1;go_wp2_with fail
 clear hmk
 go_loopw [7, 8, 18] (fun _ _ i wr => ∃ k : Nat, k ≤ sts.length ∧ i = .int .i64 k ∧ Below w1.heap.size w1 wr ∧ ∃ f, wr.rowIs w1.heap.size 65 (sts.length * 5) f ∧ (∀ j, j < k → f (j * 5) = .int .i64 (sts.getD j st0).c ∧ f (j * 5 + 1) = .int .i64 (sts.getD j st0).m ∧ f (j * 5 + 2) = .int .i64 (sts.getD j st0).s ∧ f (j * 5 + 3) = .int .i64 (sts.getD j st0).p ∧ f (j * 5 + 4) = .int .i64 ((sts.getD j st0).k - mix.getD j 0))) (fun _ _ i _ => sts.length - (intOf i).toNat)
 case atStart =>
  obtain ⟨f, hf⟩ := rowIs_madeN w1 (Value.agg #[Value.int .i64 0, Value.int .i64 0, Value.int .i64 0, Value.int .i64 0, Value.int .i64 0]).cells (sts.length * 5) 65;exact ⟨0, Nat.zero_le _, rfl, by go_grown, f, hf, fun _ h => absurd h (Nat.not_lt_zero _)⟩
 case round =>
  obtain ⟨k, hk, rfl, hbr, f, hrow, hall⟩ := hrel;have HBr := hide hbr;have Ha := hide hall;have Hr := hide hrow;have VSr := hide (VS.out.below hbr);have VMr := hide (VM.out.below hbr);have hgz := hrow.lt;have hzr := hbr.size;clear hbr hall hrow;by_cases hlt : k < sts.length
  ·have hk9 := mix_bd HV.out (show k < mix.length by omega)
   have hs9 := stB_k (stsB_getD HVS.out hlt);obtain ⟨b1, o1, _, e1, -, hbz1, r1⟩ := st_at VSr.out hlt;obtain ⟨b2, o2, _, e2, -, hbz2, r2, -⟩ := ints_at VMr.out (show k < mix.length by omega);simp only [Value.slice.injEq] at e1 e2;obtain ⟨rfl, -, rfl⟩ := e1;obtain ⟨rfl, -, rfl⟩ := e2;obtain ⟨r10, r11, r12, r13, r14⟩ := r1;have hkI : (k : Int) < (sts.length : Int) := by omega
   have hkI2 : (k : Int) < (mix.length : Int) := by omega
   have HG := hide (show sts.getD k st0 = ⟨(sts.getD k st0).c, (sts.getD k st0).m, (sts.getD k st0).s, (sts.getD k st0).p, (sts.getD k st0).k⟩ from rfl);obtain ⟨y0, h0⟩ : ∃ y, (sts.getD k st0).c = y := ⟨_, rfl⟩;obtain ⟨y1, h1⟩ : ∃ y, (sts.getD k st0).m = y := ⟨_, rfl⟩;obtain ⟨y2, h2⟩ : ∃ y, (sts.getD k st0).s = y := ⟨_, rfl⟩;obtain ⟨y3, h3⟩ : ∃ y, (sts.getD k st0).p = y := ⟨_, rfl⟩;obtain ⟨y4, h4⟩ : ∃ y, (sts.getD k st0).k = y := ⟨_, rfl⟩;obtain ⟨x, hx⟩ : ∃ x, mix.getD k 0 = x := ⟨_, rfl⟩;rw [h0] at r10;rw [h1] at r11;rw [h2] at r12;rw [h3] at r13;rw [h4] at r14 hs9;rw [hx] at r2 hk9;have H0 := hide h0;have H1 := hide h1;have H2 := hide h2;have H3 := hide h3;have H4 := hide h4;have HX := hide hx;have hw : IntKind.i64.wrap (y4 - x) = y4 - x := IntWalk.i64_in _ (by omega);clear h0 h1 h2 h3 h4 hx hs9 hk9 HG;go_wp2_with fail
   obtain ⟨wx, hwx⟩ : ∃ wx, wx = wr.alloc (.cells #[.int .i64 y0, .int .i64 y1, .int .i64 y2, .int .i64 y3, .int .i64 y4] 65) := ⟨_, rfl⟩;rw [← hwx];have RX : RowL wx wr.heap.size 65 [.int .i64 y0, .int .i64 y1, .int .i64 y2, .int .i64 y3, .int .i64 y4] := by rw [hwx]; exact RowL.new _ _ _
   have hbx : Below wr.heap.size wr wx := by rw [hwx]; exact (Below.refl _ _).alloc nl _
   have hX := rowIs_below Hr.out hbx hgz;have q2 : wx.cell? ⟨b2, o2 + k, none⟩ = some (.int .i64 x) := (hbx.cell (p := ⟨b2, o2 + k, none⟩) (show b2 < wr.heap.size by omega)).trans r2;have x4 := RX.c 4 rfl;have xf := RX.frozen 4;have HRX := hide RX;have HXR := hide hX;have HBX := hide hbx;have hne : wr.heap.size ≠ w1.heap.size := by omega
   have hne' : w1.heap.size ≠ wr.heap.size := by omega
   clear hwx RX hbx hX r10 r11 r12 r13 r14 r2
   go_still_tail 8, (by kernel_rfl)
   change wpList _ _ _ _ _ (World.drew _);clear hw q2
   go_upto_region 8 with fail
   obtain ⟨wy, hwy⟩ : ∃ wy, wy = (wx.setCell ⟨wr.heap.size, 4, none⟩ (.int .i64 (y4 - x))).drew := ⟨_, rfl⟩;rw [← hwy];have RY : RowL wy wr.heap.size 65 [.int .i64 y0, .int .i64 y1, .int .i64 y2, .int .i64 y3, .int .i64 (y4 - x)] := by rw [hwy]; exact (HRX.out.set 4 _ (by simp)).drew
   have hY : wy.rowIs w1.heap.size 65 (sts.length * 5) f := by rw [hwy]; exact (World.rowIs.setOther HXR.out (a := ⟨wr.heap.size, 4, none⟩) hne' _).drew
   have hby : Below w1.heap.size w1 wy := by rw [hwy]; exact ((HBr.out.trans (HBX.out.mono (Nat.le_of_lt hgz))).setCell (Nat.le_of_lt hgz) _).drew
   have hzy : wy.heap.size = wx.heap.size := by rw [hwy]; simp
   have HY := hide hY;have HBY := hide hby;have x0 := RY.c 0 rfl;have x1 := RY.c 1 rfl;have x2 := RY.c 2 rfl;have x3 := RY.c 3 rfl;have x4 := RY.c 4 rfl;have g0 := hY.cell (i := k * 5) (by omega);have g1 := hY.cell (i := k * 5 + 1) (by omega);have g2 := hY.cell (i := k * 5 + 2) (by omega);have g3 := hY.cell (i := k * 5 + 3) (by omega);have g4 := hY.cell (i := k * 5 + 4) (by omega);have f0 := hY.frozen (k * 5);have f1 := hY.frozen (k * 5 + 1);have f2 := hY.frozen (k * 5 + 2);have f3 := hY.frozen (k * 5 + 3);have f4 := hY.frozen (k * 5 + 4);clear hwy RY hY hby hzy;go_wp2_with fail
   obtain ⟨f', hr', e0, e1, e2, e3, e4, eo⟩ := rowIs_put5 HY.out (k * 5) (.int .i64 y0) (.int .i64 y1) (.int .i64 y2) (.int .i64 y3) (.int .i64 (y4 - x));go_roundw
   case rel =>
    refine ⟨k + 1, by omega, by go_num, (((((HBY.out.setCell nl _).setCell nl _).setCell nl _).setCell nl _).setCell nl _), f', hr', fun j hj => ?_⟩;by_cases e : j = k
    ·subst e
     rw [H0.out, H1.out, H2.out, H3.out, H4.out, HX.out];exact ⟨e0, e1, e2, e3, e4⟩
    ·rw [eo _ (by omega) (by omega) (by omega) (by omega) (by omega), eo _ (by omega) (by omega) (by omega) (by omega) (by omega), eo _ (by omega) (by omega) (by omega) (by omega) (by omega), eo _ (by omega) (by omega) (by omega) (by omega) (by omega), eo _ (by omega) (by omega) (by omega) (by omega) (by omega)]
     exact Ha.out j (by omega)
   case measure => simp [intOf]; omega
  ·obtain rfl : k = sts.length := by omega
   have hown : wr.ownsRow w.heap.size 65 5 (.slice (some ⟨w1.heap.size, 0, none⟩) sts.length sts.length) sts.length (flatS (takeM sts mix)) := by
    refine own_of_row Hr.out hz1 (by omega) (by rw [flatS_len, takeM_len]) fun i hi => ?_;have hj : i / 5 < sts.length := by omega
    obtain ⟨a0, a1, a2, a3, a4⟩ := Ha.out (i / 5) hj;obtain ⟨c0, c1, c2, c3, c4⟩ := flatS_at (takeM sts mix) (i / 5) (by rw [takeM_len]; exact hj);have hg : (takeM sts mix)[i / 5]'(by rw [takeM_len]; exact hj) = { sts.getD (i / 5) st0 with k := (sts.getD (i / 5) st0).k - mix.getD (i / 5) 0 } := by
     rw [← takeM_getD hj]; simp [takeM_len, hj]
    rw [hg] at c0 c1 c2 c3 c4;have hr : i = i / 5 * 5 ∨ i = i / 5 * 5 + 1 ∨ i = i / 5 * 5 + 2 ∨ i = i / 5 * 5 + 3 ∨ i = i / 5 * 5 + 4 := by omega
    generalize i / 5 = d at *;rcases hr with rfl | rfl | rfl | rfl | rfl
    ·rw [c0, a0]
    ·rw [c1, a1]
    ·rw [c2, a2]
    ·rw [c3, a3]
    ·rw [c4, a4]
   have HO := hide hown;clear hown;go_wp2_with fail
   go_ret2
   exact ⟨_, rfl, by rw [takeM_len]; exact HO.out, Below.step HB.out HBr.out nl⟩
theorem set_same0 {mix : List Int} {k : Nat} (h : mix.getD k 0 = 0) (y : Int) : (mix.set k y).set k 0 = mix := by
 rw [List.set_set];apply List.ext_getElem (by simp);intro i h1 h2;rw [List.getElem_set];split
 ·rename_i e
  subst e;simpa [h2] using h.symm
 ·rfl
theorem set_none0 {mix : List Int} {k : Nat} (h : mix.getD k 0 = 0) : mix.set k 0 = mix := by
 apply List.ext_getElem (by simp);intro i h1 h2;rw [List.getElem_set];split
 ·rename_i e
  subst e;simpa [h2] using h.symm
 ·rfl
theorem take_set1 {mix : List Int} {k : Nat} (h : k < mix.length) (y : Int) : (mix.set k y).take (k + 1) = mix.take k ++ [y] := by
 rw [List.take_succ_eq_append_getElem (by simpa using h), List.take_set_of_le nl];simp
theorem Srch.at7 {base L B M : Nat} {w : World} {stv : Value} {sts : List St} {g : Gr} {mix : List Int} {b : Option (List Int × Int)} (H : Srch base L B M w stv sts g mix b) :
 w.cell? ⟨B, 0, none⟩ = some stv ∧ w.cell? ⟨B, 7, none⟩ = some (.slice (some ⟨M, 0, none⟩) mix.length mix.length) ∧ B < w.heap.size := by
 obtain ⟨bv, c, f, h1, -⟩ := H.box;exact ⟨h1.cell 0 (by simp [srchC]), h1.cell 7 (by simp [srchC]), h1.lt⟩
theorem Srch.atM {base L B M : Nat} {w : World} {stv : Value} {sts : List St} {g : Gr} {mix : List Int} {b : Option (List Int × Int)} (H : Srch base L B M w stv sts g mix b) {k : Nat} (hk : k < mix.length) :
 (∃ v, w.cell? ⟨M, k, none⟩ = some v) ∧ w.frozen? ⟨M, k, none⟩ = false ∧ M < w.heap.size := by
 exact ⟨⟨_, H.mix.cell k (by rw [flatI_len]; exact hk)⟩, H.mix.frozen k, H.mix.lt⟩
theorem from_any {base L B M : Nat} {stv : Value} {sts : List St} {g : Gr} (hv : stsB sts = true) : ∀ (n idx : Nat), idx + n = sts.length → ∀ (w : World) (mix : List Int) (b : Option (List Int × Int)) (left : Int), Srch base L B M w stv sts g mix b → mix.length = sts.length → (∀ k, idx ≤ k → mix.getD k 0 = 0) → 0 ≤ left → left ≤ 12 →
 Calls Tryz.prog 197 #[.pointer (some ⟨B, 0, none⟩), .int .i64 (idx : Int), .int .i64 left] w fun e w' => e = .returned (.tuple #[]) ∧ Srch base L B M w' stv sts g mix (foldM sts g b (withP (mix.take idx) (allM (stocks sts idx) left))) ∧ Below base w w' := by
 intro n
 induction n with
 | zero =>
  intro idx hn w mix b left H hlen h0 hl0 hl1;obtain rfl : idx = sts.length := by omega
  have HE := hide (show withP (mix.take sts.length) (allM (stocks sts sts.length) left) = if left = 0 then [mix] else [] by
   rw [stocks_end, allM_end, ← hlen, List.take_length])
  have HLEN := hide hlen;clear h0 hlen hn;have HH := hide H;obtain ⟨aos, cps, rfl, -, -, -, -⟩ := H.sts;obtain ⟨c0, -, -⟩ := H.at7;clear H;go_enter Tryz.func197, Tryz.ntmps197;by_cases hz : left = 0
  ·subst hz
   have HE0 := hide (HE.out.trans (if_pos rfl));go_wp2_with fail
   refine (look_any HH.out hv HLEN.out).mono ?_;rintro e w1 ⟨rfl, k1, k2⟩;go_wp2_with fail
   first | refine bodyPost_ret (results_none rfl _ _ _) rfl ?_ | refine bodyPost_end (results_none rfl _ _ _) rfl ?_
   exact ⟨rfl, by rw [HE0.out, foldM_one]; exact k1, k2⟩
  ·go_wp2_with fail
   first | refine bodyPost_ret (results_none rfl _ _ _) rfl ?_ | refine bodyPost_end (results_none rfl _ _ _) rfl ?_
   exact ⟨rfl, by rw [HE.out, if_neg hz, foldM_nil]; exact HH.out, Below.refl _ _⟩
 | succ n ih =>
  intro idx hn w mix b left H hlen h0 hl0 hl1;have IH := hide ih;clear ih;have hidx : idx < sts.length := by omega
  have hL4 := stsB_len hv;have HV := hide hv;clear hv;have HN := hide hn;have HLEN := hide hlen;have H0 := hide h0;clear hn hlen h0;have HH := hide H;obtain ⟨s, hs⟩ : ∃ s, (sts.getD idx st0).k = s := ⟨_, rfl⟩;have hs9 : 0 ≤ s ∧ s ≤ 9 := by rw [← hs]; exact stB_k (stsB_getD HV.out hidx)
  have HS := hide hs;obtain ⟨m, hm⟩ : ∃ m : Nat, min left s + 1 = (m : Int) := ⟨(min left s + 1).toNat, by omega⟩;have HE := hide (show allM (stocks sts idx) left = part (stocks sts (idx + 1)) left m by
   rw [allM_at hidx, hs, hm]; rfl)
  have hidxI : ((idx : Int) == (sts.length : Int)) = false := by rw [beq_eq_false_iff_ne]; omega
  have hiI : (idx : Int) < (sts.length : Int) := by omega
  have hi0 : (0 : Int) ≤ (idx : Int) := by omega
  obtain ⟨b0, o0, cap, rfl, -, -, -⟩ := st_at H.sts hidx;obtain ⟨c0, -, -⟩ := H.at7;clear hs H;go_enter Tryz.func197, Tryz.ntmps197;go_wp2_with fail
  go_loopw [6] (fun i wr => ∃ (t : Nat) (y : Int), t ≤ m ∧ i = .int .i64 (t : Int) ∧ Srch base L B M wr (.slice (some ⟨b0, o0, none⟩) sts.length cap) sts g (mix.set idx y) (foldM sts g b (withP (mix.take idx) (part (stocks sts (idx + 1)) left t))) ∧ Below base w wr) (fun i _ => m - (intOf i).toNat)
  case atStart =>
   refine ⟨0, 0, by omega, rfl, ?_, Below.refl _ _⟩;rw [part_zero, show withP (mix.take idx) [] = [] from rfl, foldM_nil, set_none0 (H0.out idx nl)];exact HH.out
  case round =>
   obtain ⟨t, y, ht, rfl, K, hb⟩ := hrel;have hml : idx < (mix.set idx y).length := by rw [List.length_set, HLEN.out]; exact hidx
   obtain ⟨b1, o1, cap1, e1, -, -, -, -, -, -, d4⟩ := st_at K.sts hidx;cases e1;rw [HS.out] at d4;obtain ⟨c0, c7, q1⟩ := K.at7;obtain ⟨⟨u, cM⟩, fM, q2⟩ := K.atM hml;rw [List.length_set] at c7;have hMi : (idx : Int) < (mix.length : Int) := by rw [HLEN.out]; exact hiI
   have KK := hide K;have HB := hide hb;clear K hb hml;have hmin : (if s < left then s else left) = (m : Int) - 1 := by split <;> omega
   by_cases hlt : t < m
   ·have hle : (t : Int) ≤ min left s := by omega
    have hidx1 : IntKind.i64.wrap ((idx : Int) + 1) = ((idx + 1 : Nat) : Int) := by rw [show (idx : Int) + 1 = ((idx + 1 : Nat) : Int) by omega]; exact IntWalk.i64_in _ (by omega)
    have hlt1 : IntKind.i64.wrap (left - (t : Int)) = left - (t : Int) := IntWalk.i64_in _ (by omega);go_wp2_with fail
    refine calls_at fun wx hwx => ?_;have K2 := hide (show Srch base L B M wx (.slice (some ⟨b0, o0, none⟩) sts.length cap) sts g (mix.set idx (t : Int)) (foldM sts g b (withP (mix.take idx) (part (stocks sts (idx + 1)) left t))) by
     have := KK.out.put (j := idx) (by rw [List.length_set, HLEN.out]; exact hidx) (t : Int);rw [List.set_set] at this;rw [hwx]; simpa using this)
    have HB2 := hide (show Below base w wx by
     rw [hwx];exact HB.out.setCell (by have := HH.out.hM; simp; omega) _)
    clear hwx;refine (IH.out (idx + 1) (by have := HN.out; omega) wx (mix.set idx (t : Int)) _ (left - (t : Int)) K2.out (by rw [List.length_set, HLEN.out]) (fun k hk => ?_) (by omega) (by omega)).mono ?_
    ·rw [List.getD_eq_getElem?_getD, List.getElem?_set_ne (by omega), ← List.getD_eq_getElem?_getD]
     exact H0.out k (by omega)
    rintro e w1 ⟨rfl, k1, k2⟩;rw [take_set1 (by rw [HLEN.out]; exact hidx), ← foldM_append, ← withP_succ] at k1;have K3 := hide k1;have HB3 := hide (HB2.out.trans k2);clear k1 k2 c0 c7 cM fM d4;go_wp2_with fail
    go_roundw
    case rel => exact ⟨t + 1, (t : Int), by omega, by go_num, K3.out, HB3.out⟩
    case measure => simp [intOf]; omega
   ·obtain rfl : t = m := by omega
    have hle : ¬ (t : Int) ≤ (t : Int) - 1 := by omega
    go_wp2_with fail
    first | refine bodyPost_ret (results_none rfl _ _ _) rfl ?_ | refine bodyPost_end (results_none rfl _ _ _) rfl ?_
    refine ⟨rfl, ?_, ?_⟩
    ·have := KK.out.put (j := idx) (by rw [List.length_set, HLEN.out]; exact hidx) 0
     rw [set_same0 (H0.out idx nl)] at this;rw [HE.out];simpa using this
    ·exact HB.out.setCell (by have := HH.out.hM; simp; omega) _
theorem rowL_made (w : World) (n : Nat) : RowL (w.alloc (.cells (madeCells #[.int .i64 0] n) 3)) w.heap.size 3 (flatI (List.replicate n 0)) := by
 have h := World.rowIs_made w (.int .i64 0) n 3;unfold RowL;rw [flatI_len, List.length_replicate];exact h.congr fun i hi => by simp [flatI, hi]
theorem rep_zero (n k : Nat) : (List.replicate n (0 : Int)).getD k 0 = 0 := by
 rw [List.getD_eq_getElem?_getD, List.getElem?_replicate];split <;> rfl
theorem srch_start {base B M : Nat} {w : World} {stv : Value} {sts : List St} {g : Gr} (h1 : RowL w B 199 (srchC stv (.slice none 0 0) g M sts.length 0 false)) (h2 : RowL w M 3 (flatI (List.replicate sts.length 0))) (hs : StAt 0 base w stv sts) (hB : base ≤ B) (hM : base ≤ M) (hne : B ≠ M) :
 Srch base w.heap.size B M w stv sts g (List.replicate sts.length 0) none :=
 ⟨⟨.slice none 0 0, 0, false, by rw [List.length_replicate]; exact h1, rfl, rfl⟩, h2, hs, ⟨hB, h1.lt⟩, ⟨hM, h2.lt⟩, hne, Nat.le_refl _⟩
theorem best_impl (sv : Value) (sts : List St) (g : Gr) (tons : Int) (w : World) (Hs : StAt 0 w.heap.size w sv sts) :
 Calls Tryz.prog 159 #[sv, grV g, .int .i64 tons] w (BestGot w.heap.size (mixBest sts g tons) w) := by
 have HS := hide Hs;have hsl := Hs.len;have HVV := hide (fun W lo hi H => stsv_impl sv sts lo hi W H);have HTT := hide (fun W => within_any tons 1 12 W);have hg := fun W => grv_impl g W;obtain ⟨aos, cps, rfl, -, -, -, -⟩ := Hs;unfold grV at hg ⊢;have HG := hide hg;clear hg;go_enter Tryz.func159, Tryz.ntmps159;go_wp2_with fail
 refine calls_at fun wx hwx => ?_;have A_0 : RowL wx (w.heap.size) 25 [.int .i64 g.lc, .int .i64 g.hc, .int .i64 g.lm, .int .i64 g.hm, .int .i64 g.ls, .int .i64 g.hs] := by rw [hwx]; exact (RowL.new _ _ _)
 have B_0 : Below w.heap.size w wx := by rw [hwx]; go_grown
 clear hwx;have VS_0 := hide (HS.out.below B_0);have k1 := HVV.out wx _ _ VS_0.out;cases c1 : stsB sts with
 | false =>
  have HZ := hide (best_no1 (g := g) (t := tons) c1);rw [c1] at k1;clear c1;refine (k1).mono ?_;rintro e w1 ⟨rfl, hb⟩;have B_1 := hide (Below.step B_0 hb nl);clear hb k1;go_wp2_with fail
  go_ret2
  exact ⟨_, _, _, by rw [HZ.out]; rfl, by rw [HZ.out]; (intro mix h; cases h), B_1.out⟩
 | true =>
 have C1 := hide c1;have hl4 := stsB_len c1;rw [c1] at k1;clear c1;refine (k1).mono ?_;rintro e w1 ⟨rfl, hb⟩;have A_1 := A_0.below hb A_0.lt;have VS_1 := hide (VS_0.out.below hb);have B_1 := hide (Below.step B_0 hb nl);clear hb k1;have cA0 := A_1.c 0 rfl;have cA1 := A_1.c 1 rfl;have cA2 := A_1.c 2 rfl;have cA3 := A_1.c 3 rfl;have cA4 := A_1.c 4 rfl;have cA5 := A_1.c 5 rfl;go_wp2_with fail
 have k2 := HG.out w1;cases c2 : grB g with
 | false =>
  have HZ := hide (best_no2 (sts := sts) (t := tons) c2);rw [c2] at k2;clear c2;refine (k2).mono ?_;rintro e w2 ⟨rfl, hb⟩;have B_2 := hide (Below.step B_1.out hb nl);clear hb k2 cA0 cA1 cA2 cA3 cA4 cA5;go_wp2_with fail
  go_ret2
  exact ⟨_, _, _, by rw [HZ.out]; rfl, by rw [HZ.out]; (intro mix h; cases h), B_2.out⟩
 | true =>
 have C2 := hide c2;rw [c2] at k2;clear c2;refine (k2).mono ?_;rintro e w2 ⟨rfl, hb⟩;have A_2 := A_1.below hb A_1.lt;have VS_2 := hide (VS_1.out.below hb);have B_2 := hide (Below.step B_1.out hb nl);clear hb k2 cA0 cA1 cA2 cA3 cA4 cA5;have k3 := HTT.out w2;go_wp2_with fail
 cases c3 : wi tons 1 12 with
 | false =>
  have HZ := hide (best_no3 (sts := sts) (g := g) c3);rw [c3] at k3;clear c3;refine (k3).mono ?_;rintro e w3 ⟨rfl, rfl⟩;clear k3;go_wp2_with fail
  go_ret2
  exact ⟨_, _, _, by rw [HZ.out]; rfl, by rw [HZ.out]; (intro mix h; cases h), B_2.out⟩
 | true =>
 have C3 := hide c3;rw [c3] at k3;clear c3;refine (k3).mono ?_;rintro e w3 ⟨rfl, rfl⟩;clear k3;have cA0 := A_2.c 0 rfl;have cA1 := A_2.c 1 rfl;have cA2 := A_2.c 2 rfl;have cA3 := A_2.c 3 rfl;have cA4 := A_2.c 4 rfl;have cA5 := A_2.c 5 rfl;have hL := A_2.lt;have hmk := fun W => make_rowN (P := Tryz.prog) 27 3 _ _ _ Tryz.underlying27 info_int .i64 .i64 sts.length (by omega) (by omega) W;go_wp2_with fail
 go_region
 ·clear hmk cA0 cA1 cA2 cA3 cA4 cA5 A_1 A_2
  go_wp2_with fail
  refine calls_at fun wx hwx => ?_;have SR : Srch w2.heap.size wx.heap.size (w2.heap.size + 1) (w2.heap.size) wx (.slice aos sts.length cps) sts g (List.replicate sts.length 0) none := by
   refine srch_start ?_ ?_ ?_ (by omega) (by omega) (by omega)
   ·rw [hwx]; exact RowL.drew (by have h := RowL.new (w2.alloc (.cells (madeCells #[.int .i64 0] sts.length) 3)) 199 (srchC (.slice aos sts.length cps) (.slice none 0 0) g w2.heap.size sts.length 0 false); rw [show (w2.alloc (.cells (madeCells #[.int .i64 0] sts.length) 3)).heap.size = w2.heap.size + 1 by simp] at h; exact h)
   ·rw [hwx]; exact RowL.drew ((rowL_made w2 sts.length).alloc _)
   ·rw [hwx]; exact ((VS_2.out.mono nl B_2.out.size nl).below ((((Below.refl _ _).alloc nl _).alloc (by simp) _).drew))
  have HBx := hide (show Below w2.heap.size w2 wx by rw [hwx]; exact (((Below.refl _ _).alloc nl _).alloc (by simp) _).drew);clear hwx;obtain ⟨ht1, ht2⟩ := wi_iff.1 C3.out;refine (from_any C1.out sts.length 0 (by omega) wx (List.replicate sts.length 0) none tons SR (by simp) (fun k _ => rep_zero _ _) (by omega) ht2).mono ?_;rintro e w3 ⟨rfl, K, hb3⟩;have HK := hide K;have HB3 := hide (B_2.out.trans ((HBx.out.trans hb3).mono B_2.out.size));have hB2 := hide B_2.out.size;clear hb3 SR;obtain ⟨bv, c, f, r, q⟩ := K.box;have d8 : w3.cell? ⟨w2.heap.size + 1, 8, none⟩ = some bv := r.cell 8 (by simp [srchC]);have d10 := r.c 10 rfl;have hE := best_yes C1.out C2.out C3.out;clear K r;rw [List.take_zero] at q;generalize foldM sts g none (withP [] (allM (stocks sts 0) tons)) = b at q hE;have HE := hide hE;have HQ := hide q;clear hE q;go_wp2_with fail
  go_quiet (fail)
  go_wp2_with fail
  rcases b with _ | ⟨x, y⟩
  ·obtain ⟨rfl, rfl⟩ := HQ.out
   go_ret2
   exact ⟨none, 0, 0, by rw [HE.out]; rfl, by rw [HE.out]; (intro mix h; cases h), below_drewN HB3.out _⟩
  ·obtain ⟨rfl, rfl, own⟩ := HQ.out
   obtain ⟨ao, cap, rfl, -, -⟩ := own.form
   go_ret2
   refine ⟨ao, x.length, cap, by rw [HE.out]; rfl, fun mix h => ?_, below_drewN HB3.out _⟩;rw [HE.out] at h;obtain rfl := Option.some.inj h;have hLx := HK.out.hL;exact (ownE_ints own rfl hLx).mono (by have := HBx.out.size; have := B_2.out.size; omega) nl nl
 ·clear hmk cA0 cA1 cA2 cA3 cA4 cA5 A_1 A_2
  go_wp2_with fail
  refine calls_at fun wx hwx => ?_;have SR : Srch w2.heap.size wx.heap.size (w2.heap.size) (w2.heap.size + 1) wx (.slice aos sts.length cps) sts g (List.replicate sts.length 0) none := by
   refine srch_start ?_ ?_ ?_ (by omega) (by omega) (by omega)
   ·rw [hwx]; exact RowL.drew ((RowL.new w2 199 (srchC (.slice aos sts.length cps) (.slice none 0 0) g (w2.heap.size + 1) sts.length 0 false)).alloc _)
   ·rw [hwx]; exact RowL.drew (by have h := rowL_made (w2.alloc (.cells (srchC (.slice aos sts.length cps) (.slice none 0 0) g (w2.heap.size + 1) sts.length 0 false).toArray 199)) sts.length; rw [show (w2.alloc (.cells (srchC (.slice aos sts.length cps) (.slice none 0 0) g (w2.heap.size + 1) sts.length 0 false).toArray 199)).heap.size = w2.heap.size + 1 by simp] at h; exact h)
   ·rw [hwx]; exact ((VS_2.out.mono nl B_2.out.size nl).below ((((Below.refl _ _).alloc nl _).alloc (by simp) _).drew))
  have HBx := hide (show Below w2.heap.size w2 wx by rw [hwx]; exact (((Below.refl _ _).alloc nl _).alloc (by simp) _).drew);clear hwx;obtain ⟨ht1, ht2⟩ := wi_iff.1 C3.out;refine (from_any C1.out sts.length 0 (by omega) wx (List.replicate sts.length 0) none tons SR (by simp) (fun k _ => rep_zero _ _) (by omega) ht2).mono ?_;rintro e w3 ⟨rfl, K, hb3⟩;have HK := hide K;have HB3 := hide (B_2.out.trans ((HBx.out.trans hb3).mono B_2.out.size));have hB2 := hide B_2.out.size;clear hb3 SR;obtain ⟨bv, c, f, r, q⟩ := K.box;have d8 : w3.cell? ⟨w2.heap.size, 8, none⟩ = some bv := r.cell 8 (by simp [srchC]);have d10 := r.c 10 rfl;have hE := best_yes C1.out C2.out C3.out;clear K r;rw [List.take_zero] at q;generalize foldM sts g none (withP [] (allM (stocks sts 0) tons)) = b at q hE;have HE := hide hE;have HQ := hide q;clear hE q;go_wp2_with fail
  go_quiet (fail)
  go_wp2_with fail
  rcases b with _ | ⟨x, y⟩
  ·obtain ⟨rfl, rfl⟩ := HQ.out
   go_ret2
   exact ⟨none, 0, 0, by rw [HE.out]; rfl, by rw [HE.out]; (intro mix h; cases h), below_drewN HB3.out _⟩
  ·obtain ⟨rfl, rfl, own⟩ := HQ.out
   obtain ⟨ao, cap, rfl, -, -⟩ := own.form
   go_ret2
   refine ⟨ao, x.length, cap, by rw [HE.out]; rfl, fun mix h => ?_, below_drewN HB3.out _⟩;rw [HE.out] at h;obtain rfl := Option.some.inj h;have hLx := HK.out.hL;exact (ownE_ints own rfl hLx).mono (by have := HBx.out.size; have := B_2.out.size; omega) nl nl
theorem melt_impl {base B : Nat} {w : World} {s p l h : Value} {m : Mi} (tons : Int) (H : MillBox base B w s p l h m) :
 Calls Tryz.prog 107 #[.pointer (some ⟨B, 0, none⟩), .int .i64 tons] w (Meth base B (meltD m tons) w) := by
 have HH := hide H;have hr := H.row;have hlt := hr.lt;have hS := H.got.all.store;have HS := hide hS;have hbz := H.got.hb;have c0 : w.cell? ⟨B, 0, none⟩ = some s := hr.cell 0 (by simp [millC]);have c1 := hr.c 1 rfl;have c2 := hr.c 2 rfl;have c3 := hr.c 3 rfl;have c4 := hr.c 4 rfl;have c5 := hr.c 5 rfl;have c6 := hr.c 6 rfl;have c7 := hr.c 7 rfl;obtain ⟨ao, cap, rfl, -, -⟩ := H.got.so.form;have hbest := fun W (K : StAt 0 W.heap.size W (.slice ao m.store.length cap) m.store) => best_impl (.slice ao m.store.length cap) m.store m.rule tons W K;unfold grV at hbest;have HBT := hide hbest;clear hbest hr hS H;by_cases hs : m.strand = 0
 ·have hsB : (m.strand != 0) = false := by simp [hs]
  have HZ := hide hs;clear hs;go_enter Tryz.func107, Tryz.ntmps107;go_wp2_with fail
  have hI : w.drew.cell? ⟨B, 0, none⟩ = some (.slice ao m.store.length cap) ∧ w.drew.cell? ⟨B, 1, none⟩ = some (.int .i64 m.rule.lc) ∧ w.drew.cell? ⟨B, 2, none⟩ = some (.int .i64 m.rule.hc) ∧ w.drew.cell? ⟨B, 3, none⟩ = some (.int .i64 m.rule.lm) ∧ w.drew.cell? ⟨B, 4, none⟩ = some (.int .i64 m.rule.hm) ∧ w.drew.cell? ⟨B, 5, none⟩ = some (.int .i64 m.rule.ls) ∧ w.drew.cell? ⟨B, 6, none⟩ = some (.int .i64 m.rule.hs) := ⟨c0, c1, c2, c3, c4, c5, c6⟩;have HB1 := hide (HBT.out w.drew HS.out)
  go_region_held (fun W => W.cell? ⟨B, 0, none⟩ = some (.slice ao m.store.length cap) ∧ W.cell? ⟨B, 1, none⟩ = some (.int .i64 m.rule.lc) ∧ W.cell? ⟨B, 2, none⟩ = some (.int .i64 m.rule.hc) ∧ W.cell? ⟨B, 3, none⟩ = some (.int .i64 m.rule.lm) ∧ W.cell? ⟨B, 4, none⟩ = some (.int .i64 m.rule.hm) ∧ W.cell? ⟨B, 5, none⟩ = some (.int .i64 m.rule.ls) ∧ W.cell? ⟨B, 6, none⟩ = some (.int .i64 m.rule.hs)) (first | exact hI | exact hS1) (first
   | (go_at_call 159; (with_reducible refine HB1.out.mono ?_); rintro e w1 ⟨ao1, n1, cap1, rfl, hmix, hb⟩; have B_1 := hide (((Below.refl w.heap.size w).drew).trans hb); have hS1 : w1.cell? ⟨B, 0, none⟩ = some (.slice ao m.store.length cap) ∧ w1.cell? ⟨B, 1, none⟩ = some (.int .i64 m.rule.lc) ∧ w1.cell? ⟨B, 2, none⟩ = some (.int .i64 m.rule.hc) ∧ w1.cell? ⟨B, 3, none⟩ = some (.int .i64 m.rule.lm) ∧ w1.cell? ⟨B, 4, none⟩ = some (.int .i64 m.rule.hm) ∧ w1.cell? ⟨B, 5, none⟩ = some (.int .i64 m.rule.ls) ∧ w1.cell? ⟨B, 6, none⟩ = some (.int .i64 m.rule.hs) := by (have R1 := HH.out.row.below B_1.out hlt; exact ⟨R1.cell 0 (by simp [millC]), R1.cell 1 (by simp [millC]), R1.cell 2 (by simp [millC]), R1.cell 3 (by simp [millC]), R1.cell 4 (by simp [millC]), R1.cell 5 (by simp [millC]), R1.cell 6 (by simp [millC])⟩)))
  clear hb hS1 hI HB1;cases hm : mixBest m.store m.rule tons with
  | none =>
   have HN := hide (melt_no2 hm);clear hmix;go_wp2_with fail
   go_ret;rw [HN.out];exact Meth.no (B_1.out.mono hbz)
  | some mix =>
   have HM := hide hm;obtain ⟨hmb, -, ht1, ht2⟩ := best_ok hm;have HMB := hide hmb;have HI := hide (hmix mix hm);have hw4 : IntKind.i64.wrap (4 * tons) = 4 * tons := IntWalk.i64_in _ (by omega);have R_1 := HH.out.row.below B_1.out hlt;have d0 := R_1.c 0 rfl;have hz1 := B_1.out.size;have hlt1 := R_1.lt;clear hmix hmb c0 c1 c2 c3 c4 c5 c6 c7 R_1;go_wp2_with fail
   refine (take_impl (.slice ao m.store.length cap) (.slice ao1 n1 cap1) m.store mix w1 ((HS.out.below B_1.out).mono nl hz1 nl) (HI.out.mono (Nat.zero_le _) nl nl) HMB.out).mono ?_;rintro e w2 ⟨v, rfl, own, hb2⟩;have B_2 := hide (B_1.out.trans (hb2.mono hz1));have R_2 := HH.out.row.below B_2.out hlt;have G_2 := hide (HH.out.got.store B_2.out hz1 (OwnE.own own) (4 * tons));have O_2 := hide (notIn_store HH.out.off (show B < w1.heap.size by omega) (OwnE.own own));obtain ⟨av, cv, rfl, -, -⟩ := own_slice own;have HR2 := hide R_2;have e0 := R_2.c 0 rfl;have e7 := R_2.c 7 rfl;have f0 := R_2.frozen 0;have f7 := R_2.frozen 7;clear own hb2 R_2 d0;go_wp2_with fail
   go_ret;rw [melt_yes HZ.out HM.out];obtain ⟨r1, g1, b1⟩ := box_set HR2.out G_2.out O_2.out HH.out.hB (j := 0) (by simp [millC]) (.slice av (takeM m.store mix).length cv);obtain ⟨r2, g2, b2⟩ := box_set r1 g1 O_2.out HH.out.hB (j := 7) (by simp [millC]) (.int .i64 (4 * tons));refine ⟨rfl, ((B_2.out.mono hbz).trans b1).trans b2, fun x hx => ?_⟩;obtain rfl := Option.some.inj hx;exact ⟨_, _, _, _, r2, g2⟩
 ·have hsB : (m.strand != 0) = true := by simp [hs]
  have HN := hide (melt_no1 (t := tons) hs);clear hs;go_enter Tryz.func107, Tryz.ntmps107;go_wp2_with fail
  go_ret;rw [HN.out];exact Meth.no (Below.refl _ _)
end Go.Proofs.YtmemgbklgcjobaaGreatDoor
