/-
  Parts of the proofs over mills, of: MixC, AllS. Conditions: each theorem states its own.
-/
import Derived.Test.YtkhecelpafojdaaGreatDoorF16
set_option linter.unusedSimpArgs false
set_option linter.unusedVariables false
set_option maxRecDepth 10000
set_option maxHeartbeats 64000000
namespace Go.Proofs.YtkhecelpafojdaaGreatDoor
open Go.RowKit
theorem own_of_row {w : World} {base g T sz n : Nat} {f : Nat → Value} {cs : List Value} (h : w.rowIs g T (n * sz) f) (hb : base ≤ g) (hm : n ≤ 9223372036854775807) (hl : cs.length = n * sz) (hx : ∀ i, i < n * sz → cs[i]? = some (f i)) :
 w.ownsRow base T sz (.slice (some ⟨g, 0, none⟩) n n) n cs := by
 obtain ⟨c, h1, h2, h3⟩ := h;refine ⟨hl, .inr ⟨g, n, c, rfl, hb, h1, Nat.le_refl _, by unfold maxLen; exact hm, h2, ?_⟩⟩;refine List.ext_getElem? fun i => ?_;rw [List.getElem?_take];split
 ·rename_i hi
  rw [hx i hi, ← h3 i hi]; simp
 ·rename_i hi
  rw [List.getElem?_eq_none (by omega)]
def dI (sts : List St) (mix : List Int) (k : Nat) : List St := (List.range sts.length).map fun j => if j < k then { sts.getD j st0 with k := (sts.getD j st0).k - mix.getD j 0 } else sts.getD j st0
theorem jR (sts : List St) (mix : List Int) (k : Nat) : (dI sts mix k).length = sts.length := by simp [dI]
theorem takeTo_zero (sts : List St) (mix : List Int) : dI sts mix 0 = sts := by
 refine List.ext_getElem (by simp [dI]) fun i h1 h2 => ?_;simp [dI, h2]
theorem takeTo_all (sts : List St) (mix : List Int) : dI sts mix sts.length = ig sts mix := by
 refine List.ext_getElem (by simp [dI, ig]) fun i h1 h2 => ?_;have : i < sts.length := by simpa [dI] using h1
 simp [dI, ig, this]
theorem takeTo_at {sts : List St} {mix : List Int} {k : Nat} (hk : k < sts.length) : (dI sts mix k).getD k st0 = sts.getD k st0 := by
 simp [dI, hk]
theorem takeTo_succ (sts : List St) (mix : List Int) (k : Nat) : dI sts mix (k + 1) = (dI sts mix k).set k { sts.getD k st0 with k := (sts.getD k st0).k - mix.getD k 0 } := by
 refine List.ext_getElem (by simp [dI]) fun i h1 h2 => ?_;have hi : i < sts.length := by simpa [dI] using h1
 rw [List.getElem_set];by_cases e : k = i
 ·subst e
  simp [dI]
 ·rw [if_neg e]
  have : (i < k + 1) = (i < k) := by rw [eq_iff_iff]; omega
  simp [dI, this]
theorem flatS_setk : ∀ (xs : List St) (i : Nat) (_ : i < xs.length) (y : Int), (bB xs).set (i * 5 + 4) (.int .i64 y) = bB (xs.set i { xs.getD i st0 with k := y })
 | x :: xs, 0, _, y => rfl
 | x :: xs, i + 1, h, y => by
  have ih := flatS_setk xs i (by simpa using h) y;have e : bB (x :: xs) = stL x ++ bB xs := rfl;have e2 : bB ((x :: xs).set (i + 1) { (x :: xs).getD (i + 1) st0 with k := y }) = stL x ++ bB (xs.set i { xs.getD i st0 with k := y }) := rfl;rw [e, e2, ← ih, List.set_append_right _ _ (by simp [stL]; omega)];have : (i + 1) * 5 + 4 - (stL x).length = i * 5 + 4 := by simp [stL]; omega
  rw [this]
def TakeGot (base : Nat) (xs : List St) (w : World) (e : Ending) (w' : World) : Prop := ∃ v, e = .returned (.tuple #[v, .bool true]) ∧ w'.ownsRow base 99 5 v xs.length (bB xs) ∧ Below base w w'
theorem take_impl (sv mv : Value) (sts : List St) (mix : List Int) (w : World) (Hs : bW 0 w.heap.size w sv sts) (Hm : au 0 w.heap.size w mv mix) (hv : eT sts mix = true) :
 Calls Tryz.prog 109 #[sv, mv] w (TakeGot w.heap.size (ig sts mix) w) := by
 have HS := hide Hs;have HM := hide Hm;obtain ⟨hvs, hlen, -⟩ := dF hv;have hl4 := dG hvs;have hlo : mix.length ≤ sts.length := by omega
 have hlo2 : sts.length ≤ mix.length := by omega
 have HV := hide hv;obtain ⟨ao1, cap1, rfl, -, -, -, -⟩ := Hs;obtain ⟨ao2, cap2, rfl, -, -, -, -⟩ := Hm;have k1 := mixv_impl (.slice ao1 sts.length cap1) (.slice ao2 mix.length cap2) sts mix w HS.out HM.out;rw [hv] at k1;have HVS := hide hvs;clear hv hvs hlen;have hmk := fun W => gN (P := Tryz.prog) 23 99 _ _ _ Tryz.underlying23 info_St .i64 .i64 sts.length (by omega) (by omega) W;go_enter Tryz.func109, Tryz.ntmps109;go_wp2_with fail
 refine k1.mono ?_;rintro e w1 ⟨rfl, hb⟩;have HB := hide hb;have VS := hide (HS.out.below hb);have VM := hide (HM.out.below hb);have hz1 := hb.size;clear hb k1;go_wp2_with fail
 clear hmk
 go_loopw [7, 8, 18] (fun _ _ i wr => ∃ k : Nat, k ≤ sts.length ∧ i = .int .i64 k ∧ Below w1.heap.size w1 wr ∧ ∃ f, wr.rowIs w1.heap.size 99 (sts.length * 5) f ∧ (∀ j, j < k → f (j * 5) = .int .i64 (sts.getD j st0).c ∧ f (j * 5 + 1) = .int .i64 (sts.getD j st0).m ∧ f (j * 5 + 2) = .int .i64 (sts.getD j st0).s ∧ f (j * 5 + 3) = .int .i64 (sts.getD j st0).p ∧ f (j * 5 + 4) = .int .i64 ((sts.getD j st0).k - mix.getD j 0))) (fun _ _ i _ => sts.length - (intOf i).toNat)
 case atStart =>
  obtain ⟨f, hf⟩ := rowIs_madeN w1 (Value.agg #[Value.int .i64 0, Value.int .i64 0, Value.int .i64 0, Value.int .i64 0, Value.int .i64 0]).cells (sts.length * 5) 99;exact ⟨0, Nat.zero_le _, rfl, by go_grown, f, hf, fun _ h => absurd h (Nat.not_lt_zero _)⟩
 case round =>
  obtain ⟨k, hk, rfl, hbr, f, hrow, hall⟩ := hrel;have HBr := hide hbr;have Ha := hide hall;have Hr := hide hrow;have VSr := hide (VS.out.below hbr);have VMr := hide (VM.out.below hbr);have hgz := hrow.lt;have hzr := hbr.size;clear hbr hall hrow;by_cases hlt : k < sts.length
  ·have hk9 := jQ HV.out (show k < mix.length by omega)
   have hs9 := stB_k (bR HVS.out hlt);obtain ⟨b1, o1, _, e1, -, hbz1, r1⟩ := jD VSr.out hlt;obtain ⟨b2, o2, _, e2, -, hbz2, r2, -⟩ := ints_at VMr.out (show k < mix.length by omega);simp only [Value.slice.injEq] at e1 e2;obtain ⟨rfl, -, rfl⟩ := e1;obtain ⟨rfl, -, rfl⟩ := e2;obtain ⟨r10, r11, r12, r13, r14⟩ := r1;have hkI : (k : Int) < (sts.length : Int) := by omega
   have hkI2 : (k : Int) < (mix.length : Int) := by omega
   have HG := hide (show sts.getD k st0 = ⟨(sts.getD k st0).c, (sts.getD k st0).m, (sts.getD k st0).s, (sts.getD k st0).p, (sts.getD k st0).k⟩ from rfl);obtain ⟨y0, h0⟩ : ∃ y, (sts.getD k st0).c = y := ⟨_, rfl⟩;obtain ⟨y1, h1⟩ : ∃ y, (sts.getD k st0).m = y := ⟨_, rfl⟩;obtain ⟨y2, h2⟩ : ∃ y, (sts.getD k st0).s = y := ⟨_, rfl⟩;obtain ⟨y3, h3⟩ : ∃ y, (sts.getD k st0).p = y := ⟨_, rfl⟩;obtain ⟨y4, h4⟩ : ∃ y, (sts.getD k st0).k = y := ⟨_, rfl⟩;obtain ⟨x, hx⟩ : ∃ x, mix.getD k 0 = x := ⟨_, rfl⟩;rw [h0] at r10;rw [h1] at r11;rw [h2] at r12;rw [h3] at r13;rw [h4] at r14 hs9;rw [hx] at r2 hk9;have H0 := hide h0;have H1 := hide h1;have H2 := hide h2;have H3 := hide h3;have H4 := hide h4;have HX := hide hx;have hw : IntKind.i64.wrap (y4 - x) = y4 - x := IntWalk.i64_in _ (by omega);clear h0 h1 h2 h3 h4 hx hs9 hk9 HG;go_wp2_with fail
   obtain ⟨wx, hwx⟩ : ∃ wx, wx = wr.alloc (.cells #[.int .i64 y0, .int .i64 y1, .int .i64 y2, .int .i64 y3, .int .i64 y4] 99) := ⟨_, rfl⟩;rw [← hwx];have RX : ae wx wr.heap.size 99 [.int .i64 y0, .int .i64 y1, .int .i64 y2, .int .i64 y3, .int .i64 y4] := by rw [hwx]; exact ae.new _ _ _
   have hbx : Below wr.heap.size wr wx := by rw [hwx]; exact (Below.refl _ _).alloc nl _
   have hX := rowIs_below Hr.out hbx hgz;have q2 : wx.cell? ⟨b2, o2 + k, none⟩ = some (.int .i64 x) := (hbx.cell (p := ⟨b2, o2 + k, none⟩) (show b2 < wr.heap.size by omega)).trans r2;have x4 := RX.c 4 rfl;have xf := RX.frozen 4;have HRX := hide RX;have HXR := hide hX;have HBX := hide hbx;have hne : wr.heap.size ≠ w1.heap.size := by omega
   have hne' : w1.heap.size ≠ wr.heap.size := by omega
   clear hwx RX hbx hX r10 r11 r12 r13 r14 r2
   go_still_tail 8, (by kernel_rfl)
   change wpList _ _ _ _ _ (World.drew _);clear hw q2
   go_upto_region 8 with fail
   obtain ⟨wy, hwy⟩ : ∃ wy, wy = (wx.setCell ⟨wr.heap.size, 4, none⟩ (.int .i64 (y4 - x))).drew := ⟨_, rfl⟩;rw [← hwy];have RY : ae wy wr.heap.size 99 [.int .i64 y0, .int .i64 y1, .int .i64 y2, .int .i64 y3, .int .i64 (y4 - x)] := by rw [hwy]; exact (HRX.out.set 4 _ (by simp)).drew
   have hY : wy.rowIs w1.heap.size 99 (sts.length * 5) f := by rw [hwy]; exact (World.rowIs.setOther HXR.out (a := ⟨wr.heap.size, 4, none⟩) hne' _).drew
   have hby : Below w1.heap.size w1 wy := by rw [hwy]; exact ((HBr.out.trans (HBX.out.mono (Nat.le_of_lt hgz))).setCell (Nat.le_of_lt hgz) _).drew
   have hzy : wy.heap.size = wx.heap.size := by rw [hwy]; simp
   have HY := hide hY;have HBY := hide hby;have x0 := RY.c 0 rfl;have x1 := RY.c 1 rfl;have x2 := RY.c 2 rfl;have x3 := RY.c 3 rfl;have x4 := RY.c 4 rfl;have g0 := hY.cell (i := k * 5) (by omega);have g1 := hY.cell (i := k * 5 + 1) (by omega);have g2 := hY.cell (i := k * 5 + 2) (by omega);have g3 := hY.cell (i := k * 5 + 3) (by omega);have g4 := hY.cell (i := k * 5 + 4) (by omega);have f0 := hY.frozen (k * 5);have f1 := hY.frozen (k * 5 + 1);have f2 := hY.frozen (k * 5 + 2);have f3 := hY.frozen (k * 5 + 3);have f4 := hY.frozen (k * 5 + 4);clear hwy RY hY hby hzy;go_wp2_with fail
   obtain ⟨f', hr', e0, e1, e2, e3, e4, eo⟩ := rowIs_put5 HY.out (k * 5) (.int .i64 y0) (.int .i64 y1) (.int .i64 y2) (.int .i64 y3) (.int .i64 (y4 - x));go_roundw
   case rel =>
    refine ⟨k + 1, by omega, by go_num, (((((HBY.out.setCell nl _).setCell nl _).setCell nl _).setCell nl _).setCell nl _), f', hr', fun j hj => ?_⟩;by_cases e : j = k
    ·subst e
     rw [H0.out, H1.out, H2.out, H3.out, H4.out, HX.out];exact ⟨e0, e1, e2, e3, e4⟩
    ·rw [eo _ (by omega) (by omega) (by omega) (by omega) (by omega), eo _ (by omega) (by omega) (by omega) (by omega) (by omega), eo _ (by omega) (by omega) (by omega) (by omega) (by omega), eo _ (by omega) (by omega) (by omega) (by omega) (by omega), eo _ (by omega) (by omega) (by omega) (by omega) (by omega)]
     exact Ha.out j (by omega)
   case measure => simp [intOf]; omega
  ·obtain rfl : k = sts.length := by omega
   have hown : wr.ownsRow w.heap.size 99 5 (.slice (some ⟨w1.heap.size, 0, none⟩) sts.length sts.length) sts.length (bB (ig sts mix)) := by
    refine own_of_row Hr.out hz1 (by omega) (by rw [flatS_len, gM]) fun i hi => ?_;have hj : i / 5 < sts.length := by omega
    obtain ⟨a0, a1, a2, a3, a4⟩ := Ha.out (i / 5) hj;obtain ⟨c0, c1, c2, c3, c4⟩ := flatS_at (ig sts mix) (i / 5) (by rw [gM]; exact hj);have hg : (ig sts mix)[i / 5]'(by rw [gM]; exact hj) = { sts.getD (i / 5) st0 with k := (sts.getD (i / 5) st0).k - mix.getD (i / 5) 0 } := by
     rw [← takeM_getD hj]; simp [gM, hj]
    rw [hg] at c0 c1 c2 c3 c4;have hr : i = i / 5 * 5 ∨ i = i / 5 * 5 + 1 ∨ i = i / 5 * 5 + 2 ∨ i = i / 5 * 5 + 3 ∨ i = i / 5 * 5 + 4 := by omega
    generalize i / 5 = d at *;rcases hr with rfl | rfl | rfl | rfl | rfl
    ·rw [c0, a0]
    ·rw [c1, a1]
    ·rw [c2, a2]
    ·rw [c3, a3]
    ·rw [c4, a4]
   have HO := hide hown;clear hown;go_wp2_with fail
   go_ret2
   exact ⟨_, rfl, by rw [gM]; exact HO.out, Below.step HB.out HBr.out nl⟩
theorem take_spec (sv mv : Value) (sts : List St) (mix : List Int) (w : World) (Hs : bW 0 w.heap.size w sv sts) (Hm : au 0 w.heap.size w mv mix) (hv : eT sts mix = true) :
 Calls Tryz.prog 123 #[sv, mv] w (TakeGot w.heap.size (ig sts mix) w) := by
 have HS := hide Hs;have HM := hide Hm;obtain ⟨hvs, hlen, -⟩ := dF hv;have hl4 := dG hvs;have hlo : mix.length ≤ sts.length := by omega
 have hlo2 : sts.length ≤ mix.length := by omega
 have HV := hide hv;obtain ⟨ao1, cap1, rfl, -, -, -, -⟩ := Hs;obtain ⟨ao2, cap2, rfl, -, -, -, -⟩ := Hm;have k1 := mixv_spec (.slice ao1 sts.length cap1) (.slice ao2 mix.length cap2) sts mix w HS.out HM.out;rw [hv] at k1;have HVS := hide hvs;obtain ⟨i0, hi0, hz0, hi1, hi2⟩ := info_parts info_St;clear hv hvs hlen;go_enter Tryz.func123, Tryz.ntmps123;go_wp2_with fail
 refine k1.mono ?_;rintro e w1 ⟨rfl, hb⟩;have HB := hide hb;have VS := hide (HS.out.below hb);have VM := hide (HM.out.below hb);have hz1 := hb.size;clear hb k1;go_wp2_with (at_builtin; refine aA rfl _ _ 23 rfl w1.heap.size 99 i0 _ 5 40 Tryz.underlying23 hi0 hz0 hi1 hi2 rfl (by decide) _ _ _ rfl (World.ownsRow_made w1 #[] 0 nl (Nat.zero_le _) rfl) (.slice ao1 sts.length cap1) sts.length (bB sts) rfl ?c0 ?c1 ?c2 ?c3 ?_)
 case c0 => exact VS.out.source.below ((Below.refl _ _).alloc nl _) nl
 case c1 => unfold maxLen; omega
 case c2 => omega
 case c3 => simp
 intro v2 w2 hown2 hgrow2 _;have HB2 := hide (((Below.refl w1.heap.size w1).alloc nl (.cells #[] 99)).trans (Below.grow hgrow2 (World.ownsRow_made (size := 5) w1 #[] 0 nl (Nat.zero_le _) rfl) nl (by simp)));have HO := hide (show w2.ownsRow w1.heap.size 99 5 v2 sts.length (bB (dI sts mix 0)) by rw [takeTo_zero]; simpa using hown2);obtain ⟨ao3, cap3, rfl, hc3, hc3'⟩ := aB HO.out;clear hown2 hgrow2;go_wp2_with fail
 go_loopw [7] (fun i wr => ∃ k : Nat, k ≤ sts.length ∧ i = .int .i64 k ∧ Below w1.heap.size w1 wr ∧ wr.ownsRow w1.heap.size 99 5 (.slice ao3 sts.length cap3) sts.length (bB (dI sts mix k))) (fun i _ => sts.length - (intOf i).toNat)
 case atStart => exact ⟨0, Nat.zero_le _, rfl, HB2.out, HO.out⟩
 case round =>
  obtain ⟨k, hk, rfl, hbr, hown⟩ := hrel;have HBr := hide hbr;have HOr := hide hown;have VMr := hide (VM.out.below hbr);have VOr := hide (ownSt_at hown (jR _ _ _).symm hbr.size);clear hbr hown;by_cases hlt : k < sts.length
  ·have hk9 := jQ HV.out (show k < mix.length by omega)
   have hs9 := stB_k (bR HVS.out hlt);obtain ⟨b1, o1, _, e1, hblo, hbz1, r1⟩ := jD VOr.out (show k < (dI sts mix k).length by rw [jR]; exact hlt);obtain ⟨b2, o2, _, e2, -, hbz2, r2, -⟩ := ints_at VMr.out (show k < mix.length by omega);rw [jR] at e1;simp only [Value.slice.injEq] at e1 e2;obtain ⟨rfl, -, rfl⟩ := e1;obtain ⟨rfl, -, rfl⟩ := e2;rw [takeTo_at hlt] at r1;obtain ⟨-, -, -, -, r14⟩ := r1;obtain ⟨g, cap', ef, hf⟩ : ∃ g cap', (Value.slice (some ⟨b1, o1, none⟩) sts.length cap3) = .slice (some ⟨g, 0, none⟩) sts.length cap' ∧ ∀ j, wr.frozen? ⟨g, j, none⟩ = false := by
    have h := HOr.out;rcases id h.2 with ⟨e, h0⟩ | ⟨g, cap', cur, e, -⟩
    ·omega
    ·refine ⟨g, cap', e, fun j => ?_⟩
     rw [e] at h;exact h.frozenAt j
   simp only [Value.slice.injEq, Option.some.injEq, Addr.mk.injEq] at ef;obtain ⟨⟨rfl, rfl, -⟩, -, rfl⟩ := ef;have hfk := hf (k * 5 + 4);rw [Nat.zero_add] at r14;have hkI : (k : Int) < (sts.length : Int) := by omega
   have hkI2 : (k : Int) < (mix.length : Int) := by omega
   obtain ⟨y4, h4⟩ : ∃ y, (sts.getD k st0).k = y := ⟨_, rfl⟩;obtain ⟨x, hx⟩ : ∃ x, mix.getD k 0 = x := ⟨_, rfl⟩;rw [h4] at r14 hs9;rw [hx] at r2 hk9;have hw : IntKind.i64.wrap (y4 - x) = y4 - x := IntWalk.i64_in _ (by omega);have hput := own_put HOr.out (g := b1) (j := k * 5 + 4) rfl (.int .i64 (y4 - x));have hset : (bB (dI sts mix k)).set (k * 5 + 4) (.int .i64 (y4 - x)) = bB (dI sts mix (k + 1)) := by
    rw [flatS_setk _ _ (by rw [jR]; exact hlt), takeTo_succ, takeTo_at hlt, h4, hx]
   rw [hset] at hput;have HP := hide hput;clear h4 hx hs9 hk9 hput hset hf;go_wp2_with fail
   go_still_tail 14, (by kernel_rfl)
   change wpList _ _ _ _ _ (World.drew _);clear hw;go_wp2_with fail
   go_roundw
   case rel => exact ⟨k + 1, by omega, by go_num, (HBr.out.drew).setCell hblo _, HP.out.1⟩
   case measure => simp [intOf]; omega
  ·obtain rfl : k = sts.length := by omega
   have HOZ := hide (aJ HOr.out hz1);go_wp2_with fail
   go_ret2
   exact ⟨_, rfl, by rw [gM, ← takeTo_all]; exact HOZ.out, Below.step HB.out HBr.out nl⟩
theorem own_source {w : World} {base T n : Nat} {v : Value} {cs : List Value} (h : w.ownsRow base T 1 v n cs) (h1 : ∀ u ∈ cs, u.oneCell' = true) : Source w 1 v n cs := by
 obtain ⟨hl, ⟨rfl, rfl⟩ | ⟨g, cap, cur, rfl, -, hb, -, -, -, h4⟩⟩ := h
 ·exact ⟨⟨none, 0, rfl, fun _ => rfl, fun ad ha => by cases ha⟩, hl, h1⟩
 ·refine ⟨⟨_, cap, rfl, (fun e => by cases e), fun ad ha j u hu => ?_⟩, hl, h1⟩
  obtain rfl := Option.some.inj ha;rw [adds, Go.Joins.cell_of_block hb];have hj : j < n * 1 := by rw [← hl]; exact (List.getElem?_eq_some_iff.1 hu).1
  rw [← h4, List.getElem?_take_of_lt hj] at hu;simpa using hu
theorem lists_one {lo : Nat} {w : World} {v : Value} {us : List Value} {xss : List (List Int)} (h : Lists lo w v us xss) : ∀ u ∈ us, u.oneCell' = true := by
 intro u hu;obtain ⟨i, hi, rfl⟩ := List.getElem_of_mem hu;obtain ⟨u', a, z, h1, -, h3, -⟩ := h.2 i (by rw [← h.1]; exact hi);rw [List.getElem?_eq_getElem hi] at h1;rw [Option.some.inj h1];obtain ⟨ao, cap, e⟩ := iF h3;rw [e]; rfl
theorem info_slI : (Tryz.prog.info? 27).map (fun i => (i.zero, i.size, i.bytes)) = some (some (.slice none 0 0), 1, 24) := by kernel_rfl
def AllGot (lo base : Nat) (xss : List (List Int)) (w : World) (e : Ending) (w' : World) : Prop :=
 ∃ v us, e = .returned v ∧ w'.ownsRow base 27 1 v us.length us ∧ Lists lo w' v us xss ∧ Below base w w'
theorem all_len {sts : List St} (hv : dY sts = true) (pre : List Int) (k : Nat) (t : Int) : (dH pre (allM (bN sts k) t)).length ≤ 10000 := by
 rw [withP_len];have h := allM_len (bN sts k) (fun s hs => by
  have hs2 := List.mem_of_mem_drop hs;obtain ⟨x, hx, rfl⟩ := List.mem_map.1 hs2;obtain ⟨i, hi, rfl⟩ := List.getElem_of_mem hx;have := stB_k (stsB_at hv hi);omega) t
 have hl : (bN sts k).length ≤ 4 := by
  have := dG hv;simp [bN]; omega
 have : 10 ^ (bN sts k).length ≤ 10 ^ 4 := Nat.pow_le_pow_right (by omega) hl;omega
theorem part_len2 {sts : List St} (hv : dY sts = true) (pre : List Int) (k : Nat) (t : Int) (n : Nat) : (dH pre (part (bN sts k) t n)).length ≤ n * 10000 := by
 rw [withP_len];exact part_len _ _ _ (fun t => by have := all_len hv [] k t; rwa [withP_len] at this) n
theorem all_any (sv : Value) {sts : List St} (hv : dY sts = true) : ∀ (n k : Nat), k + n = sts.length → ∀ (w : World) (lo : Nat) (mv : Value) (mix : List Int) (tons : Int), lo ≤ w.heap.size → bW 0 w.heap.size w sv sts → au lo w.heap.size w mv mix → mix.length = k → 0 ≤ tons → tons ≤ 12 →
 Calls Tryz.prog 147 #[sv, mv, .int .i64 tons] w (AllGot lo w.heap.size (dH mix (allM (bN sts k) tons)) w) := by
 obtain ⟨i0, hi0, hz0, hi1, hi2⟩ := info_parts info_slI;obtain ⟨j0, hj0, hy0, hj1, hj2⟩ := info_parts bF;intro n
 induction n with
 | zero =>
  intro k hn w lo mv mix tons hlo Hs Hm hl ht0 ht1;obtain rfl : k = sts.length := by omega
  have HE := hide (show dH mix (allM (bN sts sts.length) tons) = if tons = 0 then [mix] else [] by
   rw [stocks_end, allM_end])
  have HM := hide Hm;obtain ⟨aos, cps, rfl, -, -, -, -⟩ := Hs;obtain ⟨aom, cpm, rfl, -, -, -, -⟩ := Hm;have hlI : (mix.length : Int) = (sts.length : Int) := by omega
  have HO := hide (show (w.alloc (.cells #[] 27)).ownsRow w.heap.size 27 1 (.slice (some ⟨w.heap.size, 0, none⟩) 0 0) 0 [] by
   simpa using World.ownsRow_lit (e := 27) (size := 1) (base := w.heap.size) w #[] 0 nl (by unfold maxLen; omega) (by simp))
  clear hn hl;go_enter Tryz.func147, Tryz.ntmps147;by_cases hz : tons = 0
  ·subst hz
   have HE0 := hide (HE.out.trans (if_pos rfl));go_wp2_with (at_builtin; refine aA rfl _ _ 136 rfl w.heap.size 27 i0 (.slice none 0 0) 1 24 Tryz.underlying136 hi0 hz0 hi1 hi2 rfl (by decide) _ _ _ rfl (HO.out.alloc _) (.slice (some ⟨w.heap.size + 1, 0, none⟩) 1 1) 1 [.slice aom mix.length cpm] rfl ?cc0 ?cc1 ?cc2 ?cc3 ?_)
   case cc0 => simpa using Source.lit (w.alloc (.cells #[] 27)) [.slice aom mix.length cpm] 1 27 1 rfl (fun u hu => by simp at hu; subst hu; rfl) 1
   case cc1 => unfold maxLen; omega
   case cc3 => first | omega | (simp; omega) | simp
   intro v2 w2 hown2 hgrow2 _;go_wp2_with fail
   go_ret;have hb : Below w.heap.size w w2 := (((Below.refl _ _).alloc nl _).alloc (by simp) _).trans (Below.grow hgrow2 (HO.out.alloc _) nl (by simp; omega));refine ⟨v2, [.slice aom mix.length cpm], rfl, by simpa using hown2, ?_, hb⟩;rw [HE0.out];exact Lists.one (HM.out.below hb) nl fun g hg => .inr (hown2.lt g hg).1
  ·go_wp2_with fail
   go_ret;refine ⟨_, [], rfl, by simpa using HO.out, ?_, by go_grown⟩;rw [HE.out, if_neg hz];exact Lists.none _ _ _
 | succ n ih =>
  intro k hn w lo mv mix tons hlo Hs Hm hl ht0 ht1;have IH := hide ih;clear ih;have hk : k < sts.length := by omega
  have hL4 := dG hv;have HV := hide hv;clear hv;have HN := hide hn;have HL := hide hl;have HS := hide Hs;have HM := hide Hm;obtain ⟨s, hs⟩ : ∃ s, (sts.getD k st0).k = s := ⟨_, rfl⟩;have hs9 : 0 ≤ s ∧ s ≤ 9 := by rw [← hs]; exact stB_k (bR HV.out hk)
  have HSS := hide hs;obtain ⟨m, hm⟩ : ∃ m : Nat, min tons s + 1 = (m : Int) := ⟨(min tons s + 1).toNat, by omega⟩;have HE := hide (show allM (bN sts k) tons = part (bN sts (k + 1)) tons m by
   rw [allM_at hk, hs, hm]; rfl)
  have hm10 : m ≤ 10 := by omega
  obtain ⟨b0, o0, cps, rfl, -, -, -⟩ := jD Hs hk;obtain ⟨aom, cpm, rfl, -, -, -, -⟩ := Hm;have hkI : ((mix.length : Int) == (sts.length : Int)) = false := by rw [beq_eq_false_iff_ne]; omega
  have hiI : (mix.length : Int) < (sts.length : Int) := by omega
  have hi0' : (0 : Int) ≤ (mix.length : Int) := by omega
  have HO := hide (show (w.alloc (.cells #[] 27)).ownsRow w.heap.size 27 1 (.slice (some ⟨w.heap.size, 0, none⟩) 0 0) 0 [] by
   simpa using World.ownsRow_lit (e := 27) (size := 1) (base := w.heap.size) w #[] 0 nl (by unfold maxLen; omega) (by simp))
  clear hn hl hs;go_enter Tryz.func147, Tryz.ntmps147;go_wp2_with fail
  go_loopw [7, 9] (fun o i wr => ∃ (t : Nat) (us : List Value), t ≤ m ∧ i = .int .i64 (t : Int) ∧ wr.ownsRow w.heap.size 27 1 o us.length us ∧ Lists lo wr o us (dH mix (part (bN sts (k + 1)) tons t)) ∧ Below w.heap.size w wr) (fun _ i _ => m - (intOf i).toNat)
  case atStart =>
   exact ⟨0, [], by omega, rfl, by simpa using HO.out, by rw [part_zero]; exact Lists.none _ _ _, by go_grown⟩
  case round =>
   obtain ⟨t, us, ht, rfl, hown, hls, hb⟩ := hrel;have HSr := HS.out.below hb;have HMr := hide (HM.out.below hb);obtain ⟨b1, o1, cap1, e1, -, -, -, -, -, -, d4⟩ := jD HSr hk;cases e1;rw [HSS.out] at d4;rw [← HL.out] at d4;have HSr2 := hide HSr;have HB := hide hb;have HLs := hide hls;have HOr := hide hown;obtain ⟨aoo, cpo, rfl, -, -⟩ := aB hown;have hz := hb.size;have hul : us.length ≤ 100000 := by
    rw [hls.1];have := part_len2 HV.out mix (k + 1) tons t;have : t * 10000 ≤ 10 * 10000 := Nat.mul_le_mul_right _ (by omega);omega
   clear hb hls hown HSr;have hmin : (if s < tons then s else tons) = (m : Int) - 1 := by split <;> omega
   by_cases hlt : t < m
   ·have hle : (t : Int) ≤ min tons s := by omega
    have hlt1 : IntKind.i64.wrap (tons - (t : Int)) = tons - (t : Int) := IntWalk.i64_in _ (by omega);have hL0 := hide (show (wr.alloc (.cells #[] 3)).ownsRow wr.heap.size 3 1 (.slice (some ⟨wr.heap.size, 0, none⟩) 0 0) 0 [] by
     simpa using World.ownsRow_lit (e := 3) (size := 1) (base := wr.heap.size) wr #[] 0 nl (by unfold maxLen; omega) (by simp))
    have HM0 := hide (HMr.out.below ((Below.refl wr.heap.size wr).alloc nl (.cells #[] 3)));have hmlen : mix.length ≤ 4 := by have := HL.out; omega
    go_wp2_with (at_builtin; refine aA rfl _ _ 27 rfl wr.heap.size 3 j0 (.int .i64 0) 1 8 Tryz.underlying27 hj0 hy0 hj1 hj2 rfl (by decide) _ _ _ rfl hL0.out (.slice aom mix.length cpm) mix.length (aC mix) rfl ?dd0 ?dd1 ?dd2 ?dd3 ?_)
    case dd0 => exact HM0.out.source
    case dd1 => unfold maxLen; omega
    case dd2 => omega
    case dd3 => simp
    intro v2 w2 hown2 hgrow2 _;have hb2 : Below wr.heap.size wr w2 := ((Below.refl _ _).alloc nl _).trans (Below.grow hgrow2 hL0.out nl (by simp));have HO2 := hide (show w2.ownsRow wr.heap.size 3 1 v2 mix.length (aC mix) by simpa using hown2);have HB2 := hide hb2;have hz2 := hb2.size;clear hown2 hgrow2 hb2;go_wp2_with (at_builtin; refine aA rfl _ _ 27 rfl wr.heap.size 3 j0 (.int .i64 0) 1 8 Tryz.underlying27 hj0 hy0 hj1 hj2 rfl (by decide) _ _ _ rfl (HO2.out.alloc _) (.slice (some ⟨w2.heap.size, 0, none⟩) 1 1) 1 [.int .i64 (t : Int)] rfl ?ee0 ?ee1 ?ee2 ?ee3 ?_)
    case ee0 => simpa using Source.lit w2 [.int .i64 (t : Int)] 1 3 1 rfl (fun u hu => by simp at hu; subst hu; rfl) 1
    case ee1 => unfold maxLen; omega
    case ee2 => omega
    case ee3 => simp; omega
    intro v3 w3 hown3 hgrow3 _;have hb3 : Below wr.heap.size w2 w3 := ((Below.refl _ _).alloc hz2 _).trans (Below.grow hgrow3 (HO2.out.alloc _) nl (by simp; omega));have HO3 := hide (show w3.ownsRow wr.heap.size 3 1 v3 (mix ++ [(t : Int)]).length (aC (mix ++ [(t : Int)])) by simpa [aC] using hown3);have HB3 := hide (HB2.out.trans hb3);have hz3 := HB3.out.size;clear hown3 hgrow3 hb3;go_wp2_with fail
    refine (IH.out (k + 1) (by have := HN.out; omega) w3 wr.heap.size v3 (mix ++ [(t : Int)]) (tons - (t : Int)) hz3 ?i1 ?i2 (by rw [List.length_append, HL.out]; rfl) (by omega) (by omega)).mono ?_
    case i1 => exact (HSr2.out.below HB3.out).mono nl (by omega) nl
    case i2 => exact bH HO3.out rfl hz3
    rintro e w4 ⟨v4, us4, rfl, hown4, hls4, hb4⟩;have HB4 := bs HB3.out hb4;have hz4 := HB4.out.size;have HO4 := hide (ownsRow_below HOr.out HB4.out nl);have HL4 := hide (HLs.out.below HB4.out);have HS4 := hide (own_source hown4 (lists_one hls4));have HLn4 := hide hls4;have hu4 : us4.length ≤ 10000 := by
     rw [hls4.1]; exact all_len HV.out _ _ _
    obtain ⟨ao4, cp4, rfl, -, -⟩ := aB hown4;clear hown4 hls4 hb4;go_wp2_with (at_builtin; refine aA rfl _ _ 136 rfl w.heap.size 27 i0 (.slice none 0 0) 1 24 Tryz.underlying136 hi0 hz0 hi1 hi2 rfl (by decide) _ _ _ rfl HO4.out (.slice ao4 us4.length cp4) us4.length us4 rfl ?ff0 ?ff1 ?ff2 ?ff3 ?_)
    case ff0 => exact HS4.out
    case ff1 => unfold maxLen; omega
    case ff2 => omega
    case ff3 => omega
    intro v5 w5 hown5 hgrow5 hv5;have HO5 := hide (show w5.ownsRow w.heap.size 27 1 v5 (us ++ us4).length (us ++ us4) by simpa using hown5);have hb5 : Below w.heap.size w4 w5 := Below.grow hgrow5 HO4.out nl (by omega);have HB5 := hide ((HB.out.trans (HB4.out.mono (by omega))).trans hb5);have HL5 := hide (show Lists lo w5 v5 (us ++ us4) (dH mix (part (bN sts (k + 1)) tons (t + 1))) by
     rw [withP_succ];refine (HL4.out.grow hgrow5 hv5).append ?_;exact (HLn4.out.off (by omega) fun g hg => (HOr.out.lt g hg).2).grow hgrow5 hv5)
    clear hown5 hgrow5 hv5 hb5;go_wp2_with fail
    go_roundw
    case rel => exact ⟨t + 1, us ++ us4, by omega, by go_num, HO5.out, HL5.out, HB5.out⟩
    case measure => simp [intOf]; omega
   ·obtain rfl : t = m := by omega
    have hle : ¬ (t : Int) ≤ (t : Int) - 1 := by omega
    go_wp2_with fail
    go_ret;refine ⟨_, us, rfl, HOr.out, ?_, HB.out⟩;rw [HE.out];exact HLs.out
end Go.Proofs.YtkhecelpafojdaaGreatDoor
