/-
  Parts of the proofs over mills, of: MixA, MixB. Conditions: each theorem states its own.
-/
import Derived.Test.YtmemgbklgcjobaaGreatDoorY08
import Derived.Test.YtmemgbklgcjobaaGreatDoorY09
set_option linter.unusedSimpArgs false
set_option linter.unusedVariables false
set_option maxRecDepth 10000
set_option maxHeartbeats 64000000
namespace Go.Proofs.YtmemgbklgcjobaaGreatDoor
open Go.RowKit
theorem mixK_at {sts : List St} {mix : List Int} {k : Nat} (h : wi (mix.getD k 0) 0 (sts.getD k st0).k = false) (hk : k < mix.length) : mixB sts mix = false := by
 simp only [mixB, upTo_false hk (show mixK sts mix k = false from h), Bool.and_false]
theorem mixB_yes {sts : List St} {mix : List Int} (h1 : stsB sts = true) (h2 : mix.length = sts.length) (h3 : ∀ k, k < mix.length → mixK sts mix k = true) : mixB sts mix = true := by
 have h4 : upTo mix.length (mixK sts mix) = true := upTo_true h3;unfold mixB;rw [h1, h4, h2]; simp
theorem mixB_len {sts : List St} {mix : List Int} (h : mix.length ≠ sts.length) : mixB sts mix = false := by simp [mixB, h]
theorem mixv_spec (sv mv : Value) (sts : List St) (mix : List Int) (w : World) (Hs : StAt 0 w.heap.size w sv sts) (Hm : IntsAt 0 w.heap.size w mv mix) :
 Calls Tryz.prog 206 #[sv, mv] w fun e w' => e = .returned (.bool (mixB sts mix)) ∧ Below w.heap.size w w' := by
 have HS := hide Hs;have HM := hide Hm;have hl1 := Hs.len;have hl2 := Hm.len;obtain ⟨ao1, cap1, rfl, -, -, -, -⟩ := Hs;obtain ⟨ao2, cap2, rfl, -, -, -, -⟩ := Hm;have k1 := stsv_spec (.slice ao1 sts.length cap1) sts _ _ w HS.out;cases c1 : stsB sts with
 | false =>
  rw [c1] at k1;have HF := hide (show mixB sts mix = false by simp [mixB, c1]);clear c1;go_enter Tryz.func206, Tryz.ntmps206;go_wp2_with fail
  refine k1.mono ?_;rintro e w1 ⟨rfl, hb⟩;have HB := hide hb;clear hb k1;go_wp2_with fail
  go_ret;exact ⟨by rw [HF.out]; rfl, HB.out⟩
 | true =>
  rw [c1] at k1;have KC := hide c1;clear c1;by_cases hl : mix.length = sts.length
  ·have hlB : ((mix.length : Int) != (sts.length : Int)) = false := by simp [hl]
   have hlo : mix.length ≤ sts.length := by omega
   have HL := hide hl;clear hl;go_enter Tryz.func206, Tryz.ntmps206;go_wp2_with fail
   refine k1.mono ?_;rintro e w1 ⟨rfl, hb⟩;have HB := hide hb;have VS := hide (HS.out.below hb);have VM := hide (HM.out.below hb);clear hb k1;go_wp2_with fail
   go_loopw [5] (fun i wr => ∃ k : Nat, k ≤ mix.length ∧ i = .int .i64 k ∧ Below w1.heap.size w1 wr ∧ (∀ j, j < k → mixK sts mix j = true)) (fun i _ => mix.length - (intOf i).toNat)
   case atStart => exact ⟨0, Nat.zero_le _, rfl, Below.refl _ _, fun _ h => absurd h (Nat.not_lt_zero _)⟩
   case round =>
    obtain ⟨k, hk, rfl, hbr, hall⟩ := hrel;have HBr := hide hbr;have HA := hide hall;have VSr := hide (VS.out.below hbr);have VMr := hide (VM.out.below hbr);clear hbr hall;by_cases hlt : k < mix.length
    ·obtain ⟨b1, o1, _, e1, -, -, r1⟩ := st_at VSr.out (show k < sts.length by omega)
     obtain ⟨b2, o2, _, e2, -, -, r2, -⟩ := ints_at VMr.out hlt;simp only [Value.slice.injEq] at e1 e2;obtain ⟨rfl, -, rfl⟩ := e1;obtain ⟨rfl, -, rfl⟩ := e2;obtain ⟨r10, r11, r12, r13, r14⟩ := r1;have hkI : (k : Int) < (mix.length : Int) := by omega
     have hkI2 : (k : Int) < (sts.length : Int) := by omega
     have HK := hide (show mixK sts mix k = wi (mix.getD k 0) 0 (sts.getD k st0).k from rfl);obtain ⟨x, hx⟩ : ∃ x, mix.getD k 0 = x := ⟨_, rfl⟩;obtain ⟨y, hy⟩ : ∃ y, (sts.getD k st0).k = y := ⟨_, rfl⟩;have HX := hide hx;have HY := hide hy;rw [hx] at r2 HK;rw [hy] at r14 HK;clear hx hy;have kk := l1In_any x 0 y;cases c2 : wi x 0 y with
     | false =>
      rw [c2] at kk;have HF := hide (show mixB sts mix = false from mixK_at (k := k) (by rw [HX.out, HY.out]; exact c2) hlt);clear c2;have KK := hide kk;clear kk;go_wp2_with fail
      go_quiet ((go_at_call 68; exact quiet_left (KK.out _)))
      go_wp2_with fail
      go_ret;exact ⟨by rw [HF.out]; rfl, Below.step HB.out (below_drewN HBr.out _) nl⟩
     | true =>
      rw [c2] at kk;rw [c2] at HK;clear c2;have KK := hide kk;clear kk;go_wp2_with fail
      go_quiet ((go_at_call 68; exact quiet_left (KK.out _)))
      go_wp2_with fail
      go_roundw
      case rel => exact ⟨k + 1, by omega, by go_num, (below_drewN HBr.out _), upTo_snoc HA.out HK.out⟩
      case measure => simp [intOf]; omega
    ·obtain rfl : k = mix.length := by omega
     have HF := hide (show mixB sts mix = true from mixB_yes KC.out HL.out HA.out);go_wp2_with fail
     go_ret;exact ⟨by rw [HF.out]; rfl, Below.step HB.out HBr.out nl⟩
  ·have hlB : ((mix.length : Int) != (sts.length : Int)) = true := by simp; omega
   have HF := hide (mixB_len hl);clear hl;go_enter Tryz.func206, Tryz.ntmps206;go_wp2_with fail
   refine k1.mono ?_;rintro e w1 ⟨rfl, hb⟩;have HB := hide hb;clear hb k1;go_wp2_with fail
   go_ret;exact ⟨by rw [HF.out]; rfl, HB.out⟩
theorem sumTo_60 {mix : List Int} (hb : ∀ k, k < mix.length → 0 ≤ mix.getD k 0 ∧ mix.getD k 0 ≤ 60) : ∀ k, k ≤ mix.length → 0 ≤ sumTo mix k ∧ sumTo mix k ≤ 60 * k
 | 0, _ => by simp [sumTo]
 | k + 1, hk => by
  have := sumTo_60 hb k (by omega);have := hb k (by omega);simp only [sumTo]; omega
theorem l1Sum_any (mv : Value) (mix : List Int) (lo hi : Nat) (w : World) (H : IntsAt lo hi w mv mix) (hl : mix.length ≤ 4) (hb : ∀ k, k < mix.length → 0 ≤ mix.getD k 0 ∧ mix.getD k 0 ≤ 60) :
 Calls Tryz.prog 217 #[mv] w fun e w' => e = .returned (.int .i64 (tonsR mix)) ∧ w = w' := by
 have HM := hide H;have HB := hide hb;obtain ⟨ao2, cap2, rfl, -, -, -, -⟩ := H;clear hb;go_enter Tryz.func217, Tryz.ntmps217;go_wp2_with fail
 go_loop [3, 4] (fun s i => ∃ k : Nat, k ≤ mix.length ∧ i = .int .i64 k ∧ s = .int .i64 (sumTo mix k)) (fun _ i => mix.length - (intOf i).toNat)
 case atStart => exact ⟨0, Nat.zero_le _, rfl, rfl⟩
 case round =>
  obtain ⟨k, hk, rfl, rfl⟩ := hrel;have h1 := sumTo_60 HB.out k hk;by_cases hlt : k < mix.length
  ·have h2 := HB.out k hlt
   obtain ⟨b2, o2, _, e2, -, -, r2, -⟩ := ints_at HM.out hlt;simp only [Value.slice.injEq] at e2;obtain ⟨rfl, -, rfl⟩ := e2;have hkI : (k : Int) < (mix.length : Int) := by omega
   have HN := hide (show sumTo mix (k + 1) = sumTo mix k + mix.getD k 0 from rfl);obtain ⟨x, hx⟩ : ∃ x, mix.getD k 0 = x := ⟨_, rfl⟩;obtain ⟨S, hS⟩ : ∃ S, sumTo mix k = S := ⟨_, rfl⟩;rw [hx] at r2 HN h2;rw [hS] at HN h1 ⊢;clear hx hS;go_wp2_with fail
   go_round
   case rel => exact ⟨k + 1, by omega, by go_num, by rw [HN.out]⟩
   case measure => simp [intOf]; omega
  ·obtain rfl : k = mix.length := by omega
   go_wp2_with fail
   go_ret;exact ⟨rfl, rfl⟩
theorem tons_spec (mv : Value) (mix : List Int) (lo hi : Nat) (w : World) (H : IntsAt lo hi w mv mix) (hl : mix.length ≤ 4) (hb : ∀ k, k < mix.length → 0 ≤ mix.getD k 0 ∧ mix.getD k 0 ≤ 60) :
 Calls Tryz.prog 180 #[mv] w fun e w' => e = .returned (.int .i64 (tonsR mix)) ∧ w = w' := by
 have HK := hide (l1Sum_any mv mix lo hi w H hl hb);clear hb H;go_enter Tryz.func180, Tryz.ntmps180;go_wp2_with fail
 refine HK.out.mono ?_;rintro e w1 ⟨rfl, rfl⟩;go_wp2_with fail
 go_ret;exact ⟨rfl, rfl⟩
theorem cost_spec (sv mv : Value) (sts : List St) (mix : List Int) (w : World) (Hs : StAt 0 w.heap.size w sv sts) (Hm : IntsAt 0 w.heap.size w mv mix) :
 Calls Tryz.prog 205 #[sv, mv] w fun e w' => e = .returned (.int .i64 (costR sts mix)) ∧ Below w.heap.size w w' := by
 have HS := hide Hs;have HM := hide Hm;have hl1 := Hs.len;have hl2 := Hm.len;obtain ⟨ao1, cap1, rfl, -, -, -, -⟩ := Hs;obtain ⟨ao2, cap2, rfl, -, -, -, -⟩ := Hm;have k1 := mixv_spec (.slice ao1 sts.length cap1) (.slice ao2 mix.length cap2) sts mix w HS.out HM.out;cases c1 : mixB sts mix with
 | false =>
  rw [c1] at k1;have HF := hide (show costR sts mix = -1 by simp [costR, c1]);clear c1;go_enter Tryz.func205, Tryz.ntmps205;go_wp2_with fail
  refine k1.mono ?_;rintro e w1 ⟨rfl, hb⟩;have HB := hide hb;clear hb k1;go_wp2_with fail
  go_ret;exact ⟨by rw [HF.out]; rfl, HB.out⟩
 | true =>
  rw [c1] at k1;have KC := hide c1;have hl4 := mix_len4 c1;obtain ⟨hvs, hlen, -⟩ := mixB_parts c1;have HVS := hide hvs;have hlo : mix.length ≤ sts.length := by omega
  clear c1 hvs hlen;go_enter Tryz.func205, Tryz.ntmps205;go_wp2_with fail
  refine k1.mono ?_;rintro e w1 ⟨rfl, hb⟩;have HB := hide hb;have VS := hide (HS.out.below hb);have VM := hide (HM.out.below hb);clear hb k1;go_wp2_with fail
  go_loopw [5, 6] (fun s i wr => ∃ k : Nat, k ≤ mix.length ∧ i = .int .i64 k ∧ s = .int .i64 (dotTo St.p sts mix k) ∧ Below w1.heap.size w1 wr) (fun _ i _ => mix.length - (intOf i).toNat)
  case atStart => exact ⟨0, Nat.zero_le _, rfl, rfl, Below.refl _ _⟩
  case round =>
   obtain ⟨k, hk, rfl, rfl, hbr⟩ := hrel;have HBr := hide hbr;have VSr := hide (VS.out.below hbr);have VMr := hide (VM.out.below hbr);clear hbr;by_cases hlt : k < mix.length
   ·obtain ⟨b1, o1, _, e1, -, -, r1⟩ := st_at VSr.out (show k < sts.length by omega)
    obtain ⟨b2, o2, _, e2, -, -, r2, -⟩ := ints_at VMr.out hlt;simp only [Value.slice.injEq] at e1 e2;obtain ⟨rfl, -, rfl⟩ := e1;obtain ⟨rfl, -, rfl⟩ := e2;obtain ⟨r10, r11, r12, r13, r14⟩ := r1;have hkI : (k : Int) < (mix.length : Int) := by omega
    have hkI2 : (k : Int) < (sts.length : Int) := by omega
    have hx9 := mix_bd KC.out hlt;have hvs := HVS.out;have hd0 := dotTo_bd (f := St.p) (fun s h => stB_p9 h) KC.out k hk;have HN0 := hide (show dotTo St.p sts mix (k + 1) = dotTo St.p sts mix k + mix.getD k 0 * (sts.getD k st0).p from rfl);have hq0 := stB_p9 (stsB_getD hvs (show k < sts.length by omega));have hm0 := mul_bd hx9.1 hx9.2 hq0.1 hq0.2;obtain ⟨y0, hy0⟩ : ∃ y, (sts.getD k st0).p = y := ⟨_, rfl⟩;obtain ⟨S0, hS0⟩ : ∃ S, dotTo St.p sts mix k = S := ⟨_, rfl⟩;rw [hy0] at r13 HN0 hq0 hm0;rw [hS0] at HN0 hd0 ⊢;obtain ⟨x, hx⟩ : ∃ x, mix.getD k 0 = x := ⟨_, rfl⟩;rw [hx] at r2 hx9 HN0 hm0;have hu0 : IntKind.i64.wrap (x * y0) = x * y0 := IntWalk.i64_in _ (by omega);have hv0 : IntKind.i64.wrap (S0 + x * y0) = S0 + x * y0 := IntWalk.i64_in _ (by omega);clear hx hx9 hvs hy0 hS0 hq0 hm0 hd0;go_wp2_with fail
    go_quiet (fail)
    go_wp2_with fail
    go_roundw
    case rel => exact ⟨k + 1, by omega, by go_num, by rw [HN0.out], (by have h := HBr.out; first | exact below_drewN h _ | exact below_drewN (below_drewN h _) _ | exact below_drewN (below_drewN (below_drewN h _) _) _)⟩
    case measure => simp [intOf]; omega
   ·obtain rfl : k = mix.length := by omega
    have HF := hide (show costR sts mix = dotTo St.p sts mix mix.length by simp [costR, KC.out]);go_wp2_with fail
    go_ret;exact ⟨by rw [HF.out]; rfl, Below.step HB.out HBr.out nl⟩
theorem sums_spec (sv mv : Value) (sts : List St) (mix : List Int) (w : World) (Hs : StAt 0 w.heap.size w sv sts) (Hm : IntsAt 0 w.heap.size w mv mix) :
 Calls Tryz.prog 179 #[sv, mv] w fun e w' => e = .returned (.tuple #[.int .i64 (sumsR St.c sts mix), .int .i64 (sumsR St.m sts mix), .int .i64 (sumsR St.s sts mix)]) ∧ Below w.heap.size w w' := by
 have HS := hide Hs;have HM := hide Hm;have hl1 := Hs.len;have hl2 := Hm.len;obtain ⟨ao1, cap1, rfl, -, -, -, -⟩ := Hs;obtain ⟨ao2, cap2, rfl, -, -, -, -⟩ := Hm;have k1 := mixv_spec (.slice ao1 sts.length cap1) (.slice ao2 mix.length cap2) sts mix w HS.out HM.out;cases c1 : mixB sts mix with
 | false =>
  rw [c1] at k1;have HF := hide (show sumsR St.c sts mix = -1 ∧ sumsR St.m sts mix = -1 ∧ sumsR St.s sts mix = -1 by simp [sumsR, c1]);clear c1;go_enter Tryz.func179, Tryz.ntmps179;go_wp2_with fail
  refine k1.mono ?_;rintro e w1 ⟨rfl, hb⟩;have HB := hide hb;clear hb k1;go_wp2_with fail
  go_ret3
  exact ⟨by rw [HF.out.1, HF.out.2.1, HF.out.2.2]; rfl, HB.out⟩
 | true =>
  rw [c1] at k1;have KC := hide c1;have hl4 := mix_len4 c1;obtain ⟨hvs, hlen, -⟩ := mixB_parts c1;have HVS := hide hvs;have hlo : mix.length ≤ sts.length := by omega
  clear c1 hvs hlen;go_enter Tryz.func179, Tryz.ntmps179;go_wp2_with fail
  refine k1.mono ?_;rintro e w1 ⟨rfl, hb⟩;have HB := hide hb;have VS := hide (HS.out.below hb);have VM := hide (HM.out.below hb);clear hb k1;go_wp2_with fail
  go_loopw [7, 8, 9, 10] (fun s t u i wr => ∃ k : Nat, k ≤ mix.length ∧ i = .int .i64 k ∧ s = .int .i64 (dotTo St.c sts mix k) ∧ t = .int .i64 (dotTo St.m sts mix k) ∧ u = .int .i64 (dotTo St.s sts mix k) ∧ Below w1.heap.size w1 wr) (fun _ _ _ i _ => mix.length - (intOf i).toNat)
  case atStart => exact ⟨0, Nat.zero_le _, rfl, rfl, rfl, rfl, Below.refl _ _⟩
  case round =>
   obtain ⟨k, hk, rfl, rfl, rfl, rfl, hbr⟩ := hrel;have HBr := hide hbr;have VSr := hide (VS.out.below hbr);have VMr := hide (VM.out.below hbr);clear hbr;by_cases hlt : k < mix.length
   ·obtain ⟨b1, o1, _, e1, -, -, r1⟩ := st_at VSr.out (show k < sts.length by omega)
    obtain ⟨b2, o2, _, e2, -, -, r2, -⟩ := ints_at VMr.out hlt;simp only [Value.slice.injEq] at e1 e2;obtain ⟨rfl, -, rfl⟩ := e1;obtain ⟨rfl, -, rfl⟩ := e2;obtain ⟨r10, r11, r12, r13, r14⟩ := r1;have hkI : (k : Int) < (mix.length : Int) := by omega
    have hkI2 : (k : Int) < (sts.length : Int) := by omega
    have hx9 := mix_bd KC.out hlt;have hvs := HVS.out;have hd0 := dotTo_bd (f := St.c) (fun s h => stB_c h) KC.out k hk;have hd1 := dotTo_bd (f := St.m) (fun s h => stB_m h) KC.out k hk;have hd2 := dotTo_bd (f := St.s) (fun s h => stB_s h) KC.out k hk;have HN0 := hide (show dotTo St.c sts mix (k + 1) = dotTo St.c sts mix k + mix.getD k 0 * (sts.getD k st0).c from rfl);have hq0 := stB_c (stsB_getD hvs (show k < sts.length by omega));have hm0 := mul_bd hx9.1 hx9.2 hq0.1 hq0.2;obtain ⟨y0, hy0⟩ : ∃ y, (sts.getD k st0).c = y := ⟨_, rfl⟩;obtain ⟨S0, hS0⟩ : ∃ S, dotTo St.c sts mix k = S := ⟨_, rfl⟩;rw [hy0] at r10 HN0 hq0 hm0;rw [hS0] at HN0 hd0 ⊢;have HN1 := hide (show dotTo St.m sts mix (k + 1) = dotTo St.m sts mix k + mix.getD k 0 * (sts.getD k st0).m from rfl);have hq1 := stB_m (stsB_getD hvs (show k < sts.length by omega));have hm1 := mul_bd hx9.1 hx9.2 hq1.1 hq1.2;obtain ⟨y1, hy1⟩ : ∃ y, (sts.getD k st0).m = y := ⟨_, rfl⟩;obtain ⟨S1, hS1⟩ : ∃ S, dotTo St.m sts mix k = S := ⟨_, rfl⟩;rw [hy1] at r11 HN1 hq1 hm1;rw [hS1] at HN1 hd1 ⊢;have HN2 := hide (show dotTo St.s sts mix (k + 1) = dotTo St.s sts mix k + mix.getD k 0 * (sts.getD k st0).s from rfl);have hq2 := stB_s (stsB_getD hvs (show k < sts.length by omega));have hm2 := mul_bd hx9.1 hx9.2 hq2.1 hq2.2;obtain ⟨y2, hy2⟩ : ∃ y, (sts.getD k st0).s = y := ⟨_, rfl⟩;obtain ⟨S2, hS2⟩ : ∃ S, dotTo St.s sts mix k = S := ⟨_, rfl⟩;rw [hy2] at r12 HN2 hq2 hm2;rw [hS2] at HN2 hd2 ⊢;obtain ⟨x, hx⟩ : ∃ x, mix.getD k 0 = x := ⟨_, rfl⟩;rw [hx] at r2 hx9 HN0 hm0 HN1 hm1 HN2 hm2;have hu0 : IntKind.i64.wrap (x * y0) = x * y0 := IntWalk.i64_in _ (by omega);have hv0 : IntKind.i64.wrap (S0 + x * y0) = S0 + x * y0 := IntWalk.i64_in _ (by omega);have hu1 : IntKind.i64.wrap (x * y1) = x * y1 := IntWalk.i64_in _ (by omega);have hv1 : IntKind.i64.wrap (S1 + x * y1) = S1 + x * y1 := IntWalk.i64_in _ (by omega);have hu2 : IntKind.i64.wrap (x * y2) = x * y2 := IntWalk.i64_in _ (by omega);have hv2 : IntKind.i64.wrap (S2 + x * y2) = S2 + x * y2 := IntWalk.i64_in _ (by omega);clear hx hx9 hvs hy0 hS0 hq0 hm0 hd0 hy1 hS1 hq1 hm1 hd1 hy2 hS2 hq2 hm2 hd2;go_wp2_with fail
    go_quiet (fail)
    go_wp2_with fail
    go_quiet (fail)
    go_wp2_with fail
    go_quiet (fail)
    go_wp2_with fail
    go_roundw
    case rel => exact ⟨k + 1, by omega, by go_num, by rw [HN0.out], by rw [HN1.out], by rw [HN2.out], (by have h := HBr.out; first | exact below_drewN h _ | exact below_drewN (below_drewN h _) _ | exact below_drewN (below_drewN (below_drewN h _) _) _)⟩
    case measure => simp [intOf]; omega
   ·obtain rfl : k = mix.length := by omega
    have HF := hide (show sumsR St.c sts mix = dotTo St.c sts mix mix.length ∧ sumsR St.m sts mix = dotTo St.m sts mix mix.length ∧ sumsR St.s sts mix = dotTo St.s sts mix mix.length by simp [sumsR, KC.out]);go_wp2_with fail
    go_ret3
    exact ⟨by rw [HF.out.1, HF.out.2.1, HF.out.2.2]; rfl, Below.step HB.out HBr.out nl⟩
def meetS (g : Gr) (T a b c : Int) : Bool := wi a (g.lc * T) (g.hc * T) && (wi b (g.lm * T) (g.hm * T) && wi c (g.ls * T) (g.hs * T))
theorem meet_eq {sts : List St} {mix : List Int} {g : Gr} (h1 : mixB sts mix = true) (h2 : grB g = true) (h3 : 0 < tonsR mix) : meetR sts mix g = meetS g (tonsR mix) (sumsR St.c sts mix) (sumsR St.m sts mix) (sumsR St.s sts mix) := by
 have h3' : decide (0 < tonsR mix) = true := by simpa using h3
 simp only [meetR, meetS, h1, h2, h3', Bool.true_and]
theorem meet_low {sts : List St} {mix : List Int} {g : Gr} (h3 : ¬ 0 < tonsR mix) : meetR sts mix g = false := by
 have h3' : decide (0 < tonsR mix) = false := by simpa using h3
 simp [meetR, h3']
theorem tons_bd {sts : List St} {mix : List Int} (h : mixB sts mix = true) : 0 ≤ tonsR mix ∧ tonsR mix ≤ 36 := by
 have h1 := sumTo_bd h mix.length nl;have h2 := mix_len4 h;unfold tonsR;omega
theorem gr_mul {x T : Int} (h1 : 0 ≤ x) (h2 : x ≤ 999) (h3 : 0 ≤ T) (h4 : T ≤ 36) : IntKind.i64.wrap (x * T) = x * T := by
 have := mul_bd h1 h2 h3 h4;exact IntWalk.i64_in _ (by omega)
theorem meets_spec (sv mv : Value) (sts : List St) (mix : List Int) (g : Gr) (w : World) (Hs : StAt 0 w.heap.size w sv sts) (Hm : IntsAt 0 w.heap.size w mv mix) (hl4 : mix.length ≤ 4) (h60 : ∀ k, k < mix.length → 0 ≤ mix.getD k 0 ∧ mix.getD k 0 ≤ 60) :
 Calls Tryz.prog 204 #[sv, mv, grV g] w fun e w' => e = .returned (.bool (meetR sts mix g)) ∧ Below w.heap.size w w' := by
 have HS := hide Hs;have HM := hide Hm;clear Hs Hm;have HV := hide (fun W H1 H2 => mixv_spec sv mv sts mix W H1 H2);have HU := hide (fun W H1 H2 => sums_spec sv mv sts mix W H1 H2);have hg := fun W => grv_spec g W;have H60 := hide h60;clear h60;unfold grV at hg ⊢;have HG := hide hg;clear hg;go_enter Tryz.func204, Tryz.ntmps204;go_wp2_with fail
 refine calls_at fun wx hwx => ?_;have A_0 : RowL wx (w.heap.size) 25 [.int .i64 g.lc, .int .i64 g.hc, .int .i64 g.lm, .int .i64 g.hm, .int .i64 g.ls, .int .i64 g.hs] := by rw [hwx]; exact (RowL.new _ _ _)
 have B_0 : Below w.heap.size w wx := by rw [hwx]; go_grown
 clear hwx;have hL0 := A_0.lt;have VS_0 := hide (HS.out.below B_0);have VM_0 := hide (HM.out.below B_0);have k1 := hide (HU.out wx ((VS_0.out).mono nl (VS_0.out).lt nl) ((VM_0.out).mono nl (VM_0.out).lt nl));obtain ⟨a, ha⟩ : ∃ a, sumsR St.c sts mix = a := ⟨_, rfl⟩;obtain ⟨b, hb⟩ : ∃ b, sumsR St.m sts mix = b := ⟨_, rfl⟩;obtain ⟨c, hc⟩ : ∃ c, sumsR St.s sts mix = c := ⟨_, rfl⟩;rw [ha, hb, hc] at k1;have HA := hide ha;have HBB := hide hb;have HC := hide hc;clear ha hb hc;refine (k1.out).mono ?_;rintro e w1 ⟨rfl, hb⟩;have A_1 := A_0.below hb A_0.lt;have VS_1 := hide (VS_0.out.below hb);have VM_1 := hide (VM_0.out.below hb);have B_1 := hide (Below.step B_0 hb nl);have hz1 := hb.size;clear hb;go_wp2_with fail
 have k3 := hide (tons_spec mv mix _ _ w1 VM_1.out hl4 H60.out);obtain ⟨T, hTT⟩ : ∃ T, tonsR mix = T := ⟨_, rfl⟩;have HT := hide hTT;rw [hTT] at k3;clear hTT;refine k3.out.mono ?_;rintro e wq ⟨rfl, rfl⟩;go_wp2_with fail
 have k4 := HV.out w1 ((VS_1.out).mono nl (VS_1.out).lt nl) ((VM_1.out).mono nl (VM_1.out).lt nl);cases c1 : mixB sts mix with
 | false =>
  rw [c1] at k4;have HZ := hide (show meetR sts mix g = false by simp [meetR, c1]);clear c1;refine (k4).mono ?_;rintro e w2 ⟨rfl, hb⟩;have A_2 := A_1.below hb A_1.lt;have VS_2 := hide (VS_1.out.below hb);have VM_2 := hide (VM_1.out.below hb);have B_2 := hide (Below.step B_1.out hb nl);have hz2 := hb.size;clear hb;go_wp2_with fail
  go_ret;exact ⟨by rw [HZ.out]; rfl, B_2.out⟩
 | true =>
  rw [c1] at k4;have C1 := hide c1;clear c1;refine (k4).mono ?_;rintro e w2 ⟨rfl, hb⟩;have A_2 := A_1.below hb A_1.lt;have VS_2 := hide (VS_1.out.below hb);have VM_2 := hide (VM_1.out.below hb);have B_2 := hide (Below.step B_1.out hb nl);have hz2 := hb.size;clear hb;have cA0 := A_2.c 0 rfl;have cA1 := A_2.c 1 rfl;have cA2 := A_2.c 2 rfl;have cA3 := A_2.c 3 rfl;have cA4 := A_2.c 4 rfl;have cA5 := A_2.c 5 rfl;go_wp2_with fail
  have k2 := HG.out w2;cases c2 : grB g with
  | false =>
   rw [c2] at k2;have HZ := hide (show meetR sts mix g = false by simp [meetR, c2]);clear c2;refine (k2).mono ?_;rintro e w3 ⟨rfl, hb⟩;have A_3 := A_2.below hb A_2.lt;have VS_3 := hide (VS_2.out.below hb);have VM_3 := hide (VM_2.out.below hb);have B_3 := hide (Below.step B_2.out hb nl);have hz3 := hb.size;clear hb;go_wp2_with fail
   go_ret;exact ⟨by rw [HZ.out]; rfl, B_3.out⟩
  | true =>
   rw [c2] at k2;have C2 := hide c2;clear c2;refine (k2).mono ?_;rintro e w3 ⟨rfl, hb⟩;have A_3 := A_2.below hb A_2.lt;have VS_3 := hide (VS_2.out.below hb);have VM_3 := hide (VM_2.out.below hb);have B_3 := hide (Below.step B_2.out hb nl);have hz3 := hb.size;clear hb;have cA0 := A_3.c 0 rfl;have cA1 := A_3.c 1 rfl;have cA2 := A_3.c 2 rfl;have cA3 := A_3.c 3 rfl;have cA4 := A_3.c 4 rfl;have cA5 := A_3.c 5 rfl;obtain ⟨T1, T2⟩ := tons_bd C1.out;rw [HT.out] at T1 T2;by_cases hT : 0 < T;rotate_left
   ·have HZ := hide (meet_low (sts := sts) (g := g) (mix := mix) (by rw [HT.out]; exact hT))
    go_wp2_with fail
    go_ret;exact ⟨by rw [HZ.out]; rfl, B_3.out⟩
   have HE := hide (meet_eq C1.out C2.out (by rw [HT.out]; exact hT));rw [HT.out, HA.out, HBB.out, HC.out] at HE;obtain ⟨⟨q1, q2⟩, ⟨q3, q4⟩, ⟨q5, q6⟩, ⟨q7, q8⟩, ⟨q9, q10⟩, q11, q12⟩ := grB_iff.1 C2.out;have hw0 : IntKind.i64.wrap (T * g.lc) = g.lc * T := by rw [Int.mul_comm]; exact gr_mul (by omega) (by omega) T1 T2
   have hw1 : IntKind.i64.wrap (T * g.hc) = g.hc * T := by rw [Int.mul_comm]; exact gr_mul (by omega) (by omega) T1 T2
   have hw2 : IntKind.i64.wrap (T * g.lm) = g.lm * T := by rw [Int.mul_comm]; exact gr_mul (by omega) (by omega) T1 T2
   have hw3 : IntKind.i64.wrap (T * g.hm) = g.hm * T := by rw [Int.mul_comm]; exact gr_mul (by omega) (by omega) T1 T2
   have hw4 : IntKind.i64.wrap (T * g.ls) = g.ls * T := by rw [Int.mul_comm]; exact gr_mul (by omega) (by omega) T1 T2
   have hw5 : IntKind.i64.wrap (T * g.hs) = g.hs * T := by rw [Int.mul_comm]; exact gr_mul (by omega) (by omega) T1 T2
   clear q1 q2 q3 q4 q5 q6 q7 q8 q9 q10 q11 q12;go_wp2_with fail
   have kk := l1In_any a (g.lc * T) (g.hc * T);cases d1 : wi a (g.lc * T) (g.hc * T) with
   | false =>
    rw [d1] at kk;have HZ := hide (show meetR sts mix g = false by rw [HE.out, meetS, d1]; simp);clear d1 HE;refine (kk _).mono ?_;rintro e wq ⟨rfl, rfl⟩;clear kk;go_wp2_with fail
    go_ret;exact ⟨by rw [HZ.out]; rfl, B_3.out⟩
   | true =>
    rw [d1] at kk;have D1 := hide d1;clear d1;refine (kk _).mono ?_;rintro e wq ⟨rfl, rfl⟩;clear kk;go_wp2_with fail
    have kk := l1In_any b (g.lm * T) (g.hm * T);cases d2 : wi b (g.lm * T) (g.hm * T) with
    | false =>
     rw [d2] at kk;have HZ := hide (show meetR sts mix g = false by rw [HE.out, meetS, d2]; simp);clear d2 HE;refine (kk _).mono ?_;rintro e wq ⟨rfl, rfl⟩;clear kk;go_wp2_with fail
     go_ret;exact ⟨by rw [HZ.out]; rfl, B_3.out⟩
    | true =>
     rw [d2] at kk;have D2 := hide d2;clear d2;refine (kk _).mono ?_;rintro e wq ⟨rfl, rfl⟩;clear kk;go_wp2_with fail
     have kk := l1In_any c (g.ls * T) (g.hs * T);cases d3 : wi c (g.ls * T) (g.hs * T) with
     | false =>
      rw [d3] at kk;have HZ := hide (show meetR sts mix g = false by rw [HE.out, meetS, d3]; simp);clear d3 HE;refine (kk _).mono ?_;rintro e wq ⟨rfl, rfl⟩;clear kk;go_wp2_with fail
      go_ret;exact ⟨by rw [HZ.out]; rfl, B_3.out⟩
     | true =>
      rw [d3] at kk;have D3 := hide d3;clear d3;refine (kk _).mono ?_;rintro e wq ⟨rfl, rfl⟩;clear kk;go_wp2_with fail
      have HZ := hide (show meetR sts mix g = true by rw [HE.out, meetS, D1.out, D2.out, D3.out]; rfl);go_ret;exact ⟨by rw [HZ.out]; rfl, B_3.out⟩
end Go.Proofs.YtmemgbklgcjobaaGreatDoor
