/-
  Parts of the proofs over mills, of: MixA, TextB. Conditions: each theorem states its own.
-/
import Derived.Test.YtmemgbklgcjobaaGreatDoorY19
set_option linter.unusedSimpArgs false
set_option linter.unusedVariables false
set_option maxRecDepth 10000
set_option maxHeartbeats 64000000
namespace Go.Proofs.YtmemgbklgcjobaaGreatDoor
open Go.RowKit
theorem mixv_impl (sv mv : Value) (sts : List St) (mix : List Int) (w : World) (Hs : StAt 0 w.heap.size w sv sts) (Hm : IntsAt 0 w.heap.size w mv mix) :
 Calls Tryz.prog 198 #[sv, mv] w fun e w' => e = .returned (.bool (mixB sts mix)) ∧ Below w.heap.size w w' := by
 have HS := hide Hs;have HM := hide Hm;have hl1 := Hs.len;have hl2 := Hm.len;obtain ⟨ao1, cap1, rfl, -, -, -, -⟩ := Hs;obtain ⟨ao2, cap2, rfl, -, -, -, -⟩ := Hm;have k1 := stsv_impl (.slice ao1 sts.length cap1) sts _ _ w HS.out;cases c1 : stsB sts with
 | false =>
  rw [c1] at k1;have HF := hide (show mixB sts mix = false by simp [mixB, c1]);clear c1;go_enter Tryz.func198, Tryz.ntmps198;go_wp2_with fail
  refine k1.mono ?_;rintro e w1 ⟨rfl, hb⟩;have HB := hide hb;clear hb k1;go_wp2_with fail
  go_ret;exact ⟨by rw [HF.out]; rfl, HB.out⟩
 | true =>
  rw [c1] at k1;have KC := hide c1;clear c1;by_cases hl : mix.length = sts.length
  ·have hlB : ((mix.length : Int) != (sts.length : Int)) = false := by simp [hl]
   have hlo : mix.length ≤ sts.length := by omega
   have HL := hide hl;clear hl;go_enter Tryz.func198, Tryz.ntmps198;go_wp2_with fail
   refine k1.mono ?_;rintro e w1 ⟨rfl, hb⟩;have HB := hide hb;have VS := hide (HS.out.below hb);have VM := hide (HM.out.below hb);clear hb k1;go_wp2_with fail
   go_loopw [5, 6, 19] (fun _ _ i wr => ∃ k : Nat, k ≤ mix.length ∧ i = .int .i64 k ∧ Below w1.heap.size w1 wr ∧ (∀ j, j < k → mixK sts mix j = true)) (fun _ _ i _ => mix.length - (intOf i).toNat)
   case atStart => exact ⟨0, Nat.zero_le _, rfl, Below.refl _ _, fun _ h => absurd h (Nat.not_lt_zero _)⟩
   case round =>
    obtain ⟨k, hk, rfl, hbr, hall⟩ := hrel;have HBr := hide hbr;have HA := hide hall;have VSr := hide (VS.out.below hbr);have VMr := hide (VM.out.below hbr);clear hbr hall;by_cases hlt : k < mix.length
    ·obtain ⟨b1, o1, _, e1, -, -, r1⟩ := st_at VSr.out (show k < sts.length by omega)
     obtain ⟨b2, o2, _, e2, -, -, r2, -⟩ := ints_at VMr.out hlt;simp only [Value.slice.injEq] at e1 e2;obtain ⟨rfl, -, rfl⟩ := e1;obtain ⟨rfl, -, rfl⟩ := e2;obtain ⟨r10, r11, r12, r13, r14⟩ := r1;have hkI : (k : Int) < (mix.length : Int) := by omega
     have hkI2 : (k : Int) < (sts.length : Int) := by omega
     have HK := hide (show mixK sts mix k = wi (mix.getD k 0) 0 (sts.getD k st0).k from rfl);obtain ⟨x, hx⟩ : ∃ x, mix.getD k 0 = x := ⟨_, rfl⟩;obtain ⟨y, hy⟩ : ∃ y, (sts.getD k st0).k = y := ⟨_, rfl⟩;have HX := hide hx;have HY := hide hy;rw [hx] at r2 HK;rw [hy] at r14 HK;clear hx hy;have kk := within_any x 0 y;cases c2 : wi x 0 y with
     | false =>
      rw [c2] at kk;have HF := hide (show mixB sts mix = false from mixK_at (k := k) (by rw [HX.out, HY.out]; exact c2) hlt);clear c2;go_wp2_with fail
      refine (kk _).mono ?_;rintro e wq ⟨rfl, rfl⟩;clear kk;go_wp2_with fail
      go_ret;exact ⟨by rw [HF.out]; rfl, Below.step HB.out HBr.out nl⟩
     | true =>
      rw [c2] at kk;rw [c2] at HK;clear c2;go_wp2_with fail
      refine (kk _).mono ?_;rintro e wq ⟨rfl, rfl⟩;clear kk;go_wp2_with fail
      go_roundw
      case rel => exact ⟨k + 1, by omega, by go_num, HBr.out, upTo_snoc HA.out HK.out⟩
      case measure => simp [intOf]; omega
    ·obtain rfl : k = mix.length := by omega
     have HF := hide (show mixB sts mix = true from mixB_yes KC.out HL.out HA.out);go_wp2_with fail
     go_ret;exact ⟨by rw [HF.out]; rfl, Below.step HB.out HBr.out nl⟩
  ·have hlB : ((mix.length : Int) != (sts.length : Int)) = true := by simp; omega
   have HF := hide (mixB_len hl);clear hl;go_enter Tryz.func198, Tryz.ntmps198;go_wp2_with fail
   refine k1.mono ?_;rintro e w1 ⟨rfl, hb⟩;have HB := hide hb;clear hb k1;go_wp2_with fail
   go_ret;exact ⟨by rw [HF.out]; rfl, HB.out⟩
theorem tons_impl (mv : Value) (mix : List Int) (lo hi : Nat) (w : World) (H : IntsAt lo hi w mv mix) (hl : mix.length ≤ 4) (hb : ∀ k, k < mix.length → 0 ≤ mix.getD k 0 ∧ mix.getD k 0 ≤ 60) :
 Calls Tryz.prog 71 #[mv] w fun e w' => e = .returned (.int .i64 (tonsR mix)) ∧ w = w' := by
 have HM := hide H;have HB := hide hb;obtain ⟨ao2, cap2, rfl, -, -, -, -⟩ := H;clear hb;go_enter Tryz.func71, Tryz.ntmps71;go_wp2_with fail
 go_loop [3, 5, 8] (fun s _ i => ∃ k : Nat, k ≤ mix.length ∧ i = .int .i64 k ∧ s = .int .i64 (sumTo mix k)) (fun _ _ i => mix.length - (intOf i).toNat)
 case atStart => exact ⟨0, Nat.zero_le _, rfl, rfl⟩
 case round =>
  obtain ⟨k, hk, rfl, rfl⟩ := hrel;have h1 := sumTo_60 HB.out k hk;by_cases hlt : k < mix.length
  ·have h2 := HB.out k hlt
   obtain ⟨b2, o2, _, e2, -, -, r2, -⟩ := ints_at HM.out hlt;simp only [Value.slice.injEq] at e2;obtain ⟨rfl, -, rfl⟩ := e2;have hkI : (k : Int) < (mix.length : Int) := by omega
   have HN := hide (show sumTo mix (k + 1) = sumTo mix k + mix.getD k 0 from rfl);obtain ⟨x, hx⟩ : ∃ x, mix.getD k 0 = x := ⟨_, rfl⟩;obtain ⟨S, hS⟩ : ∃ S, sumTo mix k = S := ⟨_, rfl⟩;rw [hx] at r2 HN h2;rw [hS] at HN h1 ⊢;clear hx hS;go_wp2_with fail
   go_round
   case rel => exact ⟨k + 1, by omega, by go_num, by rw [HN.out]⟩
   case measure => simp [intOf]; omega
  ·obtain rfl : k = mix.length := by omega
   go_wp2_with fail
   go_ret;exact ⟨rfl, rfl⟩
theorem cost_impl (sv mv : Value) (sts : List St) (mix : List Int) (w : World) (Hs : StAt 0 w.heap.size w sv sts) (Hm : IntsAt 0 w.heap.size w mv mix) :
 Calls Tryz.prog 247 #[sv, mv] w fun e w' => e = .returned (.int .i64 (costR sts mix)) ∧ Below w.heap.size w w' := by
 have HS := hide Hs;have HM := hide Hm;have hl1 := Hs.len;have hl2 := Hm.len;obtain ⟨ao1, cap1, rfl, -, -, -, -⟩ := Hs;obtain ⟨ao2, cap2, rfl, -, -, -, -⟩ := Hm;have k1 := mixv_impl (.slice ao1 sts.length cap1) (.slice ao2 mix.length cap2) sts mix w HS.out HM.out;cases c1 : mixB sts mix with
 | false =>
  rw [c1] at k1;have HF := hide (show costR sts mix = -1 by simp [costR, c1]);clear c1;go_enter Tryz.func247, Tryz.ntmps247;go_wp2_with fail
  refine k1.mono ?_;rintro e w1 ⟨rfl, hb⟩;have HB := hide hb;clear hb k1;go_wp2_with fail
  go_ret;exact ⟨by rw [HF.out]; rfl, HB.out⟩
 | true =>
  rw [c1] at k1;have KC := hide c1;have hl4 := mix_len4 c1;obtain ⟨hvs, hlen, -⟩ := mixB_parts c1;have HVS := hide hvs;have hlo : mix.length ≤ sts.length := by omega
  clear c1 hvs hlen;go_enter Tryz.func247, Tryz.ntmps247;go_wp2_with fail
  refine k1.mono ?_;rintro e w1 ⟨rfl, hb⟩;have HB := hide hb;have VS := hide (HS.out.below hb);have VM := hide (HM.out.below hb);clear hb k1;go_wp2_with fail
  go_loopw [5, 6, 7, 14] (fun s _ _ i wr => ∃ k : Nat, k ≤ mix.length ∧ i = .int .i64 k ∧ s = .int .i64 (dotTo St.p sts mix k) ∧ Below w1.heap.size w1 wr) (fun _ _ _ i _ => mix.length - (intOf i).toNat)
  case atStart => exact ⟨0, Nat.zero_le _, rfl, rfl, Below.refl _ _⟩
  case round =>
   obtain ⟨k, hk, rfl, rfl, hbr⟩ := hrel;have HBr := hide hbr;have VSr := hide (VS.out.below hbr);have VMr := hide (VM.out.below hbr);clear hbr;by_cases hlt : k < mix.length
   ·obtain ⟨b1, o1, _, e1, -, -, r1⟩ := st_at VSr.out (show k < sts.length by omega)
    obtain ⟨b2, o2, _, e2, -, -, r2, -⟩ := ints_at VMr.out hlt;simp only [Value.slice.injEq] at e1 e2;obtain ⟨rfl, -, rfl⟩ := e1;obtain ⟨rfl, -, rfl⟩ := e2;obtain ⟨r10, r11, r12, r13, r14⟩ := r1;have hkI : (k : Int) < (mix.length : Int) := by omega
    have hkI2 : (k : Int) < (sts.length : Int) := by omega
    have hx9 := mix_bd KC.out hlt;have hvs := HVS.out;have hd0 := dotTo_bd (f := St.p) (fun s h => stB_p9 h) KC.out k hk;have HN0 := hide (show dotTo St.p sts mix (k + 1) = dotTo St.p sts mix k + mix.getD k 0 * (sts.getD k st0).p from rfl);have hq0 := stB_p9 (stsB_getD hvs (show k < sts.length by omega));have hm0 := mul_bd hx9.1 hx9.2 hq0.1 hq0.2;obtain ⟨y0, hy0⟩ : ∃ y, (sts.getD k st0).p = y := ⟨_, rfl⟩;obtain ⟨S0, hS0⟩ : ∃ S, dotTo St.p sts mix k = S := ⟨_, rfl⟩;rw [hy0] at r13 HN0 hq0 hm0;rw [hS0] at HN0 hd0 ⊢;obtain ⟨x, hx⟩ : ∃ x, mix.getD k 0 = x := ⟨_, rfl⟩;rw [hx] at r2 hx9 HN0 hm0;have hu0 : IntKind.i64.wrap (x * y0) = x * y0 := IntWalk.i64_in _ (by omega);have hv0 : IntKind.i64.wrap (S0 + x * y0) = S0 + x * y0 := IntWalk.i64_in _ (by omega);clear hx hx9 hvs hy0 hS0 hq0 hm0 hd0;go_wp2_with fail
    go_roundw
    case rel => exact ⟨k + 1, by omega, by go_num, by rw [HN0.out], HBr.out⟩
    case measure => simp [intOf]; omega
   ·obtain rfl : k = mix.length := by omega
    have HF := hide (show costR sts mix = dotTo St.p sts mix mix.length by simp [costR, KC.out]);go_wp2_with fail
    go_ret;exact ⟨by rw [HF.out]; rfl, Below.step HB.out HBr.out nl⟩
theorem sums_impl (sv mv : Value) (sts : List St) (mix : List Int) (w : World) (Hs : StAt 0 w.heap.size w sv sts) (Hm : IntsAt 0 w.heap.size w mv mix) :
 Calls Tryz.prog 253 #[sv, mv] w fun e w' => e = .returned (.tuple #[.int .i64 (sumsR St.c sts mix), .int .i64 (sumsR St.m sts mix), .int .i64 (sumsR St.s sts mix)]) ∧ Below w.heap.size w w' := by
 have HS := hide Hs;have HM := hide Hm;have hl1 := Hs.len;have hl2 := Hm.len;obtain ⟨ao1, cap1, rfl, -, -, -, -⟩ := Hs;obtain ⟨ao2, cap2, rfl, -, -, -, -⟩ := Hm;have k1 := mixv_impl (.slice ao1 sts.length cap1) (.slice ao2 mix.length cap2) sts mix w HS.out HM.out;cases c1 : mixB sts mix with
 | false =>
  rw [c1] at k1;have HF := hide (show sumsR St.c sts mix = -1 ∧ sumsR St.m sts mix = -1 ∧ sumsR St.s sts mix = -1 by simp [sumsR, c1]);clear c1;go_enter Tryz.func253, Tryz.ntmps253;go_wp2_with fail
  refine k1.mono ?_;rintro e w1 ⟨rfl, hb⟩;have HB := hide hb;clear hb k1;go_wp2_with fail
  go_ret3
  exact ⟨by rw [HF.out.1, HF.out.2.1, HF.out.2.2]; rfl, HB.out⟩
 | true =>
  rw [c1] at k1;have KC := hide c1;have hl4 := mix_len4 c1;obtain ⟨hvs, hlen, -⟩ := mixB_parts c1;have HVS := hide hvs;have hlo : mix.length ≤ sts.length := by omega
  clear c1 hvs hlen;go_enter Tryz.func253, Tryz.ntmps253;go_wp2_with fail
  refine k1.mono ?_;rintro e w1 ⟨rfl, hb⟩;have HB := hide hb;have VS := hide (HS.out.below hb);have VM := hide (HM.out.below hb);clear hb k1;go_wp2_with fail
  go_loopw [7, 8, 9, 10, 11, 18] (fun s t u _ _ i wr => ∃ k : Nat, k ≤ mix.length ∧ i = .int .i64 k ∧ s = .int .i64 (dotTo St.c sts mix k) ∧ t = .int .i64 (dotTo St.m sts mix k) ∧ u = .int .i64 (dotTo St.s sts mix k) ∧ Below w1.heap.size w1 wr) (fun _ _ _ _ _ i _ => mix.length - (intOf i).toNat)
  case atStart => exact ⟨0, Nat.zero_le _, rfl, rfl, rfl, rfl, Below.refl _ _⟩
  case round =>
   obtain ⟨k, hk, rfl, rfl, rfl, rfl, hbr⟩ := hrel;have HBr := hide hbr;have VSr := hide (VS.out.below hbr);have VMr := hide (VM.out.below hbr);clear hbr;by_cases hlt : k < mix.length
   ·obtain ⟨b1, o1, _, e1, -, -, r1⟩ := st_at VSr.out (show k < sts.length by omega)
    obtain ⟨b2, o2, _, e2, -, -, r2, -⟩ := ints_at VMr.out hlt;simp only [Value.slice.injEq] at e1 e2;obtain ⟨rfl, -, rfl⟩ := e1;obtain ⟨rfl, -, rfl⟩ := e2;obtain ⟨r10, r11, r12, r13, r14⟩ := r1;have hkI : (k : Int) < (mix.length : Int) := by omega
    have hkI2 : (k : Int) < (sts.length : Int) := by omega
    have hx9 := mix_bd KC.out hlt;have hvs := HVS.out;have hd0 := dotTo_bd (f := St.c) (fun s h => stB_c h) KC.out k hk;have hd1 := dotTo_bd (f := St.m) (fun s h => stB_m h) KC.out k hk;have hd2 := dotTo_bd (f := St.s) (fun s h => stB_s h) KC.out k hk;have HN0 := hide (show dotTo St.c sts mix (k + 1) = dotTo St.c sts mix k + mix.getD k 0 * (sts.getD k st0).c from rfl);have hq0 := stB_c (stsB_getD hvs (show k < sts.length by omega));have hm0 := mul_bd hx9.1 hx9.2 hq0.1 hq0.2;obtain ⟨y0, hy0⟩ : ∃ y, (sts.getD k st0).c = y := ⟨_, rfl⟩;obtain ⟨S0, hS0⟩ : ∃ S, dotTo St.c sts mix k = S := ⟨_, rfl⟩;rw [hy0] at r10 HN0 hq0 hm0;rw [hS0] at HN0 hd0 ⊢;have HN1 := hide (show dotTo St.m sts mix (k + 1) = dotTo St.m sts mix k + mix.getD k 0 * (sts.getD k st0).m from rfl);have hq1 := stB_m (stsB_getD hvs (show k < sts.length by omega));have hm1 := mul_bd hx9.1 hx9.2 hq1.1 hq1.2;obtain ⟨y1, hy1⟩ : ∃ y, (sts.getD k st0).m = y := ⟨_, rfl⟩;obtain ⟨S1, hS1⟩ : ∃ S, dotTo St.m sts mix k = S := ⟨_, rfl⟩;rw [hy1] at r11 HN1 hq1 hm1;rw [hS1] at HN1 hd1 ⊢;have HN2 := hide (show dotTo St.s sts mix (k + 1) = dotTo St.s sts mix k + mix.getD k 0 * (sts.getD k st0).s from rfl);have hq2 := stB_s (stsB_getD hvs (show k < sts.length by omega));have hm2 := mul_bd hx9.1 hx9.2 hq2.1 hq2.2;obtain ⟨y2, hy2⟩ : ∃ y, (sts.getD k st0).s = y := ⟨_, rfl⟩;obtain ⟨S2, hS2⟩ : ∃ S, dotTo St.s sts mix k = S := ⟨_, rfl⟩;rw [hy2] at r12 HN2 hq2 hm2;rw [hS2] at HN2 hd2 ⊢;obtain ⟨x, hx⟩ : ∃ x, mix.getD k 0 = x := ⟨_, rfl⟩;rw [hx] at r2 hx9 HN0 hm0 HN1 hm1 HN2 hm2;have hu0 : IntKind.i64.wrap (x * y0) = x * y0 := IntWalk.i64_in _ (by omega);have hv0 : IntKind.i64.wrap (S0 + x * y0) = S0 + x * y0 := IntWalk.i64_in _ (by omega);have hu1 : IntKind.i64.wrap (x * y1) = x * y1 := IntWalk.i64_in _ (by omega);have hv1 : IntKind.i64.wrap (S1 + x * y1) = S1 + x * y1 := IntWalk.i64_in _ (by omega);have hu2 : IntKind.i64.wrap (x * y2) = x * y2 := IntWalk.i64_in _ (by omega);have hv2 : IntKind.i64.wrap (S2 + x * y2) = S2 + x * y2 := IntWalk.i64_in _ (by omega);clear hx hx9 hvs hy0 hS0 hq0 hm0 hd0 hy1 hS1 hq1 hm1 hd1 hy2 hS2 hq2 hm2 hd2;go_wp2_with fail
    go_roundw
    case rel => exact ⟨k + 1, by omega, by go_num, by rw [HN0.out], by rw [HN1.out], by rw [HN2.out], HBr.out⟩
    case measure => simp [intOf]; omega
   ·obtain rfl : k = mix.length := by omega
    have HF := hide (show sumsR St.c sts mix = dotTo St.c sts mix mix.length ∧ sumsR St.m sts mix = dotTo St.m sts mix mix.length ∧ sumsR St.s sts mix = dotTo St.s sts mix mix.length by simp [sumsR, KC.out]);go_wp2_with fail
    go_ret3
    exact ⟨by rw [HF.out.1, HF.out.2.1, HF.out.2.2]; rfl, Below.step HB.out HBr.out nl⟩
theorem rdGo_none {n : Int} {b : UInt8} {l : List UInt8} (h : b.toNat < 48 ∨ 57 < b.toNat) : rdGo n (b :: l) = none := by rw [rdGo, if_pos h]
theorem rdGo_big {n : Int} {b : UInt8} {l : List UInt8} (h : ¬ (b.toNat < 48 ∨ 57 < b.toNat)) (h' : 9999 < 10 * n + ((b.toNat : Int) - 48)) : rdGo n (b :: l) = none := by rw [rdGo, if_neg h, if_pos h']
theorem rdGo_step {n : Int} {b : UInt8} {l : List UInt8} (h : ¬ (b.toNat < 48 ∨ 57 < b.toNat)) (h' : ¬ 9999 < 10 * n + ((b.toNat : Int) - 48)) : rdGo n (b :: l) = rdGo (10 * n + ((b.toNat : Int) - 48)) l := by rw [rdGo, if_neg h, if_neg h']
theorem readNumber_any (s : ByteArray) (w : World) (hs : s.size ≤ 9223372036854775807) :
 Calls Tryz.prog 125 #[.string s, .int .i64 9999] w fun e w' => e = .returned (optV (rdNum s)) ∧ w = w' := by
 have hem := empty_iff s;by_cases hz : s.size = 0
 ·have hr : rdNum s = none := by rw [rdNum, if_pos hz]
  rw [decide_eq_true hz] at hem;rw [hr];go_enter Tryz.func125, Tryz.ntmps125
  go_wp2
  go_ret2
  exact ⟨rfl, rfl⟩
 rw [decide_eq_false hz] at hem;have hpos : 0 < s.size := by omega
 obtain ⟨b0, hb0⟩ : ∃ b : Nat, (s[0]'hpos).toNat = b := ⟨_, rfl⟩;have hhd : (s.data.toList.headD 0).toNat = b0 := by rw [head_byte s hpos]; exact hb0
 have hb0' : b0 < 256 := by rw [← hb0]; exact UInt8.toNat_lt _
 have hpi : (0 : Int) < (s.size : Int) := by omega
 by_cases hlead : b0 = 48 ∧ 1 < s.size
 ·have hr : rdNum s = none := by rw [rdNum, if_neg hz, if_pos (by rw [hhd]; exact hlead)]
  rw [hr];obtain ⟨rfl, h1⟩ := hlead;have h1B : decide ((1 : Int) < (s.size : Int)) = true := by simp; omega
  clear hhd;go_enter Tryz.func125, Tryz.ntmps125
  go_wp2
  go_ret2
  exact ⟨rfl, rfl⟩
 have hr : rdNum s = rdGo 0 s.data.toList := by rw [rdNum, if_neg hz, if_neg (by rw [hhd]; exact hlead)]
 have HR := hide hr;clear hr hhd;have hT : (((b0 : Int) == 48) && decide ((1 : Int) < (s.size : Int))) = false := by
  rw [Bool.and_eq_false_iff];by_cases h : b0 = 48
  ·right; simp; omega
  ·left; simp; omega
 have hlead' : ((b0 : Int) == 48) = false ∨ (((b0 : Int) == 48) = true ∧ decide ((1 : Int) < (s.size : Int)) = false) := by
  rcases h1 : ((b0 : Int) == 48)
  ·left; rfl
  ·right; rw [h1] at hT; exact ⟨rfl, by simpa using hT⟩
 clear hT hlead;rcases hlead' with h1 | ⟨h1, h2⟩;all_goals
  go_enter Tryz.func125, Tryz.ntmps125;go_wp2_with fail
  clear hb0
  go_loop [6, 7] (fun n i => ∃ (k : Nat) (a : Int), k ≤ s.size ∧ i = .int .i64 k ∧ n = .int .i64 a ∧ 0 ≤ a ∧ a ≤ 9999 ∧ rdGo 0 s.data.toList = rdGo a (s.data.toList.drop k)) (fun _ i => s.size - (intOf i).toNat)
  case atStart => exact ⟨0, 0, Nat.zero_le _, rfl, rfl, by omega, by omega, rfl⟩
  case round =>
   obtain ⟨k, a, hk, rfl, rfl, ha0, ha1, hgo⟩ := hrel;have HG := hide hgo;clear hgo;by_cases hlt : k < s.size
   ·have HD := hide (drop_byte s k hlt)
    obtain ⟨u, hu⟩ : ∃ u, s[k]'hlt = u := ⟨_, rfl⟩;rw [hu] at HD;obtain ⟨b, hb⟩ : ∃ b : Nat, u.toNat = b := ⟨_, rfl⟩;have hb' : b < 256 := by rw [← hb]; exact UInt8.toNat_lt _
    have hki : (k : Int) < (s.size : Int) := by omega
    have hk0 : (0 : Int) ≤ (k : Int) := by omega
    by_cases hlo : b < 48
    ·have hloB : decide ((b : Int) < 48) = true := by simp; omega
     have HF := hide (show optV (rdNum s) = optV none by rw [HR.out, HG.out, HD.out, rdGo_none (by rw [hb]; exact .inl hlo)]);go_wp2_with fail
     go_ret2
     exact ⟨by rw [HF.out]; rfl, rfl⟩
    have hloB : decide ((b : Int) < 48) = false := by simp; omega
    by_cases hhi : 57 < b
    ·have hhiB : decide ((57 : Int) < (b : Int)) = true := by simp; omega
     have HF := hide (show optV (rdNum s) = optV none by rw [HR.out, HG.out, HD.out, rdGo_none (by rw [hb]; exact .inr hhi)]);go_wp2_with fail
     go_ret2
     exact ⟨by rw [HF.out]; rfl, rfl⟩
    have hhiB : decide ((57 : Int) < (b : Int)) = false := by simp; omega
    by_cases hbg : 9999 < 10 * a + ((b : Int) - 48)
    ·have hbgB : decide (9999 < 10 * a + ((b : Int) - 48)) = true := by simp; omega
     have HF := hide (show optV (rdNum s) = optV none by rw [HR.out, HG.out, HD.out, rdGo_big (by rw [hb]; omega) (by rw [hb]; exact hbg)]);go_wp2_with fail
     go_ret2
     exact ⟨by rw [HF.out]; rfl, rfl⟩
    have hbgB : decide (9999 < 10 * a + ((b : Int) - 48)) = false := by simp; omega
    have HF := hide (show rdGo 0 s.data.toList = rdGo (10 * a + ((b : Int) - 48)) (s.data.toList.drop (k + 1)) by rw [HG.out, HD.out, rdGo_step (by rw [hb]; omega) (by rw [hb]; exact hbg), hb]);go_wp2_with fail
    go_round
    case rel => exact ⟨k + 1, 10 * a + ((b : Int) - 48), by omega, by go_num, rfl, by omega, by omega, HF.out⟩
    case measure => simp [intOf]; omega
   ·have hkn : k = s.size := by omega
    have HF := hide (show optV (rdNum s) = optV (some a) by rw [HR.out, HG.out, hkn, List.drop_of_length_le (Nat.le_of_eq (size_len s)), rdGo]);go_wp2_with fail
    go_ret2
    exact ⟨by rw [HF.out]; rfl, rfl⟩
def lrGo : Int → List UInt8 → Option Int
 | n, [] => some n
 | n, b :: l => if b.toNat < 48 ∨ 57 < b.toNat then none else lrGo (10 * n + ((b.toNat : Int) - 48)) l
def lrNum (s : ByteArray) : Int :=
 if s.size < 1 ∨ 4 < s.size then -1 else if (s.data.toList.headD 0).toNat = 48 ∧ 1 < s.size then -1 else (lrGo 0 s.data.toList).getD (-1)
theorem lrGo_none {n : Int} {b : UInt8} {l : List UInt8} (h : b.toNat < 48 ∨ 57 < b.toNat) : lrGo n (b :: l) = none := by rw [lrGo, if_pos h]
theorem lrGo_step {n : Int} {b : UInt8} {l : List UInt8} (h : ¬ (b.toNat < 48 ∨ 57 < b.toNat)) : lrGo n (b :: l) = lrGo (10 * n + ((b.toNat : Int) - 48)) l := by rw [lrGo, if_neg h]
theorem l1Read_any (s : ByteArray) (w : World) (hs : s.size ≤ 9223372036854775807) :
 Calls Tryz.prog 142 #[.string s] w fun e w' => e = .returned (.int .i64 (lrNum s)) ∧ w = w' := by
 have hI := fun w => l1In_any (s.size : Int) 1 4 w;by_cases hz : s.size < 1 ∨ 4 < s.size
 ·have hr : lrNum s = -1 := by rw [lrNum, if_pos hz]
  have e : wi (s.size : Int) 1 4 = false := by simp [wi]; omega
  rw [e] at hI;rw [hr];clear hz;go_enter Tryz.func142, Tryz.ntmps142;go_wp2_with fail
  refine (hI _).mono ?_;rintro e w1 ⟨rfl, rfl⟩;go_wp2_with fail
  go_ret;exact ⟨rfl, rfl⟩
 have e : wi (s.size : Int) 1 4 = true := by simp [wi]; omega
 rw [e] at hI;clear e;have hpos : 0 < s.size := by omega
 have h4 : s.size ≤ 4 := by omega
 have hpi : (0 : Int) < (s.size : Int) := by omega
 obtain ⟨b0, hb0⟩ : ∃ b : Nat, (s[0]'hpos).toNat = b := ⟨_, rfl⟩;have hhd : (s.data.toList.headD 0).toNat = b0 := by rw [head_byte s hpos]; exact hb0
 have hb0' : b0 < 256 := by rw [← hb0]; exact UInt8.toNat_lt _
 by_cases hlead : b0 = 48 ∧ 1 < s.size
 ·have hr : lrNum s = -1 := by rw [lrNum, if_neg hz, if_pos (by rw [hhd]; exact hlead)]
  rw [hr];obtain ⟨rfl, h1⟩ := hlead;have h1B : decide ((1 : Int) < (s.size : Int)) = true := by simp; omega
  clear hhd hz;go_enter Tryz.func142, Tryz.ntmps142;go_wp2_with fail
  refine (hI _).mono ?_;rintro e w1 ⟨rfl, rfl⟩;go_wp2_with fail
  go_ret;exact ⟨rfl, rfl⟩
 have hr : lrNum s = (lrGo 0 s.data.toList).getD (-1) := by rw [lrNum, if_neg hz, if_neg (by rw [hhd]; exact hlead)]
 have HR := hide hr;clear hr hhd hz;have hlead' : decide ((1 : Int) < (s.size : Int)) = false ∨ (decide ((1 : Int) < (s.size : Int)) = true ∧ ((b0 : Int) == 48) = false) := by
  by_cases h1 : 1 < s.size
  ·right; exact ⟨by simp; omega, by simp; omega⟩
  ·left; simp; omega
 clear hlead;rcases hlead' with h1 | ⟨h1, h2⟩;all_goals
  go_enter Tryz.func142, Tryz.ntmps142;go_wp2_with fail
  refine (hI _).mono ?_;rintro e w1 ⟨rfl, rfl⟩;go_wp2_with fail
  clear hb0
  go_loop [3, 4] (fun n i => ∃ (k : Nat) (a : Int), k ≤ s.size ∧ i = .int .i64 k ∧ n = .int .i64 a ∧ 0 ≤ a ∧ a < 10 ^ k ∧ lrGo 0 s.data.toList = lrGo a (s.data.toList.drop k)) (fun _ i => s.size - (intOf i).toNat)
  case atStart => exact ⟨0, 0, Nat.zero_le _, rfl, rfl, by omega, by simp, rfl⟩
  case round =>
   obtain ⟨k, a, hk, rfl, rfl, ha0, ha1, hgo⟩ := hrel;have HG := hide hgo;clear hgo;have ha9 : a ≤ 9999 := by
    have : k = 0 ∨ k = 1 ∨ k = 2 ∨ k = 3 ∨ k = 4 := by omega
    rcases this with rfl | rfl | rfl | rfl | rfl <;> omega
   have HP := hide ha1;clear ha1;by_cases hlt : k < s.size
   ·have HD := hide (drop_byte s k hlt)
    obtain ⟨u, hu⟩ : ∃ u, s[k]'hlt = u := ⟨_, rfl⟩;rw [hu] at HD;obtain ⟨b, hb⟩ : ∃ b : Nat, u.toNat = b := ⟨_, rfl⟩;have hb' : b < 256 := by rw [← hb]; exact UInt8.toNat_lt _
    have hki : (k : Int) < (s.size : Int) := by omega
    have hk0 : (0 : Int) ≤ (k : Int) := by omega
    by_cases hlo : b < 48
    ·have hloB : decide ((b : Int) < 48) = true := by simp; omega
     have HF := hide (show lrNum s = -1 by rw [HR.out, HG.out, HD.out, lrGo_none (by rw [hb]; exact .inl hlo)]; rfl);go_wp2_with fail
     go_ret;exact ⟨by rw [HF.out]; rfl, rfl⟩
    have hloB : decide ((b : Int) < 48) = false := by simp; omega
    by_cases hhi : 57 < b
    ·have hhiB : decide ((57 : Int) < (b : Int)) = true := by simp; omega
     have HF := hide (show lrNum s = -1 by rw [HR.out, HG.out, HD.out, lrGo_none (by rw [hb]; exact .inr hhi)]; rfl);go_wp2_with fail
     go_ret;exact ⟨by rw [HF.out]; rfl, rfl⟩
    have hhiB : decide ((57 : Int) < (b : Int)) = false := by simp; omega
    have HF := hide (show lrGo 0 s.data.toList = lrGo (10 * a + ((b : Int) - 48)) (s.data.toList.drop (k + 1)) by rw [HG.out, HD.out, lrGo_step (by rw [hb]; omega), hb]);have HQ := hide (show 10 * a + ((b : Int) - 48) < 10 ^ (k + 1) by have := HP.out; rw [Int.pow_succ]; omega);go_wp2_with fail
    go_round
    case rel => exact ⟨k + 1, 10 * a + ((b : Int) - 48), by omega, by go_num, rfl, by omega, HQ.out, HF.out⟩
    case measure => simp [intOf]; omega
   ·have hkn : k = s.size := by omega
    have HF := hide (show lrNum s = a by rw [HR.out, HG.out, hkn, List.drop_of_length_le (Nat.le_of_eq (size_len s)), lrGo]; rfl);go_wp2_with fail
    go_ret;exact ⟨by rw [HF.out]; rfl, rfl⟩
theorem ix0 (w : World) : (Instr.index 102 (.agg #[.string (nameB 0), .string (nameB 1), .string (nameB 2), .string (nameB 3), .string (nameB 4)]) (.int .i64 0)).run Tryz.prog w = .ok (.string (nameB 0)) w := by kernel_rfl
theorem ix1 (w : World) : (Instr.index 102 (.agg #[.string (nameB 0), .string (nameB 1), .string (nameB 2), .string (nameB 3), .string (nameB 4)]) (.int .i64 1)).run Tryz.prog w = .ok (.string (nameB 1)) w := by kernel_rfl
theorem ix2 (w : World) : (Instr.index 102 (.agg #[.string (nameB 0), .string (nameB 1), .string (nameB 2), .string (nameB 3), .string (nameB 4)]) (.int .i64 2)).run Tryz.prog w = .ok (.string (nameB 2)) w := by kernel_rfl
theorem ix3 (w : World) : (Instr.index 102 (.agg #[.string (nameB 0), .string (nameB 1), .string (nameB 2), .string (nameB 3), .string (nameB 4)]) (.int .i64 3)).run Tryz.prog w = .ok (.string (nameB 3)) w := by kernel_rfl
theorem ix4 (w : World) : (Instr.index 102 (.agg #[.string (nameB 0), .string (nameB 1), .string (nameB 2), .string (nameB 3), .string (nameB 4)]) (.int .i64 4)).run Tryz.prog w = .ok (.string (nameB 4)) w := by kernel_rfl
theorem kindNamed_any (s : ByteArray) (w : World) (hna : NamesIs w) :
 Calls Tryz.prog 137 #[.string s] w fun e w' => e = .returned (.int .i64 (kindB s)) ∧ w = w' := by
 have c0 := hna.cell 0 (by omega);have c1 := hna.cell 1 (by omega);have c2 := hna.cell 2 (by omega);have c3 := hna.cell 3 (by omega);have c4 := hna.cell 4 (by omega);go_enter Tryz.func137, Tryz.ntmps137;go_wp2_with fail
 go_loop [3, 4, 6] (fun _ _ i => ∃ k : Nat, k ≤ 5 ∧ i = .int .i64 k ∧ ∀ j, j < k → s ≠ nameB j) (fun _ _ i => 5 - (intOf i).toNat)
 case atStart => exact ⟨0, by omega, rfl, fun _ h => absurd h (Nat.not_lt_zero _)⟩
 case round =>
  obtain ⟨k, hk, rfl, hall⟩ := hrel;have HA := hide hall;clear hall;by_cases h5 : k = 5
  ·subst h5
   have h0 : s ≠ nameB 0 := HA.out 0 (by omega);have h1 : s ≠ nameB 1 := HA.out 1 (by omega);have h2 : s ≠ nameB 2 := HA.out 2 (by omega);have h3 : s ≠ nameB 3 := HA.out 3 (by omega);have h4 : s ≠ nameB 4 := HA.out 4 (by omega);have HF := hide (show kindB s = -1 by rw [kindB, if_neg h0, if_neg h1, if_neg h2, if_neg h3, if_neg h4]);clear h0 h1 h2 h3 h4;go_wp2_with fail
   go_ret;exact ⟨by rw [HF.out]; rfl, rfl⟩
  ·have hk4 : k = 0 ∨ k = 1 ∨ k = 2 ∨ k = 3 ∨ k = 4 := by omega
   clear h5;have HQ : s = nameB k ∨ s ≠ nameB k := Classical.em _;rcases hk4 with rfl | rfl | rfl | rfl | rfl
   ·have hix := fun w => ix0 w
    rcases (show s = nameB 0 ∨ s ≠ nameB 0 from HQ) with hq | hq
    ·skip
     have HF := hide (show kindB s = 0 by rw [kindB, if_pos hq]);have hq1 : ((nameB 0).toList == s.toList) = true := by rw [beqL]; exact decide_eq_true hq.symm
     clear hq HQ
     set_option maxRecDepth 10000 in
     go_wp2_with fail
     go_ret;exact ⟨by rw [HF.out]; rfl, rfl⟩
    ·have hq1 : ((nameB 0).toList == s.toList) = false := by rw [beqL]; exact decide_eq_false (fun e => hq e.symm)
     have HN := hide (show ∀ j : Nat, j < 1 → s ≠ nameB j from fun j hj => by
      rcases Nat.lt_or_ge j 0 with h | h
      ·exact HA.out j h
      ·obtain rfl : j = 0 := by omega
       exact hq)
     clear hq HQ
     set_option maxRecDepth 10000 in
     go_wp2_with fail
     go_round
     case rel => exact ⟨1, by omega, by go_num, HN.out⟩
     case measure => simp [intOf]
   ·have hix := fun w => ix1 w
    rcases (show s = nameB 1 ∨ s ≠ nameB 1 from HQ) with hq | hq
    ·have h0 : s ≠ nameB 0 := HA.out 0 (by omega)
     have HF := hide (show kindB s = 1 by rw [kindB, if_neg h0, if_pos hq]);have hq1 : ((nameB 1).toList == s.toList) = true := by rw [beqL]; exact decide_eq_true hq.symm
     clear hq HQ h0
     set_option maxRecDepth 10000 in
     go_wp2_with fail
     go_ret;exact ⟨by rw [HF.out]; rfl, rfl⟩
    ·have hq1 : ((nameB 1).toList == s.toList) = false := by rw [beqL]; exact decide_eq_false (fun e => hq e.symm)
     have HN := hide (show ∀ j : Nat, j < 2 → s ≠ nameB j from fun j hj => by
      rcases Nat.lt_or_ge j 1 with h | h
      ·exact HA.out j h
      ·obtain rfl : j = 1 := by omega
       exact hq)
     clear hq HQ
     set_option maxRecDepth 10000 in
     go_wp2_with fail
     go_round
     case rel => exact ⟨2, by omega, by go_num, HN.out⟩
     case measure => simp [intOf]
   ·have hix := fun w => ix2 w
    rcases (show s = nameB 2 ∨ s ≠ nameB 2 from HQ) with hq | hq
    ·have h0 : s ≠ nameB 0 := HA.out 0 (by omega)
     have h1 : s ≠ nameB 1 := HA.out 1 (by omega);have HF := hide (show kindB s = 2 by rw [kindB, if_neg h0, if_neg h1, if_pos hq]);have hq1 : ((nameB 2).toList == s.toList) = true := by rw [beqL]; exact decide_eq_true hq.symm
     clear hq HQ h0 h1
     set_option maxRecDepth 10000 in
     go_wp2_with fail
     go_ret;exact ⟨by rw [HF.out]; rfl, rfl⟩
    ·have hq1 : ((nameB 2).toList == s.toList) = false := by rw [beqL]; exact decide_eq_false (fun e => hq e.symm)
     have HN := hide (show ∀ j : Nat, j < 3 → s ≠ nameB j from fun j hj => by
      rcases Nat.lt_or_ge j 2 with h | h
      ·exact HA.out j h
      ·obtain rfl : j = 2 := by omega
       exact hq)
     clear hq HQ
     set_option maxRecDepth 10000 in
     go_wp2_with fail
     go_round
     case rel => exact ⟨3, by omega, by go_num, HN.out⟩
     case measure => simp [intOf]
   ·have hix := fun w => ix3 w
    rcases (show s = nameB 3 ∨ s ≠ nameB 3 from HQ) with hq | hq
    ·have h0 : s ≠ nameB 0 := HA.out 0 (by omega)
     have h1 : s ≠ nameB 1 := HA.out 1 (by omega);have h2 : s ≠ nameB 2 := HA.out 2 (by omega);have HF := hide (show kindB s = 3 by rw [kindB, if_neg h0, if_neg h1, if_neg h2, if_pos hq]);have hq1 : ((nameB 3).toList == s.toList) = true := by rw [beqL]; exact decide_eq_true hq.symm
     clear hq HQ h0 h1 h2
     set_option maxRecDepth 10000 in
     go_wp2_with fail
     go_ret;exact ⟨by rw [HF.out]; rfl, rfl⟩
    ·have hq1 : ((nameB 3).toList == s.toList) = false := by rw [beqL]; exact decide_eq_false (fun e => hq e.symm)
     have HN := hide (show ∀ j : Nat, j < 4 → s ≠ nameB j from fun j hj => by
      rcases Nat.lt_or_ge j 3 with h | h
      ·exact HA.out j h
      ·obtain rfl : j = 3 := by omega
       exact hq)
     clear hq HQ
     set_option maxRecDepth 10000 in
     go_wp2_with fail
     go_round
     case rel => exact ⟨4, by omega, by go_num, HN.out⟩
     case measure => simp [intOf]
   ·have hix := fun w => ix4 w
    rcases (show s = nameB 4 ∨ s ≠ nameB 4 from HQ) with hq | hq
    ·have h0 : s ≠ nameB 0 := HA.out 0 (by omega)
     have h1 : s ≠ nameB 1 := HA.out 1 (by omega);have h2 : s ≠ nameB 2 := HA.out 2 (by omega);have h3 : s ≠ nameB 3 := HA.out 3 (by omega);have HF := hide (show kindB s = 4 by rw [kindB, if_neg h0, if_neg h1, if_neg h2, if_neg h3, if_pos hq]);have hq1 : ((nameB 4).toList == s.toList) = true := by rw [beqL]; exact decide_eq_true hq.symm
     clear hq HQ h0 h1 h2 h3
     set_option maxRecDepth 10000 in
     go_wp2_with fail
     go_ret;exact ⟨by rw [HF.out]; rfl, rfl⟩
    ·have hq1 : ((nameB 4).toList == s.toList) = false := by rw [beqL]; exact decide_eq_false (fun e => hq e.symm)
     have HN := hide (show ∀ j : Nat, j < 5 → s ≠ nameB j from fun j hj => by
      rcases Nat.lt_or_ge j 4 with h | h
      ·exact HA.out j h
      ·obtain rfl : j = 4 := by omega
       exact hq)
     clear hq HQ
     set_option maxRecDepth 10000 in
     go_wp2_with fail
     go_round
     case rel => exact ⟨5, by omega, by go_num, HN.out⟩
     case measure => simp [intOf]
end Go.Proofs.YtmemgbklgcjobaaGreatDoor
