/-
  Parts of the proofs over mills, of: MixA. Conditions: each theorem states its own.
-/
import Derived.Test.YtkhecelpafojdaaGreatDoorF10
import Derived.Test.YtkhecelpafojdaaGreatDoorF11
set_option linter.unusedSimpArgs false
set_option linter.unusedVariables false
set_option maxRecDepth 10000
set_option maxHeartbeats 64000000
namespace Go.Proofs.YtkhecelpafojdaaGreatDoor
open Go.RowKit
theorem mixK_at {sts : List St} {mix : List Int} {k : Nat} (h : wi (mix.getD k 0) 0 (sts.getD k st0).k = false) (hk : k < mix.length) : eT sts mix = false := by
 simp only [eT, upTo_false hk (show mixK sts mix k = false from h), Bool.and_false]
theorem mixB_yes {sts : List St} {mix : List Int} (h1 : dY sts = true) (h2 : mix.length = sts.length) (h3 : ∀ k, k < mix.length → mixK sts mix k = true) : eT sts mix = true := by
 have h4 : upTo mix.length (mixK sts mix) = true := upTo_true h3;unfold eT;rw [h1, h4, h2]; simp
theorem mixB_len {sts : List St} {mix : List Int} (h : mix.length ≠ sts.length) : eT sts mix = false := by simp [eT, h]
theorem mixv_impl (sv mv : Value) (sts : List St) (mix : List Int) (w : World) (Hs : bW 0 w.heap.size w sv sts) (Hm : au 0 w.heap.size w mv mix) :
 Calls Tryz.prog 139 #[sv, mv] w fun e w' => e = .returned (.bool (eT sts mix)) ∧ Below w.heap.size w w' := by
 have HS := hide Hs;have HM := hide Hm;have hl1 := Hs.len;have hl2 := Hm.len;obtain ⟨ao1, cap1, rfl, -, -, -, -⟩ := Hs;obtain ⟨ao2, cap2, rfl, -, -, -, -⟩ := Hm;have k1 := stsv_impl (.slice ao1 sts.length cap1) sts _ _ w HS.out;cases c1 : dY sts with
 | false =>
  rw [c1] at k1;have HF := hide (show eT sts mix = false by simp [eT, c1]);clear c1;go_enter Tryz.func139, Tryz.ntmps139;go_wp2_with fail
  refine k1.mono ?_;rintro e w1 ⟨rfl, hb⟩;have HB := hide hb;clear hb k1;go_wp2_with fail
  go_ret;exact ⟨by rw [HF.out]; rfl, HB.out⟩
 | true =>
  rw [c1] at k1;have KC := hide c1;clear c1;by_cases hl : mix.length = sts.length
  ·have hlB : ((mix.length : Int) != (sts.length : Int)) = false := by simp [hl]
   have hlo : mix.length ≤ sts.length := by omega
   have HL := hide hl;clear hl;go_enter Tryz.func139, Tryz.ntmps139;go_wp2_with fail
   refine k1.mono ?_;rintro e w1 ⟨rfl, hb⟩;have HB := hide hb;have VS := hide (HS.out.below hb);have VM := hide (HM.out.below hb);clear hb k1;go_wp2_with fail
   go_loopw [5, 6, 19] (fun _ _ i wr => ∃ k : Nat, k ≤ mix.length ∧ i = .int .i64 k ∧ Below w1.heap.size w1 wr ∧ (∀ j, j < k → mixK sts mix j = true)) (fun _ _ i _ => mix.length - (intOf i).toNat)
   case atStart => exact ⟨0, Nat.zero_le _, rfl, Below.refl _ _, fun _ h => absurd h (Nat.not_lt_zero _)⟩
   case round =>
    obtain ⟨k, hk, rfl, hbr, hall⟩ := hrel;have HBr := hide hbr;have HA := hide hall;have VSr := hide (VS.out.below hbr);have VMr := hide (VM.out.below hbr);clear hbr hall;by_cases hlt : k < mix.length
    ·obtain ⟨b1, o1, _, e1, -, -, r1⟩ := jD VSr.out (show k < sts.length by omega)
     obtain ⟨b2, o2, _, e2, -, -, r2, -⟩ := ints_at VMr.out hlt;simp only [Value.slice.injEq] at e1 e2;obtain ⟨rfl, -, rfl⟩ := e1;obtain ⟨rfl, -, rfl⟩ := e2;obtain ⟨r10, r11, r12, r13, r14⟩ := r1;have hkI : (k : Int) < (mix.length : Int) := by omega
     have hkI2 : (k : Int) < (sts.length : Int) := by omega
     have HK := hide (show mixK sts mix k = wi (mix.getD k 0) 0 (sts.getD k st0).k from rfl);obtain ⟨x, hx⟩ : ∃ x, mix.getD k 0 = x := ⟨_, rfl⟩;obtain ⟨y, hy⟩ : ∃ y, (sts.getD k st0).k = y := ⟨_, rfl⟩;have HX := hide hx;have HY := hide hy;rw [hx] at r2 HK;rw [hy] at r14 HK;clear hx hy;have kk := aU x 0 y;cases c2 : wi x 0 y with
     | false =>
      rw [c2] at kk;have HF := hide (show eT sts mix = false from mixK_at (k := k) (by rw [HX.out, HY.out]; exact c2) hlt);clear c2;go_wp2_with fail
      refine (kk _).mono ?_;rintro e wq ⟨rfl, rfl⟩;clear kk;go_wp2_with fail
      go_ret;exact ⟨by rw [HF.out]; rfl, Below.step HB.out HBr.out nl⟩
     | true =>
      rw [c2] at kk;rw [c2] at HK;clear c2;go_wp2_with fail
      refine (kk _).mono ?_;rintro e wq ⟨rfl, rfl⟩;clear kk;go_wp2_with fail
      go_roundw
      case rel => exact ⟨k + 1, by omega, by go_num, HBr.out, dn HA.out HK.out⟩
      case measure => simp [intOf]; omega
    ·obtain rfl : k = mix.length := by omega
     have HF := hide (show eT sts mix = true from mixB_yes KC.out HL.out HA.out);go_wp2_with fail
     go_ret;exact ⟨by rw [HF.out]; rfl, Below.step HB.out HBr.out nl⟩
  ·have hlB : ((mix.length : Int) != (sts.length : Int)) = true := by simp; omega
   have HF := hide (mixB_len hl);clear hl;go_enter Tryz.func139, Tryz.ntmps139;go_wp2_with fail
   refine k1.mono ?_;rintro e w1 ⟨rfl, hb⟩;have HB := hide hb;clear hb k1;go_wp2_with fail
   go_ret;exact ⟨by rw [HF.out]; rfl, HB.out⟩
theorem mixv_spec (sv mv : Value) (sts : List St) (mix : List Int) (w : World) (Hs : bW 0 w.heap.size w sv sts) (Hm : au 0 w.heap.size w mv mix) :
 Calls Tryz.prog 133 #[sv, mv] w fun e w' => e = .returned (.bool (eT sts mix)) ∧ Below w.heap.size w w' := by
 have HS := hide Hs;have HM := hide Hm;have hl1 := Hs.len;have hl2 := Hm.len;obtain ⟨ao1, cap1, rfl, -, -, -, -⟩ := Hs;obtain ⟨ao2, cap2, rfl, -, -, -, -⟩ := Hm;have k1 := stsv_spec (.slice ao1 sts.length cap1) sts _ _ w HS.out;cases c1 : dY sts with
 | false =>
  rw [c1] at k1;have HF := hide (show eT sts mix = false by simp [eT, c1]);clear c1;go_enter Tryz.func133, Tryz.ntmps133;go_wp2_with fail
  refine k1.mono ?_;rintro e w1 ⟨rfl, hb⟩;have HB := hide hb;clear hb k1;go_wp2_with fail
  go_ret;exact ⟨by rw [HF.out]; rfl, HB.out⟩
 | true =>
  rw [c1] at k1;have KC := hide c1;clear c1;by_cases hl : mix.length = sts.length
  ·have hlB : ((mix.length : Int) != (sts.length : Int)) = false := by simp [hl]
   have hlo : mix.length ≤ sts.length := by omega
   have HL := hide hl;clear hl;go_enter Tryz.func133, Tryz.ntmps133;go_wp2_with fail
   refine k1.mono ?_;rintro e w1 ⟨rfl, hb⟩;have HB := hide hb;have VS := hide (HS.out.below hb);have VM := hide (HM.out.below hb);clear hb k1;go_wp2_with fail
   go_loopw [5] (fun i wr => ∃ k : Nat, k ≤ mix.length ∧ i = .int .i64 k ∧ Below w1.heap.size w1 wr ∧ (∀ j, j < k → mixK sts mix j = true)) (fun i _ => mix.length - (intOf i).toNat)
   case atStart => exact ⟨0, Nat.zero_le _, rfl, Below.refl _ _, fun _ h => absurd h (Nat.not_lt_zero _)⟩
   case round =>
    obtain ⟨k, hk, rfl, hbr, hall⟩ := hrel;have HBr := hide hbr;have HA := hide hall;have VSr := hide (VS.out.below hbr);have VMr := hide (VM.out.below hbr);clear hbr hall;by_cases hlt : k < mix.length
    ·obtain ⟨b1, o1, _, e1, -, -, r1⟩ := jD VSr.out (show k < sts.length by omega)
     obtain ⟨b2, o2, _, e2, -, -, r2, -⟩ := ints_at VMr.out hlt;simp only [Value.slice.injEq] at e1 e2;obtain ⟨rfl, -, rfl⟩ := e1;obtain ⟨rfl, -, rfl⟩ := e2;obtain ⟨r10, r11, r12, r13, r14⟩ := r1;have hkI : (k : Int) < (mix.length : Int) := by omega
     have hkI2 : (k : Int) < (sts.length : Int) := by omega
     have HK := hide (show mixK sts mix k = wi (mix.getD k 0) 0 (sts.getD k st0).k from rfl);obtain ⟨x, hx⟩ : ∃ x, mix.getD k 0 = x := ⟨_, rfl⟩;obtain ⟨y, hy⟩ : ∃ y, (sts.getD k st0).k = y := ⟨_, rfl⟩;have HX := hide hx;have HY := hide hy;rw [hx] at r2 HK;rw [hy] at r14 HK;clear hx hy;have kk := aY x 0 y;cases c2 : wi x 0 y with
     | false =>
      rw [c2] at kk;have HF := hide (show eT sts mix = false from mixK_at (k := k) (by rw [HX.out, HY.out]; exact c2) hlt);clear c2;have KK := hide kk;clear kk;go_wp2_with fail
      go_quiet ((go_at_call 42; exact bL (KK.out _)))
      go_wp2_with fail
      go_ret;exact ⟨by rw [HF.out]; rfl, Below.step HB.out (below_drewN HBr.out _) nl⟩
     | true =>
      rw [c2] at kk;rw [c2] at HK;clear c2;have KK := hide kk;clear kk;go_wp2_with fail
      go_quiet ((go_at_call 42; exact bL (KK.out _)))
      go_wp2_with fail
      go_roundw
      case rel => exact ⟨k + 1, by omega, by go_num, (below_drewN HBr.out _), dn HA.out HK.out⟩
      case measure => simp [intOf]; omega
    ·obtain rfl : k = mix.length := by omega
     have HF := hide (show eT sts mix = true from mixB_yes KC.out HL.out HA.out);go_wp2_with fail
     go_ret;exact ⟨by rw [HF.out]; rfl, Below.step HB.out HBr.out nl⟩
  ·have hlB : ((mix.length : Int) != (sts.length : Int)) = true := by simp; omega
   have HF := hide (mixB_len hl);clear hl;go_enter Tryz.func133, Tryz.ntmps133;go_wp2_with fail
   refine k1.mono ?_;rintro e w1 ⟨rfl, hb⟩;have HB := hide hb;clear hb k1;go_wp2_with fail
   go_ret;exact ⟨by rw [HF.out]; rfl, HB.out⟩
theorem sumTo_60 {mix : List Int} (hb : ∀ k, k < mix.length → 0 ≤ mix.getD k 0 ∧ mix.getD k 0 ≤ 60) : ∀ k, k ≤ mix.length → 0 ≤ sumTo mix k ∧ sumTo mix k ≤ 60 * k
 | 0, _ => by simp [sumTo]
 | k + 1, hk => by
  have := sumTo_60 hb k (by omega);have := hb k (by omega);simp only [sumTo]; omega
theorem tons_impl (mv : Value) (mix : List Int) (lo hi : Nat) (w : World) (H : au lo hi w mv mix) (hl : mix.length ≤ 4) (hb : ∀ k, k < mix.length → 0 ≤ mix.getD k 0 ∧ mix.getD k 0 ≤ 60) :
 Calls Tryz.prog 48 #[mv] w fun e w' => e = .returned (.int .i64 (dV mix)) ∧ w = w' := by
 have HM := hide H;have HB := hide hb;obtain ⟨ao2, cap2, rfl, -, -, -, -⟩ := H;clear hb;go_enter Tryz.func48, Tryz.ntmps48;go_wp2_with fail
 go_loop [3, 5, 8] (fun s _ i => ∃ k : Nat, k ≤ mix.length ∧ i = .int .i64 k ∧ s = .int .i64 (sumTo mix k)) (fun _ _ i => mix.length - (intOf i).toNat)
 case atStart => exact ⟨0, Nat.zero_le _, rfl, rfl⟩
 case round =>
  obtain ⟨k, hk, rfl, rfl⟩ := hrel;have h1 := sumTo_60 HB.out k hk;by_cases hlt : k < mix.length
  ·have h2 := HB.out k hlt
   obtain ⟨b2, o2, _, e2, -, -, r2, -⟩ := ints_at HM.out hlt;simp only [Value.slice.injEq] at e2;obtain ⟨rfl, -, rfl⟩ := e2;have hkI : (k : Int) < (mix.length : Int) := by omega
   have HN := hide (show sumTo mix (k + 1) = sumTo mix k + mix.getD k 0 from rfl);obtain ⟨x, hx⟩ : ∃ x, mix.getD k 0 = x := ⟨_, rfl⟩;obtain ⟨S, hS⟩ : ∃ S, sumTo mix k = S := ⟨_, rfl⟩;rw [hx] at r2 HN h2;rw [hS] at HN h1 ⊢;clear hx hS;go_wp2_with fail
   go_round
   case rel => exact ⟨k + 1, by omega, by go_num, by rw [HN.out]⟩
   case measure => simp [intOf]; omega
  ·obtain rfl : k = mix.length := by omega
   go_wp2_with fail
   go_ret;exact ⟨rfl, rfl⟩
theorem l1Sum_any (mv : Value) (mix : List Int) (lo hi : Nat) (w : World) (H : au lo hi w mv mix) (hl : mix.length ≤ 4) (hb : ∀ k, k < mix.length → 0 ≤ mix.getD k 0 ∧ mix.getD k 0 ≤ 60) :
 Calls Tryz.prog 134 #[mv] w fun e w' => e = .returned (.int .i64 (dV mix)) ∧ w = w' := by
 have HM := hide H;have HB := hide hb;obtain ⟨ao2, cap2, rfl, -, -, -, -⟩ := H;clear hb;go_enter Tryz.func134, Tryz.ntmps134;go_wp2_with fail
 go_loop [3, 4] (fun s i => ∃ k : Nat, k ≤ mix.length ∧ i = .int .i64 k ∧ s = .int .i64 (sumTo mix k)) (fun _ i => mix.length - (intOf i).toNat)
 case atStart => exact ⟨0, Nat.zero_le _, rfl, rfl⟩
 case round =>
  obtain ⟨k, hk, rfl, rfl⟩ := hrel;have h1 := sumTo_60 HB.out k hk;by_cases hlt : k < mix.length
  ·have h2 := HB.out k hlt
   obtain ⟨b2, o2, _, e2, -, -, r2, -⟩ := ints_at HM.out hlt;simp only [Value.slice.injEq] at e2;obtain ⟨rfl, -, rfl⟩ := e2;have hkI : (k : Int) < (mix.length : Int) := by omega
   have HN := hide (show sumTo mix (k + 1) = sumTo mix k + mix.getD k 0 from rfl);obtain ⟨x, hx⟩ : ∃ x, mix.getD k 0 = x := ⟨_, rfl⟩;obtain ⟨S, hS⟩ : ∃ S, sumTo mix k = S := ⟨_, rfl⟩;rw [hx] at r2 HN h2;rw [hS] at HN h1 ⊢;clear hx hS;go_wp2_with fail
   go_round
   case rel => exact ⟨k + 1, by omega, by go_num, by rw [HN.out]⟩
   case measure => simp [intOf]; omega
  ·obtain rfl : k = mix.length := by omega
   go_wp2_with fail
   go_ret;exact ⟨rfl, rfl⟩
theorem tons_spec (mv : Value) (mix : List Int) (lo hi : Nat) (w : World) (H : au lo hi w mv mix) (hl : mix.length ≤ 4) (hb : ∀ k, k < mix.length → 0 ≤ mix.getD k 0 ∧ mix.getD k 0 ≤ 60) :
 Calls Tryz.prog 105 #[mv] w fun e w' => e = .returned (.int .i64 (dV mix)) ∧ w = w' := by
 have HK := hide (l1Sum_any mv mix lo hi w H hl hb);clear hb H;go_enter Tryz.func105, Tryz.ntmps105;go_wp2_with fail
 refine HK.out.mono ?_;rintro e w1 ⟨rfl, rfl⟩;go_wp2_with fail
 go_ret;exact ⟨rfl, rfl⟩
theorem cost_impl (sv mv : Value) (sts : List St) (mix : List Int) (w : World) (Hs : bW 0 w.heap.size w sv sts) (Hm : au 0 w.heap.size w mv mix) :
 Calls Tryz.prog 194 #[sv, mv] w fun e w' => e = .returned (.int .i64 (fH sts mix)) ∧ Below w.heap.size w w' := by
 have HS := hide Hs;have HM := hide Hm;have hl1 := Hs.len;have hl2 := Hm.len;obtain ⟨ao1, cap1, rfl, -, -, -, -⟩ := Hs;obtain ⟨ao2, cap2, rfl, -, -, -, -⟩ := Hm;have k1 := mixv_impl (.slice ao1 sts.length cap1) (.slice ao2 mix.length cap2) sts mix w HS.out HM.out;cases c1 : eT sts mix with
 | false =>
  rw [c1] at k1;have HF := hide (show fH sts mix = -1 by simp [fH, c1]);clear c1;go_enter Tryz.func194, Tryz.ntmps194;go_wp2_with fail
  refine k1.mono ?_;rintro e w1 ⟨rfl, hb⟩;have HB := hide hb;clear hb k1;go_wp2_with fail
  go_ret;exact ⟨by rw [HF.out]; rfl, HB.out⟩
 | true =>
  rw [c1] at k1;have KC := hide c1;have hl4 := jM c1;obtain ⟨hvs, hlen, -⟩ := dF c1;have HVS := hide hvs;have hlo : mix.length ≤ sts.length := by omega
  clear c1 hvs hlen;go_enter Tryz.func194, Tryz.ntmps194;go_wp2_with fail
  refine k1.mono ?_;rintro e w1 ⟨rfl, hb⟩;have HB := hide hb;have VS := hide (HS.out.below hb);have VM := hide (HM.out.below hb);clear hb k1;go_wp2_with fail
  go_loopw [5, 6, 7, 14] (fun s _ _ i wr => ∃ k : Nat, k ≤ mix.length ∧ i = .int .i64 k ∧ s = .int .i64 (bI St.p sts mix k) ∧ Below w1.heap.size w1 wr) (fun _ _ _ i _ => mix.length - (intOf i).toNat)
  case atStart => exact ⟨0, Nat.zero_le _, rfl, rfl, Below.refl _ _⟩
  case round =>
   obtain ⟨k, hk, rfl, rfl, hbr⟩ := hrel;have HBr := hide hbr;have VSr := hide (VS.out.below hbr);have VMr := hide (VM.out.below hbr);clear hbr;by_cases hlt : k < mix.length
   ·obtain ⟨b1, o1, _, e1, -, -, r1⟩ := jD VSr.out (show k < sts.length by omega)
    obtain ⟨b2, o2, _, e2, -, -, r2, -⟩ := ints_at VMr.out hlt;simp only [Value.slice.injEq] at e1 e2;obtain ⟨rfl, -, rfl⟩ := e1;obtain ⟨rfl, -, rfl⟩ := e2;obtain ⟨r10, r11, r12, r13, r14⟩ := r1;have hkI : (k : Int) < (mix.length : Int) := by omega
    have hkI2 : (k : Int) < (sts.length : Int) := by omega
    have hx9 := jQ KC.out hlt;have hvs := HVS.out;have hd0 := gq (f := St.p) (fun s h => stB_p9 h) KC.out k hk;have HN0 := hide (show bI St.p sts mix (k + 1) = bI St.p sts mix k + mix.getD k 0 * (sts.getD k st0).p from rfl);have hq0 := stB_p9 (bR hvs (show k < sts.length by omega));have hm0 := jB hx9.1 hx9.2 hq0.1 hq0.2;obtain ⟨y0, hy0⟩ : ∃ y, (sts.getD k st0).p = y := ⟨_, rfl⟩;obtain ⟨S0, hS0⟩ : ∃ S, bI St.p sts mix k = S := ⟨_, rfl⟩;rw [hy0] at r13 HN0 hq0 hm0;rw [hS0] at HN0 hd0 ⊢;obtain ⟨x, hx⟩ : ∃ x, mix.getD k 0 = x := ⟨_, rfl⟩;rw [hx] at r2 hx9 HN0 hm0;have hu0 : IntKind.i64.wrap (x * y0) = x * y0 := IntWalk.i64_in _ (by omega);have hv0 : IntKind.i64.wrap (S0 + x * y0) = S0 + x * y0 := IntWalk.i64_in _ (by omega);clear hx hx9 hvs hy0 hS0 hq0 hm0 hd0;go_wp2_with fail
    go_roundw
    case rel => exact ⟨k + 1, by omega, by go_num, by rw [HN0.out], HBr.out⟩
    case measure => simp [intOf]; omega
   ·obtain rfl : k = mix.length := by omega
    have HF := hide (show fH sts mix = bI St.p sts mix mix.length by simp [fH, KC.out]);go_wp2_with fail
    go_ret;exact ⟨by rw [HF.out]; rfl, Below.step HB.out HBr.out nl⟩
theorem sums_impl (sv mv : Value) (sts : List St) (mix : List Int) (w : World) (Hs : bW 0 w.heap.size w sv sts) (Hm : au 0 w.heap.size w mv mix) :
 Calls Tryz.prog 200 #[sv, mv] w fun e w' => e = .returned (.tuple #[.int .i64 (bS St.c sts mix), .int .i64 (bS St.m sts mix), .int .i64 (bS St.s sts mix)]) ∧ Below w.heap.size w w' := by
 have HS := hide Hs;have HM := hide Hm;have hl1 := Hs.len;have hl2 := Hm.len;obtain ⟨ao1, cap1, rfl, -, -, -, -⟩ := Hs;obtain ⟨ao2, cap2, rfl, -, -, -, -⟩ := Hm;have k1 := mixv_impl (.slice ao1 sts.length cap1) (.slice ao2 mix.length cap2) sts mix w HS.out HM.out;cases c1 : eT sts mix with
 | false =>
  rw [c1] at k1;have HF := hide (show bS St.c sts mix = -1 ∧ bS St.m sts mix = -1 ∧ bS St.s sts mix = -1 by simp [bS, c1]);clear c1;go_enter Tryz.func200, Tryz.ntmps200;go_wp2_with fail
  refine k1.mono ?_;rintro e w1 ⟨rfl, hb⟩;have HB := hide hb;clear hb k1;go_wp2_with fail
  go_ret3
  exact ⟨by rw [HF.out.1, HF.out.2.1, HF.out.2.2]; rfl, HB.out⟩
 | true =>
  rw [c1] at k1;have KC := hide c1;have hl4 := jM c1;obtain ⟨hvs, hlen, -⟩ := dF c1;have HVS := hide hvs;have hlo : mix.length ≤ sts.length := by omega
  clear c1 hvs hlen;go_enter Tryz.func200, Tryz.ntmps200;go_wp2_with fail
  refine k1.mono ?_;rintro e w1 ⟨rfl, hb⟩;have HB := hide hb;have VS := hide (HS.out.below hb);have VM := hide (HM.out.below hb);clear hb k1;go_wp2_with fail
  go_loopw [7, 8, 9, 10, 11, 18] (fun s t u _ _ i wr => ∃ k : Nat, k ≤ mix.length ∧ i = .int .i64 k ∧ s = .int .i64 (bI St.c sts mix k) ∧ t = .int .i64 (bI St.m sts mix k) ∧ u = .int .i64 (bI St.s sts mix k) ∧ Below w1.heap.size w1 wr) (fun _ _ _ _ _ i _ => mix.length - (intOf i).toNat)
  case atStart => exact ⟨0, Nat.zero_le _, rfl, rfl, rfl, rfl, Below.refl _ _⟩
  case round =>
   obtain ⟨k, hk, rfl, rfl, rfl, rfl, hbr⟩ := hrel;have HBr := hide hbr;have VSr := hide (VS.out.below hbr);have VMr := hide (VM.out.below hbr);clear hbr;by_cases hlt : k < mix.length
   ·obtain ⟨b1, o1, _, e1, -, -, r1⟩ := jD VSr.out (show k < sts.length by omega)
    obtain ⟨b2, o2, _, e2, -, -, r2, -⟩ := ints_at VMr.out hlt;simp only [Value.slice.injEq] at e1 e2;obtain ⟨rfl, -, rfl⟩ := e1;obtain ⟨rfl, -, rfl⟩ := e2;obtain ⟨r10, r11, r12, r13, r14⟩ := r1;have hkI : (k : Int) < (mix.length : Int) := by omega
    have hkI2 : (k : Int) < (sts.length : Int) := by omega
    have hx9 := jQ KC.out hlt;have hvs := HVS.out;have hd0 := gq (f := St.c) (fun s h => stB_c h) KC.out k hk;have hd1 := gq (f := St.m) (fun s h => stB_m h) KC.out k hk;have hd2 := gq (f := St.s) (fun s h => stB_s h) KC.out k hk;have HN0 := hide (show bI St.c sts mix (k + 1) = bI St.c sts mix k + mix.getD k 0 * (sts.getD k st0).c from rfl);have hq0 := stB_c (bR hvs (show k < sts.length by omega));have hm0 := jB hx9.1 hx9.2 hq0.1 hq0.2;obtain ⟨y0, hy0⟩ : ∃ y, (sts.getD k st0).c = y := ⟨_, rfl⟩;obtain ⟨S0, hS0⟩ : ∃ S, bI St.c sts mix k = S := ⟨_, rfl⟩;rw [hy0] at r10 HN0 hq0 hm0;rw [hS0] at HN0 hd0 ⊢;have HN1 := hide (show bI St.m sts mix (k + 1) = bI St.m sts mix k + mix.getD k 0 * (sts.getD k st0).m from rfl);have hq1 := stB_m (bR hvs (show k < sts.length by omega));have hm1 := jB hx9.1 hx9.2 hq1.1 hq1.2;obtain ⟨y1, hy1⟩ : ∃ y, (sts.getD k st0).m = y := ⟨_, rfl⟩;obtain ⟨S1, hS1⟩ : ∃ S, bI St.m sts mix k = S := ⟨_, rfl⟩;rw [hy1] at r11 HN1 hq1 hm1;rw [hS1] at HN1 hd1 ⊢;have HN2 := hide (show bI St.s sts mix (k + 1) = bI St.s sts mix k + mix.getD k 0 * (sts.getD k st0).s from rfl);have hq2 := stB_s (bR hvs (show k < sts.length by omega));have hm2 := jB hx9.1 hx9.2 hq2.1 hq2.2;obtain ⟨y2, hy2⟩ : ∃ y, (sts.getD k st0).s = y := ⟨_, rfl⟩;obtain ⟨S2, hS2⟩ : ∃ S, bI St.s sts mix k = S := ⟨_, rfl⟩;rw [hy2] at r12 HN2 hq2 hm2;rw [hS2] at HN2 hd2 ⊢;obtain ⟨x, hx⟩ : ∃ x, mix.getD k 0 = x := ⟨_, rfl⟩;rw [hx] at r2 hx9 HN0 hm0 HN1 hm1 HN2 hm2;have hu0 : IntKind.i64.wrap (x * y0) = x * y0 := IntWalk.i64_in _ (by omega);have hv0 : IntKind.i64.wrap (S0 + x * y0) = S0 + x * y0 := IntWalk.i64_in _ (by omega);have hu1 : IntKind.i64.wrap (x * y1) = x * y1 := IntWalk.i64_in _ (by omega);have hv1 : IntKind.i64.wrap (S1 + x * y1) = S1 + x * y1 := IntWalk.i64_in _ (by omega);have hu2 : IntKind.i64.wrap (x * y2) = x * y2 := IntWalk.i64_in _ (by omega);have hv2 : IntKind.i64.wrap (S2 + x * y2) = S2 + x * y2 := IntWalk.i64_in _ (by omega);clear hx hx9 hvs hy0 hS0 hq0 hm0 hd0 hy1 hS1 hq1 hm1 hd1 hy2 hS2 hq2 hm2 hd2;go_wp2_with fail
    go_roundw
    case rel => exact ⟨k + 1, by omega, by go_num, by rw [HN0.out], by rw [HN1.out], by rw [HN2.out], HBr.out⟩
    case measure => simp [intOf]; omega
   ·obtain rfl : k = mix.length := by omega
    have HF := hide (show bS St.c sts mix = bI St.c sts mix mix.length ∧ bS St.m sts mix = bI St.m sts mix mix.length ∧ bS St.s sts mix = bI St.s sts mix mix.length by simp [bS, KC.out]);go_wp2_with fail
    go_ret3
    exact ⟨by rw [HF.out.1, HF.out.2.1, HF.out.2.2]; rfl, Below.step HB.out HBr.out nl⟩
theorem cost_spec (sv mv : Value) (sts : List St) (mix : List Int) (w : World) (Hs : bW 0 w.heap.size w sv sts) (Hm : au 0 w.heap.size w mv mix) :
 Calls Tryz.prog 149 #[sv, mv] w fun e w' => e = .returned (.int .i64 (fH sts mix)) ∧ Below w.heap.size w w' := by
 have HS := hide Hs;have HM := hide Hm;have hl1 := Hs.len;have hl2 := Hm.len;obtain ⟨ao1, cap1, rfl, -, -, -, -⟩ := Hs;obtain ⟨ao2, cap2, rfl, -, -, -, -⟩ := Hm;have k1 := mixv_spec (.slice ao1 sts.length cap1) (.slice ao2 mix.length cap2) sts mix w HS.out HM.out;cases c1 : eT sts mix with
 | false =>
  rw [c1] at k1;have HF := hide (show fH sts mix = -1 by simp [fH, c1]);clear c1;go_enter Tryz.func149, Tryz.ntmps149;go_wp2_with fail
  refine k1.mono ?_;rintro e w1 ⟨rfl, hb⟩;have HB := hide hb;clear hb k1;go_wp2_with fail
  go_ret;exact ⟨by rw [HF.out]; rfl, HB.out⟩
 | true =>
  rw [c1] at k1;have KC := hide c1;have hl4 := jM c1;obtain ⟨hvs, hlen, -⟩ := dF c1;have HVS := hide hvs;have hlo : mix.length ≤ sts.length := by omega
  clear c1 hvs hlen;go_enter Tryz.func149, Tryz.ntmps149;go_wp2_with fail
  refine k1.mono ?_;rintro e w1 ⟨rfl, hb⟩;have HB := hide hb;have VS := hide (HS.out.below hb);have VM := hide (HM.out.below hb);clear hb k1;go_wp2_with fail
  go_loopw [5, 6] (fun s i wr => ∃ k : Nat, k ≤ mix.length ∧ i = .int .i64 k ∧ s = .int .i64 (bI St.p sts mix k) ∧ Below w1.heap.size w1 wr) (fun _ i _ => mix.length - (intOf i).toNat)
  case atStart => exact ⟨0, Nat.zero_le _, rfl, rfl, Below.refl _ _⟩
  case round =>
   obtain ⟨k, hk, rfl, rfl, hbr⟩ := hrel;have HBr := hide hbr;have VSr := hide (VS.out.below hbr);have VMr := hide (VM.out.below hbr);clear hbr;by_cases hlt : k < mix.length
   ·obtain ⟨b1, o1, _, e1, -, -, r1⟩ := jD VSr.out (show k < sts.length by omega)
    obtain ⟨b2, o2, _, e2, -, -, r2, -⟩ := ints_at VMr.out hlt;simp only [Value.slice.injEq] at e1 e2;obtain ⟨rfl, -, rfl⟩ := e1;obtain ⟨rfl, -, rfl⟩ := e2;obtain ⟨r10, r11, r12, r13, r14⟩ := r1;have hkI : (k : Int) < (mix.length : Int) := by omega
    have hkI2 : (k : Int) < (sts.length : Int) := by omega
    have hx9 := jQ KC.out hlt;have hvs := HVS.out;have hd0 := gq (f := St.p) (fun s h => stB_p9 h) KC.out k hk;have HN0 := hide (show bI St.p sts mix (k + 1) = bI St.p sts mix k + mix.getD k 0 * (sts.getD k st0).p from rfl);have hq0 := stB_p9 (bR hvs (show k < sts.length by omega));have hm0 := jB hx9.1 hx9.2 hq0.1 hq0.2;obtain ⟨y0, hy0⟩ : ∃ y, (sts.getD k st0).p = y := ⟨_, rfl⟩;obtain ⟨S0, hS0⟩ : ∃ S, bI St.p sts mix k = S := ⟨_, rfl⟩;rw [hy0] at r13 HN0 hq0 hm0;rw [hS0] at HN0 hd0 ⊢;obtain ⟨x, hx⟩ : ∃ x, mix.getD k 0 = x := ⟨_, rfl⟩;rw [hx] at r2 hx9 HN0 hm0;have hu0 : IntKind.i64.wrap (x * y0) = x * y0 := IntWalk.i64_in _ (by omega);have hv0 : IntKind.i64.wrap (S0 + x * y0) = S0 + x * y0 := IntWalk.i64_in _ (by omega);clear hx hx9 hvs hy0 hS0 hq0 hm0 hd0;go_wp2_with fail
    go_quiet (fail)
    go_wp2_with fail
    go_roundw
    case rel => exact ⟨k + 1, by omega, by go_num, by rw [HN0.out], (by have h := HBr.out; first | exact below_drewN h _ | exact below_drewN (below_drewN h _) _ | exact below_drewN (below_drewN (below_drewN h _) _) _)⟩
    case measure => simp [intOf]; omega
   ·obtain rfl : k = mix.length := by omega
    have HF := hide (show fH sts mix = bI St.p sts mix mix.length by simp [fH, KC.out]);go_wp2_with fail
    go_ret;exact ⟨by rw [HF.out]; rfl, Below.step HB.out HBr.out nl⟩
theorem sums_spec (sv mv : Value) (sts : List St) (mix : List Int) (w : World) (Hs : bW 0 w.heap.size w sv sts) (Hm : au 0 w.heap.size w mv mix) :
 Calls Tryz.prog 104 #[sv, mv] w fun e w' => e = .returned (.tuple #[.int .i64 (bS St.c sts mix), .int .i64 (bS St.m sts mix), .int .i64 (bS St.s sts mix)]) ∧ Below w.heap.size w w' := by
 have HS := hide Hs;have HM := hide Hm;have hl1 := Hs.len;have hl2 := Hm.len;obtain ⟨ao1, cap1, rfl, -, -, -, -⟩ := Hs;obtain ⟨ao2, cap2, rfl, -, -, -, -⟩ := Hm;have k1 := mixv_spec (.slice ao1 sts.length cap1) (.slice ao2 mix.length cap2) sts mix w HS.out HM.out;cases c1 : eT sts mix with
 | false =>
  rw [c1] at k1;have HF := hide (show bS St.c sts mix = -1 ∧ bS St.m sts mix = -1 ∧ bS St.s sts mix = -1 by simp [bS, c1]);clear c1;go_enter Tryz.func104, Tryz.ntmps104;go_wp2_with fail
  refine k1.mono ?_;rintro e w1 ⟨rfl, hb⟩;have HB := hide hb;clear hb k1;go_wp2_with fail
  go_ret3
  exact ⟨by rw [HF.out.1, HF.out.2.1, HF.out.2.2]; rfl, HB.out⟩
 | true =>
  rw [c1] at k1;have KC := hide c1;have hl4 := jM c1;obtain ⟨hvs, hlen, -⟩ := dF c1;have HVS := hide hvs;have hlo : mix.length ≤ sts.length := by omega
  clear c1 hvs hlen;go_enter Tryz.func104, Tryz.ntmps104;go_wp2_with fail
  refine k1.mono ?_;rintro e w1 ⟨rfl, hb⟩;have HB := hide hb;have VS := hide (HS.out.below hb);have VM := hide (HM.out.below hb);clear hb k1;go_wp2_with fail
  go_loopw [7, 8, 9, 10] (fun s t u i wr => ∃ k : Nat, k ≤ mix.length ∧ i = .int .i64 k ∧ s = .int .i64 (bI St.c sts mix k) ∧ t = .int .i64 (bI St.m sts mix k) ∧ u = .int .i64 (bI St.s sts mix k) ∧ Below w1.heap.size w1 wr) (fun _ _ _ i _ => mix.length - (intOf i).toNat)
  case atStart => exact ⟨0, Nat.zero_le _, rfl, rfl, rfl, rfl, Below.refl _ _⟩
  case round =>
   obtain ⟨k, hk, rfl, rfl, rfl, rfl, hbr⟩ := hrel;have HBr := hide hbr;have VSr := hide (VS.out.below hbr);have VMr := hide (VM.out.below hbr);clear hbr;by_cases hlt : k < mix.length
   ·obtain ⟨b1, o1, _, e1, -, -, r1⟩ := jD VSr.out (show k < sts.length by omega)
    obtain ⟨b2, o2, _, e2, -, -, r2, -⟩ := ints_at VMr.out hlt;simp only [Value.slice.injEq] at e1 e2;obtain ⟨rfl, -, rfl⟩ := e1;obtain ⟨rfl, -, rfl⟩ := e2;obtain ⟨r10, r11, r12, r13, r14⟩ := r1;have hkI : (k : Int) < (mix.length : Int) := by omega
    have hkI2 : (k : Int) < (sts.length : Int) := by omega
    have hx9 := jQ KC.out hlt;have hvs := HVS.out;have hd0 := gq (f := St.c) (fun s h => stB_c h) KC.out k hk;have hd1 := gq (f := St.m) (fun s h => stB_m h) KC.out k hk;have hd2 := gq (f := St.s) (fun s h => stB_s h) KC.out k hk;have HN0 := hide (show bI St.c sts mix (k + 1) = bI St.c sts mix k + mix.getD k 0 * (sts.getD k st0).c from rfl);have hq0 := stB_c (bR hvs (show k < sts.length by omega));have hm0 := jB hx9.1 hx9.2 hq0.1 hq0.2;obtain ⟨y0, hy0⟩ : ∃ y, (sts.getD k st0).c = y := ⟨_, rfl⟩;obtain ⟨S0, hS0⟩ : ∃ S, bI St.c sts mix k = S := ⟨_, rfl⟩;rw [hy0] at r10 HN0 hq0 hm0;rw [hS0] at HN0 hd0 ⊢;have HN1 := hide (show bI St.m sts mix (k + 1) = bI St.m sts mix k + mix.getD k 0 * (sts.getD k st0).m from rfl);have hq1 := stB_m (bR hvs (show k < sts.length by omega));have hm1 := jB hx9.1 hx9.2 hq1.1 hq1.2;obtain ⟨y1, hy1⟩ : ∃ y, (sts.getD k st0).m = y := ⟨_, rfl⟩;obtain ⟨S1, hS1⟩ : ∃ S, bI St.m sts mix k = S := ⟨_, rfl⟩;rw [hy1] at r11 HN1 hq1 hm1;rw [hS1] at HN1 hd1 ⊢;have HN2 := hide (show bI St.s sts mix (k + 1) = bI St.s sts mix k + mix.getD k 0 * (sts.getD k st0).s from rfl);have hq2 := stB_s (bR hvs (show k < sts.length by omega));have hm2 := jB hx9.1 hx9.2 hq2.1 hq2.2;obtain ⟨y2, hy2⟩ : ∃ y, (sts.getD k st0).s = y := ⟨_, rfl⟩;obtain ⟨S2, hS2⟩ : ∃ S, bI St.s sts mix k = S := ⟨_, rfl⟩;rw [hy2] at r12 HN2 hq2 hm2;rw [hS2] at HN2 hd2 ⊢;obtain ⟨x, hx⟩ : ∃ x, mix.getD k 0 = x := ⟨_, rfl⟩;rw [hx] at r2 hx9 HN0 hm0 HN1 hm1 HN2 hm2;have hu0 : IntKind.i64.wrap (x * y0) = x * y0 := IntWalk.i64_in _ (by omega);have hv0 : IntKind.i64.wrap (S0 + x * y0) = S0 + x * y0 := IntWalk.i64_in _ (by omega);have hu1 : IntKind.i64.wrap (x * y1) = x * y1 := IntWalk.i64_in _ (by omega);have hv1 : IntKind.i64.wrap (S1 + x * y1) = S1 + x * y1 := IntWalk.i64_in _ (by omega);have hu2 : IntKind.i64.wrap (x * y2) = x * y2 := IntWalk.i64_in _ (by omega);have hv2 : IntKind.i64.wrap (S2 + x * y2) = S2 + x * y2 := IntWalk.i64_in _ (by omega);clear hx hx9 hvs hy0 hS0 hq0 hm0 hd0 hy1 hS1 hq1 hm1 hd1 hy2 hS2 hq2 hm2 hd2;go_wp2_with fail
    go_quiet (fail)
    go_wp2_with fail
    go_quiet (fail)
    go_wp2_with fail
    go_quiet (fail)
    go_wp2_with fail
    go_roundw
    case rel => exact ⟨k + 1, by omega, by go_num, by rw [HN0.out], by rw [HN1.out], by rw [HN2.out], (by have h := HBr.out; first | exact below_drewN h _ | exact below_drewN (below_drewN h _) _ | exact below_drewN (below_drewN (below_drewN h _) _) _)⟩
    case measure => simp [intOf]; omega
   ·obtain rfl : k = mix.length := by omega
    have HF := hide (show bS St.c sts mix = bI St.c sts mix mix.length ∧ bS St.m sts mix = bI St.m sts mix mix.length ∧ bS St.s sts mix = bI St.s sts mix mix.length by simp [bS, KC.out]);go_wp2_with fail
    go_ret3
    exact ⟨by rw [HF.out.1, HF.out.2.1, HF.out.2.2]; rfl, Below.step HB.out HBr.out nl⟩
end Go.Proofs.YtkhecelpafojdaaGreatDoor
