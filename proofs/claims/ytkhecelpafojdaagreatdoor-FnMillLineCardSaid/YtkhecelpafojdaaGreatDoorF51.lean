/-
  Parts of the proofs over mills, of: AskS. Conditions: each theorem states its own.
-/
import Derived.Test.YtkhecelpafojdaaGreatDoorF49
set_option linter.unusedSimpArgs false
set_option linter.unusedVariables false
set_option maxRecDepth 10000
set_option maxHeartbeats 64000000
namespace Go.Proofs.YtkhecelpafojdaaGreatDoor
open Go.RowKit
theorem ask_spec (s p l h : Value) (m : Mi) (q : ByteArray) (w : World) (H : aM 0 w.heap.size w s p l h m) (hp : ik w) :
 Calls Tryz.prog 31 #[ag s p l h m, .string q] w fun e w' => e = .returned (.string (dZ m q)) ∧ Below w.heap.size w w' := by
 obtain ⟨ao1, cap1, ao2, cap2, ao3, cap3, ao4, cap4, rfl, rfl, rfl, rfl⟩ := H.op;have HM := hide H;clear H hp;unfold ag;go_enter Tryz.func31, Tryz.ntmps31;go_wp2_with fail
 refine aj fun wx hwx => ?_;have A_0 : ae wx (w.heap.size) 31 (mC ao1 cap1 ao2 cap2 ao3 cap3 ao4 cap4 m) := by rw [hwx]; exact (ae.new _ _ _).alloc _
 have B_0 : Below w.heap.size w wx := by rw [hwx]; go_grown
 clear hwx;have V_0 := hide (HM.out.below B_0);have k1 := cu _ _ _ _ m wx V_0.out.all;unfold ag at k1;cases hv : aF m with
 | false =>
  rw [hv] at k1;have HZ := hide (show dZ m q = ⟨#[]⟩ by simp [dZ, hv]);clear hv;refine k1.mono ?_;rintro e w1 ⟨rfl, hb⟩;have B_1 := bs B_0 hb;clear hb k1;go_wp2_with fail
  go_ret;exact ⟨by rw [HZ.out]; rfl, B_1.out⟩
 | true =>
  rw [hv] at k1;have HVL := hide hv;have HV := hide (aQ.1 hv);clear hv;refine k1.mono ?_;rintro e w1 ⟨rfl, hb⟩;have A_1 := A_0.below hb A_0.lt;have V_1 := hide (V_0.out.below hb);have B_1 := bs B_0 hb;clear hb k1;by_cases q0 : q = (⟨#[115, 116, 114, 97, 110, 100]⟩ : ByteArray)
  ·subst q0
   have t0 : ((⟨#[115, 116, 114, 97, 110, 100]⟩ : ByteArray).toList == (⟨#[115, 116, 114, 97, 110, 100]⟩ : ByteArray).toList) = true := eq_q _;have HZ := hide (show dZ m (⟨#[115, 116, 114, 97, 110, 100]⟩ : ByteArray) = aW m.strand by simp [dZ, HVL.out, qB]);have h0 := HV.out.st0;have h1 := HV.out.st1;have cA7 := A_1.c 7 rfl;go_wp2_with fail
   refine (aT m.strand (by omega) (by omega) w1).mono ?_;rintro e w2 ⟨rfl, hb⟩;have B_2 := bs B_1.out hb;clear hb;go_wp2_with fail
   go_ret;exact ⟨by rw [HZ.out]; rfl, B_2.out⟩
  by_cases q1 : q = (⟨#[115, 99, 114, 97, 112]⟩ : ByteArray)
  ·subst q1
   have t0 : ((⟨#[115, 99, 114, 97, 112]⟩ : ByteArray).toList == (⟨#[115, 116, 114, 97, 110, 100]⟩ : ByteArray).toList) = false := by rw [bP]; decide
   have t1 : ((⟨#[115, 99, 114, 97, 112]⟩ : ByteArray).toList == (⟨#[115, 99, 114, 97, 112]⟩ : ByteArray).toList) = true := eq_q _;have HZ := hide (show dZ m (⟨#[115, 99, 114, 97, 112]⟩ : ByteArray) = aW m.scrap by simp [dZ, HVL.out, qB]);have h0 := HV.out.sc0;have h1 := HV.out.sc1;have cA11 := A_1.c 11 rfl;go_wp2_with fail
   refine (aT m.scrap (by omega) (by omega) w1).mono ?_;rintro e w2 ⟨rfl, hb⟩;have B_2 := bs B_1.out hb;clear hb;go_wp2_with fail
   go_ret;exact ⟨by rw [HZ.out]; rfl, B_2.out⟩
  by_cases q2 : q = (⟨#[109, 97, 115, 115]⟩ : ByteArray)
  ·subst q2
   have t0 : ((⟨#[109, 97, 115, 115]⟩ : ByteArray).toList == (⟨#[115, 116, 114, 97, 110, 100]⟩ : ByteArray).toList) = false := by rw [bP]; decide
   have t1 : ((⟨#[109, 97, 115, 115]⟩ : ByteArray).toList == (⟨#[115, 99, 114, 97, 112]⟩ : ByteArray).toList) = false := by rw [bP]; decide
   have t2 : ((⟨#[109, 97, 115, 115]⟩ : ByteArray).toList == (⟨#[109, 97, 115, 115]⟩ : ByteArray).toList) = true := eq_q _;have HZ := hide (show dZ m (⟨#[109, 97, 115, 115]⟩ : ByteArray) = aW (fw m) by simp [dZ, HVL.out, qB]);have hmb := mass_bd HVL.out;obtain ⟨cA0, cA1, cA2, cA3, cA4, cA5, cA6, cA7, cA8, cA9, cA10, cA11⟩ := af A_1;go_wp2_with fail
   have k2 := mass_spec _ _ _ _ m w1 V_1.out.all;unfold ag at k2;refine k2.mono ?_;rintro e w2 ⟨rfl, hb⟩;have B_2 := bs B_1.out hb;clear hb k2;go_wp2_with fail
   refine (aT (fw m) (by omega) (by omega) w2).mono ?_;rintro e w3 ⟨rfl, hb⟩;have B_3 := bs B_2.out hb;clear hb;go_wp2_with fail
   go_ret;exact ⟨by rw [HZ.out]; rfl, B_3.out⟩
  by_cases q6 : q = (⟨#[103, 114, 97, 100, 101]⟩ : ByteArray)
  ·subst q6
   have t0 : ((⟨#[103, 114, 97, 100, 101]⟩ : ByteArray).toList == (⟨#[115, 116, 114, 97, 110, 100]⟩ : ByteArray).toList) = false := by rw [bP]; decide
   have t1 : ((⟨#[103, 114, 97, 100, 101]⟩ : ByteArray).toList == (⟨#[115, 99, 114, 97, 112]⟩ : ByteArray).toList) = false := by rw [bP]; decide
   have t2 : ((⟨#[103, 114, 97, 100, 101]⟩ : ByteArray).toList == (⟨#[109, 97, 115, 115]⟩ : ByteArray).toList) = false := by rw [bP]; decide
   have t6 : ((⟨#[103, 114, 97, 100, 101]⟩ : ByteArray).toList == (⟨#[103, 114, 97, 100, 101]⟩ : ByteArray).toList) = true := eq_q _;have HZ := hide (show dZ m (⟨#[103, 114, 97, 100, 101]⟩ : ByteArray) = gV m.rule by simp [dZ, HVL.out, qB]);have k2 := grade_spec m.rule w1;unfold grV at k2;have cA1 := A_1.c 1 rfl;have cA2 := A_1.c 2 rfl;have cA3 := A_1.c 3 rfl;have cA4 := A_1.c 4 rfl;have cA5 := A_1.c 5 rfl;have cA6 := A_1.c 6 rfl;go_wp2_with fail
   refine k2.mono ?_;rintro e w2 ⟨rfl, hb⟩;have B_2 := bs B_1.out hb;clear hb k2;go_wp2_with fail
   go_ret;exact ⟨by rw [HZ.out]; rfl, B_2.out⟩
  by_cases q3 : q = (⟨#[115, 108, 97, 98, 115]⟩ : ByteArray)
  ·subst q3
   have t0 : ((⟨#[115, 108, 97, 98, 115]⟩ : ByteArray).toList == (⟨#[115, 116, 114, 97, 110, 100]⟩ : ByteArray).toList) = false := by rw [bP]; decide
   have t1 : ((⟨#[115, 108, 97, 98, 115]⟩ : ByteArray).toList == (⟨#[115, 99, 114, 97, 112]⟩ : ByteArray).toList) = false := by rw [bP]; decide
   have t2 : ((⟨#[115, 108, 97, 98, 115]⟩ : ByteArray).toList == (⟨#[109, 97, 115, 115]⟩ : ByteArray).toList) = false := by rw [bP]; decide
   have t6 : ((⟨#[115, 108, 97, 98, 115]⟩ : ByteArray).toList == (⟨#[103, 114, 97, 100, 101]⟩ : ByteArray).toList) = false := by rw [bP]; decide
   have t3 : ((⟨#[115, 108, 97, 98, 115]⟩ : ByteArray).toList == (⟨#[115, 108, 97, 98, 115]⟩ : ByteArray).toList) = true := eq_q _;have HZ := hide (show dZ m (⟨#[115, 108, 97, 98, 115]⟩ : ByteArray) = iQ (bf m 0) by simp [dZ, HVL.out, qB]);have hpl := il (m := m) 0;have HMB := hide (fun n h => iE (m := m) (s := 0) n h);obtain ⟨cA0, cA1, cA2, cA3, cA4, cA5, cA6, cA7, cA8, cA9, cA10, cA11⟩ := af A_1;go_wp2_with fail
   have k2 := jr _ _ _ _ m 0 w1 V_1.out.all;unfold ag at k2;refine k2.mono ?_;rintro e w2 ⟨v, rfl, own, hb⟩;have hz2 := hb.size;have B_2 := bs B_1.out hb;have hat := bH own rfl hz2;obtain ⟨ids, hids⟩ : ∃ ids, bf m 0 = ids := ⟨_, rfl⟩;rw [hids] at hat hpl HMB HZ own;obtain ⟨aov, capv, rfl, -, -⟩ := aB own;have HAT := hide hat;clear hb k2 hat own hids cA0 cA1 cA2 cA3 cA4 cA5 cA6 cA7 cA8 cA9 cA10 cA11;clear t0 t1 t2 t6 t3;go_wp2_with fail
   go_loopw [6, 7] (fun o i wr => ∃ k : Nat, k ≤ ids.length ∧ i = .int .i64 (k : Int) ∧ o = .string (dW (ids.take k)) ∧ Below w.heap.size w wr ∧ Below w2.heap.size w2 wr) (fun _ i _ => ids.length - (intOf i).toNat)
   case atStart => exact ⟨0, Nat.zero_le _, rfl, by rw [List.take_zero, fe], B_2.out, Below.refl _ _⟩
   case round =>
    obtain ⟨k, hk, rfl, rfl, hbw, hb2⟩ := hrel;have HW := hide hbw;have HW2 := hide hb2;clear hbw;have hj := joinN_len (ids := ids.take k) (fun n h => HMB.out n (List.mem_of_mem_take h)) (by rw [List.length_take]; omega);obtain ⟨j, hjj⟩ : ∃ j, dW (ids.take k) = j := ⟨_, rfl⟩;rw [hjj] at hj;rw [hjj];have HJ := hide hjj;clear hjj;by_cases hlt : k < ids.length
    ·obtain ⟨ao5, cap5, e1, -, -, -, hc⟩ := HAT.out.below hb2
     obtain ⟨b1, o1, rfl, -, -, hcs⟩ := hc (by omega);cases e1;have c0 := (hcs k hlt).1;rw [show ids[k] = ids.getD k 0 by simp [hlt]] at c0;clear hc hcs hb2;obtain ⟨x, hx⟩ : ∃ x, ids.getD k 0 = x := ⟨_, rfl⟩;have hxb := HMB.out x (by rw [← hx, List.getD_eq_getElem?_getD, List.getElem?_eq_getElem hlt]; exact List.getElem_mem _);rw [hx] at c0;have HT := hide (show ids.take (k + 1) = ids.take k ++ [x] by rw [List.take_succ_eq_append_getElem hlt, ← hx]; simp [hlt]);clear hx;have hkI : (k : Int) < (ids.length : Int) := by omega
     have hk0 : (0 : Int) ≤ (k : Int) := by omega
     have hw1 : IntKind.i64.wrap ((k : Int) + 1) = ((k + 1 : Nat) : Int) := by rw [show (k : Int) + 1 = ((k + 1 : Nat) : Int) by omega]; exact IntWalk.i64_in _ (by omega)
     have hnl := fC hxb.1 hxb.2;have s1 : ¬ 9223372036854775807 < j.size + 1 := by omega
     have s2 : ¬ 9223372036854775807 < j.size + 1 + (aW x).size := by omega
     have s3 : ¬ 9223372036854775807 < j.size + (aW x).size := by omega
     clear hnl hj;by_cases hkz : k = 0
     ·have hkp : decide (0 < (k : Int)) = false := by simp; omega
      have hkn : ¬ 0 < k := by omega
      have HE := hide (show j ++ aW x = dW (ids.take (k + 1)) by
       rw [HT.out, ← HJ.out, hkz, List.take_zero, iN, fe];apply ByteArray.ext;simp)
      clear hkz;go_wp2_with fail
      refine (aT x (by omega) (by omega) wr).mono ?_;rintro e w5 ⟨rfl, hb5⟩;have H5 := bs HW.out hb5;have H52 := bs HW2.out hb5;clear hb5;go_wp2_with fail
      go_roundw
      case rel => exact ⟨k + 1, by omega, by go_num, by rw [← HE.out], H5.out, H52.out⟩
      case measure => simp [intOf]; omega
     ·have hkp : decide (0 < (k : Int)) = true := by simp; omega
      have hkn : 0 < k := by omega
      have HE := hide (show j ++ (⟨#[44]⟩ : ByteArray) ++ aW x = dW (ids.take (k + 1)) by
       rw [HT.out, jm (fun e => by
        have h9 : (ids.take k).length = 0 := by rw [e]; rfl
        rw [List.length_take] at h9;omega), HJ.out]; rfl)
      clear hkz;go_wp2_with fail
      refine (aT x (by omega) (by omega) wr).mono ?_;rintro e w5 ⟨rfl, hb5⟩;have H5 := bs HW.out hb5;have H52 := bs HW2.out hb5;clear hb5;go_wp2_with fail
      go_roundw
      case rel => exact ⟨k + 1, by omega, by go_num, by rw [← HE.out], H5.out, H52.out⟩
      case measure => simp [intOf]; omega
    ·obtain rfl : k = ids.length := by omega
     have hkI : ¬ (ids.length : Int) < (ids.length : Int) := by omega
     rw [List.take_length] at HJ;by_cases hnil : ids = []
     ·have hem : j.toList.isEmpty = true := by rw [eu, ← HJ.out, hnil, fe]; rfl
      have HE := hide (show iQ ids = noneB by simp [iQ, hnil]);clear hnil hb2;go_wp2_with fail
      go_ret;exact ⟨by rw [HZ.out, HE.out]; rfl, HW.out⟩
     ·have hpos := joinN_pos ids hnil (fun n h => (HMB.out n h).1)
      have hem : j.toList.isEmpty = false := by rw [eu, ← HJ.out]; exact decide_eq_false (by omega)
      have HE := hide (show iQ ids = j by simp [iQ, hnil, HJ.out]);clear hnil hpos hb2;go_wp2_with fail
      go_ret;exact ⟨by rw [HZ.out, HE.out]; rfl, HW.out⟩
  by_cases q4 : q = (⟨#[99, 111, 105, 108, 115]⟩ : ByteArray)
  ·subst q4
   have t0 : ((⟨#[99, 111, 105, 108, 115]⟩ : ByteArray).toList == (⟨#[115, 116, 114, 97, 110, 100]⟩ : ByteArray).toList) = false := by rw [bP]; decide
   have t1 : ((⟨#[99, 111, 105, 108, 115]⟩ : ByteArray).toList == (⟨#[115, 99, 114, 97, 112]⟩ : ByteArray).toList) = false := by rw [bP]; decide
   have t2 : ((⟨#[99, 111, 105, 108, 115]⟩ : ByteArray).toList == (⟨#[109, 97, 115, 115]⟩ : ByteArray).toList) = false := by rw [bP]; decide
   have t6 : ((⟨#[99, 111, 105, 108, 115]⟩ : ByteArray).toList == (⟨#[103, 114, 97, 100, 101]⟩ : ByteArray).toList) = false := by rw [bP]; decide
   have t3 : ((⟨#[99, 111, 105, 108, 115]⟩ : ByteArray).toList == (⟨#[115, 108, 97, 98, 115]⟩ : ByteArray).toList) = false := by rw [bP]; decide
   have t4 : ((⟨#[99, 111, 105, 108, 115]⟩ : ByteArray).toList == (⟨#[99, 111, 105, 108, 115]⟩ : ByteArray).toList) = true := eq_q _;have HZ := hide (show dZ m (⟨#[99, 111, 105, 108, 115]⟩ : ByteArray) = iQ (bf m 1) by simp [dZ, HVL.out, qB]);have hpl := il (m := m) 1;have HMB := hide (fun n h => iE (m := m) (s := 1) n h);obtain ⟨cA0, cA1, cA2, cA3, cA4, cA5, cA6, cA7, cA8, cA9, cA10, cA11⟩ := af A_1;go_wp2_with fail
   have k2 := jr _ _ _ _ m 1 w1 V_1.out.all;unfold ag at k2;refine k2.mono ?_;rintro e w2 ⟨v, rfl, own, hb⟩;have hz2 := hb.size;have B_2 := bs B_1.out hb;have hat := bH own rfl hz2;obtain ⟨ids, hids⟩ : ∃ ids, bf m 1 = ids := ⟨_, rfl⟩;rw [hids] at hat hpl HMB HZ own;obtain ⟨aov, capv, rfl, -, -⟩ := aB own;have HAT := hide hat;clear hb k2 hat own hids cA0 cA1 cA2 cA3 cA4 cA5 cA6 cA7 cA8 cA9 cA10 cA11;clear t0 t1 t2 t6 t3 t4;go_wp2_with fail
   go_loopw [6, 7] (fun o i wr => ∃ k : Nat, k ≤ ids.length ∧ i = .int .i64 (k : Int) ∧ o = .string (dW (ids.take k)) ∧ Below w.heap.size w wr ∧ Below w2.heap.size w2 wr) (fun _ i _ => ids.length - (intOf i).toNat)
   case atStart => exact ⟨0, Nat.zero_le _, rfl, by rw [List.take_zero, fe], B_2.out, Below.refl _ _⟩
   case round =>
    obtain ⟨k, hk, rfl, rfl, hbw, hb2⟩ := hrel;have HW := hide hbw;have HW2 := hide hb2;clear hbw;have hj := joinN_len (ids := ids.take k) (fun n h => HMB.out n (List.mem_of_mem_take h)) (by rw [List.length_take]; omega);obtain ⟨j, hjj⟩ : ∃ j, dW (ids.take k) = j := ⟨_, rfl⟩;rw [hjj] at hj;rw [hjj];have HJ := hide hjj;clear hjj;by_cases hlt : k < ids.length
    ·obtain ⟨ao5, cap5, e1, -, -, -, hc⟩ := HAT.out.below hb2
     obtain ⟨b1, o1, rfl, -, -, hcs⟩ := hc (by omega);cases e1;have c0 := (hcs k hlt).1;rw [show ids[k] = ids.getD k 0 by simp [hlt]] at c0;clear hc hcs hb2;obtain ⟨x, hx⟩ : ∃ x, ids.getD k 0 = x := ⟨_, rfl⟩;have hxb := HMB.out x (by rw [← hx, List.getD_eq_getElem?_getD, List.getElem?_eq_getElem hlt]; exact List.getElem_mem _);rw [hx] at c0;have HT := hide (show ids.take (k + 1) = ids.take k ++ [x] by rw [List.take_succ_eq_append_getElem hlt, ← hx]; simp [hlt]);clear hx;have hkI : (k : Int) < (ids.length : Int) := by omega
     have hk0 : (0 : Int) ≤ (k : Int) := by omega
     have hw1 : IntKind.i64.wrap ((k : Int) + 1) = ((k + 1 : Nat) : Int) := by rw [show (k : Int) + 1 = ((k + 1 : Nat) : Int) by omega]; exact IntWalk.i64_in _ (by omega)
     have hnl := fC hxb.1 hxb.2;have s1 : ¬ 9223372036854775807 < j.size + 1 := by omega
     have s2 : ¬ 9223372036854775807 < j.size + 1 + (aW x).size := by omega
     have s3 : ¬ 9223372036854775807 < j.size + (aW x).size := by omega
     clear hnl hj;by_cases hkz : k = 0
     ·have hkp : decide (0 < (k : Int)) = false := by simp; omega
      have hkn : ¬ 0 < k := by omega
      have HE := hide (show j ++ aW x = dW (ids.take (k + 1)) by
       rw [HT.out, ← HJ.out, hkz, List.take_zero, iN, fe];apply ByteArray.ext;simp)
      clear hkz;go_wp2_with fail
      refine (aT x (by omega) (by omega) wr).mono ?_;rintro e w5 ⟨rfl, hb5⟩;have H5 := bs HW.out hb5;have H52 := bs HW2.out hb5;clear hb5;go_wp2_with fail
      go_roundw
      case rel => exact ⟨k + 1, by omega, by go_num, by rw [← HE.out], H5.out, H52.out⟩
      case measure => simp [intOf]; omega
     ·have hkp : decide (0 < (k : Int)) = true := by simp; omega
      have hkn : 0 < k := by omega
      have HE := hide (show j ++ (⟨#[44]⟩ : ByteArray) ++ aW x = dW (ids.take (k + 1)) by
       rw [HT.out, jm (fun e => by
        have h9 : (ids.take k).length = 0 := by rw [e]; rfl
        rw [List.length_take] at h9;omega), HJ.out]; rfl)
      clear hkz;go_wp2_with fail
      refine (aT x (by omega) (by omega) wr).mono ?_;rintro e w5 ⟨rfl, hb5⟩;have H5 := bs HW.out hb5;have H52 := bs HW2.out hb5;clear hb5;go_wp2_with fail
      go_roundw
      case rel => exact ⟨k + 1, by omega, by go_num, by rw [← HE.out], H5.out, H52.out⟩
      case measure => simp [intOf]; omega
    ·obtain rfl : k = ids.length := by omega
     have hkI : ¬ (ids.length : Int) < (ids.length : Int) := by omega
     rw [List.take_length] at HJ;by_cases hnil : ids = []
     ·have hem : j.toList.isEmpty = true := by rw [eu, ← HJ.out, hnil, fe]; rfl
      have HE := hide (show iQ ids = noneB by simp [iQ, hnil]);clear hnil hb2;go_wp2_with fail
      go_ret;exact ⟨by rw [HZ.out, HE.out]; rfl, HW.out⟩
     ·have hpos := joinN_pos ids hnil (fun n h => (HMB.out n h).1)
      have hem : j.toList.isEmpty = false := by rw [eu, ← HJ.out]; exact decide_eq_false (by omega)
      have HE := hide (show iQ ids = j by simp [iQ, hnil, HJ.out]);clear hnil hpos hb2;go_wp2_with fail
      go_ret;exact ⟨by rw [HZ.out, HE.out]; rfl, HW.out⟩
  by_cases q5 : q = (⟨#[103, 111, 110, 101]⟩ : ByteArray)
  ·subst q5
   have t0 : ((⟨#[103, 111, 110, 101]⟩ : ByteArray).toList == (⟨#[115, 116, 114, 97, 110, 100]⟩ : ByteArray).toList) = false := by rw [bP]; decide
   have t1 : ((⟨#[103, 111, 110, 101]⟩ : ByteArray).toList == (⟨#[115, 99, 114, 97, 112]⟩ : ByteArray).toList) = false := by rw [bP]; decide
   have t2 : ((⟨#[103, 111, 110, 101]⟩ : ByteArray).toList == (⟨#[109, 97, 115, 115]⟩ : ByteArray).toList) = false := by rw [bP]; decide
   have t6 : ((⟨#[103, 111, 110, 101]⟩ : ByteArray).toList == (⟨#[103, 114, 97, 100, 101]⟩ : ByteArray).toList) = false := by rw [bP]; decide
   have t3 : ((⟨#[103, 111, 110, 101]⟩ : ByteArray).toList == (⟨#[115, 108, 97, 98, 115]⟩ : ByteArray).toList) = false := by rw [bP]; decide
   have t4 : ((⟨#[103, 111, 110, 101]⟩ : ByteArray).toList == (⟨#[99, 111, 105, 108, 115]⟩ : ByteArray).toList) = false := by rw [bP]; decide
   have t5 : ((⟨#[103, 111, 110, 101]⟩ : ByteArray).toList == (⟨#[103, 111, 110, 101]⟩ : ByteArray).toList) = true := eq_q _;have HZ := hide (show dZ m (⟨#[103, 111, 110, 101]⟩ : ByteArray) = iQ (bf m 2) by simp [dZ, HVL.out, qB]);have hpl := il (m := m) 2;have HMB := hide (fun n h => iE (m := m) (s := 2) n h);obtain ⟨cA0, cA1, cA2, cA3, cA4, cA5, cA6, cA7, cA8, cA9, cA10, cA11⟩ := af A_1;go_wp2_with fail
   have k2 := jr _ _ _ _ m 2 w1 V_1.out.all;unfold ag at k2;refine k2.mono ?_;rintro e w2 ⟨v, rfl, own, hb⟩;have hz2 := hb.size;have B_2 := bs B_1.out hb;have hat := bH own rfl hz2;obtain ⟨ids, hids⟩ : ∃ ids, bf m 2 = ids := ⟨_, rfl⟩;rw [hids] at hat hpl HMB HZ own;obtain ⟨aov, capv, rfl, -, -⟩ := aB own;have HAT := hide hat;clear hb k2 hat own hids cA0 cA1 cA2 cA3 cA4 cA5 cA6 cA7 cA8 cA9 cA10 cA11;clear t0 t1 t2 t6 t3 t4 t5;go_wp2_with fail
   go_loopw [6, 7] (fun o i wr => ∃ k : Nat, k ≤ ids.length ∧ i = .int .i64 (k : Int) ∧ o = .string (dW (ids.take k)) ∧ Below w.heap.size w wr ∧ Below w2.heap.size w2 wr) (fun _ i _ => ids.length - (intOf i).toNat)
   case atStart => exact ⟨0, Nat.zero_le _, rfl, by rw [List.take_zero, fe], B_2.out, Below.refl _ _⟩
   case round =>
    obtain ⟨k, hk, rfl, rfl, hbw, hb2⟩ := hrel;have HW := hide hbw;have HW2 := hide hb2;clear hbw;have hj := joinN_len (ids := ids.take k) (fun n h => HMB.out n (List.mem_of_mem_take h)) (by rw [List.length_take]; omega);obtain ⟨j, hjj⟩ : ∃ j, dW (ids.take k) = j := ⟨_, rfl⟩;rw [hjj] at hj;rw [hjj];have HJ := hide hjj;clear hjj;by_cases hlt : k < ids.length
    ·obtain ⟨ao5, cap5, e1, -, -, -, hc⟩ := HAT.out.below hb2
     obtain ⟨b1, o1, rfl, -, -, hcs⟩ := hc (by omega);cases e1;have c0 := (hcs k hlt).1;rw [show ids[k] = ids.getD k 0 by simp [hlt]] at c0;clear hc hcs hb2;obtain ⟨x, hx⟩ : ∃ x, ids.getD k 0 = x := ⟨_, rfl⟩;have hxb := HMB.out x (by rw [← hx, List.getD_eq_getElem?_getD, List.getElem?_eq_getElem hlt]; exact List.getElem_mem _);rw [hx] at c0;have HT := hide (show ids.take (k + 1) = ids.take k ++ [x] by rw [List.take_succ_eq_append_getElem hlt, ← hx]; simp [hlt]);clear hx;have hkI : (k : Int) < (ids.length : Int) := by omega
     have hk0 : (0 : Int) ≤ (k : Int) := by omega
     have hw1 : IntKind.i64.wrap ((k : Int) + 1) = ((k + 1 : Nat) : Int) := by rw [show (k : Int) + 1 = ((k + 1 : Nat) : Int) by omega]; exact IntWalk.i64_in _ (by omega)
     have hnl := fC hxb.1 hxb.2;have s1 : ¬ 9223372036854775807 < j.size + 1 := by omega
     have s2 : ¬ 9223372036854775807 < j.size + 1 + (aW x).size := by omega
     have s3 : ¬ 9223372036854775807 < j.size + (aW x).size := by omega
     clear hnl hj;by_cases hkz : k = 0
     ·have hkp : decide (0 < (k : Int)) = false := by simp; omega
      have hkn : ¬ 0 < k := by omega
      have HE := hide (show j ++ aW x = dW (ids.take (k + 1)) by
       rw [HT.out, ← HJ.out, hkz, List.take_zero, iN, fe];apply ByteArray.ext;simp)
      clear hkz;go_wp2_with fail
      refine (aT x (by omega) (by omega) wr).mono ?_;rintro e w5 ⟨rfl, hb5⟩;have H5 := bs HW.out hb5;have H52 := bs HW2.out hb5;clear hb5;go_wp2_with fail
      go_roundw
      case rel => exact ⟨k + 1, by omega, by go_num, by rw [← HE.out], H5.out, H52.out⟩
      case measure => simp [intOf]; omega
     ·have hkp : decide (0 < (k : Int)) = true := by simp; omega
      have hkn : 0 < k := by omega
      have HE := hide (show j ++ (⟨#[44]⟩ : ByteArray) ++ aW x = dW (ids.take (k + 1)) by
       rw [HT.out, jm (fun e => by
        have h9 : (ids.take k).length = 0 := by rw [e]; rfl
        rw [List.length_take] at h9;omega), HJ.out]; rfl)
      clear hkz;go_wp2_with fail
      refine (aT x (by omega) (by omega) wr).mono ?_;rintro e w5 ⟨rfl, hb5⟩;have H5 := bs HW.out hb5;have H52 := bs HW2.out hb5;clear hb5;go_wp2_with fail
      go_roundw
      case rel => exact ⟨k + 1, by omega, by go_num, by rw [← HE.out], H5.out, H52.out⟩
      case measure => simp [intOf]; omega
    ·obtain rfl : k = ids.length := by omega
     have hkI : ¬ (ids.length : Int) < (ids.length : Int) := by omega
     rw [List.take_length] at HJ;by_cases hnil : ids = []
     ·have hem : j.toList.isEmpty = true := by rw [eu, ← HJ.out, hnil, fe]; rfl
      have HE := hide (show iQ ids = noneB by simp [iQ, hnil]);clear hnil hb2;go_wp2_with fail
      go_ret;exact ⟨by rw [HZ.out, HE.out]; rfl, HW.out⟩
     ·have hpos := joinN_pos ids hnil (fun n h => (HMB.out n h).1)
      have hem : j.toList.isEmpty = false := by rw [eu, ← HJ.out]; exact decide_eq_false (by omega)
      have HE := hide (show iQ ids = j by simp [iQ, hnil, HJ.out]);clear hnil hpos hb2;go_wp2_with fail
      go_ret;exact ⟨by rw [HZ.out, HE.out]; rfl, HW.out⟩
  have t0 : (q.toList == [115, 116, 114, 97, 110, 100]) = false := by
   have h := ne_q q0;rw [ByteArray.toList_eq (⟨#[115, 116, 114, 97, 110, 100]⟩ : ByteArray)] at h;simpa using h
  have t1 : (q.toList == [115, 99, 114, 97, 112]) = false := by
   have h := ne_q q1;rw [ByteArray.toList_eq (⟨#[115, 99, 114, 97, 112]⟩ : ByteArray)] at h;simpa using h
  have t2 : (q.toList == [109, 97, 115, 115]) = false := by
   have h := ne_q q2;rw [ByteArray.toList_eq (⟨#[109, 97, 115, 115]⟩ : ByteArray)] at h;simpa using h
  have t6 : (q.toList == [103, 114, 97, 100, 101]) = false := by
   have h := ne_q q6;rw [ByteArray.toList_eq (⟨#[103, 114, 97, 100, 101]⟩ : ByteArray)] at h;simpa using h
  have t3 : (q.toList == [115, 108, 97, 98, 115]) = false := by
   have h := ne_q q3;rw [ByteArray.toList_eq (⟨#[115, 108, 97, 98, 115]⟩ : ByteArray)] at h;simpa using h
  have t4 : (q.toList == [99, 111, 105, 108, 115]) = false := by
   have h := ne_q q4;rw [ByteArray.toList_eq (⟨#[99, 111, 105, 108, 115]⟩ : ByteArray)] at h;simpa using h
  have t5 : (q.toList == [103, 111, 110, 101]) = false := by
   have h := ne_q q5;rw [ByteArray.toList_eq (⟨#[103, 111, 110, 101]⟩ : ByteArray)] at h;simpa using h
  have HZ := hide (show dZ m q = whatB by simp [dZ, HVL.out, qB, q0, q1, q2, q3, q4, q5, q6]);clear q0 q1 q2 q3 q4 q5 q6;go_wp2_with fail
  go_ret;exact ⟨by rw [HZ.out]; rfl, B_1.out⟩
end Go.Proofs.YtkhecelpafojdaaGreatDoor
