/-
  Parts of the proofs over mills, of: AskI, SameN. Conditions: each theorem states its own.
-/
import Derived.Test.YtkhecelpafojdaaGreatDoorF48
set_option linter.unusedSimpArgs false
set_option linter.unusedVariables false
set_option maxRecDepth 10000
set_option maxHeartbeats 64000000
namespace Go.Proofs.YtkhecelpafojdaaGreatDoor
open Go.RowKit
theorem iE {m : Mi} {s : Int} (n : Int) (h : n ∈ bf m s) : 0 ≤ n ∧ n ≤ 999 := by
 unfold bf at h;split at h
 ·rename_i hv
  obtain ⟨j, h1, rfl, -⟩ := eY.1 h;have := (aQ.1 hv).len;omega
 ·cases h
theorem mass_bd {m : Mi} (h : aF m = true) : 0 ≤ fw m ∧ fw m ≤ 10000 := by
 unfold fw;rw [if_pos h];have := mass_ge (aQ.1 h);omega
theorem ne_q {q a : ByteArray} (h : ¬ q = a) : (q.toList == a.toList) = false := by rw [bP]; exact decide_eq_false h
theorem eq_q (a : ByteArray) : (a.toList == a.toList) = true := by rw [bP]; simp
theorem ask_impl (s p l h : Value) (m : Mi) (q : ByteArray) (w : World) (H : aM 0 w.heap.size w s p l h m) (hp : ik w) :
 Calls Tryz.prog 25 #[ag s p l h m, .string q] w fun e w' => e = .returned (.string (dZ m q)) ∧ Below w.heap.size w w' := by
 obtain ⟨ao1, cap1, ao2, cap2, ao3, cap3, ao4, cap4, rfl, rfl, rfl, rfl⟩ := H.op;have HM := hide H;have HP := hide hp;clear H hp;unfold ag;go_enter Tryz.func25, Tryz.ntmps25;go_wp2_with fail
 refine aj fun wx hwx => ?_;have A_0 : ae wx (w.heap.size) 31 (mC ao1 cap1 ao2 cap2 ao3 cap3 ao4 cap4 m) := by rw [hwx]; exact (ae.new _ _ _)
 have B_0 : Below w.heap.size w wx := by rw [hwx]; go_grown
 clear hwx;have V_0 := hide (HM.out.below B_0);have k1 := cz _ _ _ _ m wx V_0.out.all;unfold ag at k1;cases hv : aF m with
 | false =>
  rw [hv] at k1;have HZ := hide (show dZ m q = ⟨#[]⟩ by simp [dZ, hv]);clear hv;refine k1.mono ?_;rintro e w1 ⟨rfl, hb⟩;have B_1 := bs B_0 hb;clear hb k1;go_wp2_with fail
  go_ret;exact ⟨by rw [HZ.out]; rfl, B_1.out⟩
 | true =>
  rw [hv] at k1;have HVL := hide hv;have HV := hide (aQ.1 hv);clear hv;refine k1.mono ?_;rintro e w1 ⟨rfl, hb⟩;have A_1 := A_0.below hb A_0.lt;have V_1 := hide (V_0.out.below hb);have B_1 := bs B_0 hb;have HP1 := hide (HP.out.stays B_1.out);clear hb k1;by_cases q0 : q = (⟨#[115, 116, 114, 97, 110, 100]⟩ : ByteArray)
  ·subst q0
   have t0 : ((⟨#[115, 116, 114, 97, 110, 100]⟩ : ByteArray).toList == (⟨#[115, 116, 114, 97, 110, 100]⟩ : ByteArray).toList) = true := eq_q _;have HZ := hide (show dZ m (⟨#[115, 116, 114, 97, 110, 100]⟩ : ByteArray) = aW m.strand by simp [dZ, HVL.out, qB]);have h0 := HV.out.st0;have h1 := HV.out.st1;have cA7 := A_1.c 7 rfl;go_wp2_with fail
   refine (iK m.strand (by omega) (by omega) w1 HP1.out).mono ?_;rintro e w2 ⟨rfl, hb⟩;have B_2 := bs B_1.out hb;clear hb;go_wp2_with fail
   go_ret;exact ⟨by rw [HZ.out]; rfl, B_2.out⟩
  by_cases q1 : q = (⟨#[115, 99, 114, 97, 112]⟩ : ByteArray)
  ·subst q1
   have t0 : ((⟨#[115, 99, 114, 97, 112]⟩ : ByteArray).toList == (⟨#[115, 116, 114, 97, 110, 100]⟩ : ByteArray).toList) = false := by rw [bP]; decide
   have t1 : ((⟨#[115, 99, 114, 97, 112]⟩ : ByteArray).toList == (⟨#[115, 99, 114, 97, 112]⟩ : ByteArray).toList) = true := eq_q _;have HZ := hide (show dZ m (⟨#[115, 99, 114, 97, 112]⟩ : ByteArray) = aW m.scrap by simp [dZ, HVL.out, qB]);have h0 := HV.out.sc0;have h1 := HV.out.sc1;have cA11 := A_1.c 11 rfl;go_wp2_with fail
   refine (iK m.scrap (by omega) (by omega) w1 HP1.out).mono ?_;rintro e w2 ⟨rfl, hb⟩;have B_2 := bs B_1.out hb;clear hb;go_wp2_with fail
   go_ret;exact ⟨by rw [HZ.out]; rfl, B_2.out⟩
  by_cases q2 : q = (⟨#[109, 97, 115, 115]⟩ : ByteArray)
  ·subst q2
   have t0 : ((⟨#[109, 97, 115, 115]⟩ : ByteArray).toList == (⟨#[115, 116, 114, 97, 110, 100]⟩ : ByteArray).toList) = false := by rw [bP]; decide
   have t1 : ((⟨#[109, 97, 115, 115]⟩ : ByteArray).toList == (⟨#[115, 99, 114, 97, 112]⟩ : ByteArray).toList) = false := by rw [bP]; decide
   have t2 : ((⟨#[109, 97, 115, 115]⟩ : ByteArray).toList == (⟨#[109, 97, 115, 115]⟩ : ByteArray).toList) = true := eq_q _;have HZ := hide (show dZ m (⟨#[109, 97, 115, 115]⟩ : ByteArray) = aW (fw m) by simp [dZ, HVL.out, qB]);have hmb := mass_bd HVL.out;obtain ⟨cA0, cA1, cA2, cA3, cA4, cA5, cA6, cA7, cA8, cA9, cA10, cA11⟩ := af A_1;go_wp2_with fail
   have k2 := mass_impl _ _ _ _ m w1 V_1.out.all;unfold ag at k2;refine k2.mono ?_;rintro e w2 ⟨rfl, hb⟩;have B_2 := bs B_1.out hb;have HP2 := hide (HP.out.stays B_2.out);clear hb k2;go_wp2_with fail
   refine (iK (fw m) (by omega) (by omega) w2 HP2.out).mono ?_;rintro e w3 ⟨rfl, hb⟩;have B_3 := bs B_2.out hb;clear hb;go_wp2_with fail
   go_ret;exact ⟨by rw [HZ.out]; rfl, B_3.out⟩
  by_cases q3 : q = (⟨#[115, 108, 97, 98, 115]⟩ : ByteArray)
  ·subst q3
   have t0 : ((⟨#[115, 108, 97, 98, 115]⟩ : ByteArray).toList == (⟨#[115, 116, 114, 97, 110, 100]⟩ : ByteArray).toList) = false := by rw [bP]; decide
   have t1 : ((⟨#[115, 108, 97, 98, 115]⟩ : ByteArray).toList == (⟨#[115, 99, 114, 97, 112]⟩ : ByteArray).toList) = false := by rw [bP]; decide
   have t2 : ((⟨#[115, 108, 97, 98, 115]⟩ : ByteArray).toList == (⟨#[109, 97, 115, 115]⟩ : ByteArray).toList) = false := by rw [bP]; decide
   have t3 : ((⟨#[115, 108, 97, 98, 115]⟩ : ByteArray).toList == (⟨#[115, 108, 97, 98, 115]⟩ : ByteArray).toList) = true := eq_q _;have HZ := hide (show dZ m (⟨#[115, 108, 97, 98, 115]⟩ : ByteArray) = iQ (bf m 0) by simp [dZ, HVL.out, qB]);have hpl := il (m := m) 0;have HMB := hide (fun n h => iE (m := m) (s := 0) n h);obtain ⟨cA0, cA1, cA2, cA3, cA4, cA5, cA6, cA7, cA8, cA9, cA10, cA11⟩ := af A_1;go_wp2_with fail
   have k2 := iL _ _ _ _ m 0 w1 V_1.out.all;unfold ag at k2;refine k2.mono ?_;rintro e w2 ⟨v, rfl, own, hb⟩;have hz2 := hb.size;have B_2 := bs B_1.out hb;have HP2 := hide (HP.out.stays B_2.out);have hat := bH own rfl hz2;obtain ⟨ids, hids⟩ : ∃ ids, bf m 0 = ids := ⟨_, rfl⟩;rw [hids] at hat hpl HMB HZ own;obtain ⟨aov, capv, rfl, -, -⟩ := aB own;have HAT := hide hat;clear hb k2 hat own hids cA0 cA1 cA2 cA3 cA4 cA5 cA6 cA7 cA8 cA9 cA10 cA11;go_wp2_with fail
   refine (ids_text _ ids _ _ w2 HAT.out hpl HMB.out HP2.out).mono ?_;rintro e w3 ⟨rfl, hb⟩;have B_3 := bs B_2.out hb;clear hb;go_wp2_with fail
   go_ret;exact ⟨by rw [HZ.out]; rfl, B_3.out⟩
  by_cases q4 : q = (⟨#[99, 111, 105, 108, 115]⟩ : ByteArray)
  ·subst q4
   have t0 : ((⟨#[99, 111, 105, 108, 115]⟩ : ByteArray).toList == (⟨#[115, 116, 114, 97, 110, 100]⟩ : ByteArray).toList) = false := by rw [bP]; decide
   have t1 : ((⟨#[99, 111, 105, 108, 115]⟩ : ByteArray).toList == (⟨#[115, 99, 114, 97, 112]⟩ : ByteArray).toList) = false := by rw [bP]; decide
   have t2 : ((⟨#[99, 111, 105, 108, 115]⟩ : ByteArray).toList == (⟨#[109, 97, 115, 115]⟩ : ByteArray).toList) = false := by rw [bP]; decide
   have t3 : ((⟨#[99, 111, 105, 108, 115]⟩ : ByteArray).toList == (⟨#[115, 108, 97, 98, 115]⟩ : ByteArray).toList) = false := by rw [bP]; decide
   have t4 : ((⟨#[99, 111, 105, 108, 115]⟩ : ByteArray).toList == (⟨#[99, 111, 105, 108, 115]⟩ : ByteArray).toList) = true := eq_q _;have HZ := hide (show dZ m (⟨#[99, 111, 105, 108, 115]⟩ : ByteArray) = iQ (bf m 1) by simp [dZ, HVL.out, qB]);have hpl := il (m := m) 1;have HMB := hide (fun n h => iE (m := m) (s := 1) n h);obtain ⟨cA0, cA1, cA2, cA3, cA4, cA5, cA6, cA7, cA8, cA9, cA10, cA11⟩ := af A_1;go_wp2_with fail
   have k2 := iL _ _ _ _ m 1 w1 V_1.out.all;unfold ag at k2;refine k2.mono ?_;rintro e w2 ⟨v, rfl, own, hb⟩;have hz2 := hb.size;have B_2 := bs B_1.out hb;have HP2 := hide (HP.out.stays B_2.out);have hat := bH own rfl hz2;obtain ⟨ids, hids⟩ : ∃ ids, bf m 1 = ids := ⟨_, rfl⟩;rw [hids] at hat hpl HMB HZ own;obtain ⟨aov, capv, rfl, -, -⟩ := aB own;have HAT := hide hat;clear hb k2 hat own hids cA0 cA1 cA2 cA3 cA4 cA5 cA6 cA7 cA8 cA9 cA10 cA11;go_wp2_with fail
   refine (ids_text _ ids _ _ w2 HAT.out hpl HMB.out HP2.out).mono ?_;rintro e w3 ⟨rfl, hb⟩;have B_3 := bs B_2.out hb;clear hb;go_wp2_with fail
   go_ret;exact ⟨by rw [HZ.out]; rfl, B_3.out⟩
  by_cases q5 : q = (⟨#[103, 111, 110, 101]⟩ : ByteArray)
  ·subst q5
   have t0 : ((⟨#[103, 111, 110, 101]⟩ : ByteArray).toList == (⟨#[115, 116, 114, 97, 110, 100]⟩ : ByteArray).toList) = false := by rw [bP]; decide
   have t1 : ((⟨#[103, 111, 110, 101]⟩ : ByteArray).toList == (⟨#[115, 99, 114, 97, 112]⟩ : ByteArray).toList) = false := by rw [bP]; decide
   have t2 : ((⟨#[103, 111, 110, 101]⟩ : ByteArray).toList == (⟨#[109, 97, 115, 115]⟩ : ByteArray).toList) = false := by rw [bP]; decide
   have t3 : ((⟨#[103, 111, 110, 101]⟩ : ByteArray).toList == (⟨#[115, 108, 97, 98, 115]⟩ : ByteArray).toList) = false := by rw [bP]; decide
   have t4 : ((⟨#[103, 111, 110, 101]⟩ : ByteArray).toList == (⟨#[99, 111, 105, 108, 115]⟩ : ByteArray).toList) = false := by rw [bP]; decide
   have t5 : ((⟨#[103, 111, 110, 101]⟩ : ByteArray).toList == (⟨#[103, 111, 110, 101]⟩ : ByteArray).toList) = true := eq_q _;have HZ := hide (show dZ m (⟨#[103, 111, 110, 101]⟩ : ByteArray) = iQ (bf m 2) by simp [dZ, HVL.out, qB]);have hpl := il (m := m) 2;have HMB := hide (fun n h => iE (m := m) (s := 2) n h);obtain ⟨cA0, cA1, cA2, cA3, cA4, cA5, cA6, cA7, cA8, cA9, cA10, cA11⟩ := af A_1;go_wp2_with fail
   have k2 := iL _ _ _ _ m 2 w1 V_1.out.all;unfold ag at k2;refine k2.mono ?_;rintro e w2 ⟨v, rfl, own, hb⟩;have hz2 := hb.size;have B_2 := bs B_1.out hb;have HP2 := hide (HP.out.stays B_2.out);have hat := bH own rfl hz2;obtain ⟨ids, hids⟩ : ∃ ids, bf m 2 = ids := ⟨_, rfl⟩;rw [hids] at hat hpl HMB HZ own;obtain ⟨aov, capv, rfl, -, -⟩ := aB own;have HAT := hide hat;clear hb k2 hat own hids cA0 cA1 cA2 cA3 cA4 cA5 cA6 cA7 cA8 cA9 cA10 cA11;go_wp2_with fail
   refine (ids_text _ ids _ _ w2 HAT.out hpl HMB.out HP2.out).mono ?_;rintro e w3 ⟨rfl, hb⟩;have B_3 := bs B_2.out hb;clear hb;go_wp2_with fail
   go_ret;exact ⟨by rw [HZ.out]; rfl, B_3.out⟩
  by_cases q6 : q = (⟨#[103, 114, 97, 100, 101]⟩ : ByteArray)
  ·subst q6
   have t0 : ((⟨#[103, 114, 97, 100, 101]⟩ : ByteArray).toList == (⟨#[115, 116, 114, 97, 110, 100]⟩ : ByteArray).toList) = false := by rw [bP]; decide
   have t1 : ((⟨#[103, 114, 97, 100, 101]⟩ : ByteArray).toList == (⟨#[115, 99, 114, 97, 112]⟩ : ByteArray).toList) = false := by rw [bP]; decide
   have t2 : ((⟨#[103, 114, 97, 100, 101]⟩ : ByteArray).toList == (⟨#[109, 97, 115, 115]⟩ : ByteArray).toList) = false := by rw [bP]; decide
   have t3 : ((⟨#[103, 114, 97, 100, 101]⟩ : ByteArray).toList == (⟨#[115, 108, 97, 98, 115]⟩ : ByteArray).toList) = false := by rw [bP]; decide
   have t4 : ((⟨#[103, 114, 97, 100, 101]⟩ : ByteArray).toList == (⟨#[99, 111, 105, 108, 115]⟩ : ByteArray).toList) = false := by rw [bP]; decide
   have t5 : ((⟨#[103, 114, 97, 100, 101]⟩ : ByteArray).toList == (⟨#[103, 111, 110, 101]⟩ : ByteArray).toList) = false := by rw [bP]; decide
   have t6 : ((⟨#[103, 114, 97, 100, 101]⟩ : ByteArray).toList == (⟨#[103, 114, 97, 100, 101]⟩ : ByteArray).toList) = true := eq_q _;have HZ := hide (show dZ m (⟨#[103, 114, 97, 100, 101]⟩ : ByteArray) = gV m.rule by simp [dZ, HVL.out, qB]);have k2 := grade_impl m.rule w1 HP1.out;unfold grV at k2;have cA1 := A_1.c 1 rfl;have cA2 := A_1.c 2 rfl;have cA3 := A_1.c 3 rfl;have cA4 := A_1.c 4 rfl;have cA5 := A_1.c 5 rfl;have cA6 := A_1.c 6 rfl;go_wp2_with fail
   refine k2.mono ?_;rintro e w2 ⟨rfl, hb⟩;have B_2 := bs B_1.out hb;clear hb k2;go_wp2_with fail
   go_ret;exact ⟨by rw [HZ.out]; rfl, B_2.out⟩
  have t0 : (q.toList == [115, 116, 114, 97, 110, 100]) = false := by
   have h := ne_q q0;rw [ByteArray.toList_eq (⟨#[115, 116, 114, 97, 110, 100]⟩ : ByteArray)] at h;simpa using h
  have t1 : (q.toList == [115, 99, 114, 97, 112]) = false := by
   have h := ne_q q1;rw [ByteArray.toList_eq (⟨#[115, 99, 114, 97, 112]⟩ : ByteArray)] at h;simpa using h
  have t2 : (q.toList == [109, 97, 115, 115]) = false := by
   have h := ne_q q2;rw [ByteArray.toList_eq (⟨#[109, 97, 115, 115]⟩ : ByteArray)] at h;simpa using h
  have t3 : (q.toList == [115, 108, 97, 98, 115]) = false := by
   have h := ne_q q3;rw [ByteArray.toList_eq (⟨#[115, 108, 97, 98, 115]⟩ : ByteArray)] at h;simpa using h
  have t4 : (q.toList == [99, 111, 105, 108, 115]) = false := by
   have h := ne_q q4;rw [ByteArray.toList_eq (⟨#[99, 111, 105, 108, 115]⟩ : ByteArray)] at h;simpa using h
  have t5 : (q.toList == [103, 111, 110, 101]) = false := by
   have h := ne_q q5;rw [ByteArray.toList_eq (⟨#[103, 111, 110, 101]⟩ : ByteArray)] at h;simpa using h
  have t6 : (q.toList == [103, 114, 97, 100, 101]) = false := by
   have h := ne_q q6;rw [ByteArray.toList_eq (⟨#[103, 114, 97, 100, 101]⟩ : ByteArray)] at h;simpa using h
  have HZ := hide (show dZ m q = whatB by simp [dZ, HVL.out, qB, q0, q1, q2, q3, q4, q5, q6]);clear q0 q1 q2 q3 q4 q5 q6;go_wp2_with fail
  go_ret;exact ⟨by rw [HZ.out]; rfl, B_1.out⟩
theorem sameStuffs_any (v v' : Value) (xs ys : List St) (lo hi lo' hi' : Nat) (w : World) (h : bW lo hi w v xs) (h' : bW lo' hi' w v' ys) :
 Calls Tryz.prog 32 #[v, v'] w fun e w' => e = .returned (.bool (decide (xs = ys))) ∧ Below w.heap.size w w' := by
 obtain ⟨ao, cap, rfl, hlc, hcap, hhi, hc⟩ := h;obtain ⟨ao', cap', rfl, hlc', hcap', hhi', hc'⟩ := h';have Hc := hide hc;have Hc' := hide hc';clear hc hc';by_cases hl : xs.length = ys.length
 ·have HL := hide hl
  have hlB : ((xs.length : Int) != (ys.length : Int)) = false := by simp [hl]
  clear hl;go_enter Tryz.func32, Tryz.ntmps32;go_wp2_with fail
  go_loopw [5] (fun i wr => ∃ k : Nat, k ≤ xs.length ∧ i = .int .i64 k ∧ Below w.heap.size w wr ∧ xs.take k = ys.take k) (fun i _ => xs.length - (intOf i).toNat)
  case atStart => exact ⟨0, Nat.zero_le _, rfl, Below.refl _ _, rfl⟩
  case round =>
   obtain ⟨k, hk, rfl, hb, hall⟩ := hrel;have Ha := hide hall;clear hall;by_cases hlt : k < xs.length
   ·have hlt' : k < ys.length := by have := HL.out; omega
    obtain ⟨b, o, rfl, hb1, hb2, hcs⟩ := Hc.out (by omega);obtain ⟨b', o', rfl, hb1', hb2', hcs'⟩ := Hc'.out (by omega);obtain ⟨⟨h1, h2, h3, h4, h5⟩, -⟩ := hcs k hlt;obtain ⟨⟨h1', h2', h3', h4', h5'⟩, -⟩ := hcs' k hlt';rw [← hb.cell (p := ⟨_, _, none⟩) (by simpa using by omega)] at h1 h2 h3 h4 h5 h1' h2' h3' h4' h5';clear hcs hcs';have HNE := hide (show (xs[k] ≠ ys[k]) → decide (xs = ys) = false from fun h => decide_eq_false (fun e => h (by subst e; rfl)));have HYE := hide (show (xs[k] = ys[k]) → xs.take (k + 1) = ys.take (k + 1) from fun hq => by
     rw [List.take_succ_eq_append_getElem hlt, List.take_succ_eq_append_getElem hlt', Ha.out, hq])
    have HEX := hide (show ∀ a b : St, a.c = b.c → a.m = b.m → a.s = b.s → a.p = b.p → a.k = b.k → a = b from fun a b e1 e2 e3 e4 e5 => by cases a; cases b; simp_all);obtain ⟨x0, hx0⟩ : ∃ x, xs[k].c = x := ⟨_, rfl⟩;obtain ⟨y0, hy0⟩ : ∃ x, ys[k].c = x := ⟨_, rfl⟩;rw [hx0] at h1;rw [hy0] at h1';have HX0 := hide hx0;have HY0 := hide hy0;clear hx0 hy0;obtain ⟨x1, hx1⟩ : ∃ x, xs[k].m = x := ⟨_, rfl⟩;obtain ⟨y1, hy1⟩ : ∃ x, ys[k].m = x := ⟨_, rfl⟩;rw [hx1] at h2;rw [hy1] at h2';have HX1 := hide hx1;have HY1 := hide hy1;clear hx1 hy1;obtain ⟨x2, hx2⟩ : ∃ x, xs[k].s = x := ⟨_, rfl⟩;obtain ⟨y2, hy2⟩ : ∃ x, ys[k].s = x := ⟨_, rfl⟩;rw [hx2] at h3;rw [hy2] at h3';have HX2 := hide hx2;have HY2 := hide hy2;clear hx2 hy2;obtain ⟨x3, hx3⟩ : ∃ x, xs[k].p = x := ⟨_, rfl⟩;obtain ⟨y3, hy3⟩ : ∃ x, ys[k].p = x := ⟨_, rfl⟩;rw [hx3] at h4;rw [hy3] at h4';have HX3 := hide hx3;have HY3 := hide hy3;clear hx3 hy3;obtain ⟨x4, hx4⟩ : ∃ x, xs[k].k = x := ⟨_, rfl⟩;obtain ⟨y4, hy4⟩ : ∃ x, ys[k].k = x := ⟨_, rfl⟩;rw [hx4] at h5;rw [hy4] at h5';have HX4 := hide hx4;have HY4 := hide hy4;clear hx4 hy4;have hi1 : (k : Int) < (xs.length : Int) := by omega
    have hi2 : (k : Int) < (ys.length : Int) := by omega
    have HB := hide hb;clear hb;by_cases q0 : x0 = y0;rotate_left
    ·have qB0 : (x0 == y0) = false := by simpa using q0
     have HN := hide (HNE.out (fun e => q0 (by have := congrArg St.c e; simpa [HX0.out, HY0.out] using this)));clear q0;go_wp2_with fail
     go_quiet (fail)
     go_wp2_with fail
     go_ret;exact ⟨by rw [HN.out]; rfl, below_drewN HB.out _⟩
    subst q0;by_cases q1 : x1 = y1;rotate_left
    ·have qB1 : (x1 == y1) = false := by simpa using q1
     have HN := hide (HNE.out (fun e => q1 (by have := congrArg St.m e; simpa [HX1.out, HY1.out] using this)));clear q1;go_wp2_with fail
     go_quiet (fail)
     go_wp2_with fail
     go_ret;exact ⟨by rw [HN.out]; rfl, below_drewN HB.out _⟩
    subst q1;by_cases q2 : x2 = y2;rotate_left
    ·have qB2 : (x2 == y2) = false := by simpa using q2
     have HN := hide (HNE.out (fun e => q2 (by have := congrArg St.s e; simpa [HX2.out, HY2.out] using this)));clear q2;go_wp2_with fail
     go_quiet (fail)
     go_wp2_with fail
     go_ret;exact ⟨by rw [HN.out]; rfl, below_drewN HB.out _⟩
    subst q2;by_cases q3 : x3 = y3;rotate_left
    ·have qB3 : (x3 == y3) = false := by simpa using q3
     have HN := hide (HNE.out (fun e => q3 (by have := congrArg St.p e; simpa [HX3.out, HY3.out] using this)));clear q3;go_wp2_with fail
     go_quiet (fail)
     go_wp2_with fail
     go_ret;exact ⟨by rw [HN.out]; rfl, below_drewN HB.out _⟩
    subst q3;by_cases q4 : x4 = y4;rotate_left
    ·have qB4 : (x4 == y4) = false := by simpa using q4
     have HN := hide (HNE.out (fun e => q4 (by have := congrArg St.k e; simpa [HX4.out, HY4.out] using this)));clear q4;go_wp2_with fail
     go_quiet (fail)
     go_wp2_with fail
     go_ret;exact ⟨by rw [HN.out]; rfl, below_drewN HB.out _⟩
    subst q4;have HT := hide (HYE.out (HEX.out _ _ (by rw [HX0.out, HY0.out]) (by rw [HX1.out, HY1.out]) (by rw [HX2.out, HY2.out]) (by rw [HX3.out, HY3.out]) (by rw [HX4.out, HY4.out])));go_wp2_with fail
    go_quiet (fail)
    go_wp2_with fail
    go_roundw
    case rel => exact ⟨k + 1, by omega, by go_num, below_drewN HB.out _, HT.out⟩
    case measure => simp [intOf]; omega
   ·go_wp2_with fail
    go_ret;refine ⟨?_, hb⟩;have e : xs = ys := by
     have := Ha.out;rw [List.take_of_length_le (by omega), List.take_of_length_le (by have := HL.out; omega)] at this;exact this
    simp [e]
 ·have hlB : ((xs.length : Int) != (ys.length : Int)) = true := by simp; omega
  go_enter Tryz.func32, Tryz.ntmps32;go_wp2_with fail
  go_ret;exact ⟨by simp; intro h; exact hl (by rw [h]), Below.refl _ _⟩
theorem iV (s p l h s' p' l' h' : Value) (m z : Mi) (w : World) (H : aM 0 w.heap.size w s p l h m) (H' : aM 0 w.heap.size w s' p' l' h' z) :
 Calls Tryz.prog 7 #[ag s p l h m, ag s' p' l' h' z] w fun e w' => e = .returned (.bool (decide (m = z))) ∧ Below w.heap.size w w' := by
 have HH := hide H;have HH' := hide H';obtain ⟨ao1, cap1, ao2, cap2, ao3, cap3, ao4, cap4, rfl, rfl, rfl, rfl⟩ := H.op;obtain ⟨bo1, bap1, bo2, bap2, bo3, bap3, bo4, bap4, rfl, rfl, rfl, rfl⟩ := H'.op;clear H H';unfold ag;go_enter Tryz.func7, Tryz.ntmps7;go_wp2_with fail
 refine aj fun wx hwx => ?_;have A_0 : ae wx w.heap.size 31 (mC ao1 cap1 ao2 cap2 ao3 cap3 ao4 cap4 m) := by rw [hwx]; exact (ae.new _ _ _).alloc _
 have C_0 : ae wx (w.heap.size + 1) 31 (mC bo1 bap1 bo2 bap2 bo3 bap3 bo4 bap4 z) := by rw [hwx]; simpa using ae.new (World.alloc _ _) 31 (mC bo1 bap1 bo2 bap2 bo3 bap3 bo4 bap4 z)
 have hb : Below w.heap.size w wx := by rw [hwx]; go_grown
 have V_0 := HH.out.below hb;have U_0 := HH'.out.below hb;have B_0 := hide hb;have hz0 := C_0.lt;clear hwx hb;have k1 := sameStuffs_any _ _ _ _ _ _ _ _ wx V_0.store U_0.store;have k2 := fun W (q : Below wx.heap.size wx W) => samePile_any _ _ _ _ _ _ _ _ _ _ _ _ _ _ _ _ W (V_0.low.below q) (V_0.high.below q) (U_0.low.below q) (U_0.high.below q);have K2 := hide k2;have VP := hide V_0.pieces;have hplen := V_0.pieces.len;have UP := hide U_0.pieces;clear k2 V_0 U_0 HH HH';by_cases e0 : m.store = z.store;rotate_left
 ·rw [decide_eq_false e0] at k1
  refine k1.mono ?_;rintro e w1 ⟨rfl, hb⟩;have B_1 := bs B_0.out hb;have HN := hide (show m ≠ z from fun e => e0 (by rw [e]));clear hb k1;go_wp2_with fail
  go_ret;exact ⟨by rw [decide_eq_false HN.out]; rfl, B_1.out⟩
 rw [decide_eq_true e0] at k1;have E0 := hide e0;refine k1.mono ?_;rintro e w1 ⟨rfl, hb⟩;have B_1 := bs B_0.out hb;have A_1 := A_0.below hb A_0.lt;have C_1 := C_0.below hb C_0.lt;have hz1 := hb.size;have hlC := C_1.lt;have hb1 := hide hb;clear hb k1 e0;have cA1 := A_1.c 1 rfl;have cC1 := C_1.c 1 rfl;have cA2 := A_1.c 2 rfl;have cC2 := C_1.c 2 rfl;have cA3 := A_1.c 3 rfl;have cC3 := C_1.c 3 rfl;have cA4 := A_1.c 4 rfl;have cC4 := C_1.c 4 rfl;have cA5 := A_1.c 5 rfl;have cC5 := C_1.c 5 rfl;have cA6 := A_1.c 6 rfl;have cC6 := C_1.c 6 rfl;have cA7 := A_1.c 7 rfl;have cC7 := C_1.c 7 rfl;have cA11 := A_1.c 11 rfl;have cC11 := C_1.c 11 rfl;have cA9 := A_1.c 9 rfl;have cC9 := C_1.c 9 rfl;have cA10 := A_1.c 10 rfl;have cC10 := C_1.c 10 rfl;by_cases e1 : m.rule.lc = z.rule.lc;rotate_left
 ·have eB : (m.rule.lc == z.rule.lc) = false := by simpa using e1
  have HN := hide (show m ≠ z from fun e => e1 (by rw [e]));clear e1;go_wp2_with fail
  go_ret;exact ⟨by rw [decide_eq_false HN.out]; rfl, B_1.out⟩
 have eB1 : (m.rule.lc == z.rule.lc) = true := by simp [e1]
 have E1 := hide e1;clear e1;by_cases e2 : m.rule.hc = z.rule.hc;rotate_left
 ·have eB : (m.rule.hc == z.rule.hc) = false := by simpa using e2
  have HN := hide (show m ≠ z from fun e => e2 (by rw [e]));clear e2;go_wp2_with fail
  go_ret;exact ⟨by rw [decide_eq_false HN.out]; rfl, B_1.out⟩
 have eB2 : (m.rule.hc == z.rule.hc) = true := by simp [e2]
 have E2 := hide e2;clear e2;by_cases e3 : m.rule.lm = z.rule.lm;rotate_left
 ·have eB : (m.rule.lm == z.rule.lm) = false := by simpa using e3
  have HN := hide (show m ≠ z from fun e => e3 (by rw [e]));clear e3;go_wp2_with fail
  go_ret;exact ⟨by rw [decide_eq_false HN.out]; rfl, B_1.out⟩
 have eB3 : (m.rule.lm == z.rule.lm) = true := by simp [e3]
 have E3 := hide e3;clear e3;by_cases e4 : m.rule.hm = z.rule.hm;rotate_left
 ·have eB : (m.rule.hm == z.rule.hm) = false := by simpa using e4
  have HN := hide (show m ≠ z from fun e => e4 (by rw [e]));clear e4;go_wp2_with fail
  go_ret;exact ⟨by rw [decide_eq_false HN.out]; rfl, B_1.out⟩
 have eB4 : (m.rule.hm == z.rule.hm) = true := by simp [e4]
 have E4 := hide e4;clear e4;by_cases e5 : m.rule.ls = z.rule.ls;rotate_left
 ·have eB : (m.rule.ls == z.rule.ls) = false := by simpa using e5
  have HN := hide (show m ≠ z from fun e => e5 (by rw [e]));clear e5;go_wp2_with fail
  go_ret;exact ⟨by rw [decide_eq_false HN.out]; rfl, B_1.out⟩
 have eB5 : (m.rule.ls == z.rule.ls) = true := by simp [e5]
 have E5 := hide e5;clear e5;by_cases e6 : m.rule.hs = z.rule.hs;rotate_left
 ·have eB : (m.rule.hs == z.rule.hs) = false := by simpa using e6
  have HN := hide (show m ≠ z from fun e => e6 (by rw [e]));clear e6;go_wp2_with fail
  go_ret;exact ⟨by rw [decide_eq_false HN.out]; rfl, B_1.out⟩
 have eB6 : (m.rule.hs == z.rule.hs) = true := by simp [e6]
 have E6 := hide e6;clear e6;by_cases e7 : m.strand = z.strand;rotate_left
 ·have eB : (m.strand != z.strand) = true := by simpa using e7
  have HN := hide (show m ≠ z from fun e => e7 (by rw [e]));clear e7;go_wp2_with fail
  go_ret;exact ⟨by rw [decide_eq_false HN.out]; rfl, B_1.out⟩
 have eB7 : (m.strand != z.strand) = false := by simp [e7]
 have E7 := hide e7;clear e7;by_cases e8 : m.scrap = z.scrap;rotate_left
 ·have eB : (m.scrap != z.scrap) = true := by simpa using e8
  have HN := hide (show m ≠ z from fun e => e8 (by rw [e]));clear e8;go_wp2_with fail
  go_ret;exact ⟨by rw [decide_eq_false HN.out]; rfl, B_1.out⟩
 have eB8 : (m.scrap != z.scrap) = false := by simp [e8]
 have E8 := hide e8;clear e8;go_wp2_with fail
 have k3 := K2.out w1 hb1.out;unfold aD at k3;by_cases e9 : m.low = z.low ∧ m.high = z.high;rotate_left
 ·have hq : (decide (m.low = z.low) && decide (m.high = z.high)) = false := by
   rw [Bool.and_eq_false_iff, decide_eq_false_iff_not, decide_eq_false_iff_not];by_cases h : m.low = z.low
   ·exact .inr (fun h2 => e9 ⟨h, h2⟩)
   ·exact .inl h
  rw [hq] at k3;refine k3.mono ?_;rintro e w2 ⟨rfl, hb⟩;have B_2 := bs B_1.out hb;have HN := hide (show m ≠ z from fun e => e9 (by rw [e]; exact ⟨rfl, rfl⟩));clear hb k3;go_wp2_with fail
  go_ret;exact ⟨by rw [decide_eq_false HN.out]; rfl, B_2.out⟩
 rw [decide_eq_true e9.1, decide_eq_true e9.2] at k3;have E9 := hide e9;clear e9;refine k3.mono ?_;rintro e w2 ⟨rfl, hb⟩;have B_2 := bs B_1.out hb;have A_2 := A_1.below hb A_1.lt;have C_2 := C_1.below hb C_1.lt;have VP2 := hide ((VP.out.below hb1.out).below hb);have UP2 := hide ((UP.out.below hb1.out).below hb);have hz2 := hb.size;clear hb k3;have cA8 := A_2.c 8 rfl;have cC8 := C_2.c 8 rfl;by_cases hl : m.pieces.length = z.pieces.length;rotate_left
 ·have hlB : ((m.pieces.length : Int) != (z.pieces.length : Int)) = true := by simp; omega
  have HN := hide (show m ≠ z from fun e => hl (by rw [e]));clear hl;go_wp2_with fail
  go_ret;exact ⟨by rw [decide_eq_false HN.out]; rfl, B_2.out⟩
 have hlB : ((m.pieces.length : Int) != (z.pieces.length : Int)) = false := by simp [hl]
 have HL := hide hl;clear hl;go_wp2_with fail
 clear cA1 cC1 cA2 cC2 cA3 cC3 cA4 cC4 cA5 cC5 cA6 cC6 cA7 cC7 cA8 cC8 cA9 cC9 cA10 cC10 cA11 cC11 eB1 eB2 eB3 eB4 eB5 eB6 eB7 eB8 hlB A_1 C_1 A_0 C_0
 go_loopw [5] (fun i wr => ∃ k : Nat, k ≤ m.pieces.length ∧ i = .int .i64 k ∧ Below w2.heap.size w2 wr ∧ m.pieces.take k = z.pieces.take k) (fun i _ => m.pieces.length - (intOf i).toNat)
 case atStart => exact ⟨0, Nat.zero_le _, rfl, Below.refl _ _, rfl⟩
 case round =>
  obtain ⟨k, hk, rfl, hb, hall⟩ := hrel;have Ha := hide hall;clear hall;have cA8 : wr.cell? ⟨w.heap.size, 8, none⟩ = some (.slice ao2 m.pieces.length cap2) := (A_2.below hb A_2.lt).c 8 rfl;have cC8 : wr.cell? ⟨w.heap.size + 1, 8, none⟩ = some (.slice bo2 z.pieces.length bap2) := (C_2.below hb C_2.lt).c 8 rfl;have HB := bs B_2.out hb;by_cases hlt : k < m.pieces.length
  ·have hlt' : k < z.pieces.length := by have := HL.out; omega
   obtain ⟨b, o, cp, e1, -, -, h1, h2⟩ := pc_at (VP2.out.below hb) hlt;obtain ⟨b', o', cp', e2, -, -, h1', h2'⟩ := pc_at (UP2.out.below hb) hlt';simp only [Value.slice.injEq, true_and] at e1 e2;obtain ⟨rfl, rfl⟩ := e1;obtain ⟨rfl, rfl⟩ := e2;have HBq := hide hb;clear hb;have HNE := hide (show (m.pieces.getD k pc0 ≠ z.pieces.getD k pc0) → decide (m = z) = false from fun h => decide_eq_false (fun e => h (by rw [e])));have HYE := hide (show (m.pieces.getD k pc0 = z.pieces.getD k pc0) → m.pieces.take (k + 1) = z.pieces.take (k + 1) from fun hq => by
    rw [List.take_succ_eq_append_getElem hlt, List.take_succ_eq_append_getElem hlt', Ha.out];have hq : m.pieces[k] = z.pieces[k] := by simpa [hlt, hlt'] using hq
    rw [hq])
   have HEX := hide (show ∀ a b : Pc, a.l = b.l → a.s = b.s → a = b from fun a b e1 e2 => by cases a; cases b; simp_all);obtain ⟨x0, hx0⟩ : ∃ x, (m.pieces.getD k pc0).l = x := ⟨_, rfl⟩;obtain ⟨y0, hy0⟩ : ∃ x, (z.pieces.getD k pc0).l = x := ⟨_, rfl⟩;rw [hx0] at h1;rw [hy0] at h1';have HX0 := hide hx0;have HY0 := hide hy0;clear hx0 hy0;obtain ⟨x1, hx1⟩ : ∃ x, (m.pieces.getD k pc0).s = x := ⟨_, rfl⟩;obtain ⟨y1, hy1⟩ : ∃ x, (z.pieces.getD k pc0).s = x := ⟨_, rfl⟩;rw [hx1] at h2;rw [hy1] at h2';have HX1 := hide hx1;have HY1 := hide hy1;clear hx1 hy1;have hi1 : (k : Int) < (m.pieces.length : Int) := by omega
   have hi2 : (k : Int) < (z.pieces.length : Int) := by omega
   by_cases q0 : x0 = y0;rotate_left
   ·have qB0 : (x0 == y0) = false := by simpa using q0
    have HN := hide (HNE.out (fun e => q0 (by have := congrArg Pc.l e; rw [HX0.out, HY0.out] at this; exact this)));clear q0;go_wp2_with fail
    go_quiet (fail)
    go_wp2_with fail
    go_ret;exact ⟨by rw [HN.out]; rfl, below_drewN HB.out _⟩
   subst q0;by_cases q1 : x1 = y1;rotate_left
   ·have qB1 : (x1 == y1) = false := by simpa using q1
    have HN := hide (HNE.out (fun e => q1 (by have := congrArg Pc.s e; rw [HX1.out, HY1.out] at this; exact this)));clear q1;go_wp2_with fail
    go_quiet (fail)
    go_wp2_with fail
    go_ret;exact ⟨by rw [HN.out]; rfl, below_drewN HB.out _⟩
   subst q1;have HT := hide (HYE.out (HEX.out _ _ (by rw [HX0.out, HY0.out]) (by rw [HX1.out, HY1.out])));go_wp2_with fail
   go_quiet (fail)
   go_wp2_with fail
   go_roundw
   case rel => exact ⟨k + 1, by omega, by go_num, below_drewN HBq.out _, HT.out⟩
   case measure => simp [intOf]; omega
  ·have hge : ¬ (k : Int) < (m.pieces.length : Int) := by omega
   have e : m = z := by
    have h8 : m.pieces = z.pieces := by
     have := Ha.out;rw [List.take_of_length_le (by omega), List.take_of_length_le (by have := HL.out; omega)] at this;exact this
    obtain ⟨st, ⟨r1, r2, r3, r4, r5, r6⟩, sd, pc, lw, hg, sc⟩ := m;obtain ⟨st', ⟨r1', r2', r3', r4', r5', r6'⟩, sd', pc', lw', hg', sc'⟩ := z;have t0 := E0.out; have t1 := E1.out; have t2 := E2.out; have t3 := E3.out; have t4 := E4.out; have t5 := E5.out; have t6 := E6.out; have t7 := E7.out; have t8 := E8.out; have t9 := E9.out;dsimp only at t0 t1 t2 t3 t4 t5 t6 t7 t8 t9 h8;rw [t0, t1, t2, t3, t4, t5, t6, t7, t8, t9.1, t9.2, h8]
   have HN := hide (decide_eq_true e);clear e hb;go_wp2_with fail
   go_ret;exact ⟨by rw [HN.out]; rfl, HB.out⟩
theorem noMill_any (s p l h : Value) (m : Mi) (w : World) (H : aM 0 w.heap.size w s p l h m) :
 Calls Tryz.prog 13 #[ag s p l h m] w fun e w' => e = .returned (.bool (decide (m = mi0))) ∧ Below w.heap.size w w' := by
 have HH := hide H;obtain ⟨ao1, cap1, ao2, cap2, ao3, cap3, ao4, cap4, rfl, rfl, rfl, rfl⟩ := H.op;clear H;unfold ag;go_enter Tryz.func13, Tryz.ntmps13;go_wp2_with fail
 refine aj fun wx hwx => ?_;have hb : Below w.heap.size w wx := by rw [hwx]; go_grown
 have V_0 := HH.out.below hb;have B_0 := hide hb;clear hwx hb;have k1 := iV _ _ _ _ _ _ _ _ m mi0 wx V_0.all (millGot_zero nl mi0 rfl rfl rfl rfl).all;refine k1.mono ?_;rintro e w1 ⟨rfl, hb⟩;have B_1 := bs B_0.out hb;clear hb k1;go_wp2_with fail
 go_ret;exact ⟨rfl, B_1.out⟩
end Go.Proofs.YtkhecelpafojdaaGreatDoor
