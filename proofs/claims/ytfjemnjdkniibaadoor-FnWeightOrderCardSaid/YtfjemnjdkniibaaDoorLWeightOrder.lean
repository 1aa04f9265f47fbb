/-
  The walk over the law FnWeightOrder: it answers true, whatever the code, and leaves all old memory alone.
-/
import Derived.Test.YtfjemnjdkniibaaDoorReads2
import Derived.Test.YtfjemnjdkniibaaDoorWalkO
import Derived.Test.YtfjemnjdkniibaaDoorWalkH
import Derived.Test.YtfjemnjdkniibaaDoorReads3
namespace Go.Proofs.YtfjemnjdkniibaaDoor
open Go.RowKit

set_option maxRecDepth 10000 in
set_option maxHeartbeats 800000 in
theorem law_WeightOrder (v : Value) (n : Nat) (w : World) (h : BytesAt 0 w.heap.size w v n) :
    Calls Tryd.prog 11 #[v] w fun e w' => e = .returned (.bool true) ∧ Below w.heap.size w w' := by
  obtain ⟨ao, cap, rfl, hnc, hcap, -, -⟩ := id h
  have HB := hide h
  clear h
  by_cases hlong : 1048576 < n
  · go_enter Tryd.func11, Tryd.ntmps11
    go_wp2_with fail
    go_ret
    exact ⟨rfl, Below.refl _ _⟩
  · go_enter Tryd.func11, Tryd.ntmps11
    go_wp2_with fail
    refine (drawWeightOrder _ n _ HB.out).mono ?_
    rintro e w1 ⟨v1, js, rfl, hl, ⟨b, cap1, rfl⟩, hj, hb1⟩
    obtain ⟨hlc1, hcap1⟩ := jobs_cap hj
    have HJ1 := hide hj
    have HB1 := hide hb1
    clear hj hb1
    cases hv : jsvB js with
    | false =>
      have HX := hide (order_bad (K := kWeight) hv)
      have HV := hide hv
      clear hv
      go_wp2_with fail
      refine (weightOrder_impl _ js _ _ _ HJ1.out).mono ?_
      rw [HX.out]
      rintro e w2 ⟨r, rfl, hr, hb⟩
      obtain ⟨aoo, capo, rfl, hlo, hco, ha⟩ := hr.where
      have HAO := hide ha
      have HO2 := hide hr
      have HJ2 := hide (HJ1.out.below hb)
      have HB2 := hide (Below.step HB1.out hb (Nat.le_refl _))
      clear hb hr ha
      go_wp2_with fail
      refine (weightOrder_spec _ js _ _ _ HJ2.out).mono ?_
      rw [HX.out]
      rintro e w3 ⟨r, rfl, hr, hb⟩
      obtain ⟨aos, caps, rfl, hls, hcs, ha⟩ := hr.where
      have HAS := hide ha
      have HS3 := hide hr
      have HJ3 := hide (HJ2.out.below hb)
      have HO3 := hide (HO2.out.below hb)
      have HB3 := hide (Below.step HB2.out hb (Nat.le_refl _))
      clear hb hr ha
      go_wp2_with fail
      refine (sameInts_same _ _ [] _ _ _ _ _ HO3.out HS3.out).mono ?_
      rintro e w4 ⟨rfl, hb⟩
      have HJ4 := hide (HJ3.out.below hb)
      have HO4 := hide (HO3.out.below hb)
      have HS4 := hide (HS3.out.below hb)
      have HB4 := hide (Below.step HB3.out hb (Nat.le_refl _))
      clear hb
      go_wp2_with fail
      refine (jsv_spec _ js _ _ _ HJ4.out).mono ?_
      rw [HV.out]
      rintro e w5 ⟨rfl, hb⟩
      have HJ5 := hide (HJ4.out.below hb)
      have HO5 := hide (HO4.out.below hb)
      have HS5 := hide (HS4.out.below hb)
      have HB5 := hide (Below.step HB4.out hb (Nat.le_refl _))
      clear hb
      go_wp2_with fail
      refine (alive_any _).mono ?_
      rintro e w6 ⟨rfl, hb⟩
      have HJ6 := hide (HJ5.out.below hb)
      have HO6 := hide (HO5.out.below hb)
      have HS6 := hide (HS5.out.below hb)
      have HB6 := hide (Below.step HB5.out hb (Nat.le_refl _))
      clear hb
      go_wp2_with fail
      go_ret
      exact ⟨rfl, HB6.out⟩
    | true =>
      obtain ⟨xs, hxs⟩ : ∃ xs, orderR kWeight js = xs := ⟨_, rfl⟩
      obtain ⟨hxl, hok⟩ := order_len cmpWeight hv hxs
      have h6 := jsvB_len hv
      have hx6 : xs.length ≤ 6 := by omega
      have HX := hide hxs
      have HL := hide hxl
      have HO := hide hok
      have HV := hide hv
      clear hxs hxl hok hv
      go_wp2_with fail
      refine (weightOrder_impl _ js _ _ _ HJ1.out).mono ?_
      rw [HX.out]
      rintro e w2 ⟨r, rfl, hr, hb⟩
      obtain ⟨aoo, capo, rfl, hlo, hco, ha⟩ := hr.where
      have HAO := hide ha
      have HO2 := hide hr
      have HJ2 := hide (HJ1.out.below hb)
      have HB2 := hide (Below.step HB1.out hb (Nat.le_refl _))
      clear hb hr ha
      go_wp2_with fail
      refine (weightOrder_spec _ js _ _ _ HJ2.out).mono ?_
      rw [HX.out]
      rintro e w3 ⟨r, rfl, hr, hb⟩
      obtain ⟨aos, caps, rfl, hls, hcs, ha⟩ := hr.where
      have HAS := hide ha
      have HS3 := hide hr
      have HJ3 := hide (HJ2.out.below hb)
      have HO3 := hide (HO2.out.below hb)
      have HB3 := hide (Below.step HB2.out hb (Nat.le_refl _))
      clear hb hr ha
      go_wp2_with fail
      refine (sameInts_same _ _ xs _ _ _ _ _ HO3.out HS3.out).mono ?_
      rintro e w4 ⟨rfl, hb⟩
      have HJ4 := hide (HJ3.out.below hb)
      have HO4 := hide (HO3.out.below hb)
      have HS4 := hide (HS3.out.below hb)
      have HB4 := hide (Below.step HB3.out hb (Nat.le_refl _))
      clear hb
      go_wp2_with fail
      refine (jsv_spec _ js _ _ _ HJ4.out).mono ?_
      rw [HV.out]
      rintro e w5 ⟨rfl, hb⟩
      have HJ5 := hide (HJ4.out.below hb)
      have HO5 := hide (HO4.out.below hb)
      have HS5 := hide (HS4.out.below hb)
      have HB5 := hide (Below.step HB4.out hb (Nat.le_refl _))
      clear hb
      go_wp2_with fail
      go_loopw [5, 6, 7] (fun i _ _ wr => ∃ k : Nat, 1 ≤ k ∧ k ≤ xs.length + 1 ∧ i = .int .i64 k ∧ Below w.heap.size w wr ∧ Below w5.heap.size w5 wr) (fun i _ _ _ => xs.length + 1 - (intOf i).toNat)
      case atStart => exact ⟨1, by omega, by omega, rfl, HB5.out, Below.refl _ _⟩
      case round =>
        obtain ⟨k, hk0, hk, rfl, hb, hb'⟩ := hrel
        have HBr := hide hb
        have HBr' := hide hb'
        have HJr := hide (HJ5.out.below hb')
        have HOr := hide (HO5.out.below hb')
        clear hb hb'
        by_cases hlt : k < xs.length
        · obtain ⟨a, b3, e1, e2, e3, e4, e5⟩ := order_pair cmpWeight HV.out HX.out hk0 hlt
          obtain ⟨b2, o2, rfl⟩ := HAO.out (by omega)
          have r1 := HOr.out.read (show k - 1 < xs.length by omega)
          have r2 := HOr.out.read hlt
          rw [e1] at r1
          rw [e2] at r2
          rw [jAt_lt e3, jAt_lt e4] at e5
          have haI : (a : Int) < (js.length : Int) := by omega
          have hbI : (b3 : Int) < (js.length : Int) := by omega
          have hkI : (k : Int) < (xs.length : Int) := by omega
          have hkI1 : (1 : Int) ≤ (k : Int) := by omega
          have hw1 : IntKind.i64.wrap ((k : Int) - 1) = ((k - 1 : Nat) : Int) := by rw [IntWalk.i64_in _ (by omega)]; omega
          have hw2 : ((k - 1 : Nat) : Int) < (xs.length : Int) := by omega
          obtain ⟨d1, d2, d3⟩ := HJr.out.read e3
          obtain ⟨f1, f2, f3⟩ := HJr.out.read e4
          rw [Nat.zero_add] at d1 d2 d3 f1 f2 f3
          have hj1 := jsvB_at HV.out e3
          have hj2 := jsvB_at HV.out e4
          have hm1 := mul_bd (Int.le_trans (by decide) (jvB_s hj1).1) (jvB_s hj1).2 (Int.le_trans (by decide) (jvB_g hj2).1) (jvB_g hj2).2
          have hm2 := mul_bd (Int.le_trans (by decide) (jvB_s hj2).1) (jvB_s hj2).2 (Int.le_trans (by decide) (jvB_g hj1).1) (jvB_g hj1).2
          unfold kWeight at e5
          have hge : decide (js[b3].s * js[a].g < js[a].s * js[b3].g) = false := by simp; omega
          generalize js[a].s = s1 at d1 hm1 hm2 hge
          generalize js[a].d = t1 at d2
          generalize js[a].g = g1 at d3 hm1 hm2 hge
          generalize js[b3].s = s2 at f1 hm1 hm2 hge
          generalize js[b3].d = t2 at f2
          generalize js[b3].g = g2 at f3 hm1 hm2 hge
          obtain ⟨m1, m2⟩ := hm1
          obtain ⟨m3, m4⟩ := hm2
          have hzr : b < wr.heap.size := HJr.out.block_lt (by omega)
          have hzr2 : b2 < wr.heap.size := HOr.out.block_lt (by omega)
          clear e1 e2 e5 hj1 hj2
          have HBx := hide (show ∀ (o1 o2 : Obj), Below w.heap.size w ((wr.alloc o1).alloc o2) from fun o1 o2 => (HBr.out.alloc HBr.out.size o1).alloc (Nat.le_trans HBr.out.size (by simp)) o2)
          have HBy := hide (fun (o1 o2 : Obj) => (HBr'.out.alloc HBr'.out.size o1).alloc (Nat.le_trans HBr'.out.size (by simp)) o2)
          go_wp2_with fail
          go_roundw
          case rel => exact ⟨k + 1, by omega, by omega, by go_num, HBx.out _ _, HBy.out _ _⟩
          case measure => simp [intOf]; omega
        · have hle : ((xs.length : Int) == (js.length : Int)) = true := by rw [HL.out]; simp
          have hnn := sum_nn HO.out
          go_wp2_with fail
          refine (EndSum_impl _ js _ _ _ xs _ _ _ HJr.out HOr.out).mono ?_
          rintro e w9 ⟨rfl, hb9⟩
          have HB9 := hide (Below.step HBr.out hb9 (Nat.le_refl _))
          clear hb9
          generalize endSumR js xs = z at hnn
          go_wp2_with fail
          go_ret
          exact ⟨rfl, HB9.out⟩
end Go.Proofs.YtfjemnjdkniibaaDoor
