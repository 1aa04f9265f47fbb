/-
  The walk over the law FnFewestLate: it answers true, whatever the code, and leaves all old memory alone.
-/
import Derived.Test.YtfjemnjdkniibaaDoorFews
import Derived.Test.YtfjemnjdkniibaaDoorWalkH
namespace Go.Proofs.YtfjemnjdkniibaaDoor
open Go.RowKit

set_option maxRecDepth 10000 in
set_option maxHeartbeats 800000 in
theorem law_FewestLate (v : Value) (n : Nat) (w : World) (h : BytesAt 0 w.heap.size w v n) :
    Calls Tryd.prog 18 #[v] w fun e w' => e = .returned (.bool true) ∧ Below w.heap.size w w' := by
  obtain ⟨ao, cap, rfl, hnc, hcap, -, -⟩ := id h
  have HB := hide h
  clear h
  by_cases hlong : 1048576 < n
  · go_enter Tryd.func18, Tryd.ntmps18
    go_wp2_with fail
    go_ret
    exact ⟨rfl, Below.refl _ _⟩
  · go_enter Tryd.func18, Tryd.ntmps18
    go_wp2_with fail
    refine (drawFewestLate _ n _ HB.out).mono ?_
    rintro e w1 ⟨v1, js, rfl, hl, ⟨b, cap1, rfl⟩, hj, hb1⟩
    obtain ⟨hlc1, hcap1⟩ := jobs_cap hj
    have HJ1 := hide hj
    have HB1 := hide hb1
    clear hj hb1
    cases hv : jsvB js with
    | false =>
      have HX := hide (few_bad hv)
      have HV := hide hv
      clear hv
      go_wp2_with fail
      refine (few_impl _ js _ _ _ HJ1.out).mono ?_
      rw [HX.out]
      rintro e w2 ⟨r, rfl, hr, hb⟩
      obtain ⟨aoo, capo, rfl, hlo, hco, ha⟩ := hr.where
      have HAO := hide ha
      have HO2 := hide hr
      have HJ2 := hide (HJ1.out.below hb)
      have HB2 := hide (Below.step HB1.out hb (Nat.le_refl _))
      clear hb hr ha
      go_wp2_with fail
      refine (few_spec _ js _ _ _ HJ2.out).mono ?_
      rw [HX.out]
      rintro e w3 ⟨r, rfl, hr, hb⟩
      obtain ⟨aos, caps, rfl, hls, hcs, ha⟩ := hr.where
      have HAS := hide ha
      have HS3 := hide hr
      have HJ3 := hide (HJ2.out.below hb)
      have HO3 := hide (HO2.out.below hb)
      have HB3 := hide (Below.step HB2.out hb (Nat.le_refl _))
      clear hb hr ha
      go_wp2_with fail
      refine (sameInts_same _ _ [] _ _ _ _ _ HO3.out HS3.out).mono ?_
      rintro e w4 ⟨rfl, hb⟩
      have HJ4 := hide (HJ3.out.below hb)
      have HO4 := hide (HO3.out.below hb)
      have HS4 := hide (HS3.out.below hb)
      have HB4 := hide (Below.step HB3.out hb (Nat.le_refl _))
      clear hb
      go_wp2_with fail
      refine (jsv_spec _ js _ _ _ HJ4.out).mono ?_
      rw [HV.out]
      rintro e w5 ⟨rfl, hb⟩
      have HJ5 := hide (HJ4.out.below hb)
      have HO5 := hide (HO4.out.below hb)
      have HS5 := hide (HS4.out.below hb)
      have HB5 := hide (Below.step HB4.out hb (Nat.le_refl _))
      clear hb
      go_wp2_with fail
      refine (alive_any _).mono ?_
      rintro e w6 ⟨rfl, hb⟩
      have HJ6 := hide (HJ5.out.below hb)
      have HO6 := hide (HO5.out.below hb)
      have HS6 := hide (HS5.out.below hb)
      have HB6 := hide (Below.step HB5.out hb (Nat.le_refl _))
      clear hb
      go_wp2_with fail
      go_ret
      exact ⟨rfl, HB6.out⟩
    | true =>
      have hxl := (few_perm hv).length_eq
      rw [idx_len] at hxl
      have hlt0 := few_late hv
      have hkl := onTime_le hv
      have hok := few_ok hv
      obtain ⟨xs, hxs⟩ : ∃ xs, fewR js = xs := ⟨_, rfl⟩
      obtain ⟨ks, hks⟩ : ∃ ks, onTimeR js = ks := ⟨_, rfl⟩
      have hfh : ∀ k (hk : k < xs.length), hasI ks xs[k] = decide (k < ks.length) := by
        subst hxs
        subst hks
        exact fun k hk => few_has hv hk
      rw [hxs] at hxl hlt0 hok
      rw [hks] at hlt0 hkl
      have h6 := jsvB_len hv
      have hx6 : xs.length ≤ 6 := by omega
      have hk6 : ks.length ≤ 6 := by omega
      have HX := hide hxs
      have HK := hide hks
      have HL := hide hxl
      have HLT := hide hlt0
      have HFH := hide hfh
      have HV := hide hv
      have hklI : (ks.length : Int) ≤ (js.length : Int) := by omega
      clear hxs hks hxl hlt0 hfh hv hok hkl
      go_wp2_with fail
      refine (few_impl _ js _ _ _ HJ1.out).mono ?_
      rw [HX.out]
      rintro e w2 ⟨r, rfl, hr, hb⟩
      obtain ⟨aoo, capo, rfl, hlo, hco, ha⟩ := hr.where
      have HAO := hide ha
      have HO2 := hide hr
      have HJ2 := hide (HJ1.out.below hb)
      have HB2 := hide (Below.step HB1.out hb (Nat.le_refl _))
      clear hb hr ha
      go_wp2_with fail
      refine (few_spec _ js _ _ _ HJ2.out).mono ?_
      rw [HX.out]
      rintro e w3 ⟨r, rfl, hr, hb⟩
      obtain ⟨aos, caps, rfl, hls, hcs, ha⟩ := hr.where
      have HAS := hide ha
      have HS3 := hide hr
      have HJ3 := hide (HJ2.out.below hb)
      have HO3 := hide (HO2.out.below hb)
      have HB3 := hide (Below.step HB2.out hb (Nat.le_refl _))
      clear hb hr ha
      go_wp2_with fail
      refine (sameInts_same _ _ xs _ _ _ _ _ HO3.out HS3.out).mono ?_
      rintro e w4 ⟨rfl, hb⟩
      have HJ4 := hide (HJ3.out.below hb)
      have HO4 := hide (HO3.out.below hb)
      have HS4 := hide (HS3.out.below hb)
      have HB4 := hide (Below.step HB3.out hb (Nat.le_refl _))
      clear hb
      go_wp2_with fail
      refine (jsv_spec _ js _ _ _ HJ4.out).mono ?_
      rw [HV.out]
      rintro e w5 ⟨rfl, hb⟩
      have HJ5 := hide (HJ4.out.below hb)
      have HO5 := hide (HO4.out.below hb)
      have HS5 := hide (HS4.out.below hb)
      have HB5 := hide (Below.step HB4.out hb (Nat.le_refl _))
      clear hb
      go_wp2_with fail
      refine (onTime_impl _ js _ _ _ HJ5.out).mono ?_
      rw [HK.out]
      rintro e w6 ⟨r, rfl, hr, hb⟩
      obtain ⟨aok, capk, rfl, hlk, hck, ha⟩ := hr.where
      have HAK := hide ha
      have HK6 := hide hr
      have HJ6 := hide (HJ5.out.below hb)
      have HO6 := hide (HO5.out.below hb)
      have HS6 := hide (HS5.out.below hb)
      have HB6 := hide (Below.step HB5.out hb (Nat.le_refl _))
      clear hb hr ha
      go_wp2_with fail
      go_loop [7] (fun i => ∃ k : Nat, k ≤ xs.length ∧ i = .int .i64 k) (fun i => xs.length - (intOf i).toNat)
      case atStart => exact ⟨0, Nat.zero_le _, rfl⟩
      case round =>
        obtain ⟨k, hk, rfl⟩ := hrel
        by_cases hlt : k < xs.length
        · obtain ⟨b2, o2, rfl⟩ := HAO.out (by omega)
          have r1 := HO6.out.read hlt
          have HH := hide (HFH.out k hlt)
          generalize xs[k] = x at r1 HH
          have hkI : (k : Int) < (xs.length : Int) := by omega
          by_cases hkn : k < ks.length
          · have hh : hasI ks x = true := by rw [HH.out]; simpa using hkn
            have hkI2 : (k : Int) < (ks.length : Int) := by omega
            go_wp2_with fail
            refine (hasInt_any _ ks _ _ x _ HK6.out).mono ?_
            rw [hh]
            rintro e w9 ⟨rfl, rfl⟩
            go_wp2_with fail
            go_round
            case rel => exact ⟨k + 1, by omega, by go_num⟩
            case measure => simp [intOf]; omega
          · have hh : hasI ks x = false := by rw [HH.out]; simpa using hkn
            have hkI2 : decide ((k : Int) < (ks.length : Int)) = false := by simp; omega
            go_wp2_with fail
            refine (hasInt_any _ ks _ _ x _ HK6.out).mono ?_
            rw [hh]
            rintro e w9 ⟨rfl, rfl⟩
            go_wp2_with fail
            go_round
            case rel => exact ⟨k + 1, by omega, by go_num⟩
            case measure => simp [intOf]; omega
        · have hle : ((xs.length : Int) == (js.length : Int)) = true := by rw [HL.out]; simp
          go_wp2_with fail
          refine (JobsLate_impl _ js _ _ _ xs _ _ _ HJ6.out HO6.out).mono ?_
          rw [HLT.out]
          rintro e w7 ⟨rfl, hb⟩
          have HJ7 := hide (HJ6.out.below hb)
          have HO7 := hide (HO6.out.below hb)
          have HS7 := hide (HS6.out.below hb)
          have HK7 := hide (HK6.out.below hb)
          have HB7 := hide (Below.step HB6.out hb (Nat.le_refl _))
          clear hb
          go_wp2_with fail
          go_ret
          exact ⟨rfl, HB7.out⟩
end Go.Proofs.YtfjemnjdkniibaaDoor
