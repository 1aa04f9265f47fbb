/-
  The walk over the law FnJobsLate: it answers true, whatever the code, and leaves all old memory alone.
-/
import Derived.Test.YtfjemnjdkniibaaDoorSums
import Derived.Test.YtfjemnjdkniibaaDoorWalkU
import Derived.Test.YtfjemnjdkniibaaDoorWalkH
namespace Go.Proofs.YtfjemnjdkniibaaDoor
open Go.RowKit

set_option maxRecDepth 10000 in
set_option maxHeartbeats 800000 in
theorem law_JobsLate (v : Value) (n : Nat) (w : World) (h : BytesAt 0 w.heap.size w v n) :
    Calls Tryd.prog 17 #[v] w fun e w' => e = .returned (.bool true) ∧ Below w.heap.size w w' := by
  obtain ⟨i0, hi0, hz00, hi1, hi2⟩ := info_parts info_job
  obtain ⟨ao, cap, rfl, hnc, hcap, -, -⟩ := id h
  have HB := hide h
  clear h
  by_cases hlong : 1048576 < n
  · go_enter Tryd.func17, Tryd.ntmps17
    go_wp2_with fail
    go_ret
    exact ⟨rfl, Below.refl _ _⟩
  · go_enter Tryd.func17, Tryd.ntmps17
    go_wp2_with fail
    refine (drawJobsLate _ n _ HB.out).mono ?_
    rintro e w1 ⟨v1, js, v2, bs, rfl, hl, hbl, hj, hi, hb1⟩
    obtain ⟨ao1, cap1, rfl, hlc1, hcap1, hj0⟩ := hj.where'
    obtain ⟨ao2, cap2, rfl, hlc2, hcap2, hi0⟩ := hi.where
    have HA1 := hide hj0
    have HA2 := hide hi0
    have HJ1 := hide hj
    have HI1 := hide hi
    have HB1 := hide hb1
    clear hj hi hb1 hj0 hi0
    cases hok : okB js bs with
    | false =>
      have hx : lateR js bs = -1 := by simp [lateR, hok]
      have HX := hide hx
      clear hx hok
      go_wp2_with fail
      refine (JobsLate_impl _ js _ _ _ bs _ _ _ HJ1.out HI1.out).mono ?_
      rw [HX.out]
      rintro e w2 ⟨rfl, hb⟩
      have HJ2 := hide (HJ1.out.below hb)
      have HI2 := hide (HI1.out.below hb)
      have HB2 := hide (Below.step HB1.out hb (Nat.le_refl _))
      clear hb
      go_wp2_with fail
      refine (JobsLate_spec _ js _ _ _ bs _ _ _ HJ2.out HI2.out).mono ?_
      rw [HX.out]
      rintro e w3 ⟨rfl, hb⟩
      have HJ3 := hide (HJ2.out.below hb)
      have HI3 := hide (HI2.out.below hb)
      have HB3 := hide (Below.step HB2.out hb (Nat.le_refl _))
      clear hb
      go_wp2_with fail
      refine (alive_any _).mono ?_
      rintro e w4 ⟨rfl, hb⟩
      have HJ4 := hide (HJ3.out.below hb)
      have HI4 := hide (HI3.out.below hb)
      have HB4 := hide (Below.step HB3.out hb (Nat.le_refl _))
      clear hb
      go_wp2_with fail
      go_ret
      exact ⟨rfl, HB4.out⟩
    | true =>
      have hv := ok_jsv hok
      have hx0 := late_nn hok
      have hy0 := late_nn (few_ok hv)
      have hyx := late_ge hok
      rw [← few_late hv] at hyx
      have hzx := ltr_late hok
      obtain ⟨xs, hxs⟩ : ∃ xs, fewR js = xs := ⟨_, rfl⟩
      rw [hxs] at hy0 hyx
      obtain ⟨x, hx⟩ : ∃ x, lateR js bs = x := ⟨_, rfl⟩
      obtain ⟨y, hy⟩ : ∃ y, lateR js xs = y := ⟨_, rfl⟩
      obtain ⟨z, hz⟩ : ∃ z, lateR (js.map ltr) bs = z := ⟨_, rfl⟩
      rw [hx] at hx0 hyx hzx
      rw [hy] at hy0 hyx
      rw [hz] at hzx
      have h6 := jsvB_len hv
      have hxl := fewR_len js
      rw [hxs] at hxl
      have hx6 : xs.length ≤ 6 := by omega
      have HX := hide hx
      have HY := hide hy
      have HZ := hide hz
      have HXS := hide hxs
      have HV := hide hv
      clear hx hy hz hxs hok hxl hv
      go_wp2_with fail
      refine (JobsLate_impl _ js _ _ _ bs _ _ _ HJ1.out HI1.out).mono ?_
      rw [HX.out]
      rintro e w2 ⟨rfl, hb⟩
      have HJ2 := hide (HJ1.out.below hb)
      have HI2 := hide (HI1.out.below hb)
      have HB2 := hide (Below.step HB1.out hb (Nat.le_refl _))
      clear hb
      go_wp2_with fail
      refine (JobsLate_spec _ js _ _ _ bs _ _ _ HJ2.out HI2.out).mono ?_
      rw [HX.out]
      rintro e w3 ⟨rfl, hb⟩
      have HJ3 := hide (HJ2.out.below hb)
      have HI3 := hide (HI2.out.below hb)
      have HB3 := hide (Below.step HB2.out hb (Nat.le_refl _))
      clear hb
      have hz0 : w.heap.size ≤ w3.heap.size := HB3.out.size
      go_wp2_with fail
      go_loopw [6, 7, 8] (fun o i _ wr => ∃ k : Nat, k ≤ js.length ∧ i = .int .i64 k ∧ (∃ g cap, o = .slice (some ⟨g, 0, none⟩) k cap) ∧ Below w.heap.size w wr ∧ Below w3.heap.size w3 wr ∧ wr.ownsRow w3.heap.size 24 3 o k (flatJ ((js.map ltr).take k))) (fun _ i _ _ => js.length - (intOf i).toNat)
      case atStart => exact ⟨0, Nat.zero_le _, rfl, ⟨_, _, rfl⟩, HB3.out.alloc hz0 _, (Below.refl _ _).alloc (Nat.le_refl _) _, World.ownsRow_made w3 #[] 0 (Nat.le_refl _) (Nat.zero_le _) rfl⟩
      case round =>
        obtain ⟨k, hk, rfl, ⟨g, cap, rfl⟩, hb, hb', hown⟩ := hrel
        have HBr := hide hb
        have HBr' := hide hb'
        have Ho := hide hown
        have HJr := hide (HJ3.out.below hb')
        have HIr := hide (HI3.out.below hb')
        have hzr : w3.heap.size ≤ wr.heap.size := hb'.size
        clear hb hb' hown
        by_cases hlt : k < js.length
        · obtain ⟨b1, o1, rfl⟩ := HA1.out (by omega)
          obtain ⟨d1, d2, d3⟩ := HJr.out.read hlt
          have hg := jvB_d (jsvB_at HV.out hlt)
          have HT := hide (show (js.map ltr).take (k + 1) = (js.map ltr).take k ++ [⟨js[k].s, min (js[k].d + 1) 999, js[k].g⟩] by rw [List.take_succ_eq_append_getElem (by simpa using hlt)]; simp [ltr])
          have hkI : (k : Int) < (js.length : Int) := by omega
          have hzb : b1 < wr.heap.size := HJr.out.block_lt (by omega)
          generalize js[k].s = s1 at d1 HT
          generalize js[k].d = t1 at d2 HT hg
          generalize js[k].g = g1 at d3 HT
          obtain ⟨hg1, hg2⟩ := hg
          by_cases ht : t1 + 1 ≤ 999
          · have HT2 := hide (show (js.map ltr).take (k + 1) = (js.map ltr).take k ++ [⟨s1, t1 + 1, g1⟩] by rw [HT.out, Int.min_eq_left ht])
            go_wp2_with (at_builtin; refine wpList_append_own _ rfl _ _ _ rfl w3.heap.size 24 i0 _ 3 24 Tryd.underlying29 hi0 hz00 hi1 hi2 rfl (by decide) _ k (flatJ ((js.map ltr).take k)) rfl ((Ho.out.alloc _).alloc _) _ 1 1 (flatJ [⟨s1, t1 + 1, g1⟩]) rfl rfl ?c1 ?c2 ?c3 ?c4 ?c5 ?_)
            case c1 => first | (rw [← show (wr.alloc (.cells #[.int .i64 s1, .int .i64 (t1 + 1), .int .i64 g1] 24)).heap.size = wr.heap.size + 1 by simp]; exact lit_cells _ (flatJ [⟨s1, t1 + 1, g1⟩]) _) | (intro j u hu; exact hu)
            case c2 => exact flatJ_one _
            case c3 => unfold maxLen; omega
            case c4 => omega
            case c5 => first | omega | (simp; omega)
            intro v4 w4 hown4 hgrow4 _
            obtain ⟨hB4, g4, c4, e4, hO4⟩ := grown_jobs Ho.out hzr hown4 hgrow4
            subst e4
            rw [← flatJ_append, ← HT2.out] at hO4
            have HB4 := hide (Below.trans HBr.out (hB4.mono hz0))
            have HB4' := hide (HBr'.out.trans hB4)
            have HO4 := hide hO4
            clear hown4 hgrow4 hB4 hO4
            go_wp2_with fail
            go_roundw
            case rel => exact ⟨k + 1, by omega, by go_num, ⟨g4, c4, rfl⟩, HB4.out, HB4'.out, HO4.out⟩
            case measure => simp [intOf]; omega
          · have HT2 := hide (show (js.map ltr).take (k + 1) = (js.map ltr).take k ++ [⟨s1, 999, g1⟩] by rw [HT.out, Int.min_eq_right (by omega)])
            go_wp2_with (at_builtin; refine wpList_append_own _ rfl _ _ _ rfl w3.heap.size 24 i0 _ 3 24 Tryd.underlying29 hi0 hz00 hi1 hi2 rfl (by decide) _ k (flatJ ((js.map ltr).take k)) rfl ((Ho.out.alloc _).alloc _) _ 1 1 (flatJ [⟨s1, 999, g1⟩]) rfl rfl ?c1 ?c2 ?c3 ?c4 ?c5 ?_)
            case c1 => first | (rw [← show (wr.alloc (.cells #[.int .i64 s1, .int .i64 (999), .int .i64 g1] 24)).heap.size = wr.heap.size + 1 by simp]; exact lit_cells _ (flatJ [⟨s1, 999, g1⟩]) _) | (intro j u hu; exact hu)
            case c2 => exact flatJ_one _
            case c3 => unfold maxLen; omega
            case c4 => omega
            case c5 => first | omega | (simp; omega)
            intro v4 w4 hown4 hgrow4 _
            obtain ⟨hB4, g4, c4, e4, hO4⟩ := grown_jobs Ho.out hzr hown4 hgrow4
            subst e4
            rw [← flatJ_append, ← HT2.out] at hO4
            have HB4 := hide (Below.trans HBr.out (hB4.mono hz0))
            have HB4' := hide (HBr'.out.trans hB4)
            have HO4 := hide hO4
            clear hown4 hgrow4 hB4 hO4
            go_wp2_with fail
            go_roundw
            case rel => exact ⟨k + 1, by omega, by go_num, ⟨g4, c4, rfl⟩, HB4.out, HB4'.out, HO4.out⟩
            case measure => simp [intOf]; omega
        · obtain rfl : k = js.length := by omega
          have hO5 := Ho.out
          rw [List.take_of_length_le (by simp)] at hO5
          have HD := hide (show JobsAt w3.heap.size wr.heap.size wr (.slice (some ⟨g, 0, none⟩) js.length cap) (js.map ltr) from ownJ_at hO5 (by simp))
          clear hO5
          have HJ8 := HJr
          have HI8 := HIr
          have HB8 := HBr
          have HD8 := HD
          clear HJr HIr HBr HD Ho
          go_wp2_with fail
          refine (few_impl _ js _ _ _ HJ8.out).mono ?_
          rw [HXS.out]
          rintro e w9 ⟨r, rfl, hr, hb⟩
          obtain ⟨aoo, capo, rfl, hlo, hco, ha⟩ := hr.where
          have HAO := hide ha
          have HO9 := hide hr
          have HJ9 := hide (HJ8.out.below hb)
          have HI9 := hide (HI8.out.below hb)
          have HD9 := hide (HD8.out.below hb)
          have HB9 := hide (Below.step HB8.out hb (Nat.le_refl _))
          clear hb hr ha
          go_wp2_with fail
          refine (JobsLate_impl _ js _ _ _ xs _ _ _ HJ9.out HO9.out).mono ?_
          rw [HY.out]
          rintro e w10 ⟨rfl, hb⟩
          have HJ10 := hide (HJ9.out.below hb)
          have HI10 := hide (HI9.out.below hb)
          have HD10 := hide (HD9.out.below hb)
          have HO10 := hide (HO9.out.below hb)
          have HB10 := hide (Below.step HB9.out hb (Nat.le_refl _))
          clear hb
          go_wp2_with fail
          refine (JobsLate_impl _ (js.map ltr) _ _ _ bs _ _ _ HD10.out HI10.out).mono ?_
          rw [HZ.out]
          rintro e w11 ⟨rfl, hb⟩
          have HJ11 := hide (HJ10.out.below hb)
          have HI11 := hide (HI10.out.below hb)
          have HD11 := hide (HD10.out.below hb)
          have HO11 := hide (HO10.out.below hb)
          have HB11 := hide (Below.step HB10.out hb (Nat.le_refl _))
          clear hb
          go_wp2_with fail
          go_ret
          exact ⟨rfl, HB11.out⟩
end Go.Proofs.YtfjemnjdkniibaaDoor
