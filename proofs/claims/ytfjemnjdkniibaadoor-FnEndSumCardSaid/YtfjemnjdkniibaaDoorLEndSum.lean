/-
  The walk over the law FnEndSum: it answers true, whatever the code, and leaves all old memory alone.
-/
import Derived.Test.YtfjemnjdkniibaaDoorSums
import Derived.Test.YtfjemnjdkniibaaDoorWalkO
import Derived.Test.YtfjemnjdkniibaaDoorWalkH
namespace Go.Proofs.YtfjemnjdkniibaaDoor
open Go.RowKit

set_option maxRecDepth 10000 in
set_option maxHeartbeats 800000 in
theorem law_EndSum (v : Value) (n : Nat) (w : World) (h : BytesAt 0 w.heap.size w v n) :
    Calls Tryd.prog 13 #[v] w fun e w' => e = .returned (.bool true) ∧ Below w.heap.size w w' := by
  obtain ⟨i0, hi0, hz00, hi1, hi2⟩ := info_parts info_job
  obtain ⟨ao, cap, rfl, hnc, hcap, -, -⟩ := id h
  have HB := hide h
  clear h
  by_cases hlong : 1048576 < n
  · go_enter Tryd.func13, Tryd.ntmps13
    go_wp2_with fail
    go_ret
    exact ⟨rfl, Below.refl _ _⟩
  · go_enter Tryd.func13, Tryd.ntmps13
    go_wp2_with fail
    refine (drawEndSum _ n _ HB.out).mono ?_
    rintro e w1 ⟨v1, js, v2, bs, rfl, hl, hbl, hj, hi, hb1⟩
    obtain ⟨ao1, cap1, rfl, hlc1, hcap1, hj0⟩ := hj.where'
    obtain ⟨ao2, cap2, rfl, hlc2, hcap2, hi0⟩ := hi.where
    have HA1 := hide hj0
    have HA2 := hide hi0
    have HJ1 := hide hj
    have HI1 := hide hi
    have HB1 := hide hb1
    clear hj hi hb1 hj0 hi0
    cases hok : okB js bs with
    | false =>
      have hx : endSumR js bs = -1 := by simp [endSumR, hok]
      have HX := hide hx
      clear hx hok
      go_wp2_with fail
      refine (EndSum_impl _ js _ _ _ bs _ _ _ HJ1.out HI1.out).mono ?_
      rw [HX.out]
      rintro e w2 ⟨rfl, hb⟩
      have HJ2 := hide (HJ1.out.below hb)
      have HI2 := hide (HI1.out.below hb)
      have HB2 := hide (Below.step HB1.out hb (Nat.le_refl _))
      clear hb
      go_wp2_with fail
      refine (EndSum_spec _ js _ _ _ bs _ _ _ HJ2.out HI2.out).mono ?_
      rw [HX.out]
      rintro e w3 ⟨rfl, hb⟩
      have HJ3 := hide (HJ2.out.below hb)
      have HI3 := hide (HI2.out.below hb)
      have HB3 := hide (Below.step HB2.out hb (Nat.le_refl _))
      clear hb
      go_wp2_with fail
      refine (alive_any _).mono ?_
      rintro e w4 ⟨rfl, hb⟩
      have HJ4 := hide (HJ3.out.below hb)
      have HI4 := hide (HI3.out.below hb)
      have HB4 := hide (Below.step HB3.out hb (Nat.le_refl _))
      clear hb
      go_wp2_with fail
      go_ret
      exact ⟨rfl, HB4.out⟩
    | true =>
      have hv := ok_jsv hok
      have hx0 := sum_nn hok
      have hy0 := sum_nn (order_ok cmpWeight hv)
      have hyx := smith hok
      have hdb := dbl_end hok
      have h94 := sum_bd hok
      obtain ⟨xs, hxs⟩ : ∃ xs, orderR kWeight js = xs := ⟨_, rfl⟩
      rw [hxs] at hy0 hyx
      obtain ⟨x, hx⟩ : ∃ x, endSumR js bs = x := ⟨_, rfl⟩
      obtain ⟨y, hy⟩ : ∃ y, endSumR js xs = y := ⟨_, rfl⟩
      obtain ⟨z, hz⟩ : ∃ z, endSumR (js.map dbl) bs = z := ⟨_, rfl⟩
      rw [hx] at hx0 hyx hdb h94
      rw [hy] at hy0 hyx
      rw [hz] at hdb
      have h6 := jsvB_len hv
      have hxl := (order_len cmpWeight hv hxs).1
      have hx6 : xs.length ≤ 6 := by omega
      have HX := hide hx
      have HY := hide hy
      have HZ := hide hz
      have HXS := hide hxs
      have HDB := hide hdb
      have HV := hide hv
      clear hx hy hz hxs hok hdb hxl hv
      go_wp2_with fail
      refine (EndSum_impl _ js _ _ _ bs _ _ _ HJ1.out HI1.out).mono ?_
      rw [HX.out]
      rintro e w2 ⟨rfl, hb⟩
      have HJ2 := hide (HJ1.out.below hb)
      have HI2 := hide (HI1.out.below hb)
      have HB2 := hide (Below.step HB1.out hb (Nat.le_refl _))
      clear hb
      go_wp2_with fail
      refine (EndSum_spec _ js _ _ _ bs _ _ _ HJ2.out HI2.out).mono ?_
      rw [HX.out]
      rintro e w3 ⟨rfl, hb⟩
      have HJ3 := hide (HJ2.out.below hb)
      have HI3 := hide (HI2.out.below hb)
      have HB3 := hide (Below.step HB2.out hb (Nat.le_refl _))
      clear hb
      have hz0 : w.heap.size ≤ w3.heap.size := HB3.out.size
      go_wp2_with fail
      go_loopw [6, 7, 8] (fun o i _ wr => ∃ k : Nat, k ≤ js.length ∧ i = .int .i64 k ∧ (∃ g cap, o = .slice (some ⟨g, 0, none⟩) k cap) ∧ Below w.heap.size w wr ∧ Below w3.heap.size w3 wr ∧ wr.ownsRow w3.heap.size 24 3 o k (flatJ ((js.map dbl).take k))) (fun _ i _ _ => js.length - (intOf i).toNat)
      case atStart => exact ⟨0, Nat.zero_le _, rfl, ⟨_, _, rfl⟩, HB3.out.alloc hz0 _, (Below.refl _ _).alloc (Nat.le_refl _) _, World.ownsRow_made w3 #[] 0 (Nat.le_refl _) (Nat.zero_le _) rfl⟩
      case round =>
        obtain ⟨k, hk, rfl, ⟨g, cap, rfl⟩, hb, hb', hown⟩ := hrel
        have HBr := hide hb
        have HBr' := hide hb'
        have Ho := hide hown
        have HJr := hide (HJ3.out.below hb')
        have HIr := hide (HI3.out.below hb')
        have hzr : w3.heap.size ≤ wr.heap.size := hb'.size
        clear hb hb' hown
        by_cases hlt : k < js.length
        · obtain ⟨b1, o1, rfl⟩ := HA1.out (by omega)
          obtain ⟨d1, d2, d3⟩ := HJr.out.read hlt
          have hg := jvB_g (jsvB_at HV.out hlt)
          have HT := hide (show (js.map dbl).take (k + 1) = (js.map dbl).take k ++ [⟨js[k].s, js[k].d, 2 * js[k].g⟩] by rw [List.take_succ_eq_append_getElem (by simpa using hlt)]; simp [dbl])
          have hkI : (k : Int) < (js.length : Int) := by omega
          have hzb : b1 < wr.heap.size := HJr.out.block_lt (by omega)
          generalize js[k].s = s1 at d1 HT
          generalize js[k].d = t1 at d2 HT
          generalize js[k].g = g1 at d3 HT hg
          obtain ⟨hg1, hg2⟩ := hg
          go_wp2_with (at_builtin; refine wpList_append_own _ rfl _ _ _ rfl w3.heap.size 24 i0 _ 3 24 Tryd.underlying29 hi0 hz00 hi1 hi2 rfl (by decide) _ k (flatJ ((js.map dbl).take k)) rfl ((Ho.out.alloc _).alloc _) _ 1 1 (flatJ [⟨s1, t1, 2 * g1⟩]) rfl rfl ?c1 ?c2 ?c3 ?c4 ?c5 ?_)
          case c1 => rw [← show (wr.alloc (.cells #[.int .i64 s1, .int .i64 t1, .int .i64 (2 * g1)] 24)).heap.size = wr.heap.size + 1 by simp]; exact lit_cells _ (flatJ [⟨s1, t1, 2 * g1⟩]) _
          case c2 => exact flatJ_one _
          case c3 => unfold maxLen; omega
          case c4 => omega
          case c5 => simp; omega
          intro v4 w4 hown4 hgrow4 _
          obtain ⟨hB4, g4, c4, e4, hO4⟩ := grown_jobs Ho.out hzr hown4 hgrow4
          subst e4
          rw [← flatJ_append, ← HT.out] at hO4
          have HB4 := hide (Below.trans HBr.out (hB4.mono hz0))
          have HB4' := hide (HBr'.out.trans hB4)
          have HO4 := hide hO4
          clear hown4 hgrow4 hB4 hO4
          go_wp2_with fail
          go_roundw
          case rel => exact ⟨k + 1, by omega, by go_num, ⟨g4, c4, rfl⟩, HB4.out, HB4'.out, HO4.out⟩
          case measure => simp [intOf]; omega
        · obtain rfl : k = js.length := by omega
          have hO5 := Ho.out
          rw [List.take_of_length_le (by simp)] at hO5
          have HD := hide (show JobsAt w3.heap.size wr.heap.size wr (.slice (some ⟨g, 0, none⟩) js.length cap) (js.map dbl) from ownJ_at hO5 (by simp))
          clear hO5
          have HJ8 := HJr
          have HI8 := HIr
          have HB8 := HBr
          have HD8 := HD
          clear HJr HIr HBr HD Ho
          go_wp2_with fail
          refine (EndSum_impl _ (js.map dbl) _ _ _ bs _ _ _ HD8.out HI8.out).mono ?_
          rw [HZ.out]
          rintro e w9 ⟨rfl, hb⟩
          have HJ9 := hide (HJ8.out.below hb)
          have HI9 := hide (HI8.out.below hb)
          have HD9 := hide (HD8.out.below hb)
          have HB9 := hide (Below.step HB8.out hb (Nat.le_refl _))
          clear hb
          go_wp2_with fail
          refine (weightOrder_impl _ js _ _ _ HJ9.out).mono ?_
          rw [HXS.out]
          rintro e w10 ⟨r, rfl, hr, hb⟩
          obtain ⟨aoo, capo, rfl, hlo, hco, ha⟩ := hr.where
          have HAO := hide ha
          have HO10 := hide hr
          have HJ10 := hide (HJ9.out.below hb)
          have HI10 := hide (HI9.out.below hb)
          have HD10 := hide (HD9.out.below hb)
          have HB10 := hide (Below.step HB9.out hb (Nat.le_refl _))
          clear hb hr ha
          go_wp2_with fail
          refine (EndSum_impl _ js _ _ _ xs _ _ _ HJ10.out HO10.out).mono ?_
          rw [HY.out]
          rintro e w11 ⟨rfl, hb⟩
          have HJ11 := hide (HJ10.out.below hb)
          have HI11 := hide (HI10.out.below hb)
          have HD11 := hide (HD10.out.below hb)
          have HO11 := hide (HO10.out.below hb)
          have HB11 := hide (Below.step HB10.out hb (Nat.le_refl _))
          clear hb
          rcases HDB.out with hz9 | hz9
          · go_wp2_with fail
            go_ret
            exact ⟨rfl, HB11.out⟩
          · subst hz9
            by_cases hx9 : x = 0
            · subst hx9
              go_wp2_with fail
              go_ret
              exact ⟨rfl, HB11.out⟩
            · have hx1 : 0 < x := by omega
              go_wp2_with fail
              go_ret
              exact ⟨rfl, HB11.out⟩
end Go.Proofs.YtfjemnjdkniibaaDoor
