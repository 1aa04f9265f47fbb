/-
  The walk over the law FnJobEnds: it answers true, whatever the code, and leaves all old memory alone.
-/
import Derived.Test.YtfjemnjdkniibaaDoorReads
import Derived.Test.YtfjemnjdkniibaaDoorWalkG
namespace Go.Proofs.YtfjemnjdkniibaaDoor
open Go.RowKit

set_option maxRecDepth 10000 in
set_option maxHeartbeats 800000 in
theorem law_JobEnds (v : Value) (n : Nat) (w : World) (h : BytesAt 0 w.heap.size w v n) :
    Calls Tryd.prog 8 #[v] w fun e w' => e = .returned (.bool true) ∧ Below w.heap.size w w' := by
  obtain ⟨ao, cap, rfl, hnc, hcap, -, -⟩ := id h
  have HB := hide h
  clear h
  by_cases hlong : 1048576 < n
  · go_enter Tryd.func8, Tryd.ntmps8
    go_wp2_with fail
    go_ret
    exact ⟨rfl, Below.refl _ _⟩
  · go_enter Tryd.func8, Tryd.ntmps8
    go_wp2_with fail
    refine (drawJobEnds _ n _ HB.out).mono ?_
    rintro e w1 ⟨v1, js, v2, bs, rfl, hl, hbl, hj, hi, hb1⟩
    obtain ⟨ao1, cap1, rfl, hlc1, hcap1, hj0⟩ := hj.where'
    obtain ⟨ao2, cap2, rfl, hlc2, hcap2, hi0⟩ := hi.where
    have HA1 := hide hj0
    have HA2 := hide hi0
    have HJ1 := hide hj
    have HI1 := hide hi
    have HB1 := hide hb1
    clear hj hi hb1 hj0 hi0
    cases hok : okB js bs with
    | false =>
      have HX := hide (endsR_bad hok)
      go_wp2_with fail
      refine (jobEnds_impl _ js _ _ _ bs _ _ _ HJ1.out HI1.out).mono ?_
      rw [HX.out]
      rintro e w2 ⟨r, rfl, hr, hb⟩
      obtain ⟨aoe, cape, rfl, hle, hce, ha⟩ := hr.where
      have HAE := hide ha
      have HE2 := hide hr
      have HJ2 := hide (HJ1.out.below hb)
      have HI2 := hide (HI1.out.below hb)
      have HB2 := hide (Below.step HB1.out hb (Nat.le_refl _))
      clear hb hr ha
      go_wp2_with fail
      refine (jobEnds_spec _ js _ _ _ bs _ _ _ HJ2.out HI2.out).mono ?_
      rw [HX.out]
      rintro e w3 ⟨r, rfl, hr, hb⟩
      obtain ⟨aos, caps, rfl, hls, hcs, ha⟩ := hr.where
      have HAS := hide ha
      have HS3 := hide hr
      have HJ3 := hide (HJ2.out.below hb)
      have HI3 := hide (HI2.out.below hb)
      have HE3 := hide (HE2.out.below hb)
      have HB3 := hide (Below.step HB2.out hb (Nat.le_refl _))
      clear hb hr ha
      go_wp2_with fail
      refine (sameInts_same _ _ [] _ _ _ _ _ HE3.out HS3.out).mono ?_
      rintro e w4 ⟨rfl, hb⟩
      have HJ4 := hide (HJ3.out.below hb)
      have HI4 := hide (HI3.out.below hb)
      have HE4 := hide (HE3.out.below hb)
      have HS4 := hide (HS3.out.below hb)
      have HB4 := hide (Below.step HB3.out hb (Nat.le_refl _))
      clear hb
      go_wp2_with fail
      refine (alive_any _).mono ?_
      rintro e w5 ⟨rfl, hb⟩
      have HJ5 := hide (HJ4.out.below hb)
      have HI5 := hide (HI4.out.below hb)
      have HE5 := hide (HE4.out.below hb)
      have HS5 := hide (HS4.out.below hb)
      have HB5 := hide (Below.step HB4.out hb (Nat.le_refl _))
      clear hb
      go_wp2_with fail
      go_ret
      exact ⟨rfl, HB5.out⟩
    | true =>
      obtain ⟨xs, hxs⟩ : ∃ xs, jobEndsR js bs = xs := ⟨_, rfl⟩
      have hxe : xs = endsTo js bs bs.length := by rw [← hxs, jobEndsR, if_pos hok]
      have hxl : xs.length = js.length := by rw [hxe, endsTo_length]
      have hbl2 := (ord_iff.1 (ok_ord hok)).1
      have h6 := jsvB_len (ok_jsv hok)
      have hb6 : bs.length ≤ 6 := by omega
      have hx6 : xs.length ≤ 6 := by omega
      have HX := hide hxs
      have HE := hide hxe
      have HL := hide hxl
      have HO := hide hok
      have HLB := hide hbl2
      clear hxs hxe hxl hok hbl2
      go_wp2_with fail
      refine (jobEnds_impl _ js _ _ _ bs _ _ _ HJ1.out HI1.out).mono ?_
      rw [HX.out]
      rintro e w2 ⟨r, rfl, hr, hb⟩
      obtain ⟨aoe, cape, rfl, hle, hce, ha⟩ := hr.where
      have HAE := hide ha
      have HE2 := hide hr
      have HJ2 := hide (HJ1.out.below hb)
      have HI2 := hide (HI1.out.below hb)
      have HB2 := hide (Below.step HB1.out hb (Nat.le_refl _))
      clear hb hr ha
      go_wp2_with fail
      refine (jobEnds_spec _ js _ _ _ bs _ _ _ HJ2.out HI2.out).mono ?_
      rw [HX.out]
      rintro e w3 ⟨r, rfl, hr, hb⟩
      obtain ⟨aos, caps, rfl, hls, hcs, ha⟩ := hr.where
      have HAS := hide ha
      have HS3 := hide hr
      have HJ3 := hide (HJ2.out.below hb)
      have HI3 := hide (HI2.out.below hb)
      have HE3 := hide (HE2.out.below hb)
      have HB3 := hide (Below.step HB2.out hb (Nat.le_refl _))
      clear hb hr ha
      go_wp2_with fail
      refine (sameInts_same _ _ xs _ _ _ _ _ HE3.out HS3.out).mono ?_
      rintro e w4 ⟨rfl, hb⟩
      have HJ4 := hide (HJ3.out.below hb)
      have HI4 := hide (HI3.out.below hb)
      have HE4 := hide (HE3.out.below hb)
      have HS4 := hide (HS3.out.below hb)
      have HB4 := hide (Below.step HB3.out hb (Nat.le_refl _))
      clear hb
      by_cases h0 : js.length = 0
      · have hx0 : xs = [] := List.eq_nil_of_length_eq_zero (by rw [HL.out]; exact h0)
        subst hx0
        go_wp2_with fail
        refine (alive_any _).mono ?_
        rintro e w5 ⟨rfl, hb⟩
        have HJ5 := hide (HJ4.out.below hb)
        have HI5 := hide (HI4.out.below hb)
        have HE5 := hide (HE4.out.below hb)
        have HS5 := hide (HS4.out.below hb)
        have HB5 := hide (Below.step HB4.out hb (Nat.le_refl _))
        clear hb
        go_wp2_with fail
        go_ret
        exact ⟨rfl, HB5.out⟩
      · have hxB : ((xs.length : Int) == 0) = false := by rw [beq_eq_false_iff_ne, HL.out]; omega
        have hn : 0 < js.length := by omega
        obtain ⟨b1, o1, rfl⟩ := HA1.out hn
        obtain ⟨b2, o2, rfl⟩ := HA2.out (by rw [HLB.out]; exact hn)
        obtain ⟨b3, o3, rfl⟩ := HAE.out (by rw [HL.out]; exact hn)
        clear h0
        go_wp2_with fail
        go_loop [6, 7] (fun s i => ∃ k : Nat, k ≤ bs.length ∧ i = .int .i64 k ∧ s = .int .i64 (tSum js bs k)) (fun _ i => bs.length - (intOf i).toNat)
        case atStart => exact ⟨0, Nat.zero_le _, rfl, rfl⟩
        case round =>
          obtain ⟨k, hk, rfl, rfl⟩ := hrel
          have hs := tSum_bd (ok_jsv HO.out) (ok_ord HO.out) k hk
          by_cases hlt : k < bs.length
          · obtain ⟨x, e1, e2, e3, e4, e5⟩ := ends_fact HO.out hlt
            have r1 := HI4.out.read hlt
            rw [e1] at r1
            have r2 := (HJ4.out.read e2).1
            have r3 := HE4.out.read (show x < xs.length by rw [HL.out]; exact e2)
            have e6 : xs[x]'(by rw [HL.out]; exact e2) = tSum js bs (k + 1) := by simp only [HE.out]; exact e5
            rw [e6] at r3
            rw [jAt_lt e2] at e3
            have hj := jvB_s (jsvB_at (ok_jsv HO.out) e2)
            rw [e3] at r3
            have H3 := hide e3
            generalize js[x].s = y at r2 r3 hj H3
            generalize tSum js bs k = z at hs r3 H3
            have hxI : (x : Int) < (js.length : Int) := by omega
            have hxI2 : (x : Int) < (xs.length : Int) := by rw [HL.out]; omega
            have hkI : (k : Int) < (bs.length : Int) := by omega
            have hs2 : z ≤ 594 := by omega
            clear e1 e3 e4 e5 e6
            go_wp2_with fail
            go_round
            case rel => exact ⟨k + 1, by omega, by go_num, by rw [H3.out]⟩
            case measure => simp [intOf]; omega
          · have hle : ((xs.length : Int) == (js.length : Int)) = true := by rw [HL.out]; simp
            go_wp2_with fail
            go_ret
            exact ⟨rfl, HB4.out⟩
end Go.Proofs.YtfjemnjdkniibaaDoor
