/-
  The walk over the law FnTwoBest: it answers true, whatever the code, and leaves all old memory alone.
-/
import Derived.Test.YtfjemnjdkniibaaDoorLJobsValid
import Derived.Test.YtfjemnjdkniibaaDoorPlainTwo
namespace Go.Proofs.YtfjemnjdkniibaaDoor
open Go.RowKit

set_option maxRecDepth 10000 in
set_option maxHeartbeats 800000 in
theorem law_TwoBest (v : Value) (n : Nat) (w : World) (h : BytesAt 0 w.heap.size w v n) :
    Calls Tryd.prog 7 #[v] w fun e w' => e = .returned (.bool true) ∧ Below w.heap.size w w' := by
  obtain ⟨ao, cap, rfl, hnc, hcap, -, -⟩ := id h
  have HB := hide h
  clear h
  by_cases hlong : 1048576 < n
  · go_enter Tryd.func7, Tryd.ntmps7
    go_wp2_with fail
    go_ret
    exact ⟨rfl, Below.refl _ _⟩
  · go_enter Tryd.func7, Tryd.ntmps7
    go_wp2_with fail
    refine (drawTwoBest _ n _ HB.out).mono ?_
    rintro e w1 ⟨v1, js, rfl, hl, ⟨b, cap1, rfl⟩, hj, hb1⟩
    obtain ⟨hlc1, hcap1⟩ := jobs_cap hj
    have HJ1 := hide hj
    have HB1 := hide hb1
    clear hj hb1
    go_wp2_with fail
    refine (twoBest_impl _ js _ _ _ HJ1.out).mono ?_
    rintro e w2 ⟨rfl, hb⟩
    have HJ2 := hide (HJ1.out.below hb)
    have HB2 := hide (Below.step HB1.out hb (Nat.le_refl _))
    clear hb
    go_wp2_with fail
    refine (twoBest_spec _ js _ _ _ HJ2.out).mono ?_
    rintro e w3 ⟨rfl, hb⟩
    have HJ3 := hide (HJ2.out.below hb)
    have HB3 := hide (Below.step HB2.out hb (Nat.le_refl _))
    clear hb
    cases hv : jsvB js with
    | false =>
      have e : twoBestR js = -1 := by simp [twoBestR, hv]
      rw [e]
      go_wp2_with fail
      refine (jsv_impl _ js _ _ _ HJ3.out).mono ?_
      rw [hv]
      rintro e w4 ⟨rfl, hb⟩
      have HJ4 := hide (HJ3.out.below hb)
      have HB4 := hide (Below.step HB3.out hb (Nat.le_refl _))
      clear hb
      go_wp2_with fail
      refine (alive_any _).mono ?_
      rintro e w5 ⟨rfl, hb⟩
      have HJ5 := hide (HJ4.out.below hb)
      have HB5 := hide (Below.step HB4.out hb (Nat.le_refl _))
      clear hb
      go_wp2_with fail
      go_ret
      exact ⟨rfl, HB5.out⟩
    | true =>
      obtain ⟨a1, a2, a3⟩ := twoBest_ok hv
      have hs := span_bd hv js.length (Nat.le_refl _)
      have hm := max_bd hv js.length (Nat.le_refl _)
      have h6 := jsvB_len hv
      obtain ⟨x, hx⟩ : ∃ x, twoBestR js = x := ⟨_, rfl⟩
      rw [hx] at a1 a2 a3 ⊢
      have hx0 : 0 ≤ x := by omega
      have hx9 : x ≤ 594 := by omega
      have HX := hide (And.intro a1 (And.intro a2 a3))
      have HV := hide hv
      clear a1 a2 a3 hs hm hx hv
      go_wp2_with fail
      go_loop [5, 6, 7] (fun s m i => ∃ k : Nat, k ≤ js.length ∧ i = .int .i64 k ∧ s = .int .i64 (spanTo js k) ∧ m = .int .i64 (maxTo js k)) (fun _ _ i => js.length - (intOf i).toNat)
      case atStart => exact ⟨0, Nat.zero_le _, rfl, rfl, rfl⟩
      case round =>
        obtain ⟨k, hk, rfl, rfl, rfl⟩ := hrel
        have hs := span_bd HV.out k hk
        have hm := max_bd HV.out k hk
        by_cases hlt : k < js.length
        · obtain ⟨ao1, cap2, e, -, -, hz, hcs⟩ := HJ3.out
          simp only [Value.slice.injEq] at e
          obtain ⟨rfl, -, rfl⟩ := e
          obtain ⟨b2, o2, e2, hx1, hx2, hcs⟩ := hcs (by omega)
          simp only [Option.some.injEq, Addr.mk.injEq] at e2
          obtain ⟨rfl, rfl, -⟩ := e2
          obtain ⟨⟨q1, -, -⟩, -⟩ := hcs k hlt
          rw [Nat.zero_add] at q1
          clear hcs
          have hj := jvB_s (jsvB_at HV.out hlt)
          have HS := hide (span_succ hlt)
          have HM := hide (max_succ hlt)
          generalize js[k].s = y at q1 hj HS HM
          have hkI : (k : Int) < (js.length : Int) := by omega
          go_wp2_with fail
          all_goals
            go_round
            case rel => exact ⟨k + 1, by omega, by go_num, by rw [HS.out], by rw [HM.out]; go_num⟩
            case measure => simp [intOf]; omega
        · obtain rfl : k = js.length := by omega
          obtain ⟨a1, a2, a3⟩ := HX.out
          generalize spanTo js js.length = s at *
          generalize maxTo js js.length = m at *
          go_wp2_with fail
          go_ret
          exact ⟨rfl, HB3.out⟩
end Go.Proofs.YtfjemnjdkniibaaDoor
