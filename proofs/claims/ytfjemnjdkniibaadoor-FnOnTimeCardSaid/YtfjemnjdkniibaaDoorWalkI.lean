/-
  The walks over slices.Index, slices.Contains (of ints) and BeforeOk.
-/
import Derived.Test.YtfjemnjdkniibaaDoorWalkE
import Derived.Test.YtfjemnjdkniibaaDoorWalkG
namespace Go.Proofs.YtfjemnjdkniibaaDoor
open Go.RowKit

/-- Where n is first, or -1. -/
def idxI (xs : List Int) (n : Int) : Int := match xs.findIdx? (· == n) with | some i => i | none => -1
theorem idxI_hit {xs : List Int} {n : Int} {k : Nat} (hk : k < xs.length) (e : xs[k] = n) (hb : ∀ j (_ : j < xs.length), j < k → xs[j] ≠ n) : idxI xs n = k := by
  have : xs.findIdx? (· == n) = some k := by
    rw [List.findIdx?_eq_some_iff_getElem]
    exact ⟨hk, by simp [e], fun j hj => by simpa using hb j (by omega) hj⟩
  simp [idxI, this]
theorem idxI_none {xs : List Int} {n : Int} (hb : ∀ j (_ : j < xs.length), xs[j] ≠ n) : idxI xs n = -1 := by
  have : xs.findIdx? (· == n) = none := by
    rw [List.findIdx?_eq_none_iff]
    intro x hx
    obtain ⟨j, hj, rfl⟩ := List.getElem_of_mem hx
    simpa using hb j hj
  simp [idxI, this]
theorem idxI_has (xs : List Int) (n : Int) : decide (0 ≤ idxI xs n) = hasI xs n := by
  by_cases h : ∃ k, ∃ hk : k < xs.length, xs[k] = n
  · obtain ⟨k, hk, e⟩ := h
    have h1 : hasI xs n = true := hasI_iff.2 (by rw [← e]; exact List.getElem_mem _)
    have h2 : ∃ i, xs.findIdx? (· == n) = some i := by
      rcases hf : xs.findIdx? (· == n) with _ | i
      · rw [List.findIdx?_eq_none_iff] at hf
        exact absurd (hf n (hasI_iff.1 h1)) (by simp)
      · exact ⟨i, rfl⟩
    obtain ⟨i, hi⟩ := h2
    simp [idxI, hi, h1]
  · have hb : ∀ j (_ : j < xs.length), xs[j] ≠ n := fun j hj e => h ⟨j, hj, e⟩
    have h1 : hasI xs n = false := hasI_false.2 fun hx => by
      obtain ⟨j, hj, e⟩ := List.getElem_of_mem hx
      exact hb j hj e
    rw [idxI_none hb, h1]; rfl

set_option maxHeartbeats 400000 in
theorem index_any (v : Value) (xs : List Int) (lo hi : Nat) (n : Int) (w : World) (h : IntsAt lo hi w v xs) :
    Calls Tryd.prog 97 #[v, .int .i64 n] w fun e w' => e = .returned (.int .i64 (idxI xs n)) ∧ w = w' := by
  obtain ⟨ao, cap, rfl, hlc, hcap, hhi, hc⟩ := h
  have Hc := hide hc
  clear hc
  go_enter Tryd.func97, Tryd.ntmps97
  go_wp2_with fail
  go_loop [8] (fun i => ∃ k : Nat, k ≤ xs.length ∧ i = .int .i64 k ∧ (∀ j (_ : j < xs.length), j < k → xs[j] ≠ n)) (fun i => xs.length - (intOf i).toNat)
  case atStart => exact ⟨0, Nat.zero_le _, rfl, fun _ _ h => absurd h (Nat.not_lt_zero _)⟩
  case round =>
    obtain ⟨k, hk, rfl, hall⟩ := hrel
    have Ha := hide hall
    clear hall
    by_cases hlt : k < xs.length
    · obtain ⟨b, o, rfl, hb1, hb2, hcs⟩ := Hc.out (by omega)
      obtain ⟨h1, -⟩ := hcs k hlt
      clear hcs
      by_cases hq : n = xs[k]
      · have hqB : (n == xs[k]) = true := by simp [hq]
        have hm := idxI_hit hlt hq.symm Ha.out
        have HM := hide hm
        clear hq hm
        go_wp2_with fail
        go_ret
        exact ⟨by rw [HM.out]; rfl, rfl⟩
      · have hqB : (n == xs[k]) = false := by simp [hq]
        have HQ := hide hq
        clear hq
        go_wp2_with fail
        go_round
        case rel =>
          refine ⟨k + 1, by omega, by go_num, fun j hj hjk => ?_⟩
          by_cases e : j = k
          · subst e; exact fun e => HQ.out e.symm
          · exact Ha.out j hj (by omega)
        case measure => simp [intOf]; omega
    · have hm := idxI_none (xs := xs) (n := n) fun j hj => Ha.out j hj (by omega)
      have HM := hide hm
      clear hm
      go_wp2_with fail
      go_ret
      exact ⟨by rw [HM.out]; rfl, rfl⟩

theorem contains_any (v : Value) (xs : List Int) (lo hi : Nat) (n : Int) (w : World) (h : IntsAt lo hi w v xs) :
    Calls Tryd.prog 84 #[v, .int .i64 n] w fun e w' => e = .returned (.bool (hasI xs n)) ∧ w = w' := by
  rw [← idxI_has]
  obtain ⟨ao, cap, rfl, hlc, hcap, hhi, -⟩ := id h
  have HH := hide h
  clear h
  go_enter Tryd.func84, Tryd.ntmps84
  go_wp2_with fail
  refine (index_any _ xs _ _ _ _ HH.out).mono ?_
  rintro e w' ⟨rfl, rfl⟩
  go_wp2_with fail
  go_ret
  exact ⟨rfl, rfl⟩

/-- The k-th of the order is behind what must be done before it. -/
def bokK (bs os : List Int) (k : Nat) : Bool := !decide (0 ≤ bs.getD (os.getD k 0).toNat 0) || hasI (os.take k) (bs.getD (os.getD k 0).toNat 0)
def bokR (js : List J) (bs os : List Int) : Bool := bfB js bs && ordB os js.length && upTo os.length (bokK bs os)
theorem bokK_at {bs os : List Int} {k x : Nat} (hk : k < os.length) (hx : os[k] = x) (hxb : x < bs.length) : bokK bs os k = (!decide (0 ≤ bs[x]) || hasI (os.take k) bs[x]) := by
  simp [bokK, hk, hx, hxb]
theorem bfB_jsv {js : List J} {bs : List Int} (h : bfB js bs = true) : jsvB js = true := by
  simp only [bfB, Bool.and_eq_true] at h; exact h.1.1
theorem bfB_len {js : List J} {bs : List Int} (h : bfB js bs = true) : bs.length = js.length := by
  simp only [bfB, Bool.and_eq_true, decide_eq_true_eq] at h; exact h.1.2

set_option maxHeartbeats 800000 in
theorem beforeOk_spec_ok (v : Value) (js : List J) (lo hi : Nat) (v1 : Value) (bs : List Int) (lo1 hi1 : Nat) (v2 : Value) (os : List Int) (lo2 hi2 : Nat) (w : World) (h : JobsAt lo hi w v js) (h1 : IntsAt lo1 hi1 w v1 bs) (h2 : IntsAt lo2 hi2 w v2 os)
    (hv : bfB js bs = true) (ho : ordB os js.length = true) :
    Calls Tryd.prog 41 #[v, v1, v2] w fun e w' => e = .returned (.bool (upTo os.length (bokK bs os))) ∧ Below w.heap.size w w' := by
  have hl := jsvB_len (bfB_jsv hv)
  have hbl := bfB_len hv
  have hat : ∀ k (hk : k < os.length), ∃ x : Nat, os[k] = x ∧ x < bs.length := fun k hk => by rw [hbl]; exact ordB_at ho hk
  have Hat := hide hat
  obtain ⟨ao, cap, rfl, hlc, hcap, hhi, hc⟩ := id h
  obtain ⟨ao1, cap1, rfl, hlc1, hcap1, hhi1, hc1⟩ := id h1
  obtain ⟨ao2, cap2, rfl, hlc2, hcap2, hhi2, hc2⟩ := id h2
  have Hc1 := hide hc1
  have Hc2 := hide hc2
  have HH := hide h
  have HH1 := hide h1
  have HH2 := hide h2
  have HV := hide hv
  have HO := hide ho
  clear hc hc1 hc2 h h1 h2 hv ho hat hbl
  go_enter Tryd.func41, Tryd.ntmps41
  go_wp2_with fail
  refine (before_spec _ js _ _ _ bs _ _ _ HH.out HH1.out).mono ?_
  rw [HV.out]
  rintro e w1 ⟨rfl, hb1⟩
  have H2 := hide (HH2.out.below hb1)
  go_wp2_with fail
  refine (l2Order_any _ os _ _ _ _ H2.out (by omega) (by omega)).mono ?_
  rw [HO.out]
  rintro e w2 ⟨rfl, hb2⟩
  have hb12 : Below w.heap.size w w2 := Below.step hb1 hb2 (Nat.le_refl _)
  go_wp2_with fail
  go_loopw [7] (fun i wr => ∃ k : Nat, k ≤ os.length ∧ i = .int .i64 k ∧ Below w.heap.size w wr ∧ (∀ j, j < k → bokK bs os j = true)) (fun i _ => os.length - (intOf i).toNat)
  case atStart => exact ⟨0, Nat.zero_le _, rfl, hb12, fun _ h => absurd h (Nat.not_lt_zero _)⟩
  case round =>
    obtain ⟨k, hk, rfl, hb, hall⟩ := hrel
    have Ha := hide hall
    clear hall
    by_cases hlt : k < os.length
    · obtain ⟨x, hx, hxb⟩ := Hat.out k hlt
      obtain ⟨b1, o1, rfl, hx1, hx1', hcs1⟩ := Hc1.out (by omega)
      obtain ⟨b2, o2, rfl, hx2, hx2', hcs2⟩ := Hc2.out (by omega)
      obtain ⟨q1, -⟩ := hcs1 x hxb
      obtain ⟨q2, -⟩ := hcs2 k hlt
      rw [hx] at q2
      rw [← hb.cell (p := ⟨_, _, none⟩) (by simpa using by omega)] at q1 q2
      clear hcs1 hcs2
      have H2r := hide (IntsAt.keep HH2.out (Keeps.of_below hb hhi2) hb.size)
      have HK := hide (bokK_at hlt hx hxb)
      clear hx
      have hkI : (k : Int) < (os.length : Int) := by omega
      have hxI : (x : Int) < (bs.length : Int) := by omega
      have hkc : k ≤ cap2 := by omega
      by_cases hq : 0 ≤ bs[x]
      · have hqB : decide (0 ≤ bs[x]) = true := by simp [hq]
        cases hh : hasI (os.take k) bs[x] with
        | true =>
          have HT := hide (show bokK bs os k = true by rw [HK.out, hqB, hh]; rfl)
          go_wp2_with fail
          go_quiet ((go_at_call 85; exact quiet_left (l1Has_any _ (os.take k) _ _ _ _ (IntsAt.take H2r.out hk))))
          go_wp2_with fail
          go_roundw
          case rel => exact ⟨k + 1, by omega, by go_num, below_drewN hb _, upTo_snoc Ha.out HT.out⟩
          case measure => simp [intOf]; omega
        | false =>
          have HF := hide (upTo_false hlt (show bokK bs os k = false by rw [HK.out, hqB, hh]; rfl))
          go_wp2_with fail
          go_quiet ((go_at_call 85; exact quiet_left (l1Has_any _ (os.take k) _ _ _ _ (IntsAt.take H2r.out hk))))
          go_wp2_with fail
          go_ret
          exact ⟨by rw [HF.out]; rfl, below_drewN hb _⟩
      · have hqB : decide (0 ≤ bs[x]) = false := by simp only [decide_eq_false_iff_not]; exact hq
        have HT := hide (show bokK bs os k = true by rw [HK.out, hqB]; rfl)
        go_wp2_with fail
        go_quiet (fail)
        go_wp2_with fail
        go_roundw
        case rel => exact ⟨k + 1, by omega, by go_num, below_drewN hb _, upTo_snoc Ha.out HT.out⟩
        case measure => simp [intOf]; omega
    · have HT := hide (upTo_true (n := os.length) (p := bokK bs os) fun j hj => Ha.out j (by omega))
      go_wp2_with fail
      go_ret
      exact ⟨by rw [HT.out]; rfl, hb⟩
set_option maxHeartbeats 800000 in
theorem beforeOk_impl_ok (v : Value) (js : List J) (lo hi : Nat) (v1 : Value) (bs : List Int) (lo1 hi1 : Nat) (v2 : Value) (os : List Int) (lo2 hi2 : Nat) (w : World) (h : JobsAt lo hi w v js) (h1 : IntsAt lo1 hi1 w v1 bs) (h2 : IntsAt lo2 hi2 w v2 os)
    (hv : bfB js bs = true) (ho : ordB os js.length = true) :
    Calls Tryd.prog 40 #[v, v1, v2] w fun e w' => e = .returned (.bool (upTo os.length (bokK bs os))) ∧ Below w.heap.size w w' := by
  have hl := jsvB_len (bfB_jsv hv)
  have hbl := bfB_len hv
  have hat : ∀ k (hk : k < os.length), ∃ x : Nat, os[k] = x ∧ x < bs.length := fun k hk => by rw [hbl]; exact ordB_at ho hk
  have Hat := hide hat
  obtain ⟨ao, cap, rfl, hlc, hcap, hhi, hc⟩ := id h
  obtain ⟨ao1, cap1, rfl, hlc1, hcap1, hhi1, hc1⟩ := id h1
  obtain ⟨ao2, cap2, rfl, hlc2, hcap2, hhi2, hc2⟩ := id h2
  have Hc1 := hide hc1
  have Hc2 := hide hc2
  have HH := hide h
  have HH1 := hide h1
  have HH2 := hide h2
  have HV := hide hv
  have HO := hide ho
  clear hc hc1 hc2 h h1 h2 hv ho hat hbl
  go_enter Tryd.func40, Tryd.ntmps40
  go_wp2_with fail
  refine (before_impl _ js _ _ _ bs _ _ _ HH.out HH1.out).mono ?_
  rw [HV.out]
  rintro e w1 ⟨rfl, hb1⟩
  have H2 := hide (HH2.out.below hb1)
  go_wp2_with fail
  refine (isOrder_any _ os _ _ _ _ H2.out (by omega)).mono ?_
  rw [HO.out]
  rintro e w2 ⟨rfl, hb2⟩
  have hb12 : Below w.heap.size w w2 := Below.step hb1 hb2 (Nat.le_refl _)
  go_wp2_with fail
  go_loopw [22] (fun i wr => ∃ k : Nat, k ≤ os.length ∧ i = .int .i64 k ∧ Below w.heap.size w wr ∧ (∀ j, j < k → bokK bs os j = true)) (fun i _ => os.length - (intOf i).toNat)
  case atStart => exact ⟨0, Nat.zero_le _, rfl, hb12, fun _ h => absurd h (Nat.not_lt_zero _)⟩
  case round =>
    obtain ⟨k, hk, rfl, hb, hall⟩ := hrel
    have Ha := hide hall
    clear hall
    by_cases hlt : k < os.length
    · obtain ⟨x, hx, hxb⟩ := Hat.out k hlt
      obtain ⟨b1, o1, rfl, hx1, hx1', hcs1⟩ := Hc1.out (by omega)
      obtain ⟨b2, o2, rfl, hx2, hx2', hcs2⟩ := Hc2.out (by omega)
      obtain ⟨q1, -⟩ := hcs1 x hxb
      obtain ⟨q2, -⟩ := hcs2 k hlt
      rw [hx] at q2
      rw [← hb.cell (p := ⟨_, _, none⟩) (by simpa using by omega)] at q1 q2
      clear hcs1 hcs2
      have H2r := hide (IntsAt.keep HH2.out (Keeps.of_below hb hhi2) hb.size)
      have HK := hide (bokK_at hlt hx hxb)
      clear hx
      have hkI : (k : Int) < (os.length : Int) := by omega
      have hxI : (x : Int) < (bs.length : Int) := by omega
      have hkc : k ≤ cap2 := by omega
      by_cases hq : 0 ≤ bs[x]
      · have hqB : decide (0 ≤ bs[x]) = true := by simp [hq]
        cases hh : hasI (os.take k) bs[x] with
        | true =>
          have HT := hide (show bokK bs os k = true by rw [HK.out, hqB, hh]; rfl)
          go_wp2_with fail
          go_quiet ((go_at_call 84; exact quiet_left (contains_any _ (os.take k) _ _ _ _ (IntsAt.take H2r.out hk))))
          go_wp2_with fail
          go_roundw
          case rel => exact ⟨k + 1, by omega, by go_num, below_drewN hb _, upTo_snoc Ha.out HT.out⟩
          case measure => simp [intOf]; omega
        | false =>
          have HF := hide (upTo_false hlt (show bokK bs os k = false by rw [HK.out, hqB, hh]; rfl))
          go_wp2_with fail
          go_quiet ((go_at_call 84; exact quiet_left (contains_any _ (os.take k) _ _ _ _ (IntsAt.take H2r.out hk))))
          go_wp2_with fail
          go_ret
          exact ⟨by rw [HF.out]; rfl, below_drewN hb _⟩
      · have hqB : decide (0 ≤ bs[x]) = false := by simp only [decide_eq_false_iff_not]; exact hq
        have HT := hide (show bokK bs os k = true by rw [HK.out, hqB]; rfl)
        go_wp2_with fail
        go_quiet (fail)
        go_wp2_with fail
        go_roundw
        case rel => exact ⟨k + 1, by omega, by go_num, below_drewN hb _, upTo_snoc Ha.out HT.out⟩
        case measure => simp [intOf]; omega
    · have HT := hide (upTo_true (n := os.length) (p := bokK bs os) fun j hj => Ha.out j (by omega))
      go_wp2_with fail
      go_ret
      exact ⟨by rw [HT.out]; rfl, hb⟩

theorem beforeOk_spec (v : Value) (js : List J) (lo hi : Nat) (v1 : Value) (bs : List Int) (lo1 hi1 : Nat) (v2 : Value) (os : List Int) (lo2 hi2 : Nat) (w : World) (h : JobsAt lo hi w v js) (h1 : IntsAt lo1 hi1 w v1 bs) (h2 : IntsAt lo2 hi2 w v2 os) :
    Calls Tryd.prog 41 #[v, v1, v2] w fun e w' => e = .returned (.bool (bokR js bs os)) ∧ Below w.heap.size w w' := by
  cases hv : bfB js bs with
  | false =>
    have e : bokR js bs os = false := by simp [bokR, hv]
    rw [e]
    obtain ⟨ao, cap, rfl, hlc, hcap, hhi, hc⟩ := id h
    have Hc := hide hc
    clear hc e
    go_enter Tryd.func41, Tryd.ntmps41
    go_wp2_with fail
    refine (before_spec _ js _ _ _ bs _ _ _ h h1).mono ?_
    rw [hv]
    rintro e w1 ⟨rfl, hb1⟩
    go_wp2_with fail
    go_ret
    exact ⟨rfl, hb1⟩
  | true =>
    cases ho : ordB os js.length with
    | false =>
      have e : bokR js bs os = false := by simp [bokR, ho]
      rw [e]
      have hl := jsvB_len (bfB_jsv hv)
      obtain ⟨ao, cap, rfl, hlc, hcap, hhi, hc⟩ := id h
      have Hc := hide hc
      clear hc e
      go_enter Tryd.func41, Tryd.ntmps41
      go_wp2_with fail
      refine (before_spec _ js _ _ _ bs _ _ _ h h1).mono ?_
      rw [hv]
      rintro e w1 ⟨rfl, hb1⟩
      have H2 := hide (h2.below hb1)
      go_wp2_with fail
      refine (l2Order_any _ os _ _ _ _ H2.out (by omega) (by omega)).mono ?_
      rw [ho]
      rintro e w2 ⟨rfl, hb2⟩
      go_wp2_with fail
      go_ret
      exact ⟨rfl, Below.step hb1 hb2 (Nat.le_refl _)⟩
    | true =>
      have e : bokR js bs os = upTo os.length (bokK bs os) := by simp [bokR, hv, ho]
      rw [e]
      exact beforeOk_spec_ok v js lo hi v1 bs lo1 hi1 v2 os lo2 hi2 w h h1 h2 hv ho

theorem beforeOk_impl (v : Value) (js : List J) (lo hi : Nat) (v1 : Value) (bs : List Int) (lo1 hi1 : Nat) (v2 : Value) (os : List Int) (lo2 hi2 : Nat) (w : World) (h : JobsAt lo hi w v js) (h1 : IntsAt lo1 hi1 w v1 bs) (h2 : IntsAt lo2 hi2 w v2 os) :
    Calls Tryd.prog 40 #[v, v1, v2] w fun e w' => e = .returned (.bool (bokR js bs os)) ∧ Below w.heap.size w w' := by
  cases hv : bfB js bs with
  | false =>
    have e : bokR js bs os = false := by simp [bokR, hv]
    rw [e]
    obtain ⟨ao, cap, rfl, hlc, hcap, hhi, hc⟩ := id h
    have Hc := hide hc
    clear hc e
    go_enter Tryd.func40, Tryd.ntmps40
    go_wp2_with fail
    refine (before_impl _ js _ _ _ bs _ _ _ h h1).mono ?_
    rw [hv]
    rintro e w1 ⟨rfl, hb1⟩
    go_wp2_with fail
    go_ret
    exact ⟨rfl, hb1⟩
  | true =>
    cases ho : ordB os js.length with
    | false =>
      have e : bokR js bs os = false := by simp [bokR, ho]
      rw [e]
      have hl := jsvB_len (bfB_jsv hv)
      obtain ⟨ao, cap, rfl, hlc, hcap, hhi, hc⟩ := id h
      have Hc := hide hc
      clear hc e
      go_enter Tryd.func40, Tryd.ntmps40
      go_wp2_with fail
      refine (before_impl _ js _ _ _ bs _ _ _ h h1).mono ?_
      rw [hv]
      rintro e w1 ⟨rfl, hb1⟩
      have H2 := hide (h2.below hb1)
      go_wp2_with fail
      refine (isOrder_any _ os _ _ _ _ H2.out (by omega)).mono ?_
      rw [ho]
      rintro e w2 ⟨rfl, hb2⟩
      go_wp2_with fail
      go_ret
      exact ⟨rfl, Below.step hb1 hb2 (Nat.le_refl _)⟩
    | true =>
      have e : bokR js bs os = upTo os.length (bokK bs os) := by simp [bokR, hv, ho]
      rw [e]
      exact beforeOk_impl_ok v js lo hi v1 bs lo1 hi1 v2 os lo2 hi2 w h h1 h2 hv ho
end Go.Proofs.YtfjemnjdkniibaaDoor
