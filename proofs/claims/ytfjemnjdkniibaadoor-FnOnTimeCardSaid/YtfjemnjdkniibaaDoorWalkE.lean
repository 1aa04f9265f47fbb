/-
  The walks over BeforeValid.
-/
import Derived.Test.YtfjemnjdkniibaaDoorWalkB
import Derived.Test.YtfjemnjdkniibaaDoorMore
namespace Go.Proofs.YtfjemnjdkniibaaDoor
open Go.RowKit

/-- What must be done before job k is of a lesser index, or none. -/
def bfK (bs : List Int) (k : Nat) : Bool := wi (bs.getD k 0) (-1) ((k : Int) - 1)
def bfAll (bs : List Int) : Bool := upTo bs.length (bfK bs)
def bfB (js : List J) (bs : List Int) : Bool := jsvB js && decide (bs.length = js.length) && bfAll bs
theorem bfK_at {bs : List Int} {k : Nat} (hk : k < bs.length) : bfK bs k = wi bs[k] (-1) ((k : Int) - 1) := by simp [bfK, hk]

set_option maxHeartbeats 400000 in
theorem before_spec (v : Value) (js : List J) (lo hi : Nat) (v' : Value) (bs : List Int) (lo' hi' : Nat) (w : World) (h : JobsAt lo hi w v js) (h' : IntsAt lo' hi' w v' bs) :
    Calls Tryd.prog 32 #[v, v'] w fun e w' => e = .returned (.bool (bfB js bs)) ∧ Below w.heap.size w w' := by
  obtain ⟨ao, cap, rfl, hlc, hcap, -, -⟩ := id h
  obtain ⟨ao', cap', rfl, hlc', hcap', hhi', hc'⟩ := id h'
  have Hc := hide hc'
  have HH := hide h
  clear hc' h h'
  go_enter Tryd.func32, Tryd.ntmps32
  go_wp2_with fail
  go_loop [5] (fun i => ∃ k : Nat, k ≤ bs.length ∧ i = .int .i64 k ∧ (∀ j, j < k → bfK bs j = true)) (fun i => bs.length - (intOf i).toNat)
  case atStart => exact ⟨0, Nat.zero_le _, rfl, fun _ h => absurd h (Nat.not_lt_zero _)⟩
  case round =>
    obtain ⟨k, hk, rfl, hall⟩ := hrel
    have Ha := hide hall
    clear hall
    by_cases hlt : k < bs.length
    · obtain ⟨b, o, rfl, hb1, hb2, hcs⟩ := Hc.out (by omega)
      obtain ⟨h1, -⟩ := hcs k hlt
      clear hcs
      have HK := hide (bfK_at hlt)
      go_wp2_with fail
      refine (l1In_any _ _ _ _).mono ?_
      rintro e w' ⟨rfl, rfl⟩
      cases hq : wi bs[k] (-1) ((k : Int) - 1) with
      | false =>
        have hf : bfB js bs = false := by simp [bfB, bfAll, upTo_false hlt (HK.out.trans hq)]
        have HF := hide hf
        clear hf
        go_wp2_with fail
        go_ret
        exact ⟨by rw [HF.out]; rfl, Below.refl _ _⟩
      | true =>
        have HT := hide (HK.out.trans hq)
        go_wp2_with fail
        go_round
        case rel => exact ⟨k + 1, by omega, by go_num, upTo_snoc Ha.out HT.out⟩
        case measure => simp [intOf]; omega
    · have hall : bfAll bs = true := upTo_true fun j hj => Ha.out j (by omega)
      have HAll := hide hall
      clear hall
      go_wp2_with fail
      refine (jsv_spec _ js lo hi _ HH.out).mono ?_
      rintro e w1 ⟨rfl, hb1⟩
      cases hv : jsvB js with
      | false =>
        have hf : bfB js bs = false := by simp [bfB, hv]
        have HF := hide hf
        clear hf hv
        go_wp2_with fail
        go_ret
        exact ⟨by rw [HF.out]; rfl, hb1⟩
      | true =>
        have hf : bfB js bs = ((bs.length : Int) == (js.length : Int)) := by
          simp only [bfB, hv, HAll.out, Bool.true_and, Bool.and_true]
          rw [Bool.eq_iff_iff]; simp; omega
        have HF := hide hf
        clear hf hv
        go_wp2_with fail
        go_ret
        exact ⟨by rw [HF.out]; rfl, hb1⟩

set_option maxHeartbeats 400000 in
theorem before_impl (v : Value) (js : List J) (lo hi : Nat) (v' : Value) (bs : List Int) (lo' hi' : Nat) (w : World) (h : JobsAt lo hi w v js) (h' : IntsAt lo' hi' w v' bs) :
    Calls Tryd.prog 31 #[v, v'] w fun e w' => e = .returned (.bool (bfB js bs)) ∧ Below w.heap.size w w' := by
  obtain ⟨ao, cap, rfl, hlc, hcap, -, -⟩ := id h
  obtain ⟨ao', cap', rfl, hlc', hcap', hhi', hc'⟩ := id h'
  have Hc := hide hc'
  have HH := hide h
  clear hc' h h'
  cases hv : jsvB js with
  | false =>
    have hf : bfB js bs = false := by simp [bfB, hv]
    rw [hf]
    have HV := hide hv
    clear hf hv
    go_enter Tryd.func31, Tryd.ntmps31
    go_wp2_with fail
    refine (jsv_impl _ js lo hi _ HH.out).mono ?_
    rw [HV.out]
    rintro e w1 ⟨rfl, hb1⟩
    go_wp2_with fail
    go_ret
    exact ⟨rfl, hb1⟩
  | true =>
    by_cases hl : bs.length = js.length
    · have hlB : ((bs.length : Int) != (js.length : Int)) = false := by simp [hl]
      have hb : bfB js bs = bfAll bs := by simp [bfB, hv, hl]
      have HB := hide hb
      have HV := hide hv
      clear hl hb hv
      go_enter Tryd.func31, Tryd.ntmps31
      go_wp2_with fail
      refine (jsv_impl _ js lo hi _ HH.out).mono ?_
      rw [HV.out]
      rintro e w1 ⟨rfl, hb1⟩
      go_wp2_with fail
      go_loop [19] (fun i => ∃ k : Nat, k ≤ bs.length ∧ i = .int .i64 k ∧ (∀ j, j < k → bfK bs j = true)) (fun i => bs.length - (intOf i).toNat)
      case atStart => exact ⟨0, Nat.zero_le _, rfl, fun _ h => absurd h (Nat.not_lt_zero _)⟩
      case round =>
        obtain ⟨k, hk, rfl, hall⟩ := hrel
        have Ha := hide hall
        clear hall
        by_cases hlt : k < bs.length
        · obtain ⟨b, o, rfl, hx1, hx2, hcs⟩ := Hc.out (by omega)
          obtain ⟨h1, -⟩ := hcs k hlt
          rw [← hb1.cell (p := ⟨b, _, none⟩) (by simpa using by omega)] at h1
          clear hcs
          have HK := hide (bfK_at hlt)
          go_wp2_with fail
          refine (within_any _ _ _ _).mono ?_
          rintro e w' ⟨rfl, rfl⟩
          cases hq : wi bs[k] (-1) ((k : Int) - 1) with
          | false =>
            have hf : bfAll bs = false := upTo_false hlt (HK.out.trans hq)
            have HF := hide hf
            clear hf
            go_wp2_with fail
            go_ret
            exact ⟨by rw [HB.out, HF.out]; rfl, hb1⟩
          | true =>
            have HT := hide (HK.out.trans hq)
            go_wp2_with fail
            go_round
            case rel => exact ⟨k + 1, by omega, by go_num, upTo_snoc Ha.out HT.out⟩
            case measure => simp [intOf]; omega
        · have hall : bfAll bs = true := upTo_true fun j hj => Ha.out j (by omega)
          have HAll := hide hall
          clear hall
          go_wp2_with fail
          go_ret
          exact ⟨by rw [HB.out, HAll.out]; rfl, hb1⟩
    · have hlB : ((bs.length : Int) != (js.length : Int)) = true := by simp; omega
      have hf : bfB js bs = false := by simp [bfB, hl]
      rw [hf]
      have HV := hide hv
      clear hf hv
      go_enter Tryd.func31, Tryd.ntmps31
      go_wp2_with fail
      refine (jsv_impl _ js lo hi _ HH.out).mono ?_
      rw [HV.out]
      rintro e w1 ⟨rfl, hb1⟩
      go_wp2_with fail
      go_ret
      exact ⟨rfl, hb1⟩
end Go.Proofs.YtfjemnjdkniibaaDoor
