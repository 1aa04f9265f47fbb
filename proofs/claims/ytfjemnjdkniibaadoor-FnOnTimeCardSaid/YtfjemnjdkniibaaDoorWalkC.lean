/-
  The walks over TwoEnd and TwoBest.
-/
import Derived.Test.YtfjemnjdkniibaaDoorWalkB
namespace Go.Proofs.YtfjemnjdkniibaaDoor
open Go.RowKit

theorem jsvB_len {js : List J} (h : jsvB js = true) : js.length ≤ 6 := by simp [jsvB] at h; exact h.1

theorem pow_bd {n : Nat} (h : n ≤ 6) : 1 ≤ (2 : Int) ^ n ∧ (2 : Int) ^ n ≤ 64 := by
  have : n = 0 ∨ n = 1 ∨ n = 2 ∨ n = 3 ∨ n = 4 ∨ n = 5 ∨ n = 6 := by omega
  rcases this with rfl | rfl | rfl | rfl | rfl | rfl | rfl <;> decide

/-- The spans of those of the first k whose bit is b. -/
def bitSum (set b : Int) (js : List J) : Nat → Int
  | 0 => 0
  | k + 1 => bitSum set b js k + if (set / 2 ^ k) % 2 = b then (js.getD k ⟨0, 0, 0⟩).s else 0

theorem bitSum_hit {set b : Int} {js : List J} {k : Nat} (h : set / 2 ^ k % 2 = b) (hk : k < js.length) : bitSum set b js (k + 1) = bitSum set b js k + js[k].s := by
  simp [bitSum, h, hk]
theorem bitSum_miss {set b : Int} {js : List J} {k : Nat} (h : set / 2 ^ k % 2 ≠ b) (_ : k < js.length) : bitSum set b js (k + 1) = bitSum set b js k := by
  simp [bitSum, h]
theorem jsvB_at {js : List J} (h : jsvB js = true) {k : Nat} (hk : k < js.length) : jvB js[k] = true := by
  simp [jsvB] at h; exact h.2 _ (List.getElem_mem _)
theorem jvB_s {j : J} (h : jvB j = true) : 1 ≤ j.s ∧ j.s ≤ 99 := by
  simp [jvB] at h; exact wi_iff.1 h.1.1
theorem jvB_d {j : J} (h : jvB j = true) : 0 ≤ j.d ∧ j.d ≤ 999 := by
  simp [jvB] at h; exact wi_iff.1 h.1.2
theorem jvB_g {j : J} (h : jvB j = true) : 1 ≤ j.g ∧ j.g ≤ 99 := by
  simp [jvB] at h; exact wi_iff.1 h.2
theorem bitSum_bd {set b : Int} {js : List J} (h : jsvB js = true) : ∀ k, k ≤ js.length → 0 ≤ bitSum set b js k ∧ bitSum set b js k ≤ 99 * k
  | 0, _ => by simp [bitSum]
  | k + 1, hk => by
    have ih := bitSum_bd (set := set) (b := b) h k (by omega)
    have hs := jvB_s (jsvB_at h (show k < js.length by omega))
    simp only [bitSum, List.getD, List.getElem?_eq_getElem (show k < js.length by omega), Option.getD_some]
    split <;> omega
theorem bitSum_add {set b : Int} {js : List J} (h : jsvB js = true) {k : Nat} (hk : k ≤ js.length) (hlt : k < js.length) :
    -9223372036854775808 ≤ bitSum set b js k + js[k].s ∧ bitSum set b js k + js[k].s ≤ 9223372036854775807 := by
  have := bitSum_bd (set := set) (b := b) h k hk
  have hs := jvB_s (jsvB_at h hlt)
  have := jsvB_len h
  omega

def twoEndI (js : List J) (set : Int) : Int := max (bitSum set 0 js js.length) (bitSum set 1 js js.length)

set_option maxRecDepth 10000 in
set_option maxHeartbeats 400000 in
theorem twoEnd_spec_ok (v : Value) (js : List J) (lo hi : Nat) (set : Int) (w : World) (h : JobsAt lo hi w v js) (hv : jsvB js = true) (hr : wi set 0 (2 ^ js.length - 1) = true) :
    Calls Tryd.prog 28 #[v, .int .i64 set] w fun e w' => e = .returned (.int .i64 (twoEndI js set)) ∧ Below w.heap.size w w' := by
  have hl := jsvB_len hv
  have hlI : (js.length : Int) ≤ 6 := by omega
  have hp := pow_bd hl
  have h01 := wi_iff.1 hr
  obtain ⟨h0, h1'⟩ := h01
  have h1 : set ≤ 63 := by omega
  clear h1'
  have HR := hide hr
  have HV := hide hv
  clear hr
  obtain ⟨ao, cap, rfl, hlc, hcap, hhi, hc⟩ := id h
  have Hc := hide hc
  have HH := hide h
  clear hc hv h
  go_enter Tryd.func28, Tryd.ntmps28
  go_wp2_with fail
  refine (jsv_spec _ js lo hi w HH.out).mono ?_
  rw [HV.out]
  rintro e w1 ⟨rfl, hb1⟩
  have hz : w.heap.size ≤ w1.heap.size := hb1.size
  obtain ⟨hp1, hp2⟩ := hp
  go_wp2_with fail
  refine (l1In_any _ _ _ _).mono ?_
  rw [HR.out]
  rintro e w1' ⟨rfl, rfl⟩
  go_wp2_with fail
  go_loopw [6] (fun i wr => ∃ k : Nat, k ≤ js.length ∧ i = .int .i64 k ∧ Below w.heap.size w wr ∧ wr.rowIs w1.heap.size 3 2 (fun j => .int .i64 (bitSum set j js k))) (fun i _ => js.length - (intOf i).toNat)
  case atStart => exact ⟨0, Nat.zero_le _, rfl, hb1.alloc hz _, World.rowIs_alloc _ _ _ _ (by intro i hi; simp at hi; match i, hi with | 0, _ => rfl | 1, _ => rfl)⟩
  case round =>
    obtain ⟨k, hk, rfl, hb, hrow⟩ := hrel
    have Hr := hide hrow
    clear hrow
    have hg1 : wr.cell? ⟨w1.heap.size, 0, none⟩ = some (.int .i64 (bitSum set 0 js k)) := by simpa using Hr.out.cell (i := 0) (by omega)
    have hg2 : wr.cell? ⟨w1.heap.size, 1, none⟩ = some (.int .i64 (bitSum set 1 js k)) := by simpa using Hr.out.cell (i := 1) (by omega)
    have hf1 := Hr.out.frozen 0
    have hf2 := Hr.out.frozen 1
    by_cases hlt : k < js.length
    · obtain ⟨b, o, rfl, hbl1, hbl2, hcs⟩ := Hc.out (by omega)
      obtain ⟨⟨q1, q2, q3⟩, -⟩ := hcs k hlt
      rw [← hb.cell (p := ⟨b, _, none⟩) (by simpa using by omega)] at q1 q2 q3
      clear hcs
      have hkI : (k : Int) < (js.length : Int) := by omega
      have hpk := (pow_bd (show k ≤ 6 by omega)).1
      by_cases hbit : set / 2 ^ k % 2 = 0
      · have hbt : (set / 2 ^ k).tmod 2 = 0 := by rw [Int.tmod_eq_emod_of_nonneg (Int.ediv_nonneg h0 (by omega))]; exact hbit
        have hw : IntKind.i64.wrap (bitSum set 0 js k + js[k].s) = bitSum set 0 js k + js[k].s := IntWalk.i64_in _ (bitSum_add HV.out (by omega) hlt)
        have HN := hide (bitSum_hit (js := js) hbit hlt)
        have HM := hide (bitSum_miss (js := js) (b := 1) (by rw [hbit]; decide) hlt)
        clear hbit
        go_wp2_with fail
        go_still_tail 19, (by kernel_rfl)
        change wpList _ _ _ _ _ wr.drew
        clear hbt hw
        go_wp2_with fail
        go_roundw
        case rel =>
          refine ⟨k + 1, by omega, by go_num, (hb.setCell hz _).drew, ((Hr.out.set 0 _).congr ?_).drew⟩
          intro i hi
          match i, hi with
          | 0, _ => simp [HN.out]
          | 1, _ => simp [HM.out]
        case measure => simp [intOf]; omega
      · have hbit1 : set / 2 ^ k % 2 = 1 := by omega
        have hbt : (set / 2 ^ k).tmod 2 = 1 := by rw [Int.tmod_eq_emod_of_nonneg (Int.ediv_nonneg h0 (by omega))]; exact hbit1
        have hw : IntKind.i64.wrap (bitSum set 1 js k + js[k].s) = bitSum set 1 js k + js[k].s := IntWalk.i64_in _ (bitSum_add HV.out (by omega) hlt)
        have HN := hide (bitSum_hit (js := js) hbit1 hlt)
        have HM := hide (bitSum_miss (js := js) (b := 0) hbit hlt)
        clear hbit hbit1
        go_wp2_with fail
        go_still_tail 19, (by kernel_rfl)
        change wpList _ _ _ _ _ wr.drew
        clear hbt hw
        go_wp2_with fail
        go_roundw
        case rel =>
          refine ⟨k + 1, by omega, by go_num, (hb.setCell hz _).drew, ((Hr.out.set 1 _).congr ?_).drew⟩
          intro i hi
          match i, hi with
          | 0, _ => simp [HM.out]
          | 1, _ => simp [HN.out]
        case measure => simp [intOf]; omega
    · obtain rfl : k = js.length := by omega
      have hm1 : bitSum set 0 js js.length ≤ bitSum set 1 js js.length → twoEndI js set = bitSum set 1 js js.length := fun h => Int.max_eq_right h
      have hm2 : bitSum set 1 js js.length ≤ bitSum set 0 js js.length → twoEndI js set = bitSum set 0 js js.length := fun h => Int.max_eq_left h
      have H1 := hide hm1
      have H2 := hide hm2
      clear hm1 hm2
      go_wp2_with fail
      go_quiet (fail)
      go_wp2_with fail
      all_goals
        go_ret
        refine ⟨?_, below_drewN hb _⟩
        first | (rw [H1.out (by omega)]; rfl) | (rw [H2.out (by omega)]; rfl)

theorem twoEnd_spec_bad (v : Value) (js : List J) (lo hi : Nat) (set : Int) (w : World) (h : JobsAt lo hi w v js) (hv : jsvB js = false) :
    Calls Tryd.prog 28 #[v, .int .i64 set] w fun e w' => e = .returned (.int .i64 (-1)) ∧ Below w.heap.size w w' := by
  obtain ⟨ao, cap, rfl, -, -, -, -⟩ := id h
  go_enter Tryd.func28, Tryd.ntmps28
  go_wp2_with fail
  refine (jsv_spec _ js lo hi w h).mono ?_
  rw [hv]
  rintro e w1 ⟨rfl, hb1⟩
  go_wp2_with fail
  go_ret
  exact ⟨rfl, hb1⟩

theorem twoEnd_spec_out (v : Value) (js : List J) (lo hi : Nat) (set : Int) (w : World) (h : JobsAt lo hi w v js) (hv : jsvB js = true) (hr : wi set 0 (2 ^ js.length - 1) = false) :
    Calls Tryd.prog 28 #[v, .int .i64 set] w fun e w' => e = .returned (.int .i64 (-1)) ∧ Below w.heap.size w w' := by
  have hl := jsvB_len hv
  have hlI : (js.length : Int) ≤ 6 := by omega
  obtain ⟨hp1, hp2⟩ := pow_bd hl
  have HV := hide hv
  have HR := hide hr
  have HH := hide h
  obtain ⟨ao, cap, rfl, hlc, hcap, -, -⟩ := id h
  clear hv hr h
  go_enter Tryd.func28, Tryd.ntmps28
  go_wp2_with fail
  refine (jsv_spec _ js lo hi w HH.out).mono ?_
  rw [HV.out]
  rintro e w1 ⟨rfl, hb1⟩
  go_wp2_with fail
  refine (l1In_any _ _ _ _).mono ?_
  rw [HR.out]
  rintro e w1' ⟨rfl, rfl⟩
  go_wp2_with fail
  go_ret
  exact ⟨rfl, hb1⟩

/-- What TwoEnd answers. -/
def twoEndR (js : List J) (set : Int) : Int := if jsvB js && wi set 0 (2 ^ js.length - 1) then twoEndI js set else -1

theorem twoEnd_spec (v : Value) (js : List J) (lo hi : Nat) (set : Int) (w : World) (h : JobsAt lo hi w v js) (_ : -9223372036854775808 ≤ set ∧ set ≤ 9223372036854775807) :
    Calls Tryd.prog 28 #[v, .int .i64 set] w fun e w' => e = .returned (.int .i64 (twoEndR js set)) ∧ Below w.heap.size w w' := by
  unfold twoEndR
  cases hv : jsvB js with
  | false => simpa using twoEnd_spec_bad v js lo hi set w h hv
  | true =>
    cases hr : wi set 0 (2 ^ js.length - 1) with
    | false => simpa using twoEnd_spec_out v js lo hi set w h hv hr
    | true => simpa using twoEnd_spec_ok v js lo hi set w h hv hr

set_option maxRecDepth 10000 in
set_option maxHeartbeats 400000 in
theorem twoEnd_impl_ok (v : Value) (js : List J) (lo hi : Nat) (set : Int) (w : World) (h : JobsAt lo hi w v js) (hv : jsvB js = true) (hr : wi set 0 (2 ^ js.length - 1) = true) :
    Calls Tryd.prog 27 #[v, .int .i64 set] w fun e w' => e = .returned (.int .i64 (twoEndI js set)) ∧ Below w.heap.size w w' := by
  have hl := jsvB_len hv
  have hlI : (js.length : Int) ≤ 6 := by omega
  have hp := pow_bd hl
  have h01 := wi_iff.1 hr
  obtain ⟨h0, h1'⟩ := h01
  have h1 : set ≤ 63 := by omega
  clear h1'
  have HR := hide hr
  have HV := hide hv
  clear hr
  obtain ⟨ao, cap, rfl, hlc, hcap, hhi, hc⟩ := id h
  have Hc := hide hc
  have HH := hide h
  clear hc hv h
  go_enter Tryd.func27, Tryd.ntmps27
  go_wp2_with fail
  refine (jsv_impl _ js lo hi w HH.out).mono ?_
  rw [HV.out]
  rintro e w1 ⟨rfl, hb1⟩
  have hz : w.heap.size ≤ w1.heap.size := hb1.size
  obtain ⟨hp1, hp2⟩ := hp
  go_wp2_with fail
  refine (within_any _ _ _ _).mono ?_
  rw [HR.out]
  rintro e w1' ⟨rfl, rfl⟩
  go_wp2_with fail
  go_loopw [22] (fun i wr => ∃ k : Nat, k ≤ js.length ∧ i = .int .i64 k ∧ Below w.heap.size w wr ∧ wr.rowIs w1.heap.size 59 2 (fun j => .int .i64 (bitSum set j js k))) (fun i _ => js.length - (intOf i).toNat)
  case atStart => exact ⟨0, Nat.zero_le _, rfl, hb1.alloc hz _, World.rowIs_alloc _ _ _ _ (by intro i hi; simp at hi; match i, hi with | 0, _ => rfl | 1, _ => rfl)⟩
  case round =>
    obtain ⟨k, hk, rfl, hb, hrow⟩ := hrel
    have Hr := hide hrow
    clear hrow
    have hg1 : wr.cell? ⟨w1.heap.size, 0, none⟩ = some (.int .i64 (bitSum set 0 js k)) := by simpa using Hr.out.cell (i := 0) (by omega)
    have hg2 : wr.cell? ⟨w1.heap.size, 1, none⟩ = some (.int .i64 (bitSum set 1 js k)) := by simpa using Hr.out.cell (i := 1) (by omega)
    have hf1 := Hr.out.frozen 0
    have hf2 := Hr.out.frozen 1
    have hzr : w1.heap.size < wr.heap.size := Hr.out.lt
    by_cases hlt : k < js.length
    · obtain ⟨b, o, rfl, hbl1, hbl2, hcs⟩ := Hc.out (by omega)
      obtain ⟨⟨q1, q2, q3⟩, -⟩ := hcs k hlt
      rw [← hb.cell (p := ⟨b, _, none⟩) (by simpa using by omega)] at q1 q2 q3
      clear hcs
      have hkI : (k : Int) < (js.length : Int) := by omega
      have hpk := (pow_bd (show k ≤ 6 by omega)).1
      by_cases hbit : set / 2 ^ k % 2 = 0
      · have HN := hide (bitSum_hit (js := js) hbit hlt)
        have HM := hide (bitSum_miss (js := js) (b := 1) (by rw [hbit]; decide) hlt)
        have hbt : bits .and .i64 (set / 2 ^ k) 1 = 0 := by rw [band1 (Int.ediv_nonneg h0 (by omega)) (by have := Int.ediv_le_self (2 ^ k) h0; omega)]; exact hbit
        have hw : IntKind.i64.wrap (bitSum set 0 js k + js[k].s) = bitSum set 0 js k + js[k].s := IntWalk.i64_in _ (bitSum_add HV.out (by omega) hlt)
        clear hbit
        go_wp2_with fail
        obtain ⟨wx, hwx⟩ : ∃ wx, wx = wr.alloc (.cells #[.int .i64 js[k].s, .int .i64 js[k].d, .int .i64 js[k].g] 24) := ⟨_, rfl⟩
        rw [← hwx]
        have hX : wx.rowIs w1.heap.size 59 2 (fun j => .int .i64 (bitSum set j js k)) := by rw [hwx]; exact Hr.out.alloc _
        have hbx : Below w.heap.size w wx := by rw [hwx]; exact hb.alloc hb.size _
        have hs : wx.cell? ⟨wr.heap.size, 0, none⟩ = some (.int .i64 js[k].s) := by rw [hwx]; simp [go_sem]
        have hx1 : wx.cell? ⟨w1.heap.size, 0, none⟩ = some (.int .i64 (bitSum set 0 js k)) := by simpa using hX.cell (i := 0) (by omega)
        have hx2 : wx.cell? ⟨w1.heap.size, 1, none⟩ = some (.int .i64 (bitSum set 1 js k)) := by simpa using hX.cell (i := 1) (by omega)
        have hxf1 := hX.frozen 0
        have hxf2 := hX.frozen 1
        have HX := hide hX
        clear hwx hX q1 q2 q3 hg1 hg2 hf1 hf2
        go_still_tail 10, (by kernel_rfl)
        change wpList _ _ _ _ _ (World.drew _)
        clear hbt hw
        go_wp2_with fail
        go_roundw
        case rel =>
          refine ⟨k + 1, by omega, by go_num, (hbx.setCell hz _).drew, ((HX.out.set 0 _).congr ?_).drew⟩
          intro i hi
          match i, hi with
          | 0, _ => simp [HN.out]
          | 1, _ => simp [HM.out]
        case measure => simp [intOf]; omega
      · have hbit1 : set / 2 ^ k % 2 = 1 := by omega
        have HN := hide (bitSum_hit (js := js) hbit1 hlt)
        have HM := hide (bitSum_miss (js := js) (b := 0) hbit hlt)
        have hbt : bits .and .i64 (set / 2 ^ k) 1 = 1 := by rw [band1 (Int.ediv_nonneg h0 (by omega)) (by have := Int.ediv_le_self (2 ^ k) h0; omega)]; exact hbit1
        have hw : IntKind.i64.wrap (bitSum set 1 js k + js[k].s) = bitSum set 1 js k + js[k].s := IntWalk.i64_in _ (bitSum_add HV.out (by omega) hlt)
        clear hbit hbit1
        go_wp2_with fail
        obtain ⟨wx, hwx⟩ : ∃ wx, wx = wr.alloc (.cells #[.int .i64 js[k].s, .int .i64 js[k].d, .int .i64 js[k].g] 24) := ⟨_, rfl⟩
        rw [← hwx]
        have hX : wx.rowIs w1.heap.size 59 2 (fun j => .int .i64 (bitSum set j js k)) := by rw [hwx]; exact Hr.out.alloc _
        have hbx : Below w.heap.size w wx := by rw [hwx]; exact hb.alloc hb.size _
        have hs : wx.cell? ⟨wr.heap.size, 0, none⟩ = some (.int .i64 js[k].s) := by rw [hwx]; simp [go_sem]
        have hx1 : wx.cell? ⟨w1.heap.size, 0, none⟩ = some (.int .i64 (bitSum set 0 js k)) := by simpa using hX.cell (i := 0) (by omega)
        have hx2 : wx.cell? ⟨w1.heap.size, 1, none⟩ = some (.int .i64 (bitSum set 1 js k)) := by simpa using hX.cell (i := 1) (by omega)
        have hxf1 := hX.frozen 0
        have hxf2 := hX.frozen 1
        have HX := hide hX
        clear hwx hX q1 q2 q3 hg1 hg2 hf1 hf2
        go_still_tail 10, (by kernel_rfl)
        change wpList _ _ _ _ _ (World.drew _)
        clear hbt hw
        go_wp2_with fail
        go_roundw
        case rel =>
          refine ⟨k + 1, by omega, by go_num, (hbx.setCell hz _).drew, ((HX.out.set 1 _).congr ?_).drew⟩
          intro i hi
          match i, hi with
          | 0, _ => simp [HM.out]
          | 1, _ => simp [HN.out]
        case measure => simp [intOf]; omega
    · obtain rfl : k = js.length := by omega
      have hm1 : bitSum set 0 js js.length ≤ bitSum set 1 js js.length → twoEndI js set = bitSum set 1 js js.length := fun h => Int.max_eq_right h
      have hm2 : bitSum set 1 js js.length ≤ bitSum set 0 js js.length → twoEndI js set = bitSum set 0 js js.length := fun h => Int.max_eq_left h
      have H1 := hide hm1
      have H2 := hide hm2
      clear hm1 hm2
      go_wp2_with fail
      all_goals
        go_ret
        refine ⟨?_, hb⟩
        first | (rw [H1.out (by omega)]; rfl) | (rw [H2.out (by omega)]; rfl)
theorem twoEnd_impl_bad (v : Value) (js : List J) (lo hi : Nat) (set : Int) (w : World) (h : JobsAt lo hi w v js) (hv : jsvB js = false) :
    Calls Tryd.prog 27 #[v, .int .i64 set] w fun e w' => e = .returned (.int .i64 (-1)) ∧ Below w.heap.size w w' := by
  obtain ⟨ao, cap, rfl, -, -, -, -⟩ := id h
  go_enter Tryd.func27, Tryd.ntmps27
  go_wp2_with fail
  refine (jsv_impl _ js lo hi w h).mono ?_
  rw [hv]
  rintro e w1 ⟨rfl, hb1⟩
  go_wp2_with fail
  go_ret
  exact ⟨rfl, hb1⟩

theorem twoEnd_impl_out (v : Value) (js : List J) (lo hi : Nat) (set : Int) (w : World) (h : JobsAt lo hi w v js) (hv : jsvB js = true) (hr : wi set 0 (2 ^ js.length - 1) = false) :
    Calls Tryd.prog 27 #[v, .int .i64 set] w fun e w' => e = .returned (.int .i64 (-1)) ∧ Below w.heap.size w w' := by
  have hl := jsvB_len hv
  have hlI : (js.length : Int) ≤ 6 := by omega
  obtain ⟨hp1, hp2⟩ := pow_bd hl
  have HV := hide hv
  have HR := hide hr
  have HH := hide h
  obtain ⟨ao, cap, rfl, hlc, hcap, -, -⟩ := id h
  clear hv hr h
  go_enter Tryd.func27, Tryd.ntmps27
  go_wp2_with fail
  refine (jsv_impl _ js lo hi w HH.out).mono ?_
  rw [HV.out]
  rintro e w1 ⟨rfl, hb1⟩
  go_wp2_with fail
  refine (within_any _ _ _ _).mono ?_
  rw [HR.out]
  rintro e w1' ⟨rfl, rfl⟩
  go_wp2_with fail
  go_ret
  exact ⟨rfl, hb1⟩


theorem twoEnd_impl (v : Value) (js : List J) (lo hi : Nat) (set : Int) (w : World) (h : JobsAt lo hi w v js) (_ : -9223372036854775808 ≤ set ∧ set ≤ 9223372036854775807) :
    Calls Tryd.prog 27 #[v, .int .i64 set] w fun e w' => e = .returned (.int .i64 (twoEndR js set)) ∧ Below w.heap.size w w' := by
  unfold twoEndR
  cases hv : jsvB js with
  | false => simpa using twoEnd_impl_bad v js lo hi set w h hv
  | true =>
    cases hr : wi set 0 (2 ^ js.length - 1) with
    | false => simpa using twoEnd_impl_out v js lo hi set w h hv hr
    | true => simpa using twoEnd_impl_ok v js lo hi set w h hv hr
end Go.Proofs.YtfjemnjdkniibaaDoor
