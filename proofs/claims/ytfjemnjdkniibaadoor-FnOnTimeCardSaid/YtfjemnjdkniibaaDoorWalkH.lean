/-
  The walks over EndSum, WorstLate, JobsLate.
-/
import Derived.Test.YtfjemnjdkniibaaDoorWalkG
namespace Go.Proofs.YtfjemnjdkniibaaDoor
open Go.RowKit

theorem l7Ok_any (v : Value) (js : List J) (lo hi : Nat) (v' : Value) (os : List Int) (lo' hi' : Nat) (w : World) (h : JobsAt lo hi w v js) (h' : IntsAt lo' hi' w v' os) :
    Calls Tryd.prog 91 #[v, v'] w fun e w' => e = .returned (.bool (okB js os)) ∧ Below w.heap.size w w' := by
  obtain ⟨ao, cap, rfl, hlc, hcap, hhi, hc⟩ := id h
  have Hc := hide hc
  have HH := hide h
  clear hc h
  cases hv : jsvB js with
  | false =>
    have e : okB js os = false := by simp [okB, hv]
    rw [e]
    have HV := hide hv
    clear e hv
    go_enter Tryd.func91, Tryd.ntmps91
    go_wp2_with fail
    refine (jsv_spec _ js lo hi _ HH.out).mono ?_
    rw [HV.out]
    rintro e w1 ⟨rfl, hb1⟩
    go_wp2_with fail
    go_ret
    exact ⟨rfl, hb1⟩
  | true =>
    have hl := jsvB_len hv
    have e : okB js os = ordB os js.length := by simp [okB, hv]
    rw [e]
    have HV := hide hv
    clear e hv
    go_enter Tryd.func91, Tryd.ntmps91
    go_wp2_with fail
    refine (jsv_spec _ js lo hi _ HH.out).mono ?_
    rw [HV.out]
    rintro e w1 ⟨rfl, hb1⟩
    have h1' := hide (h'.below hb1)
    go_wp2_with fail
    refine (l2Order_any _ os _ _ _ _ h1'.out (by omega) (by omega)).mono ?_
    rintro e w2 ⟨rfl, hb2⟩
    go_wp2_with fail
    go_ret
    exact ⟨rfl, Below.step hb1 hb2 (Nat.le_refl _)⟩

theorem endsTo_bd {js : List J} {os : List Int} (hv : jsvB js = true) (ho : ordB os js.length = true) : ∀ k, k ≤ os.length → ∀ j, j < js.length → 0 ≤ (endsTo js os k).getD j 0 ∧ (endsTo js os k).getD j 0 ≤ 594
  | 0, _, j, hj => by simp [endsTo, hj]
  | k + 1, hk, j, hj => by
    obtain ⟨x, hx, hxm⟩ := ordB_at ho (show k < os.length by omega)
    rw [endsTo_getD (by omega) hx j hj]
    have h1 := tSum_bd hv ho (k + 1) hk
    have h2 := ordB_len ho
    have h3 := jsvB_len hv
    split
    · omega
    · exact endsTo_bd hv ho k (by omega) j hj
theorem ends_bd {js : List J} {os : List Int} (hv : jsvB js = true) (ho : ordB os js.length = true) {k : Nat} (hk : k < (endsTo js os os.length).length) : 0 ≤ (endsTo js os os.length)[k] ∧ (endsTo js os os.length)[k] ≤ 594 := by
  have := endsTo_bd hv ho os.length (Nat.le_refl _) k (by rw [endsTo_length] at hk; exact hk)
  simpa [hk] using this

def endSumTo (js : List J) (es : List Int) : Nat → Int
  | 0 => 0
  | k + 1 => endSumTo js es k + es.getD k 0 * (js.getD k ⟨0, 0, 0⟩).g
def endSumR (js : List J) (os : List Int) : Int := if okB js os then endSumTo js (endsTo js os os.length) js.length else -1
theorem endSum_succ {js : List J} {es : List Int} {k : Nat} (h1 : k < es.length) (h2 : k < js.length) : endSumTo js es (k + 1) = endSumTo js es k + es[k] * js[k].g := by simp [endSumTo, h1, h2]
theorem mul_bd {a b x y : Int} (h1 : 0 ≤ a) (h2 : a ≤ x) (h3 : 0 ≤ b) (h4 : b ≤ y) : 0 ≤ a * b ∧ a * b ≤ x * y :=
  ⟨Int.mul_nonneg h1 h3, Int.mul_le_mul h2 h4 h3 (by omega)⟩
theorem endSum_bd {js : List J} {es : List Int} (hv : jsvB js = true) (hl : es.length = js.length) (he : ∀ k (_ : k < es.length), 0 ≤ es[k] ∧ es[k] ≤ 594) : ∀ k, k ≤ js.length → 0 ≤ endSumTo js es k ∧ endSumTo js es k ≤ 58806 * k
  | 0, _ => by simp [endSumTo]
  | k + 1, hk => by
    have ih := endSum_bd hv hl he k (by omega)
    rw [endSum_succ (by omega) (by omega)]
    have a := he k (by omega)
    have b := jvB_g (jsvB_at hv (show k < js.length by omega))
    have := mul_bd a.1 a.2 (show 0 ≤ js[k].g by omega) b.2
    omega


set_option maxHeartbeats 400000 in
theorem EndSum_spec_ok (v : Value) (js : List J) (lo hi : Nat) (v' : Value) (os : List Int) (lo' hi' : Nat) (w : World) (h : JobsAt lo hi w v js) (h' : IntsAt lo' hi' w v' os) (hv : jsvB js = true) (ho : ordB os js.length = true) :
    Calls Tryd.prog 56 #[v, v'] w fun e w' => e = .returned (.int .i64 (endSumTo js (endsTo js os os.length) js.length)) ∧ Below w.heap.size w w' := by
  have hl := jsvB_len hv
  have hel := endsTo_length js os os.length
  have hes := fun k (hk : k < (endsTo js os os.length).length) => ends_bd hv ho hk
  have hbd := fun k hk => endSum_bd hv (endsTo_length js os os.length) (fun k hk => ends_bd hv ho hk) k hk
  have hg := fun x (hx : x < js.length) => jvB_g (jsvB_at hv hx)
  have Hel := hide hel
  have Hes := hide hes
  have Hbd := hide hbd
  have Hg := hide hg
  have hok : okB js os = true := by simp [okB, hv, ho]
  have HOK := hide hok
  have HV := hide hv
  have HO := hide ho
  obtain ⟨ao, cap, rfl, hlc, hcap, hhi, hc⟩ := id h
  have Hc := hide hc
  have HH := hide h
  have HH' := hide h'
  clear hc h h' hv ho hes hbd hg hel hok
  go_enter Tryd.func56, Tryd.ntmps56
  go_wp2_with fail
  refine (jobEnds_spec_ok _ js _ _ _ os _ _ _ HH.out HH'.out HV.out HO.out).mono ?_
  rintro e w1 ⟨re, rfl, hre, hb1⟩
  have h1 := hide (HH.out.below hb1)
  have h1' := hide (HH'.out.below hb1)
  go_wp2_with fail
  refine (l7Ok_any _ js _ _ _ os _ _ _ h1.out h1'.out).mono ?_
  rw [HOK.out]
  rintro e w2 ⟨rfl, hb2⟩
  have hb : Below w.heap.size w w2 := Below.step hb1 hb2 (Nat.le_refl _)
  have hre2 := hre.below hb2
  obtain ⟨aoe, cape, rfl, hlce, hcape, hhie, hce⟩ := hre2
  have Hce := hide hce
  clear hce
  rw [Hel.out] at hlce ⊢
  go_wp2_with fail
  go_loopw [6, 7] (fun t i wr => ∃ k : Nat, k ≤ js.length ∧ i = .int .i64 k ∧ t = .int .i64 (endSumTo js (endsTo js os os.length) k) ∧ Below w2.heap.size w2 wr) (fun _ i _ => js.length - (intOf i).toNat)
  case atStart => exact ⟨0, Nat.zero_le _, rfl, rfl, Below.refl _ _⟩
  case round =>
    obtain ⟨k, hk, rfl, rfl, hbr⟩ := hrel
    by_cases hlt : k < js.length
    · have hke : k < (endsTo js os os.length).length := by rw [Hel.out]; exact hlt
      obtain ⟨b', o', rfl, hx1', hx2', hcs'⟩ := Hce.out (by omega)
      obtain ⟨h1e, -⟩ := hcs' k hke
      obtain ⟨b, o, rfl, hx1, hx2, hcs⟩ := Hc.out (by omega)
      obtain ⟨⟨q1, q2, q3⟩, -⟩ := hcs k hlt
      rw [← hb.cell (p := ⟨b, _, none⟩) (by simpa using by omega)] at q1 q2 q3
      rw [← hbr.cell (p := ⟨b, _, none⟩) (by simpa using by have := hb.size; omega)] at q1 q2 q3
      rw [← hbr.cell (p := ⟨b', _, none⟩) (by simpa using by omega)] at h1e
      have hkI : (k : Int) < (js.length : Int) := by omega
      have HS := hide (endSum_succ (js := js) hke hlt)
      obtain ⟨s0, s1⟩ := Hbd.out k hk
      obtain ⟨e0, e1⟩ := Hes.out k hke
      obtain ⟨g0, g1⟩ := Hg.out k hlt
      obtain ⟨m0, m1⟩ := mul_bd e0 e1 (show 0 ≤ js[k].g by omega) g1
      have hw1 : IntKind.i64.wrap ((endsTo js os os.length)[k] * js[k].g) = (endsTo js os os.length)[k] * js[k].g := IntWalk.i64_in _ (by omega)
      have hw2 : IntKind.i64.wrap (endSumTo js (endsTo js os os.length) k + (endsTo js os os.length)[k] * js[k].g) = endSumTo js (endsTo js os os.length) k + (endsTo js os os.length)[k] * js[k].g := IntWalk.i64_in _ (by omega)
      clear hcs hcs'

      go_wp2_with fail
      go_quiet (fail)
      go_wp2_with fail
      all_goals
        go_roundw
        case rel => exact ⟨k + 1, by omega, by go_num, by rw [HS.out], below_drewN hbr _⟩
        case measure => simp [intOf]; omega

    · obtain rfl : k = js.length := by omega
      go_wp2_with fail
      go_ret
      exact ⟨rfl, Below.step hb hbr (Nat.le_refl _)⟩

theorem EndSum_spec (v : Value) (js : List J) (lo hi : Nat) (v' : Value) (os : List Int) (lo' hi' : Nat) (w : World) (h : JobsAt lo hi w v js) (h' : IntsAt lo' hi' w v' os) :
    Calls Tryd.prog 56 #[v, v'] w fun e w' => e = .returned (.int .i64 (endSumR js os)) ∧ Below w.heap.size w w' := by
  cases hok : okB js os with
  | true =>
    have e : endSumR js os = endSumTo js (endsTo js os os.length) js.length := by simp [endSumR, hok]
    rw [e]
    simp only [okB, Bool.and_eq_true] at hok
    exact EndSum_spec_ok v js lo hi v' os lo' hi' w h h' hok.1 hok.2
  | false =>
    have e : endSumR js os = -1 := by simp [endSumR, hok]
    rw [e]
    obtain ⟨ao, cap, rfl, hlc, hcap, hhi, hc⟩ := id h
    have Hc := hide hc
    clear hc e
    go_enter Tryd.func56, Tryd.ntmps56
    go_wp2_with fail
    refine (jobEnds_spec _ js _ _ _ os _ _ _ h h').mono ?_
    rintro e w1 ⟨re, rfl, hre, hb1⟩
    have h1 := hide (h.below hb1)
    have h1' := hide (h'.below hb1)
    go_wp2_with fail
    refine (l7Ok_any _ js _ _ _ os _ _ _ h1.out h1'.out).mono ?_
    rw [hok]
    rintro e w2 ⟨rfl, hb2⟩
    go_wp2_with fail
    go_ret
    exact ⟨rfl, Below.step hb1 hb2 (Nat.le_refl _)⟩


set_option maxHeartbeats 400000 in
theorem EndSum_impl_ok (v : Value) (js : List J) (lo hi : Nat) (v' : Value) (os : List Int) (lo' hi' : Nat) (w : World) (h : JobsAt lo hi w v js) (h' : IntsAt lo' hi' w v' os) (hv : jsvB js = true) (ho : ordB os js.length = true) :
    Calls Tryd.prog 50 #[v, v'] w fun e w' => e = .returned (.int .i64 (endSumTo js (endsTo js os os.length) js.length)) ∧ Below w.heap.size w w' := by
  have hl := jsvB_len hv
  have hel := endsTo_length js os os.length
  have hes := fun k (hk : k < (endsTo js os os.length).length) => ends_bd hv ho hk
  have hbd := fun k hk => endSum_bd hv (endsTo_length js os os.length) (fun k hk => ends_bd hv ho hk) k hk
  have hg := fun x (hx : x < js.length) => jvB_g (jsvB_at hv hx)
  have Hel := hide hel
  have Hes := hide hes
  have Hbd := hide hbd
  have Hg := hide hg
  have hok : okB js os = true := by simp [okB, hv, ho]
  have HOK := hide hok
  have HV := hide hv
  have HO := hide ho
  obtain ⟨ao, cap, rfl, hlc, hcap, hhi, hc⟩ := id h
  have Hc := hide hc
  have HH := hide h
  have HH' := hide h'
  clear hc h h' hv ho hes hbd hg hel hok
  go_enter Tryd.func50, Tryd.ntmps50
  go_wp2_with fail
  refine (jsv_impl _ js lo hi _ HH.out).mono ?_
  rw [HV.out]
  rintro e w1 ⟨rfl, hb1⟩
  have h1 := hide (HH.out.below hb1)
  have h1' := hide (HH'.out.below hb1)
  go_wp2_with fail
  refine (isOrder_any _ os _ _ _ _ h1'.out (by omega)).mono ?_
  rw [HO.out]
  rintro e w2' ⟨rfl, hb2'⟩
  have h2 := hide (h1.out.below hb2')
  have h2' := hide (h1'.out.below hb2')
  go_wp2_with fail
  refine (jobEnds_impl_ok _ js _ _ _ os _ _ _ h2.out h2'.out HV.out HO.out).mono ?_
  rintro e w2 ⟨re, rfl, hre2, hb2⟩
  have hb : Below w.heap.size w w2 := Below.step (Below.step hb1 hb2' (Nat.le_refl _)) hb2 (Nat.le_refl _)
  obtain ⟨aoe, cape, rfl, hlce, hcape, hhie, hce⟩ := hre2
  have Hce := hide hce
  clear hce
  rw [Hel.out] at hlce ⊢
  go_wp2_with fail
  go_loopw [5, 22] (fun t i wr => ∃ k : Nat, k ≤ js.length ∧ i = .int .i64 k ∧ t = .int .i64 (endSumTo js (endsTo js os os.length) k) ∧ Below w2.heap.size w2 wr) (fun _ i _ => js.length - (intOf i).toNat)
  case atStart => exact ⟨0, Nat.zero_le _, rfl, rfl, Below.refl _ _⟩
  case round =>
    obtain ⟨k, hk, rfl, rfl, hbr⟩ := hrel
    by_cases hlt : k < js.length
    · have hke : k < (endsTo js os os.length).length := by rw [Hel.out]; exact hlt
      obtain ⟨b', o', rfl, hx1', hx2', hcs'⟩ := Hce.out (by omega)
      obtain ⟨h1e, -⟩ := hcs' k hke
      obtain ⟨b, o, rfl, hx1, hx2, hcs⟩ := Hc.out (by omega)
      obtain ⟨⟨q1, q2, q3⟩, -⟩ := hcs k hlt
      rw [← hb.cell (p := ⟨b, _, none⟩) (by simpa using by omega)] at q1 q2 q3
      rw [← hbr.cell (p := ⟨b, _, none⟩) (by simpa using by have := hb.size; omega)] at q1 q2 q3
      rw [← hbr.cell (p := ⟨b', _, none⟩) (by simpa using by omega)] at h1e
      have hkI : (k : Int) < (js.length : Int) := by omega
      have HS := hide (endSum_succ (js := js) hke hlt)
      obtain ⟨s0, s1⟩ := Hbd.out k hk
      obtain ⟨e0, e1⟩ := Hes.out k hke
      obtain ⟨g0, g1⟩ := Hg.out k hlt
      obtain ⟨m0, m1⟩ := mul_bd e0 e1 (show 0 ≤ js[k].g by omega) g1
      have hw1 : IntKind.i64.wrap ((endsTo js os os.length)[k] * js[k].g) = (endsTo js os os.length)[k] * js[k].g := IntWalk.i64_in _ (by omega)
      have hw2 : IntKind.i64.wrap (endSumTo js (endsTo js os os.length) k + (endsTo js os os.length)[k] * js[k].g) = endSumTo js (endsTo js os os.length) k + (endsTo js os os.length)[k] * js[k].g := IntWalk.i64_in _ (by omega)
      clear hcs hcs'

      go_wp2_with fail
      all_goals
        go_roundw
        case rel => exact ⟨k + 1, by omega, by go_num, by rw [HS.out], hbr⟩
        case measure => simp [intOf]; omega

    · obtain rfl : k = js.length := by omega
      go_wp2_with fail
      go_ret
      exact ⟨rfl, Below.step hb hbr (Nat.le_refl _)⟩

theorem EndSum_impl (v : Value) (js : List J) (lo hi : Nat) (v' : Value) (os : List Int) (lo' hi' : Nat) (w : World) (h : JobsAt lo hi w v js) (h' : IntsAt lo' hi' w v' os) :
    Calls Tryd.prog 50 #[v, v'] w fun e w' => e = .returned (.int .i64 (endSumR js os)) ∧ Below w.heap.size w w' := by
  cases hok : okB js os with
  | true =>
    have e : endSumR js os = endSumTo js (endsTo js os os.length) js.length := by simp [endSumR, hok]
    rw [e]
    simp only [okB, Bool.and_eq_true] at hok
    exact EndSum_impl_ok v js lo hi v' os lo' hi' w h h' hok.1 hok.2
  | false =>
    have e : endSumR js os = -1 := by simp [endSumR, hok]
    rw [e]
    obtain ⟨ao, cap, rfl, hlc, hcap, hhi, hc⟩ := id h
    have Hc := hide hc
    clear hc e
    cases hv : jsvB js with
    | false =>
      go_enter Tryd.func50, Tryd.ntmps50
      go_wp2_with fail
      refine (jsv_impl _ js lo hi _ h).mono ?_
      rw [hv]
      rintro e w1 ⟨rfl, hb1⟩
      go_wp2_with fail
      go_ret
      exact ⟨rfl, hb1⟩
    | true =>
      have ho : ordB os js.length = false := by simpa [okB, hv] using hok
      have hl := jsvB_len hv
      go_enter Tryd.func50, Tryd.ntmps50
      go_wp2_with fail
      refine (jsv_impl _ js lo hi _ h).mono ?_
      rw [hv]
      rintro e w1 ⟨rfl, hb1⟩
      have h1' := hide (h'.below hb1)
      go_wp2_with fail
      refine (isOrder_any _ os _ _ _ _ h1'.out (by omega)).mono ?_
      rw [ho]
      rintro e w2 ⟨rfl, hb2⟩
      go_wp2_with fail
      go_ret
      exact ⟨rfl, Below.step hb1 hb2 (Nat.le_refl _)⟩

def wlTo (js : List J) (es : List Int) : Nat → Int
  | 0 => 0
  | k + 1 => max (wlTo js es k) (es.getD k 0 - (js.getD k ⟨0, 0, 0⟩).d)
def worstR (js : List J) (os : List Int) : Int := if okB js os then wlTo js (endsTo js os os.length) js.length else -1
theorem wl_succ {js : List J} {es : List Int} {k : Nat} (h1 : k < es.length) (h2 : k < js.length) : wlTo js es (k + 1) = max (wlTo js es k) (es[k] - js[k].d) := by simp [wlTo, h1, h2]
theorem wl_bd {js : List J} {es : List Int} (hv : jsvB js = true) (hl : es.length = js.length) (he : ∀ k (_ : k < es.length), 0 ≤ es[k] ∧ es[k] ≤ 594) : ∀ k, k ≤ js.length → 0 ≤ wlTo js es k ∧ wlTo js es k ≤ 594
  | 0, _ => by simp [wlTo]
  | k + 1, hk => by
    have ih := wl_bd hv hl he k (by omega)
    rw [wl_succ (by omega) (by omega)]
    have a := he k (by omega)
    have b := jvB_d (jsvB_at hv (show k < js.length by omega))
    omega


set_option maxHeartbeats 400000 in
theorem WorstLate_spec_ok (v : Value) (js : List J) (lo hi : Nat) (v' : Value) (os : List Int) (lo' hi' : Nat) (w : World) (h : JobsAt lo hi w v js) (h' : IntsAt lo' hi' w v' os) (hv : jsvB js = true) (ho : ordB os js.length = true) :
    Calls Tryd.prog 58 #[v, v'] w fun e w' => e = .returned (.int .i64 (wlTo js (endsTo js os os.length) js.length)) ∧ Below w.heap.size w w' := by
  have hl := jsvB_len hv
  have hel := endsTo_length js os os.length
  have hes := fun k (hk : k < (endsTo js os os.length).length) => ends_bd hv ho hk
  have hbd := fun k hk => wl_bd hv (endsTo_length js os os.length) (fun k hk => ends_bd hv ho hk) k hk
  have hg := fun x (hx : x < js.length) => jvB_d (jsvB_at hv hx)
  have Hel := hide hel
  have Hes := hide hes
  have Hbd := hide hbd
  have Hg := hide hg
  have hok : okB js os = true := by simp [okB, hv, ho]
  have HOK := hide hok
  have HV := hide hv
  have HO := hide ho
  obtain ⟨ao, cap, rfl, hlc, hcap, hhi, hc⟩ := id h
  have Hc := hide hc
  have HH := hide h
  have HH' := hide h'
  clear hc h h' hv ho hes hbd hg hel hok
  go_enter Tryd.func58, Tryd.ntmps58
  go_wp2_with fail
  refine (jobEnds_spec_ok _ js _ _ _ os _ _ _ HH.out HH'.out HV.out HO.out).mono ?_
  rintro e w1 ⟨re, rfl, hre, hb1⟩
  have h1 := hide (HH.out.below hb1)
  have h1' := hide (HH'.out.below hb1)
  go_wp2_with fail
  refine (l7Ok_any _ js _ _ _ os _ _ _ h1.out h1'.out).mono ?_
  rw [HOK.out]
  rintro e w2 ⟨rfl, hb2⟩
  have hb : Below w.heap.size w w2 := Below.step hb1 hb2 (Nat.le_refl _)
  have hre2 := hre.below hb2
  obtain ⟨aoe, cape, rfl, hlce, hcape, hhie, hce⟩ := hre2
  have Hce := hide hce
  clear hce
  rw [Hel.out] at hlce ⊢
  go_wp2_with fail
  go_loopw [6, 7] (fun t i wr => ∃ k : Nat, k ≤ js.length ∧ i = .int .i64 k ∧ t = .int .i64 (wlTo js (endsTo js os os.length) k) ∧ Below w2.heap.size w2 wr) (fun _ i _ => js.length - (intOf i).toNat)
  case atStart => exact ⟨0, Nat.zero_le _, rfl, rfl, Below.refl _ _⟩
  case round =>
    obtain ⟨k, hk, rfl, rfl, hbr⟩ := hrel
    by_cases hlt : k < js.length
    · have hke : k < (endsTo js os os.length).length := by rw [Hel.out]; exact hlt
      obtain ⟨b', o', rfl, hx1', hx2', hcs'⟩ := Hce.out (by omega)
      obtain ⟨h1e, -⟩ := hcs' k hke
      obtain ⟨b, o, rfl, hx1, hx2, hcs⟩ := Hc.out (by omega)
      obtain ⟨⟨q1, q2, q3⟩, -⟩ := hcs k hlt
      rw [← hb.cell (p := ⟨b, _, none⟩) (by simpa using by omega)] at q1 q2 q3
      rw [← hbr.cell (p := ⟨b, _, none⟩) (by simpa using by have := hb.size; omega)] at q1 q2 q3
      rw [← hbr.cell (p := ⟨b', _, none⟩) (by simpa using by omega)] at h1e
      have hkI : (k : Int) < (js.length : Int) := by omega
      have HS := hide (wl_succ (js := js) hke hlt)
      obtain ⟨s0, s1⟩ := Hbd.out k hk
      obtain ⟨e0, e1⟩ := Hes.out k hke
      obtain ⟨g0, g1⟩ := Hg.out k hlt
      have hw1 : IntKind.i64.wrap ((endsTo js os os.length)[k] - js[k].d) = (endsTo js os os.length)[k] - js[k].d := IntWalk.i64_in _ (by omega)
      clear hcs hcs'

      go_wp2_with fail
      go_quiet (fail)
      go_wp2_with fail
      all_goals
        go_roundw
        case rel => exact ⟨k + 1, by omega, by go_num, by rw [HS.out]; exact congrArg _ (by split <;> omega), below_drewN hbr _⟩
        case measure => simp [intOf]; omega

    · obtain rfl : k = js.length := by omega
      go_wp2_with fail
      go_ret
      exact ⟨rfl, Below.step hb hbr (Nat.le_refl _)⟩

theorem WorstLate_spec (v : Value) (js : List J) (lo hi : Nat) (v' : Value) (os : List Int) (lo' hi' : Nat) (w : World) (h : JobsAt lo hi w v js) (h' : IntsAt lo' hi' w v' os) :
    Calls Tryd.prog 58 #[v, v'] w fun e w' => e = .returned (.int .i64 (worstR js os)) ∧ Below w.heap.size w w' := by
  cases hok : okB js os with
  | true =>
    have e : worstR js os = wlTo js (endsTo js os os.length) js.length := by simp [worstR, hok]
    rw [e]
    simp only [okB, Bool.and_eq_true] at hok
    exact WorstLate_spec_ok v js lo hi v' os lo' hi' w h h' hok.1 hok.2
  | false =>
    have e : worstR js os = -1 := by simp [worstR, hok]
    rw [e]
    obtain ⟨ao, cap, rfl, hlc, hcap, hhi, hc⟩ := id h
    have Hc := hide hc
    clear hc e
    go_enter Tryd.func58, Tryd.ntmps58
    go_wp2_with fail
    refine (jobEnds_spec _ js _ _ _ os _ _ _ h h').mono ?_
    rintro e w1 ⟨re, rfl, hre, hb1⟩
    have h1 := hide (h.below hb1)
    have h1' := hide (h'.below hb1)
    go_wp2_with fail
    refine (l7Ok_any _ js _ _ _ os _ _ _ h1.out h1'.out).mono ?_
    rw [hok]
    rintro e w2 ⟨rfl, hb2⟩
    go_wp2_with fail
    go_ret
    exact ⟨rfl, Below.step hb1 hb2 (Nat.le_refl _)⟩


set_option maxHeartbeats 400000 in
theorem WorstLate_impl_ok (v : Value) (js : List J) (lo hi : Nat) (v' : Value) (os : List Int) (lo' hi' : Nat) (w : World) (h : JobsAt lo hi w v js) (h' : IntsAt lo' hi' w v' os) (hv : jsvB js = true) (ho : ordB os js.length = true) :
    Calls Tryd.prog 42 #[v, v'] w fun e w' => e = .returned (.int .i64 (wlTo js (endsTo js os os.length) js.length)) ∧ Below w.heap.size w w' := by
  have hl := jsvB_len hv
  have hel := endsTo_length js os os.length
  have hes := fun k (hk : k < (endsTo js os os.length).length) => ends_bd hv ho hk
  have hbd := fun k hk => wl_bd hv (endsTo_length js os os.length) (fun k hk => ends_bd hv ho hk) k hk
  have hg := fun x (hx : x < js.length) => jvB_d (jsvB_at hv hx)
  have Hel := hide hel
  have Hes := hide hes
  have Hbd := hide hbd
  have Hg := hide hg
  have hok : okB js os = true := by simp [okB, hv, ho]
  have HOK := hide hok
  have HV := hide hv
  have HO := hide ho
  obtain ⟨ao, cap, rfl, hlc, hcap, hhi, hc⟩ := id h
  have Hc := hide hc
  have HH := hide h
  have HH' := hide h'
  clear hc h h' hv ho hes hbd hg hel hok
  go_enter Tryd.func42, Tryd.ntmps42
  go_wp2_with fail
  refine (jsv_impl _ js lo hi _ HH.out).mono ?_
  rw [HV.out]
  rintro e w1 ⟨rfl, hb1⟩
  have h1 := hide (HH.out.below hb1)
  have h1' := hide (HH'.out.below hb1)
  go_wp2_with fail
  refine (isOrder_any _ os _ _ _ _ h1'.out (by omega)).mono ?_
  rw [HO.out]
  rintro e w2' ⟨rfl, hb2'⟩
  have h2 := hide (h1.out.below hb2')
  have h2' := hide (h1'.out.below hb2')
  go_wp2_with fail
  refine (jobEnds_impl_ok _ js _ _ _ os _ _ _ h2.out h2'.out HV.out HO.out).mono ?_
  rintro e w2 ⟨re, rfl, hre2, hb2⟩
  have hb : Below w.heap.size w w2 := Below.step (Below.step hb1 hb2' (Nat.le_refl _)) hb2 (Nat.le_refl _)
  obtain ⟨aoe, cape, rfl, hlce, hcape, hhie, hce⟩ := hre2
  have Hce := hide hce
  clear hce
  rw [Hel.out] at hlce ⊢
  go_wp2_with fail
  go_loopw [5, 22] (fun t i wr => ∃ k : Nat, k ≤ js.length ∧ i = .int .i64 k ∧ t = .int .i64 (wlTo js (endsTo js os os.length) k) ∧ Below w2.heap.size w2 wr) (fun _ i _ => js.length - (intOf i).toNat)
  case atStart => exact ⟨0, Nat.zero_le _, rfl, rfl, Below.refl _ _⟩
  case round =>
    obtain ⟨k, hk, rfl, rfl, hbr⟩ := hrel
    by_cases hlt : k < js.length
    · have hke : k < (endsTo js os os.length).length := by rw [Hel.out]; exact hlt
      obtain ⟨b', o', rfl, hx1', hx2', hcs'⟩ := Hce.out (by omega)
      obtain ⟨h1e, -⟩ := hcs' k hke
      obtain ⟨b, o, rfl, hx1, hx2, hcs⟩ := Hc.out (by omega)
      obtain ⟨⟨q1, q2, q3⟩, -⟩ := hcs k hlt
      rw [← hb.cell (p := ⟨b, _, none⟩) (by simpa using by omega)] at q1 q2 q3
      rw [← hbr.cell (p := ⟨b, _, none⟩) (by simpa using by have := hb.size; omega)] at q1 q2 q3
      rw [← hbr.cell (p := ⟨b', _, none⟩) (by simpa using by omega)] at h1e
      have hkI : (k : Int) < (js.length : Int) := by omega
      have HS := hide (wl_succ (js := js) hke hlt)
      obtain ⟨s0, s1⟩ := Hbd.out k hk
      obtain ⟨e0, e1⟩ := Hes.out k hke
      obtain ⟨g0, g1⟩ := Hg.out k hlt
      have hw1 : IntKind.i64.wrap ((endsTo js os os.length)[k] - js[k].d) = (endsTo js os os.length)[k] - js[k].d := IntWalk.i64_in _ (by omega)
      clear hcs hcs'

      go_wp2_with fail
      all_goals
        go_roundw
        case rel => exact ⟨k + 1, by omega, by go_num, by rw [HS.out]; exact congrArg _ (by split <;> omega), hbr⟩
        case measure => simp [intOf]; omega

    · obtain rfl : k = js.length := by omega
      go_wp2_with fail
      go_ret
      exact ⟨rfl, Below.step hb hbr (Nat.le_refl _)⟩

theorem WorstLate_impl (v : Value) (js : List J) (lo hi : Nat) (v' : Value) (os : List Int) (lo' hi' : Nat) (w : World) (h : JobsAt lo hi w v js) (h' : IntsAt lo' hi' w v' os) :
    Calls Tryd.prog 42 #[v, v'] w fun e w' => e = .returned (.int .i64 (worstR js os)) ∧ Below w.heap.size w w' := by
  cases hok : okB js os with
  | true =>
    have e : worstR js os = wlTo js (endsTo js os os.length) js.length := by simp [worstR, hok]
    rw [e]
    simp only [okB, Bool.and_eq_true] at hok
    exact WorstLate_impl_ok v js lo hi v' os lo' hi' w h h' hok.1 hok.2
  | false =>
    have e : worstR js os = -1 := by simp [worstR, hok]
    rw [e]
    obtain ⟨ao, cap, rfl, hlc, hcap, hhi, hc⟩ := id h
    have Hc := hide hc
    clear hc e
    cases hv : jsvB js with
    | false =>
      go_enter Tryd.func42, Tryd.ntmps42
      go_wp2_with fail
      refine (jsv_impl _ js lo hi _ h).mono ?_
      rw [hv]
      rintro e w1 ⟨rfl, hb1⟩
      go_wp2_with fail
      go_ret
      exact ⟨rfl, hb1⟩
    | true =>
      have ho : ordB os js.length = false := by simpa [okB, hv] using hok
      have hl := jsvB_len hv
      go_enter Tryd.func42, Tryd.ntmps42
      go_wp2_with fail
      refine (jsv_impl _ js lo hi _ h).mono ?_
      rw [hv]
      rintro e w1 ⟨rfl, hb1⟩
      have h1' := hide (h'.below hb1)
      go_wp2_with fail
      refine (isOrder_any _ os _ _ _ _ h1'.out (by omega)).mono ?_
      rw [ho]
      rintro e w2 ⟨rfl, hb2⟩
      go_wp2_with fail
      go_ret
      exact ⟨rfl, Below.step hb1 hb2 (Nat.le_refl _)⟩

def manyTo (js : List J) (es : List Int) : Nat → Int
  | 0 => 0
  | k + 1 => manyTo js es k + if (js.getD k ⟨0, 0, 0⟩).d < es.getD k 0 then 1 else 0
def lateR (js : List J) (os : List Int) : Int := if okB js os then manyTo js (endsTo js os os.length) js.length else -1
theorem many_succ {js : List J} {es : List Int} {k : Nat} (h1 : k < es.length) (h2 : k < js.length) : manyTo js es (k + 1) = manyTo js es k + if js[k].d < es[k] then 1 else 0 := by simp [manyTo, h1, h2]
theorem many_bd {js : List J} {es : List Int} : ∀ k, 0 ≤ manyTo js es k ∧ manyTo js es k ≤ k
  | 0 => by simp [manyTo]
  | k + 1 => by
    have ih := many_bd (js := js) (es := es) k
    simp only [manyTo]
    split <;> omega


set_option maxHeartbeats 400000 in
theorem JobsLate_spec_ok (v : Value) (js : List J) (lo hi : Nat) (v' : Value) (os : List Int) (lo' hi' : Nat) (w : World) (h : JobsAt lo hi w v js) (h' : IntsAt lo' hi' w v' os) (hv : jsvB js = true) (ho : ordB os js.length = true) :
    Calls Tryd.prog 67 #[v, v'] w fun e w' => e = .returned (.int .i64 (manyTo js (endsTo js os os.length) js.length)) ∧ Below w.heap.size w w' := by
  have hl := jsvB_len hv
  have hel := endsTo_length js os os.length
  have hes := fun k (hk : k < (endsTo js os os.length).length) => ends_bd hv ho hk
  have hbd := fun k => many_bd (js := js) (es := endsTo js os os.length) k
  have hg := fun x (hx : x < js.length) => jvB_d (jsvB_at hv hx)
  have Hel := hide hel
  have Hes := hide hes
  have Hbd := hide hbd
  have Hg := hide hg
  have hok : okB js os = true := by simp [okB, hv, ho]
  have HOK := hide hok
  have HV := hide hv
  have HO := hide ho
  obtain ⟨ao, cap, rfl, hlc, hcap, hhi, hc⟩ := id h
  have Hc := hide hc
  have HH := hide h
  have HH' := hide h'
  clear hc h h' hv ho hes hbd hg hel hok
  go_enter Tryd.func67, Tryd.ntmps67
  go_wp2_with fail
  refine (jobEnds_spec_ok _ js _ _ _ os _ _ _ HH.out HH'.out HV.out HO.out).mono ?_
  rintro e w1 ⟨re, rfl, hre, hb1⟩
  have h1 := hide (HH.out.below hb1)
  have h1' := hide (HH'.out.below hb1)
  go_wp2_with fail
  refine (l7Ok_any _ js _ _ _ os _ _ _ h1.out h1'.out).mono ?_
  rw [HOK.out]
  rintro e w2 ⟨rfl, hb2⟩
  have hb : Below w.heap.size w w2 := Below.step hb1 hb2 (Nat.le_refl _)
  have hre2 := hre.below hb2
  obtain ⟨aoe, cape, rfl, hlce, hcape, hhie, hce⟩ := hre2
  have Hce := hide hce
  clear hce
  rw [Hel.out] at hlce ⊢
  go_wp2_with fail
  go_loopw [6, 7] (fun t i wr => ∃ k : Nat, k ≤ js.length ∧ i = .int .i64 k ∧ t = .int .i64 (manyTo js (endsTo js os os.length) k) ∧ Below w2.heap.size w2 wr) (fun _ i _ => js.length - (intOf i).toNat)
  case atStart => exact ⟨0, Nat.zero_le _, rfl, rfl, Below.refl _ _⟩
  case round =>
    obtain ⟨k, hk, rfl, rfl, hbr⟩ := hrel
    by_cases hlt : k < js.length
    · have hke : k < (endsTo js os os.length).length := by rw [Hel.out]; exact hlt
      obtain ⟨b', o', rfl, hx1', hx2', hcs'⟩ := Hce.out (by omega)
      obtain ⟨h1e, -⟩ := hcs' k hke
      obtain ⟨b, o, rfl, hx1, hx2, hcs⟩ := Hc.out (by omega)
      obtain ⟨⟨q1, q2, q3⟩, -⟩ := hcs k hlt
      rw [← hb.cell (p := ⟨b, _, none⟩) (by simpa using by omega)] at q1 q2 q3
      rw [← hbr.cell (p := ⟨b, _, none⟩) (by simpa using by have := hb.size; omega)] at q1 q2 q3
      rw [← hbr.cell (p := ⟨b', _, none⟩) (by simpa using by omega)] at h1e
      have hkI : (k : Int) < (js.length : Int) := by omega
      have HS := hide (many_succ (js := js) hke hlt)
      obtain ⟨s0, s1⟩ := Hbd.out k
      clear hcs hcs'

      by_cases hq : js[k].d < (endsTo js os os.length)[k]
      · have hqB : decide (js[k].d < (endsTo js os os.length)[k]) = true := by simp [hq]
        rw [if_pos hq] at HS
        go_wp2_with fail
        go_quiet (fail)
        go_wp2_with fail
        all_goals
          go_roundw
          case rel => exact ⟨k + 1, by omega, by go_num, by rw [HS.out], below_drewN hbr _⟩
          case measure => simp [intOf]; omega
      · have hqB : decide (js[k].d < (endsTo js os os.length)[k]) = false := by simp only [decide_eq_false_iff_not]; exact hq
        rw [if_neg hq, Int.add_zero] at HS
        go_wp2_with fail
        go_quiet (fail)
        go_wp2_with fail
        all_goals
          go_roundw
          case rel => exact ⟨k + 1, by omega, by go_num, by rw [HS.out], below_drewN hbr _⟩
          case measure => simp [intOf]; omega

    · obtain rfl : k = js.length := by omega
      go_wp2_with fail
      go_ret
      exact ⟨rfl, Below.step hb hbr (Nat.le_refl _)⟩

theorem JobsLate_spec (v : Value) (js : List J) (lo hi : Nat) (v' : Value) (os : List Int) (lo' hi' : Nat) (w : World) (h : JobsAt lo hi w v js) (h' : IntsAt lo' hi' w v' os) :
    Calls Tryd.prog 67 #[v, v'] w fun e w' => e = .returned (.int .i64 (lateR js os)) ∧ Below w.heap.size w w' := by
  cases hok : okB js os with
  | true =>
    have e : lateR js os = manyTo js (endsTo js os os.length) js.length := by simp [lateR, hok]
    rw [e]
    simp only [okB, Bool.and_eq_true] at hok
    exact JobsLate_spec_ok v js lo hi v' os lo' hi' w h h' hok.1 hok.2
  | false =>
    have e : lateR js os = -1 := by simp [lateR, hok]
    rw [e]
    obtain ⟨ao, cap, rfl, hlc, hcap, hhi, hc⟩ := id h
    have Hc := hide hc
    clear hc e
    go_enter Tryd.func67, Tryd.ntmps67
    go_wp2_with fail
    refine (jobEnds_spec _ js _ _ _ os _ _ _ h h').mono ?_
    rintro e w1 ⟨re, rfl, hre, hb1⟩
    have h1 := hide (h.below hb1)
    have h1' := hide (h'.below hb1)
    go_wp2_with fail
    refine (l7Ok_any _ js _ _ _ os _ _ _ h1.out h1'.out).mono ?_
    rw [hok]
    rintro e w2 ⟨rfl, hb2⟩
    go_wp2_with fail
    go_ret
    exact ⟨rfl, Below.step hb1 hb2 (Nat.le_refl _)⟩


set_option maxHeartbeats 400000 in
theorem JobsLate_impl_ok (v : Value) (js : List J) (lo hi : Nat) (v' : Value) (os : List Int) (lo' hi' : Nat) (w : World) (h : JobsAt lo hi w v js) (h' : IntsAt lo' hi' w v' os) (hv : jsvB js = true) (ho : ordB os js.length = true) :
    Calls Tryd.prog 54 #[v, v'] w fun e w' => e = .returned (.int .i64 (manyTo js (endsTo js os os.length) js.length)) ∧ Below w.heap.size w w' := by
  have hl := jsvB_len hv
  have hel := endsTo_length js os os.length
  have hes := fun k (hk : k < (endsTo js os os.length).length) => ends_bd hv ho hk
  have hbd := fun k => many_bd (js := js) (es := endsTo js os os.length) k
  have hg := fun x (hx : x < js.length) => jvB_d (jsvB_at hv hx)
  have Hel := hide hel
  have Hes := hide hes
  have Hbd := hide hbd
  have Hg := hide hg
  have hok : okB js os = true := by simp [okB, hv, ho]
  have HOK := hide hok
  have HV := hide hv
  have HO := hide ho
  obtain ⟨ao, cap, rfl, hlc, hcap, hhi, hc⟩ := id h
  have Hc := hide hc
  have HH := hide h
  have HH' := hide h'
  clear hc h h' hv ho hes hbd hg hel hok
  go_enter Tryd.func54, Tryd.ntmps54
  go_wp2_with fail
  refine (jsv_impl _ js lo hi _ HH.out).mono ?_
  rw [HV.out]
  rintro e w1 ⟨rfl, hb1⟩
  have h1 := hide (HH.out.below hb1)
  have h1' := hide (HH'.out.below hb1)
  go_wp2_with fail
  refine (isOrder_any _ os _ _ _ _ h1'.out (by omega)).mono ?_
  rw [HO.out]
  rintro e w2' ⟨rfl, hb2'⟩
  have h2 := hide (h1.out.below hb2')
  have h2' := hide (h1'.out.below hb2')
  go_wp2_with fail
  refine (jobEnds_impl_ok _ js _ _ _ os _ _ _ h2.out h2'.out HV.out HO.out).mono ?_
  rintro e w2 ⟨re, rfl, hre2, hb2⟩
  have hb : Below w.heap.size w w2 := Below.step (Below.step hb1 hb2' (Nat.le_refl _)) hb2 (Nat.le_refl _)
  obtain ⟨aoe, cape, rfl, hlce, hcape, hhie, hce⟩ := hre2
  have Hce := hide hce
  clear hce
  rw [Hel.out] at hlce ⊢
  go_wp2_with fail
  go_loopw [5, 22] (fun t i wr => ∃ k : Nat, k ≤ js.length ∧ i = .int .i64 k ∧ t = .int .i64 (manyTo js (endsTo js os os.length) k) ∧ Below w2.heap.size w2 wr) (fun _ i _ => js.length - (intOf i).toNat)
  case atStart => exact ⟨0, Nat.zero_le _, rfl, rfl, Below.refl _ _⟩
  case round =>
    obtain ⟨k, hk, rfl, rfl, hbr⟩ := hrel
    by_cases hlt : k < js.length
    · have hke : k < (endsTo js os os.length).length := by rw [Hel.out]; exact hlt
      obtain ⟨b', o', rfl, hx1', hx2', hcs'⟩ := Hce.out (by omega)
      obtain ⟨h1e, -⟩ := hcs' k hke
      obtain ⟨b, o, rfl, hx1, hx2, hcs⟩ := Hc.out (by omega)
      obtain ⟨⟨q1, q2, q3⟩, -⟩ := hcs k hlt
      rw [← hb.cell (p := ⟨b, _, none⟩) (by simpa using by omega)] at q1 q2 q3
      rw [← hbr.cell (p := ⟨b, _, none⟩) (by simpa using by have := hb.size; omega)] at q1 q2 q3
      rw [← hbr.cell (p := ⟨b', _, none⟩) (by simpa using by omega)] at h1e
      have hkI : (k : Int) < (js.length : Int) := by omega
      have HS := hide (many_succ (js := js) hke hlt)
      obtain ⟨s0, s1⟩ := Hbd.out k
      clear hcs hcs'

      by_cases hq : js[k].d < (endsTo js os os.length)[k]
      · have hqB : decide (js[k].d < (endsTo js os os.length)[k]) = true := by simp [hq]
        rw [if_pos hq] at HS
        go_wp2_with fail
        all_goals
          go_roundw
          case rel => exact ⟨k + 1, by omega, by go_num, by rw [HS.out], hbr⟩
          case measure => simp [intOf]; omega
      · have hqB : decide (js[k].d < (endsTo js os os.length)[k]) = false := by simp only [decide_eq_false_iff_not]; exact hq
        rw [if_neg hq, Int.add_zero] at HS
        go_wp2_with fail
        all_goals
          go_roundw
          case rel => exact ⟨k + 1, by omega, by go_num, by rw [HS.out], hbr⟩
          case measure => simp [intOf]; omega

    · obtain rfl : k = js.length := by omega
      go_wp2_with fail
      go_ret
      exact ⟨rfl, Below.step hb hbr (Nat.le_refl _)⟩

theorem JobsLate_impl (v : Value) (js : List J) (lo hi : Nat) (v' : Value) (os : List Int) (lo' hi' : Nat) (w : World) (h : JobsAt lo hi w v js) (h' : IntsAt lo' hi' w v' os) :
    Calls Tryd.prog 54 #[v, v'] w fun e w' => e = .returned (.int .i64 (lateR js os)) ∧ Below w.heap.size w w' := by
  cases hok : okB js os with
  | true =>
    have e : lateR js os = manyTo js (endsTo js os os.length) js.length := by simp [lateR, hok]
    rw [e]
    simp only [okB, Bool.and_eq_true] at hok
    exact JobsLate_impl_ok v js lo hi v' os lo' hi' w h h' hok.1 hok.2
  | false =>
    have e : lateR js os = -1 := by simp [lateR, hok]
    rw [e]
    obtain ⟨ao, cap, rfl, hlc, hcap, hhi, hc⟩ := id h
    have Hc := hide hc
    clear hc e
    cases hv : jsvB js with
    | false =>
      go_enter Tryd.func54, Tryd.ntmps54
      go_wp2_with fail
      refine (jsv_impl _ js lo hi _ h).mono ?_
      rw [hv]
      rintro e w1 ⟨rfl, hb1⟩
      go_wp2_with fail
      go_ret
      exact ⟨rfl, hb1⟩
    | true =>
      have ho : ordB os js.length = false := by simpa [okB, hv] using hok
      have hl := jsvB_len hv
      go_enter Tryd.func54, Tryd.ntmps54
      go_wp2_with fail
      refine (jsv_impl _ js lo hi _ h).mono ?_
      rw [hv]
      rintro e w1 ⟨rfl, hb1⟩
      have h1' := hide (h'.below hb1)
      go_wp2_with fail
      refine (isOrder_any _ os _ _ _ _ h1'.out (by omega)).mono ?_
      rw [ho]
      rintro e w2 ⟨rfl, hb2⟩
      go_wp2_with fail
      go_ret
      exact ⟨rfl, Below.step hb1 hb2 (Nat.le_refl _)⟩

end Go.Proofs.YtfjemnjdkniibaaDoor
