/-
  The walks over JobEnds.
-/
import Derived.Test.YtfjemnjdkniibaaDoorWalkC
import Derived.Test.YtfjemnjdkniibaaDoorWalkF
namespace Go.Proofs.YtfjemnjdkniibaaDoor
open Go.RowKit

/-- When the first k of the order are done. -/
def tSum (js : List J) (os : List Int) : Nat → Int
  | 0 => 0
  | k + 1 => tSum js os k + (js.getD (os.getD k 0).toNat ⟨0, 0, 0⟩).s
/-- The ends after k of the order. -/
def endsTo (js : List J) (os : List Int) : Nat → List Int
  | 0 => List.replicate js.length 0
  | k + 1 => (endsTo js os k).set (os.getD k 0).toNat (tSum js os (k + 1))
def okB (js : List J) (os : List Int) : Bool := jsvB js && ordB os js.length
def jobEndsR (js : List J) (os : List Int) : List Int := if okB js os then endsTo js os os.length else []

theorem endsTo_length (js : List J) (os : List Int) : ∀ k, (endsTo js os k).length = js.length
  | 0 => by simp [endsTo]
  | k + 1 => by simp [endsTo, endsTo_length js os k]
theorem ordB_len {os : List Int} {m : Nat} (h : ordB os m = true) : os.length = m := by
  simp [ordB] at h; omega
theorem ordB_at {os : List Int} {m : Nat} (h : ordB os m = true) {k : Nat} (hk : k < os.length) : ∃ x : Nat, os[k] = x ∧ x < m := by
  simp [ordB] at h
  have := upTo_iff.1 h.2 k hk
  rw [ordK_at hk, Bool.and_eq_true] at this
  obtain ⟨a, b⟩ := wi_iff.1 this.1
  exact ⟨os[k].toNat, by omega, by omega⟩
theorem tSum_succ {js : List J} {os : List Int} {k x : Nat} (hk : k < os.length) (hx : os[k] = x) (hxm : x < js.length) : tSum js os (k + 1) = tSum js os k + js[x].s := by
  simp [tSum, hk, hx, hxm]
theorem tSum_bd {js : List J} {os : List Int} (hv : jsvB js = true) (ho : ordB os js.length = true) : ∀ k, k ≤ os.length → 0 ≤ tSum js os k ∧ tSum js os k ≤ 99 * k
  | 0, _ => by simp [tSum]
  | k + 1, hk => by
    have ih := tSum_bd hv ho k (by omega)
    obtain ⟨x, hx, hxm⟩ := ordB_at ho (show k < os.length by omega)
    rw [tSum_succ (by omega) hx hxm]
    have := jvB_s (jsvB_at hv hxm)
    omega
theorem endsTo_succ {js : List J} {os : List Int} {k x : Nat} (hk : k < os.length) (hx : os[k] = x) : endsTo js os (k + 1) = (endsTo js os k).set x (tSum js os (k + 1)) := by
  simp [endsTo, hk, hx]
theorem endsTo_getD {js : List J} {os : List Int} {k x : Nat} (hk : k < os.length) (hx : os[k] = x) (j : Nat) (hj : j < js.length) :
    (endsTo js os (k + 1)).getD j 0 = if j = x then tSum js os (k + 1) else (endsTo js os k).getD j 0 := by
  have hl := endsTo_length js os k
  rw [endsTo_succ hk hx]
  simp only [List.getD, List.getElem?_set]
  by_cases e : j = x
  · subst e; simp [hl, hj]
  · have : ¬ x = j := fun h => e h.symm
    simp [e, this]

set_option maxHeartbeats 400000 in
theorem jobEnds_spec_ok (v : Value) (js : List J) (lo hi : Nat) (v' : Value) (os : List Int) (lo' hi' : Nat) (w : World) (h : JobsAt lo hi w v js) (h' : IntsAt lo' hi' w v' os) (hv : jsvB js = true) (ho : ordB os js.length = true) :
    Calls Tryd.prog 38 #[v, v'] w fun e w' => ∃ r, e = .returned r ∧ IntsAt w.heap.size w'.heap.size w' r (endsTo js os os.length) ∧ Below w.heap.size w w' := by
  have hl := jsvB_len hv
  have hol := ordB_len ho
  have hat := fun k (hk : k < os.length) => ordB_at ho hk
  have htb := fun k hk => tSum_bd hv ho k hk
  have hss := fun x (hx : x < js.length) => jvB_s (jsvB_at hv hx)
  have Hat := hide hat
  have Htb := hide htb
  have Hss := hide hss
  have Hol := hide hol
  have hol1 : os.length ≤ js.length := by omega
  have hol2 : js.length ≤ os.length := by omega
  obtain ⟨ao, cap, rfl, hlc, hcap, hhi, hc⟩ := id h
  obtain ⟨ao', cap', rfl, hlc', hcap', hhi', hc'⟩ := id h'
  have Hc := hide hc
  have Hc' := hide hc'
  have HH := hide h
  have HH' := hide h'
  have HV := hide hv
  have HO := hide ho
  clear hc hc' h h' hv ho hat htb hss hol
  have hmk := fun W => make_rowN (P := Tryd.prog) 36 3 _ _ _ Tryd.underlying36 info_int .i64 .i64 js.length (by omega) (by omega) W
  go_enter Tryd.func38, Tryd.ntmps38
  go_wp2_with fail
  refine (jsv_spec _ js lo hi _ HH.out).mono ?_
  rw [HV.out]
  rintro e w1 ⟨rfl, hb1⟩
  have h1' := hide (HH'.out.below hb1)
  go_wp2_with fail
  refine (l2Order_any _ os _ _ _ _ h1'.out (by omega) (by omega)).mono ?_
  rw [HO.out]
  rintro e w2 ⟨rfl, hb2⟩
  have hb12 : Below w.heap.size w w2 := Below.step hb1 hb2 (Nat.le_refl _)
  have hz := hb12.size
  go_wp2_with fail
  clear hmk
  go_loopw [6, 7] (fun t i wr => ∃ k : Nat, k ≤ os.length ∧ i = .int .i64 k ∧ t = .int .i64 (tSum js os k) ∧ Below w.heap.size w wr ∧ wr.rowIs w2.heap.size 3 js.length (fun j => .int .i64 ((endsTo js os k).getD j 0))) (fun _ i _ => os.length - (intOf i).toNat)
  case atStart =>
    refine ⟨0, Nat.zero_le _, rfl, rfl, hb12.alloc hz _, ?_⟩
    have := World.rowIs_made w2 (.int .i64 0) js.length 3
    exact this.congr fun i hi => by simp [endsTo, hi]
  case round =>
    obtain ⟨k, hk, rfl, rfl, hb, hrow⟩ := hrel
    have Hr := hide hrow
    clear hrow
    by_cases hlt : k < os.length
    · obtain ⟨b', o', rfl, hx1', hx2', hcs'⟩ := Hc'.out (by omega)
      obtain ⟨h1, -⟩ := hcs' k hlt
      obtain ⟨x, hx, hxm⟩ := Hat.out k hlt
      obtain ⟨b, o, rfl, hx1, hx2, hcs⟩ := Hc.out (by omega)
      obtain ⟨⟨q1, q2, q3⟩, -⟩ := hcs x hxm
      rw [← hb.cell (p := ⟨b, _, none⟩) (by simpa using by omega)] at q1 q2 q3
      rw [← hb.cell (p := ⟨b', _, none⟩) (by simpa using by omega), hx] at h1
      have hg := Hr.out.cell (i := x) hxm
      have hgf := Hr.out.frozen x
      obtain ⟨t0, t1⟩ := Htb.out k hk
      obtain ⟨s0, s1⟩ := Hss.out x hxm
      have HS := hide (tSum_succ (js := js) hlt hx hxm)
      have HE := hide (endsTo_getD (js := js) hlt hx)
      clear hcs hcs' hx
      go_wp2_with fail
      go_roundw
      case rel =>
        refine ⟨k + 1, by omega, by go_num, by rw [HS.out], hb.setCell hz _, (Hr.out.set x _).congr fun i hi => ?_⟩
        rw [HE.out i hi]
        by_cases e : i = x
        · simp only [if_pos e, HS.out]
        · simp only [if_neg e]
      case measure => simp [intOf]; omega
    · obtain rfl : k = os.length := by omega
      go_wp2_with fail
      go_ret
      refine ⟨_, rfl, ?_, hb⟩
      have hle := endsTo_length js os os.length
      have hat := IntsAt.of_row (xs := endsTo js os os.length) Hr.out (by omega) (by omega) (fun i hi => by simp [hi]) hz
      rw [hle] at hat
      exact hat
set_option maxHeartbeats 400000 in
theorem jobEnds_impl_ok (v : Value) (js : List J) (lo hi : Nat) (v' : Value) (os : List Int) (lo' hi' : Nat) (w : World) (h : JobsAt lo hi w v js) (h' : IntsAt lo' hi' w v' os) (hv : jsvB js = true) (ho : ordB os js.length = true) :
    Calls Tryd.prog 36 #[v, v'] w fun e w' => ∃ r, e = .returned r ∧ IntsAt w.heap.size w'.heap.size w' r (endsTo js os os.length) ∧ Below w.heap.size w w' := by
  have hl := jsvB_len hv
  have hol := ordB_len ho
  have hat := fun k (hk : k < os.length) => ordB_at ho hk
  have htb := fun k hk => tSum_bd hv ho k hk
  have hss := fun x (hx : x < js.length) => jvB_s (jsvB_at hv hx)
  have Hat := hide hat
  have Htb := hide htb
  have Hss := hide hss
  have Hol := hide hol
  have hol1 : os.length ≤ js.length := by omega
  have hol2 : js.length ≤ os.length := by omega
  obtain ⟨ao, cap, rfl, hlc, hcap, hhi, hc⟩ := id h
  obtain ⟨ao', cap', rfl, hlc', hcap', hhi', hc'⟩ := id h'
  have Hc := hide hc
  have Hc' := hide hc'
  have HH := hide h
  have HH' := hide h'
  have HV := hide hv
  have HO := hide ho
  clear hc hc' h h' hv ho hat htb hss hol
  have hmk := fun W => make_rowN (P := Tryd.prog) 36 3 _ _ _ Tryd.underlying36 info_int .i64 .i64 js.length (by omega) (by omega) W
  go_enter Tryd.func36, Tryd.ntmps36
  go_wp2_with fail
  refine (jsv_impl _ js lo hi _ HH.out).mono ?_
  rw [HV.out]
  rintro e w1 ⟨rfl, hb1⟩
  have h1' := hide (HH'.out.below hb1)
  go_wp2_with fail
  refine (isOrder_any _ os _ _ _ _ h1'.out (by omega)).mono ?_
  rw [HO.out]
  rintro e w2 ⟨rfl, hb2⟩
  have hb12 : Below w.heap.size w w2 := Below.step hb1 hb2 (Nat.le_refl _)
  have hz := hb12.size
  go_wp2_with fail
  clear hmk
  go_loopw [6, 24] (fun t i wr => ∃ k : Nat, k ≤ os.length ∧ i = .int .i64 k ∧ t = .int .i64 (tSum js os k) ∧ Below w.heap.size w wr ∧ wr.rowIs w2.heap.size 3 js.length (fun j => .int .i64 ((endsTo js os k).getD j 0))) (fun _ i _ => os.length - (intOf i).toNat)
  case atStart =>
    refine ⟨0, Nat.zero_le _, rfl, rfl, hb12.alloc hz _, ?_⟩
    have := World.rowIs_made w2 (.int .i64 0) js.length 3
    exact this.congr fun i hi => by simp [endsTo, hi]
  case round =>
    obtain ⟨k, hk, rfl, rfl, hb, hrow⟩ := hrel
    have Hr := hide hrow
    clear hrow
    by_cases hlt : k < os.length
    · obtain ⟨b', o', rfl, hx1', hx2', hcs'⟩ := Hc'.out (by omega)
      obtain ⟨h1, -⟩ := hcs' k hlt
      obtain ⟨x, hx, hxm⟩ := Hat.out k hlt
      obtain ⟨b, o, rfl, hx1, hx2, hcs⟩ := Hc.out (by omega)
      obtain ⟨⟨q1, q2, q3⟩, -⟩ := hcs x hxm
      rw [← hb.cell (p := ⟨b, _, none⟩) (by simpa using by omega)] at q1 q2 q3
      rw [← hb.cell (p := ⟨b', _, none⟩) (by simpa using by omega), hx] at h1
      have hg := Hr.out.cell (i := x) hxm
      have hgf := Hr.out.frozen x
      obtain ⟨t0, t1⟩ := Htb.out k hk
      obtain ⟨s0, s1⟩ := Hss.out x hxm
      have HS := hide (tSum_succ (js := js) hlt hx hxm)
      have HE := hide (endsTo_getD (js := js) hlt hx)
      clear hcs hcs' hx
      go_wp2_with fail
      go_roundw
      case rel =>
        refine ⟨k + 1, by omega, by go_num, by rw [HS.out], hb.setCell hz _, (Hr.out.set x _).congr fun i hi => ?_⟩
        rw [HE.out i hi]
        by_cases e : i = x
        · simp only [if_pos e, HS.out]
        · simp only [if_neg e]
      case measure => simp [intOf]; omega
    · obtain rfl : k = os.length := by omega
      go_wp2_with fail
      go_ret
      refine ⟨_, rfl, ?_, hb⟩
      have hle := endsTo_length js os os.length
      have hat := IntsAt.of_row (xs := endsTo js os os.length) Hr.out (by omega) (by omega) (fun i hi => by simp [hi]) hz
      rw [hle] at hat
      exact hat

/-- The empty slice. -/
theorem IntsAt.nil (lo : Nat) (w : World) (ao : Option Addr) : IntsAt lo w.heap.size w (.slice ao 0 0) [] :=
  ⟨ao, 0, rfl, Nat.le_refl _, by omega, Nat.le_refl _, fun h => absurd h (Nat.not_lt_zero _)⟩

theorem endsR_bad {js : List J} {os : List Int} (h : okB js os = false) : jobEndsR js os = [] := by simp [jobEndsR, h]

theorem jobEnds_spec (v : Value) (js : List J) (lo hi : Nat) (v' : Value) (os : List Int) (lo' hi' : Nat) (w : World) (h : JobsAt lo hi w v js) (h' : IntsAt lo' hi' w v' os) :
    Calls Tryd.prog 38 #[v, v'] w fun e w' => ∃ r, e = .returned r ∧ IntsAt w.heap.size w'.heap.size w' r (jobEndsR js os) ∧ Below w.heap.size w w' := by
  cases hv : jsvB js with
  | false =>
    rw [endsR_bad (by simp [okB, hv])]
    obtain ⟨ao, cap, rfl, hlc, hcap, hhi, hc⟩ := id h
    have Hc := hide hc
    clear hc
    go_enter Tryd.func38, Tryd.ntmps38
    go_wp2_with fail
    refine (jsv_spec _ js lo hi _ h).mono ?_
    rw [hv]
    rintro e w1 ⟨rfl, hb1⟩
    go_wp2_with fail
    go_ret
    exact ⟨_, rfl, IntsAt.nil _ _ _, hb1.alloc hb1.size _⟩
  | true =>
    cases ho : ordB os js.length with
    | false =>
      rw [endsR_bad (by simp [okB, ho])]
      have hl := jsvB_len hv
      obtain ⟨ao, cap, rfl, hlc, hcap, hhi, hc⟩ := id h
      have Hc := hide hc
      clear hc
      go_enter Tryd.func38, Tryd.ntmps38
      go_wp2_with fail
      refine (jsv_spec _ js lo hi _ h).mono ?_
      rw [hv]
      rintro e w1 ⟨rfl, hb1⟩
      have h1' := hide (h'.below hb1)
      go_wp2_with fail
      refine (l2Order_any _ os _ _ _ _ h1'.out (by omega) (by omega)).mono ?_
      rw [ho]
      rintro e w2 ⟨rfl, hb2⟩
      have hb12 : Below w.heap.size w w2 := Below.step hb1 hb2 (Nat.le_refl _)
      go_wp2_with fail
      go_ret
      exact ⟨_, rfl, IntsAt.nil _ _ _, hb12.alloc hb12.size _⟩
    | true =>
      have e : jobEndsR js os = endsTo js os os.length := by simp [jobEndsR, okB, hv, ho]
      rw [e]
      exact jobEnds_spec_ok v js lo hi v' os lo' hi' w h h' hv ho

theorem jobEnds_impl (v : Value) (js : List J) (lo hi : Nat) (v' : Value) (os : List Int) (lo' hi' : Nat) (w : World) (h : JobsAt lo hi w v js) (h' : IntsAt lo' hi' w v' os) :
    Calls Tryd.prog 36 #[v, v'] w fun e w' => ∃ r, e = .returned r ∧ IntsAt w.heap.size w'.heap.size w' r (jobEndsR js os) ∧ Below w.heap.size w w' := by
  cases hv : jsvB js with
  | false =>
    rw [endsR_bad (by simp [okB, hv])]
    obtain ⟨ao, cap, rfl, hlc, hcap, hhi, hc⟩ := id h
    have Hc := hide hc
    clear hc
    go_enter Tryd.func36, Tryd.ntmps36
    go_wp2_with fail
    refine (jsv_impl _ js lo hi _ h).mono ?_
    rw [hv]
    rintro e w1 ⟨rfl, hb1⟩
    go_wp2_with fail
    go_ret
    exact ⟨_, rfl, IntsAt.nil _ _ _, hb1⟩
  | true =>
    cases ho : ordB os js.length with
    | false =>
      rw [endsR_bad (by simp [okB, ho])]
      have hl := jsvB_len hv
      obtain ⟨ao, cap, rfl, hlc, hcap, hhi, hc⟩ := id h
      have Hc := hide hc
      clear hc
      go_enter Tryd.func36, Tryd.ntmps36
      go_wp2_with fail
      refine (jsv_impl _ js lo hi _ h).mono ?_
      rw [hv]
      rintro e w1 ⟨rfl, hb1⟩
      have h1' := hide (h'.below hb1)
      go_wp2_with fail
      refine (isOrder_any _ os _ _ _ _ h1'.out (by omega)).mono ?_
      rw [ho]
      rintro e w2 ⟨rfl, hb2⟩
      have hb12 : Below w.heap.size w w2 := Below.step hb1 hb2 (Nat.le_refl _)
      go_wp2_with fail
      go_ret
      exact ⟨_, rfl, IntsAt.nil _ _ _, hb12⟩
    | true =>
      have e : jobEndsR js os = endsTo js os os.length := by simp [jobEndsR, okB, hv, ho]
      rw [e]
      exact jobEnds_impl_ok v js lo hi v' os lo' hi' w h h' hv ho
theorem jobEndsR_len (js : List J) (os : List Int) : (jobEndsR js os).length ≤ js.length := by
  unfold jobEndsR
  split
  · rw [endsTo_length]; omega
  · simp
end Go.Proofs.YtfjemnjdkniibaaDoor
