/-
  The walks over the specification's DueOrder and WeightOrder.
-/
import Derived.Test.YtfjemnjdkniibaaDoorWalkN
namespace Go.Proofs.YtfjemnjdkniibaaDoor
open Go.RowKit

theorem pickTo_cases (K : J → J → Int) (js : List J) (out : List Int) : ∀ k, pickTo K js out k = -1 ∨ ∃ x : Nat, pickTo K js out k = x ∧ x < k
  | 0 => .inl rfl
  | k + 1 => by
    simp only [pickTo]
    split
    · exact .inr ⟨k, rfl, by omega⟩
    · rcases pickTo_cases K js out k with h | ⟨x, h1, h2⟩
      · exact .inl h
      · exact .inr ⟨x, h1, by omega⟩
theorem pickTo_has {K : J → J → Int} {js : List J} {out : List Int} {k : Nat} (h : hasI out k = true) : pickTo K js out (k + 1) = pickTo K js out k := by simp [pickTo, h]
theorem pickTo_first {K : J → J → Int} {js : List J} {out : List Int} {k : Nat} (h : hasI out k = false) (h1 : pickTo K js out k = -1) : pickTo K js out (k + 1) = k := by simp [pickTo, h, h1]
theorem pickTo_less {K : J → J → Int} {js : List J} {out : List Int} {k x : Nat} (h : hasI out k = false) (h1 : pickTo K js out k = x) (h2 : K (jAt js k) (jAt js x) < 0) : pickTo K js out (k + 1) = k := by simp [pickTo, h, h1, h2]
theorem pickTo_more {K : J → J → Int} {js : List J} {out : List Int} {k x : Nat} (h1 : pickTo K js out k = x) (h2 : ¬ K (jAt js k) (jAt js x) < 0) : pickTo K js out (k + 1) = x := by simp only [pickTo, h1, h2]; simp; omega
theorem pick_end {K : J → J → Int} (C : Cmp K fun j => jvB j = true) {js : List J} (hv : jsvB js = true) {m : Nat} (hm : m < js.length) : ∃ x : Nat, pickTo K js (soTo K js m) js.length = x ∧ x < js.length := by
  have hok : ∀ j ∈ js, jvB j = true := fun j hj => by
    obtain ⟨i, hi, rfl⟩ := List.getElem_of_mem hj
    exact jsvB_at hv hi
  rcases pick_least C hok (out := soTo K js m) js.length (Nat.le_refl _) with ⟨_, p2⟩ | ⟨x, p1, p2, _⟩
  · have := all_in (out := soTo K js m) js.length fun i hi => hasI_iff.1 (p2 i hi)
    rw [soTo_len] at this
    omega
  · exact ⟨x, p1, p2⟩

set_option maxHeartbeats 1600000 in
theorem dueOrder_spec_ok (v : Value) (js : List J) (lo hi : Nat) (w : World) (h : JobsAt lo hi w v js) (hv : jsvB js = true) :
    Calls Tryd.prog 53 #[v] w fun e w' => ∃ r, e = .returned r ∧ IntsAt w.heap.size w'.heap.size w' r (soTo kDue js js.length) ∧ Below w.heap.size w w' := by
  have hl := jsvB_len hv
  obtain ⟨ao, cap, rfl, hlc, hcap, hhi, hc⟩ := id h
  have Hc := hide hc
  have HH := hide h
  have HV := hide hv
  clear hc h hv
  go_enter Tryd.func53, Tryd.ntmps53
  go_wp2_with fail
  go_loopw [3, 4] (fun o i wr => ∃ m : Nat, m ≤ js.length ∧ i = .int .i64 m ∧ Below w.heap.size w wr ∧ OwnI w.heap.size wr o (soTo kDue js m)) (fun _ i _ => js.length - (intOf i).toNat)
  case atStart => exact ⟨0, Nat.zero_le _, rfl, by go_grown, by simpa [soTo] using OwnI.new w.heap.size w [] (Nat.le_refl _) (by simp)⟩
  case round =>
    obtain ⟨m, hm, rfl, hb, hown⟩ := hrel
    have Ho := hide hown
    obtain ⟨⟨g, capo, rfl⟩, -⟩ := hown
    rw [soTo_len] at Ho ⊢
    by_cases hlt : m < js.length
    · have HHr := hide (JobsAt.keep HH.out (Keeps.of_below hb hhi) hb.size)
      go_wp2_with fail
      refine (jsv_spec _ js _ _ _ HHr.out).mono ?_
      rw [HV.out]
      rintro e w2 ⟨rfl, hb2⟩
      have hb02 : Below w.heap.size w w2 := Below.step hb hb2 (Nat.le_refl _)
      have Ho2 := hide (OwnI.below Ho.out hb2 (Nat.le_refl _))
      go_wp2_with fail
      go_loopw [5, 6] (fun b i wx => ∃ k : Nat, k ≤ js.length ∧ i = .int .i64 k ∧ b = .int .i64 (pickTo kDue js (soTo kDue js m) k) ∧ Below w2.heap.size w2 wx) (fun _ i _ => js.length - (intOf i).toNat)
      case atStart => exact ⟨0, Nat.zero_le _, rfl, rfl, Below.refl _ _⟩
      case round =>
        obtain ⟨k, hk, rfl, hb7, hbx⟩ := hrel
        obtain ⟨z, hz⟩ : ∃ z, pickTo kDue js (soTo kDue js m) k = z := ⟨_, rfl⟩
        rw [hz] at hb7
        subst hb7
        have Hz := hide hz
        clear hz
        have HoX := hide (OwnI.below Ho2.out hbx (Nat.le_refl _))
        by_cases hlk : k < js.length
        · obtain ⟨b, o, rfl, hx1, hx2, hcs⟩ := Hc.out (by omega)
          have hkI : (k : Int) < (js.length : Int) := by omega
          obtain ⟨⟨p1, p2, p3⟩, -⟩ := hcs k hlk
          have Hcs := hide hcs
          have hz2 := hb02.size
          have Hcell := hide (fun (b o : Nat) (hb : b < w.heap.size) => show wr.cell? ⟨b, o, none⟩ = w.cell? ⟨b, o, none⟩ from (hbx.cell (p := ⟨b, o, none⟩) (by simpa using by omega)).trans (hb02.cell (p := ⟨b, o, none⟩) hb))
          clear hcs p1 p3
          rw [← Hcell.out b _ (by omega)] at p2
          have hgk : jAt js k = js[k] := jAt_lt hlk
          have Hgk := hide hgk
          clear hgk
          cases hfr : hasI (soTo kDue js m) k with
          | true =>
            have HN := hide ((pickTo_has hfr).trans Hz.out)
            go_wp2_with fail
            go_quiet ((go_at_call 85; exact quiet_left (l1Has_any _ (soTo kDue js m) _ _ _ _ HoX.out.at)))
            go_wp2_with fail
            go_roundw
            case rel => exact ⟨k + 1, by omega, by go_num, by rw [HN.out], below_drewN hbx _⟩
            case measure => simp [intOf]; omega
          | false =>
            have hcase := pickTo_cases kDue js (soTo kDue js m) k
            rw [Hz.out] at hcase
            rcases hcase with rfl | ⟨x, rfl, hxk⟩
            · have HN := hide (pickTo_first hfr Hz.out)
              go_wp2_with fail
              go_quiet ((go_at_call 85; exact quiet_left (l1Has_any _ (soTo kDue js m) _ _ _ _ HoX.out.at)))
              go_wp2_with fail
              go_roundw
              case rel => exact ⟨k + 1, by omega, by go_num, by rw [HN.out], below_drewN hbx _⟩
              case measure => simp [intOf]; omega
            · have hxl : x < js.length := by omega
              obtain ⟨⟨s1, s2, s3⟩, -⟩ := Hcs.out x hxl
              clear s1 s3
              rw [← Hcell.out b _ (by omega)] at s2
              have hxI : (x : Int) < (js.length : Int) := by omega
              have hx0 : decide ((x : Int) < 0) = false := by simp
              have Hgx := hide (show jAt js x = js[x] from jAt_lt hxl)
              by_cases hq : js[k].d < js[x].d
              · have hqB : decide (js[k].d < js[x].d) = true := by simp [hq]
                have HN := hide (pickTo_less (K := kDue) hfr Hz.out (by rw [Hgk.out, Hgx.out]; unfold kDue; omega))
                clear hq
                go_wp2_with fail
                go_quiet ((go_at_call 85; exact quiet_left (l1Has_any _ (soTo kDue js m) _ _ _ _ HoX.out.at)))
                go_wp2_with fail
                go_roundw
                case rel => exact ⟨k + 1, by omega, by go_num, by rw [HN.out], below_drewN hbx _⟩
                case measure => simp [intOf]; omega
              · have hqB : decide (js[k].d < js[x].d) = false := by simp only [decide_eq_false_iff_not]; exact hq
                have HN := hide (pickTo_more (K := kDue) Hz.out (by rw [Hgk.out, Hgx.out]; unfold kDue; omega))
                clear hq
                go_wp2_with fail
                go_quiet ((go_at_call 85; exact quiet_left (l1Has_any _ (soTo kDue js m) _ _ _ _ HoX.out.at)))
                go_wp2_with fail
                go_roundw
                case rel => exact ⟨k + 1, by omega, by go_num, by rw [HN.out], below_drewN hbx _⟩
                case measure => simp [intOf]; omega
        · obtain rfl : k = js.length := by omega
          obtain ⟨x, hx, hxl⟩ := pick_end cmpDue HV.out hlt
          have hzx := Hz.out.symm.trans hx
          subst hzx
          have HBB := hide (show soTo kDue js (m + 1) = soTo kDue js m ++ [(x : Int)] by simp only [soTo]; rw [hx])
          have hb0x : Below w.heap.size w wr := Below.step hb02 hbx (Nat.le_refl _)
          have hnew := OwnI.new w.heap.size wr [(x : Int)] hb0x.size (by simp)
          have HoY := hide (OwnI.below HoX.out ((Below.refl wr.heap.size wr).alloc (Nat.le_refl _) (.cells #[.int .i64 (x : Int)] 3)) (Nat.le_refl _))
          have hsz := hb0x.size
          obtain ⟨i0, hi0, hz0, hz1, hz2⟩ := info_parts info_int
          have Hnew := hide hnew
          have hlm := soTo_len kDue js m
          have Hlm := hide hlm
          clear hx hnew hlm
          go_wp2_with (at_builtin; refine wpList_append_own _ rfl _ _ 36 rfl w.heap.size 3 i0 (.int .i64 0) 1 8 Tryd.underlying36 hi0 hz0 hz1 hz2 rfl (by decide) _ _ _ rfl HoY.out.2 ⟨wr.heap.size, 0, none⟩ 1 1 [.int .i64 (x : Int)] rfl ?c1 ?c2 ?c3 ?c4 ?c5 ?c6 ?_)
          case c1 => rfl
          case c2 => exact Hnew.out.2.cells rfl
          case c3 =>
            intro u hu
            obtain rfl := List.mem_singleton.1 hu
            rfl
          case c4 => rw [Hlm.out]; unfold maxLen; omega
          case c5 => rw [Hlm.out]; omega
          case c6 => simp; omega
          intro v' w' hown' hgrow hne
          have hB1 : Below w.heap.size w w' := (hb0x.alloc hsz _).grown hgrow (by simp; omega) (fun k hk => by
            have := (HoY.out.2.lt g rfl).1
            simp [Value.ownBlock] at hk; omega)
          have hown2 : OwnI w.heap.size w' v' (soTo kDue js m ++ [(x : Int)]) := OwnI.mk hown' (by simp) (by simp) hne
          rw [← HBB.out] at hown2
          have Hown2 := hide hown2
          clear hown' hgrow hown2 hne
          go_wp2_with fail
          go_roundw
          case rel => exact ⟨m + 1, by omega, by go_num, hB1, Hown2.out⟩
          case measure => simp [intOf]; omega
    · obtain rfl : m = js.length := by omega
      go_wp2_with fail
      go_ret
      exact ⟨_, rfl, Ho.out.at, hb⟩

theorem dueOrder_spec (v : Value) (js : List J) (lo hi : Nat) (w : World) (h : JobsAt lo hi w v js) :
    Calls Tryd.prog 53 #[v] w fun e w' => ∃ r, e = .returned r ∧ IntsAt w.heap.size w'.heap.size w' r (orderR kDue js) ∧ Below w.heap.size w w' := by
  cases hv : jsvB js with
  | true =>
    rw [show orderR kDue js = soTo kDue js js.length by simp [orderR, hv]]
    exact dueOrder_spec_ok v js lo hi w h hv
  | false =>
    rw [show orderR kDue js = [] by simp [orderR, hv]]
    obtain ⟨ao, cap, rfl, hlc, hcap, hhi, hc⟩ := id h
    have HH := hide h
    have HV := hide hv
    clear hc h hv
    go_enter Tryd.func53, Tryd.ntmps53
    go_wp2_with fail
    go_loopw [3, 4] (fun o i wr => i = .int .i64 0 ∧ Below w.heap.size w wr ∧ ∃ ao, o = .slice ao 0 0) (fun _ _ _ => 0)
    case atStart => exact ⟨rfl, by go_grown, _, rfl⟩
    case round =>
      obtain ⟨rfl, hb, aoo, rfl⟩ := hrel
      have HHr := hide (JobsAt.keep HH.out (Keeps.of_below hb HH.out.lt) hb.size)
      by_cases hn : 0 < js.length
      · go_wp2_with fail
        refine (jsv_spec _ js _ _ _ HHr.out).mono ?_
        rw [HV.out]
        rintro e w2 ⟨rfl, hb2⟩
        go_wp2_with fail
        go_ret
        have hb02 : Below w.heap.size w w2 := Below.step hb hb2 (Nat.le_refl _)
        exact ⟨_, rfl, IntsAt.nil _ _ _, hb02⟩
      · have hnB : decide ((0 : Int) < js.length) = false := by rw [decide_eq_false_iff_not]; omega
        go_wp2_with fail
        go_ret
        exact ⟨_, rfl, IntsAt.nil _ _ _, hb⟩

set_option maxHeartbeats 400000 in
theorem dueOrder_impl (v : Value) (js : List J) (lo hi : Nat) (w : World) (h : JobsAt lo hi w v js) :
    Calls Tryd.prog 52 #[v] w fun e w' => ∃ r, e = .returned r ∧ IntsAt w.heap.size w'.heap.size w' r (orderR kDue js) ∧ Below w.heap.size w w' := by
  have HJ := hide (jobOrder_any due_cmp cmpDue v js lo hi w h)
  clear h
  go_enter Tryd.func52, Tryd.ntmps52
  go_wp2_with fail
  refine HJ.out.mono ?_
  rintro e w1 ⟨r, rfl, hr, hb⟩
  have HR := hide hr
  clear hr
  go_wp2_with fail
  go_ret
  exact ⟨_, rfl, HR.out, hb⟩

set_option maxHeartbeats 1600000 in
theorem weightOrder_spec_ok (v : Value) (js : List J) (lo hi : Nat) (w : World) (h : JobsAt lo hi w v js) (hv : jsvB js = true) :
    Calls Tryd.prog 49 #[v] w fun e w' => ∃ r, e = .returned r ∧ IntsAt w.heap.size w'.heap.size w' r (soTo kWeight js js.length) ∧ Below w.heap.size w w' := by
  have hl := jsvB_len hv
  obtain ⟨ao, cap, rfl, hlc, hcap, hhi, hc⟩ := id h
  have Hc := hide hc
  have HH := hide h
  have HV := hide hv
  clear hc h hv
  go_enter Tryd.func49, Tryd.ntmps49
  go_wp2_with fail
  go_loopw [3, 4] (fun o i wr => ∃ m : Nat, m ≤ js.length ∧ i = .int .i64 m ∧ Below w.heap.size w wr ∧ OwnI w.heap.size wr o (soTo kWeight js m)) (fun _ i _ => js.length - (intOf i).toNat)
  case atStart => exact ⟨0, Nat.zero_le _, rfl, by go_grown, by simpa [soTo] using OwnI.new w.heap.size w [] (Nat.le_refl _) (by simp)⟩
  case round =>
    obtain ⟨m, hm, rfl, hb, hown⟩ := hrel
    have Ho := hide hown
    obtain ⟨⟨g, capo, rfl⟩, -⟩ := hown
    rw [soTo_len] at Ho ⊢
    by_cases hlt : m < js.length
    · have HHr := hide (JobsAt.keep HH.out (Keeps.of_below hb hhi) hb.size)
      go_wp2_with fail
      refine (jsv_spec _ js _ _ _ HHr.out).mono ?_
      rw [HV.out]
      rintro e w2 ⟨rfl, hb2⟩
      have hb02 : Below w.heap.size w w2 := Below.step hb hb2 (Nat.le_refl _)
      have Ho2 := hide (OwnI.below Ho.out hb2 (Nat.le_refl _))
      go_wp2_with fail
      go_loopw [5, 6] (fun b i wx => ∃ k : Nat, k ≤ js.length ∧ i = .int .i64 k ∧ b = .int .i64 (pickTo kWeight js (soTo kWeight js m) k) ∧ Below w2.heap.size w2 wx) (fun _ i _ => js.length - (intOf i).toNat)
      case atStart => exact ⟨0, Nat.zero_le _, rfl, rfl, Below.refl _ _⟩
      case round =>
        obtain ⟨k, hk, rfl, hb7, hbx⟩ := hrel
        obtain ⟨z, hz⟩ : ∃ z, pickTo kWeight js (soTo kWeight js m) k = z := ⟨_, rfl⟩
        rw [hz] at hb7
        subst hb7
        have Hz := hide hz
        clear hz
        have HoX := hide (OwnI.below Ho2.out hbx (Nat.le_refl _))
        by_cases hlk : k < js.length
        · obtain ⟨b, o, rfl, hx1, hx2, hcs⟩ := Hc.out (by omega)
          have hkI : (k : Int) < (js.length : Int) := by omega
          obtain ⟨⟨p1, p2, p3⟩, -⟩ := hcs k hlk
          have Hcs := hide hcs
          have hz2 := hb02.size
          have Hcell := hide (fun (b o : Nat) (hb : b < w.heap.size) => show wr.cell? ⟨b, o, none⟩ = w.cell? ⟨b, o, none⟩ from (hbx.cell (p := ⟨b, o, none⟩) (by simpa using by omega)).trans (hb02.cell (p := ⟨b, o, none⟩) hb))
          clear hcs p2
          rw [← Hcell.out b _ (by omega)] at p1 p3
          have hgk : jAt js k = js[k] := jAt_lt hlk
          have Hgk := hide hgk
          clear hgk
          cases hfr : hasI (soTo kWeight js m) k with
          | true =>
            have HN := hide ((pickTo_has hfr).trans Hz.out)
            go_wp2_with fail
            go_quiet ((go_at_call 85; exact quiet_left (l1Has_any _ (soTo kWeight js m) _ _ _ _ HoX.out.at)))
            go_wp2_with fail
            go_roundw
            case rel => exact ⟨k + 1, by omega, by go_num, by rw [HN.out], below_drewN hbx _⟩
            case measure => simp [intOf]; omega
          | false =>
            have hcase := pickTo_cases kWeight js (soTo kWeight js m) k
            rw [Hz.out] at hcase
            rcases hcase with rfl | ⟨x, rfl, hxk⟩
            · have HN := hide (pickTo_first hfr Hz.out)
              go_wp2_with fail
              go_quiet ((go_at_call 85; exact quiet_left (l1Has_any _ (soTo kWeight js m) _ _ _ _ HoX.out.at)))
              go_wp2_with fail
              go_roundw
              case rel => exact ⟨k + 1, by omega, by go_num, by rw [HN.out], below_drewN hbx _⟩
              case measure => simp [intOf]; omega
            · have hxl : x < js.length := by omega
              obtain ⟨⟨s1, s2, s3⟩, -⟩ := Hcs.out x hxl
              clear s2
              rw [← Hcell.out b _ (by omega)] at s1 s3
              have hxI : (x : Int) < (js.length : Int) := by omega
              have hx0 : decide ((x : Int) < 0) = false := by simp
              have Hgx := hide (show jAt js x = js[x] from jAt_lt hxl)
              obtain ⟨a1, a2⟩ := jvB_s (jsvB_at HV.out hlk)
              obtain ⟨b1, b2⟩ := jvB_s (jsvB_at HV.out hxl)
              obtain ⟨c1, c2⟩ := jvB_g (jsvB_at HV.out hlk)
              obtain ⟨d1, d2⟩ := jvB_g (jsvB_at HV.out hxl)
              have m1 := mul_bd' (show 0 ≤ js[k].s by omega) a2 (show 0 ≤ js[x].g by omega) d2
              have m2 := mul_bd' (show 0 ≤ js[x].s by omega) b2 (show 0 ≤ js[k].g by omega) c2
              have hw1 : IntKind.i64.wrap (js[k].s * js[x].g) = js[k].s * js[x].g := IntWalk.i64_in _ (by omega)
              have hw2 : IntKind.i64.wrap (js[x].s * js[k].g) = js[x].s * js[k].g := IntWalk.i64_in _ (by omega)
              clear m1 m2
              by_cases hq : js[k].s * js[x].g < js[x].s * js[k].g
              · have hqB : decide (js[k].s * js[x].g < js[x].s * js[k].g) = true := by simp [hq]
                have HN := hide (pickTo_less (K := kWeight) hfr Hz.out (by rw [Hgk.out, Hgx.out]; unfold kWeight; omega))
                clear hq
                go_wp2_with fail
                go_quiet ((go_at_call 85; exact quiet_left (l1Has_any _ (soTo kWeight js m) _ _ _ _ HoX.out.at)))
                go_wp2_with fail
                go_roundw
                case rel => exact ⟨k + 1, by omega, by go_num, by rw [HN.out], below_drewN hbx _⟩
                case measure => simp [intOf]; omega
              · have hqB : decide (js[k].s * js[x].g < js[x].s * js[k].g) = false := by simp only [decide_eq_false_iff_not]; exact hq
                have HN := hide (pickTo_more (K := kWeight) Hz.out (by rw [Hgk.out, Hgx.out]; unfold kWeight; omega))
                clear hq
                go_wp2_with fail
                go_quiet ((go_at_call 85; exact quiet_left (l1Has_any _ (soTo kWeight js m) _ _ _ _ HoX.out.at)))
                go_wp2_with fail
                go_roundw
                case rel => exact ⟨k + 1, by omega, by go_num, by rw [HN.out], below_drewN hbx _⟩
                case measure => simp [intOf]; omega
        · obtain rfl : k = js.length := by omega
          obtain ⟨x, hx, hxl⟩ := pick_end cmpWeight HV.out hlt
          have hzx := Hz.out.symm.trans hx
          subst hzx
          have HBB := hide (show soTo kWeight js (m + 1) = soTo kWeight js m ++ [(x : Int)] by simp only [soTo]; rw [hx])
          have hb0x : Below w.heap.size w wr := Below.step hb02 hbx (Nat.le_refl _)
          have hnew := OwnI.new w.heap.size wr [(x : Int)] hb0x.size (by simp)
          have HoY := hide (OwnI.below HoX.out ((Below.refl wr.heap.size wr).alloc (Nat.le_refl _) (.cells #[.int .i64 (x : Int)] 3)) (Nat.le_refl _))
          have hsz := hb0x.size
          obtain ⟨i0, hi0, hz0, hz1, hz2⟩ := info_parts info_int
          have Hnew := hide hnew
          have hlm := soTo_len kWeight js m
          have Hlm := hide hlm
          clear hx hnew hlm
          go_wp2_with (at_builtin; refine wpList_append_own _ rfl _ _ 36 rfl w.heap.size 3 i0 (.int .i64 0) 1 8 Tryd.underlying36 hi0 hz0 hz1 hz2 rfl (by decide) _ _ _ rfl HoY.out.2 ⟨wr.heap.size, 0, none⟩ 1 1 [.int .i64 (x : Int)] rfl ?c1 ?c2 ?c3 ?c4 ?c5 ?c6 ?_)
          case c1 => rfl
          case c2 => exact Hnew.out.2.cells rfl
          case c3 =>
            intro u hu
            obtain rfl := List.mem_singleton.1 hu
            rfl
          case c4 => rw [Hlm.out]; unfold maxLen; omega
          case c5 => rw [Hlm.out]; omega
          case c6 => simp; omega
          intro v' w' hown' hgrow hne
          have hB1 : Below w.heap.size w w' := (hb0x.alloc hsz _).grown hgrow (by simp; omega) (fun k hk => by
            have := (HoY.out.2.lt g rfl).1
            simp [Value.ownBlock] at hk; omega)
          have hown2 : OwnI w.heap.size w' v' (soTo kWeight js m ++ [(x : Int)]) := OwnI.mk hown' (by simp) (by simp) hne
          rw [← HBB.out] at hown2
          have Hown2 := hide hown2
          clear hown' hgrow hown2 hne
          go_wp2_with fail
          go_roundw
          case rel => exact ⟨m + 1, by omega, by go_num, hB1, Hown2.out⟩
          case measure => simp [intOf]; omega
    · obtain rfl : m = js.length := by omega
      go_wp2_with fail
      go_ret
      exact ⟨_, rfl, Ho.out.at, hb⟩

theorem weightOrder_spec (v : Value) (js : List J) (lo hi : Nat) (w : World) (h : JobsAt lo hi w v js) :
    Calls Tryd.prog 49 #[v] w fun e w' => ∃ r, e = .returned r ∧ IntsAt w.heap.size w'.heap.size w' r (orderR kWeight js) ∧ Below w.heap.size w w' := by
  cases hv : jsvB js with
  | true =>
    rw [show orderR kWeight js = soTo kWeight js js.length by simp [orderR, hv]]
    exact weightOrder_spec_ok v js lo hi w h hv
  | false =>
    rw [show orderR kWeight js = [] by simp [orderR, hv]]
    obtain ⟨ao, cap, rfl, hlc, hcap, hhi, hc⟩ := id h
    have HH := hide h
    have HV := hide hv
    clear hc h hv
    go_enter Tryd.func49, Tryd.ntmps49
    go_wp2_with fail
    go_loopw [3, 4] (fun o i wr => i = .int .i64 0 ∧ Below w.heap.size w wr ∧ ∃ ao, o = .slice ao 0 0) (fun _ _ _ => 0)
    case atStart => exact ⟨rfl, by go_grown, _, rfl⟩
    case round =>
      obtain ⟨rfl, hb, aoo, rfl⟩ := hrel
      have HHr := hide (JobsAt.keep HH.out (Keeps.of_below hb HH.out.lt) hb.size)
      by_cases hn : 0 < js.length
      · go_wp2_with fail
        refine (jsv_spec _ js _ _ _ HHr.out).mono ?_
        rw [HV.out]
        rintro e w2 ⟨rfl, hb2⟩
        go_wp2_with fail
        go_ret
        have hb02 : Below w.heap.size w w2 := Below.step hb hb2 (Nat.le_refl _)
        exact ⟨_, rfl, IntsAt.nil _ _ _, hb02⟩
      · have hnB : decide ((0 : Int) < js.length) = false := by rw [decide_eq_false_iff_not]; omega
        go_wp2_with fail
        go_ret
        exact ⟨_, rfl, IntsAt.nil _ _ _, hb⟩

set_option maxHeartbeats 400000 in
theorem weightOrder_impl (v : Value) (js : List J) (lo hi : Nat) (w : World) (h : JobsAt lo hi w v js) :
    Calls Tryd.prog 48 #[v] w fun e w' => ∃ r, e = .returned r ∧ IntsAt w.heap.size w'.heap.size w' r (orderR kWeight js) ∧ Below w.heap.size w w' := by
  have HJ := hide (jobOrder_any weight_cmp cmpWeight v js lo hi w h)
  clear h
  go_enter Tryd.func48, Tryd.ntmps48
  go_wp2_with fail
  refine HJ.out.mono ?_
  rintro e w1 ⟨r, rfl, hr, hb⟩
  have HR := hide hr
  clear hr
  go_wp2_with fail
  go_ret
  exact ⟨_, rfl, HR.out, hb⟩
end Go.Proofs.YtfjemnjdkniibaaDoor
