/-
  The walk over the law FnOnTime: it answers true, whatever the code, and leaves all old memory alone.
-/
import Derived.Test.YtfjemnjdkniibaaDoorPlainSets
import Derived.Test.YtfjemnjdkniibaaDoorFews2
import Derived.Test.YtfjemnjdkniibaaDoorWalkH
namespace Go.Proofs.YtfjemnjdkniibaaDoor
open Go.RowKit

theorem part_len (js : List J) (S : List Int) : (part js S).length = S.length := by simp [part]
set_option maxRecDepth 10000 in
set_option maxHeartbeats 800000 in
theorem someJobs_any (v : Value) (js : List J) (lo hi : Nat) (s : Nat) (w : World) (h : JobsAt lo hi w v js) (h6 : js.length ≤ 6) (hs : s < 64) :
    Calls Tryd.prog 64 #[v, .int .i64 s] w fun e w' => ∃ r, e = .returned r ∧ JobsAt w.heap.size w'.heap.size w' r (part js (sel s js.length)) ∧ Below w.heap.size w w' := by
  obtain ⟨i0, hi0, hz0, hi1, hi2⟩ := info_parts info_job
  obtain ⟨ao, cap, rfl, hlc, hcap, ha⟩ := h.where'
  have HH := hide h
  have HA := hide ha
  clear h ha
  go_enter Tryd.func64, Tryd.ntmps64
  go_wp2_with fail
  go_loopw [5, 6] (fun o i wr => ∃ k : Nat, k ≤ js.length ∧ i = .int .i64 k ∧ (∃ g cap, o = .slice (some ⟨g, 0, none⟩) (sel s k).length cap) ∧ Below w.heap.size w wr ∧ wr.ownsRow w.heap.size 24 3 o (sel s k).length (flatJ (part js (sel s k)))) (fun _ i _ => js.length - (intOf i).toNat)
  case atStart => exact ⟨0, Nat.zero_le _, rfl, ⟨_, _, rfl⟩, (Below.refl _ _).alloc (Nat.le_refl _) _, World.ownsRow_made w #[] 0 (Nat.le_refl _) (Nat.zero_le _) rfl⟩
  case round =>
    obtain ⟨k, hk, rfl, ⟨g, capo, rfl⟩, hb, hown⟩ := hrel
    have HB := hide hb
    have Ho := hide hown
    have HJr := hide (HH.out.below hb)
    have hzr : w.heap.size ≤ wr.heap.size := hb.size
    have hsl := sel_len s k
    clear hb hown
    by_cases hlt : k < js.length
    · obtain ⟨b1, o1, rfl⟩ := HA.out (by omega)
      obtain ⟨d1, d2, d3⟩ := HJr.out.read hlt
      have hS := sel_succ s k
      have hkI : (k : Int) < (js.length : Int) := by omega
      have hk6 : (k : Int) ≤ 6 := by omega
      have hzb : b1 < wr.heap.size := HJr.out.block_lt (by omega)
      have hJ : jAt js k = js[k] := jAt_lt hlt
      cases hbit : s.testBit k with
      | true =>
        rw [bit_is, decide_eq_true_eq] at hbit
        rw [if_pos (by rw [bit_is, decide_eq_true_eq]; exact hbit)] at hS
        have hbt : ((s : Int) / 2 ^ k).tmod 2 = 1 := by rw [Int.tmod_eq_emod_of_nonneg (Int.ediv_nonneg (by omega) (by have := (pow_bd (show k ≤ 6 by omega)).1; omega))]; exact hbit
        have HP := hide (show part js (sel s (k + 1)) = part js (sel s k) ++ [⟨js[k].s, js[k].d, js[k].g⟩] by rw [hS]; simp [part, hJ])
        have HSL := hide (show (sel s (k + 1)).length = (sel s k).length + 1 by rw [hS]; simp)
        generalize js[k].s = s1 at d1 HP
        generalize js[k].d = t1 at d2 HP
        generalize js[k].g = g1 at d3 HP
        obtain ⟨m, hm⟩ : ∃ m, (sel s k).length = m := ⟨_, rfl⟩
        rw [hm] at Ho hsl HSL ⊢
        clear hS hJ hm hbit
        go_wp2_with (at_builtin; refine wpList_append_own _ rfl _ _ _ rfl w.heap.size 24 i0 _ 3 24 Tryd.underlying29 hi0 hz0 hi1 hi2 rfl (by decide) _ m (flatJ (part js (sel s k))) rfl (Ho.out.alloc _) _ 1 1 (flatJ [⟨s1, t1, g1⟩]) rfl rfl ?c1 ?c2 ?c3 ?c4 ?c5 ?_)
        case c1 => exact lit_cells wr (flatJ [⟨s1, t1, g1⟩]) _
        case c2 => exact flatJ_one _
        case c3 => unfold maxLen; omega
        case c4 => omega
        case c5 => simp; omega
        intro v4 w4 hown4 hgrow4 _
        obtain ⟨hB4, g4, c4, e4, hO4⟩ := grown_job Ho.out hzr hown4 hgrow4
        subst e4
        rw [← flatJ_append, ← HP.out] at hO4
        have HB4 := hide (HB.out.trans hB4)
        have HO4 := hide hO4
        clear hown4 hgrow4 hB4 hO4
        go_wp2_with fail
        go_roundw
        case rel => exact ⟨k + 1, by omega, by go_num, ⟨g4, c4, by rw [HSL.out]⟩, HB4.out, by rw [HSL.out]; exact HO4.out⟩
        case measure => simp [intOf]; omega
      | false =>
        have hbit2 : (!s.testBit k) = true := by rw [hbit]; rfl
        rw [bit_not, decide_eq_true_eq] at hbit2
        have hbt : ((s : Int) / 2 ^ k).tmod 2 = 0 := by rw [Int.tmod_eq_emod_of_nonneg (Int.ediv_nonneg (by omega) (by have := (pow_bd (show k ≤ 6 by omega)).1; omega))]; exact hbit2
        rw [hbit] at hS
        simp only [Bool.false_eq_true, if_false] at hS
        have HS := hide hS
        clear hS hbit hJ hbit2
        go_wp2_with fail
        go_roundw
        case rel => exact ⟨k + 1, by omega, by go_num, ⟨g, capo, by rw [HS.out]⟩, HB.out, by rw [HS.out]; exact Ho.out⟩
        case measure => simp [intOf]; omega
    · obtain rfl : k = js.length := by omega
      go_wp2_with fail
      go_ret
      exact ⟨_, rfl, ownJ_at Ho.out (part_len _ _).symm, HB.out⟩

theorem same_succ {ks : List Int} {s m k : Nat} (hk : k < ks.length) : sameTo ks s m (k + 1) = (sameTo ks s m k && s.testBit ks[k].toNat) := by
  unfold sameTo
  rw [List.take_succ_eq_append_getElem hk, List.all_append]
  simp [Bool.and_assoc]
theorem good_is {js : List J} {s : Nat} {ps : List J} {xs : List Int} {z : Int} (h1 : part js (sel s js.length) = ps) (h2 : orderR kDue ps = xs) (h3 : lateR ps xs = z) : goodB js s = decide (z = 0) := by
  subst h1 h2 h3; rfl

set_option maxRecDepth 10000 in
set_option maxHeartbeats 800000 in
theorem law_OnTime (v : Value) (n : Nat) (w : World) (h : BytesAt 0 w.heap.size w v n) :
    Calls Tryd.prog 16 #[v] w fun e w' => e = .returned (.bool true) ∧ Below w.heap.size w w' := by
  obtain ⟨ao, cap, rfl, hnc, hcap, -, -⟩ := id h
  have HB := hide h
  clear h
  by_cases hlong : 1048576 < n
  · go_enter Tryd.func16, Tryd.ntmps16
    go_wp2_with fail
    go_ret
    exact ⟨rfl, Below.refl _ _⟩
  · go_enter Tryd.func16, Tryd.ntmps16
    go_wp2_with fail
    refine (drawOnTime _ n _ HB.out).mono ?_
    rintro e w1 ⟨v1, js, rfl, hl, ⟨b, cap1, rfl⟩, hj, hb1⟩
    obtain ⟨hlc1, hcap1⟩ := jobs_cap hj
    have HJ1 := hide hj
    have HB1 := hide hb1
    clear hj hb1
    cases hv : jsvB js with
    | false =>
      have HX := hide (onTime_bad hv)
      have HV := hide hv
      clear hv
      go_wp2_with fail
      refine (onTime_impl _ js _ _ _ HJ1.out).mono ?_
      rw [HX.out]
      rintro e w2 ⟨r, rfl, hr, hb⟩
      obtain ⟨aok, capk, rfl, hlk, hck, ha⟩ := hr.where
      have HAK := hide ha
      have HK2 := hide hr
      have HJ2 := hide (HJ1.out.below hb)
      have HB2 := hide (Below.step HB1.out hb (Nat.le_refl _))
      clear hb hr ha
      go_wp2_with fail
      refine (onTime_spec _ js _ _ _ HJ2.out).mono ?_
      rw [HX.out]
      rintro e w3 ⟨r, rfl, hr, hb⟩
      obtain ⟨aos, caps, rfl, hls, hcs, ha⟩ := hr.where
      have HAS := hide ha
      have HS3 := hide hr
      have HJ3 := hide (HJ2.out.below hb)
      have HK3 := hide (HK2.out.below hb)
      have HB3 := hide (Below.step HB2.out hb (Nat.le_refl _))
      clear hb hr ha
      go_wp2_with fail
      refine (sameInts_same _ _ [] _ _ _ _ _ HK3.out HS3.out).mono ?_
      rintro e w4 ⟨rfl, hb⟩
      have HJ4 := hide (HJ3.out.below hb)
      have HK4 := hide (HK3.out.below hb)
      have HS4 := hide (HS3.out.below hb)
      have HB4 := hide (Below.step HB3.out hb (Nat.le_refl _))
      clear hb
      go_wp2_with fail
      refine (jsv_spec _ js _ _ _ HJ4.out).mono ?_
      rw [HV.out]
      rintro e w5 ⟨rfl, hb⟩
      have HJ5 := hide (HJ4.out.below hb)
      have HK5 := hide (HK4.out.below hb)
      have HS5 := hide (HS4.out.below hb)
      have HB5 := hide (Below.step HB4.out hb (Nat.le_refl _))
      clear hb
      go_wp2_with fail
      refine (alive_any _).mono ?_
      rintro e w6 ⟨rfl, hb⟩
      have HJ6 := hide (HJ5.out.below hb)
      have HK6 := hide (HK5.out.below hb)
      have HS6 := hide (HS5.out.below hb)
      have HB6 := hide (Below.step HB5.out hb (Nat.le_refl _))
      clear hb
      go_wp2_with fail
      go_ret
      exact ⟨rfl, HB6.out⟩
    | true =>
      have hkl := onTime_le hv
      obtain ⟨hlb, hlk⟩ := onTime_law hv
      have hkn := (onTime_facts hv).1
      have hks0 := asc_sorted (keptR js) js.length
      obtain ⟨ks, hks⟩ : ∃ ks, onTimeR js = ks := ⟨_, rfl⟩
      rw [show ascTo (keptR js) js.length = onTimeR js from rfl, hks] at hks0
      rw [hks] at hkl hlb hlk hkn
      have h6 := jsvB_len hv
      have hk6 : ks.length ≤ 6 := by omega
      obtain ⟨q1, q2⟩ := pow_bd h6
      have HX := hide hks
      have HLB := hide hlb
      have HLK := hide hlk
      have HKN := hide hkn
      have HASC := hide hks0
      have HV := hide hv
      clear hks hlb hlk hkn hks0 hv hkl
      go_wp2_with fail
      refine (onTime_impl _ js _ _ _ HJ1.out).mono ?_
      rw [HX.out]
      rintro e w2 ⟨r, rfl, hr, hb⟩
      obtain ⟨aok, capk, rfl, hlk, hck, ha⟩ := hr.where
      have HAK := hide ha
      have HK2 := hide hr
      have HJ2 := hide (HJ1.out.below hb)
      have HB2 := hide (Below.step HB1.out hb (Nat.le_refl _))
      clear hb hr ha
      go_wp2_with fail
      refine (onTime_spec _ js _ _ _ HJ2.out).mono ?_
      rw [HX.out]
      rintro e w3 ⟨r, rfl, hr, hb⟩
      obtain ⟨aos, caps, rfl, hls, hcs, ha⟩ := hr.where
      have HAS := hide ha
      have HS3 := hide hr
      have HJ3 := hide (HJ2.out.below hb)
      have HK3 := hide (HK2.out.below hb)
      have HB3 := hide (Below.step HB2.out hb (Nat.le_refl _))
      clear hb hr ha
      go_wp2_with fail
      refine (sameInts_same _ _ ks _ _ _ _ _ HK3.out HS3.out).mono ?_
      rintro e w4 ⟨rfl, hb⟩
      have HJ4 := hide (HJ3.out.below hb)
      have HK4 := hide (HK3.out.below hb)
      have HS4 := hide (HS3.out.below hb)
      have HB4 := hide (Below.step HB3.out hb (Nat.le_refl _))
      clear hb
      go_wp2_with fail
      refine (jsv_spec _ js _ _ _ HJ4.out).mono ?_
      rw [HV.out]
      rintro e w5 ⟨rfl, hb⟩
      have HJ5 := hide (HJ4.out.below hb)
      have HK5 := hide (HK4.out.below hb)
      have HS5 := hide (HS4.out.below hb)
      have HB5 := hide (Below.step HB4.out hb (Nat.le_refl _))
      clear hb
      have hw5 : w.heap.size ≤ w5.heap.size := HB5.out.size
      go_wp2_with fail
      go_loopw [5, 6, 7, 8, 9, 10, 11] (fun bst kpt i _ _ _ _ wr => ∃ s : Nat, (s : Int) ≤ 2 ^ js.length ∧ i = .int .i64 s ∧ bst = .int .i64 (gBest js s) ∧ kpt = .int .i64 (gKept js ks s) ∧ Below w.heap.size w wr ∧ Below w5.heap.size w5 wr) (fun _ _ i _ _ _ _ _ => 64 - (intOf i).toNat)
      case atStart => exact ⟨0, by omega, rfl, rfl, rfl, HB5.out, Below.refl _ _⟩
      case round =>
        obtain ⟨s, hs, rfl, rfl, rfl, hb, hb'⟩ := hrel
        have HB6 := hide hb
        have HB6' := hide hb'
        have HJ6 := hide (HJ5.out.below hb')
        have HK6 := hide (HK5.out.below hb')
        clear hb hb'
        by_cases hlt : (s : Int) < 2 ^ js.length
        · have hs64 : s < 64 := by omega
          have hgb := gBest_bd js s
          have hgk := gKept_bd js ks s
          obtain ⟨gb1, gb2⟩ := hgb
          obtain ⟨gk1, gk2⟩ := hgk
          have hsl := sel_len s js.length
          obtain ⟨ps, hps⟩ : ∃ ps, part js (sel s js.length) = ps := ⟨_, rfl⟩
          have hpl : ps.length = (sel s js.length).length := by rw [← hps]; exact part_len _ _
          obtain ⟨m, hm⟩ : ∃ m, (sel s js.length).length = m := ⟨_, rfl⟩
          have HBS := hide (show gBest js (s + 1) = if goodB js s then max (gBest js s) (m : Int) else gBest js s by simp only [gBest, hm])
          have HKS := hide (show gKept js ks (s + 1) = gKept js ks s + if sameTo ks s m ks.length && goodB js s then 1 else 0 by simp only [gKept, sameB, hm])
          rw [hm] at hpl hsl
          have HPS := hide hps
          have HPL := hide hpl
          generalize gBest js s = gb at gb1 gb2 HBS
          generalize gKept js ks s = gk at gk1 gk2 HKS
          clear hps hm hpl
          have hm6 : m ≤ 6 := by omega
          go_wp2_with fail
          refine (someJobs_any _ js _ _ s _ HJ6.out h6 hs64).mono ?_
          rw [HPS.out]
          rintro e w7 ⟨r, rfl, hr, hb⟩
          obtain ⟨aop, capp, rfl, hlp, hcp, -⟩ := hr.where'
          rw [HPL.out] at hr hlp ⊢
          have HP7 := hide hr
          have HJ7 := hide (HJ6.out.below hb)
          have HK7 := hide (HK6.out.below hb)
          have HB7 := hide (Below.step HB6.out hb (Nat.le_refl _))
          have HB7' := hide (HB6'.out.trans (hb.mono HB6'.out.size))
          clear hr hb
          obtain ⟨os, hos⟩ : ∃ os, orderR kDue ps = os := ⟨_, rfl⟩
          obtain ⟨z, hz⟩ : ∃ z, lateR ps os = z := ⟨_, rfl⟩
          have HG := hide (good_is HPS.out hos hz)
          have hol := order6 kDue ps
          rw [hos] at hol
          have HOS := hide hos
          have HZ := hide hz
          clear hos hz
          go_wp2_with fail
          refine (dueOrder_impl _ ps _ _ _ HP7.out).mono ?_
          rw [HOS.out]
          rintro e w8 ⟨r, rfl, hr, hb⟩
          obtain ⟨aoo, capo, rfl, hlo, hco, -⟩ := hr.where
          have HO8 := hide hr
          have HP8 := hide (HP7.out.below hb)
          have HJ8 := hide (HJ7.out.below hb)
          have HK8 := hide (HK7.out.below hb)
          have HB8 := hide (Below.step HB7.out hb (Nat.le_refl _))
          have HB8' := hide (HB7'.out.trans (hb.mono HB7'.out.size))
          clear hr hb
          go_wp2_with fail
          refine (JobsLate_impl _ ps _ _ _ os _ _ _ HP8.out HO8.out).mono ?_
          rw [HZ.out]
          rintro e w9 ⟨rfl, hb⟩
          have HJ9 := hide (HJ8.out.below hb)
          have HK9 := hide (HK8.out.below hb)
          have HB9 := hide (Below.step HB8.out hb (Nat.le_refl _))
          have HB9' := hide (HB8'.out.trans (hb.mono HB8'.out.size))
          clear hb
          by_cases hz0 : z = 0
          · subst hz0
            have HG1 := hide (show goodB js s = true by rw [HG.out]; rfl)
            rcases Int.lt_trichotomy gb (m : Int) with hbm | hbm | hbm
            · have HBN := hide (show gBest js (s + 1) = (m : Int) by rw [HBS.out, HG1.out, if_pos rfl, Int.max_eq_right (by omega)])
              by_cases hmL : m = ks.length
              · have hmB : ((m : Int) == (ks.length : Int)) = true := by simp; omega
                go_wp2_with fail
                go_loop [10, 11] (fun sm i => ∃ (k : Nat) (c : Bool), k ≤ ks.length ∧ i = .int .i64 k ∧ sm = .bool c ∧ c = sameTo ks s m k) (fun _ i => ks.length - (intOf i).toNat)
                case atStart => exact ⟨0, _, Nat.zero_le _, rfl, rfl, by simp [sameTo, hmL]⟩
                case round =>
                  obtain ⟨k, c, hk, rfl, rfl, hc⟩ := hrel
                  have HC := hide hc
                  clear hc
                  by_cases hlk : k < ks.length
                  · have HSU := hide (same_succ (s := s) (m := m) hlk)
                    obtain ⟨b4, o4, rfl⟩ := HAK.out (by omega)
                    have r1 := HK9.out.read hlk
                    obtain ⟨hx0, hx1⟩ := HKN.out _ (List.getElem_mem hlk)
                    obtain ⟨x, hx⟩ := Int.eq_ofNat_of_zero_le hx0
                    rw [hx] at r1 HSU hx1
                    have hx6 : x ≤ 6 := by omega
                    have hxI : (x : Int) ≤ 6 := by omega
                    have hkI : (k : Int) < (ks.length : Int) := by omega
                    clear hx hx0
                    cases c with
                    | false =>
                      go_wp2_with fail
                      go_round
                      case rel => exact ⟨k + 1, false, by omega, by go_num, rfl, by rw [HSU.out, ← HC.out]; rfl⟩
                      case measure => simp [intOf]; omega
                    | true =>
                      cases hbit : s.testBit x with
                      | true =>
                        have hbt : ((s : Int) / 2 ^ x).tmod 2 = 1 := by
                          rw [bit_is, decide_eq_true_eq] at hbit
                          rw [Int.tmod_eq_emod_of_nonneg (Int.ediv_nonneg (by omega) (by have := (pow_bd hx6).1; omega))]; exact hbit
                        have HBT := hide hbit
                        clear hbit
                        go_wp2_with fail
                        go_round
                        case rel => exact ⟨k + 1, true, by omega, by go_num, rfl, by rw [HSU.out, ← HC.out, Int.toNat_natCast, HBT.out]; rfl⟩
                        case measure => simp [intOf]; omega
                      | false =>
                        have hbt : ((s : Int) / 2 ^ x).tmod 2 = 0 := by
                          have hb2 : (!s.testBit x) = true := by rw [hbit]; rfl
                          rw [bit_not, decide_eq_true_eq] at hb2
                          rw [Int.tmod_eq_emod_of_nonneg (Int.ediv_nonneg (by omega) (by have := (pow_bd hx6).1; omega))]; exact hb2
                        have HBT := hide hbit
                        clear hbit
                        go_wp2_with fail
                        go_round
                        case rel => exact ⟨k + 1, false, by omega, by go_num, rfl, by rw [HSU.out, ← HC.out, Int.toNat_natCast, HBT.out]; rfl⟩
                        case measure => simp [intOf]; omega
                  · obtain rfl : k = ks.length := by omega
                    cases c with
                    | false =>
                      go_wp2_with fail
                      go_roundw
                      case rel => exact ⟨s + 1, by omega, by go_num, by first | (rw [HBN.out]; done) | (rw [HBN.out, hmL]; done), by rw [HKS.out, ← HC.out, HG1.out]; first | rfl | go_num | simp, HB9.out, HB9'.out⟩
                      case measure => simp [intOf]; omega
                    | true =>
                      go_wp2_with fail
                      go_roundw
                      case rel => exact ⟨s + 1, by omega, by go_num, by first | (rw [HBN.out]; done) | (rw [HBN.out, hmL]; done), by rw [HKS.out, ← HC.out, HG1.out]; first | rfl | go_num | simp, HB9.out, HB9'.out⟩
                      case measure => simp [intOf]; omega
              · have hmB : ((m : Int) == (ks.length : Int)) = false := by simp; omega
                go_wp2_with fail
                go_loop [10, 11] (fun sm i => ∃ (k : Nat) (c : Bool), k ≤ ks.length ∧ i = .int .i64 k ∧ sm = .bool c ∧ c = sameTo ks s m k) (fun _ i => ks.length - (intOf i).toNat)
                case atStart => exact ⟨0, _, Nat.zero_le _, rfl, rfl, by simp [sameTo, hmL]⟩
                case round =>
                  obtain ⟨k, c, hk, rfl, rfl, hc⟩ := hrel
                  have HC := hide hc
                  clear hc
                  by_cases hlk : k < ks.length
                  · have HSU := hide (same_succ (s := s) (m := m) hlk)
                    obtain ⟨b4, o4, rfl⟩ := HAK.out (by omega)
                    have r1 := HK9.out.read hlk
                    obtain ⟨hx0, hx1⟩ := HKN.out _ (List.getElem_mem hlk)
                    obtain ⟨x, hx⟩ := Int.eq_ofNat_of_zero_le hx0
                    rw [hx] at r1 HSU hx1
                    have hx6 : x ≤ 6 := by omega
                    have hxI : (x : Int) ≤ 6 := by omega
                    have hkI : (k : Int) < (ks.length : Int) := by omega
                    clear hx hx0
                    cases c with
                    | false =>
                      go_wp2_with fail
                      go_round
                      case rel => exact ⟨k + 1, false, by omega, by go_num, rfl, by rw [HSU.out, ← HC.out]; rfl⟩
                      case measure => simp [intOf]; omega
                    | true =>
                      cases hbit : s.testBit x with
                      | true =>
                        have hbt : ((s : Int) / 2 ^ x).tmod 2 = 1 := by
                          rw [bit_is, decide_eq_true_eq] at hbit
                          rw [Int.tmod_eq_emod_of_nonneg (Int.ediv_nonneg (by omega) (by have := (pow_bd hx6).1; omega))]; exact hbit
                        have HBT := hide hbit
                        clear hbit
                        go_wp2_with fail
                        go_round
                        case rel => exact ⟨k + 1, true, by omega, by go_num, rfl, by rw [HSU.out, ← HC.out, Int.toNat_natCast, HBT.out]; rfl⟩
                        case measure => simp [intOf]; omega
                      | false =>
                        have hbt : ((s : Int) / 2 ^ x).tmod 2 = 0 := by
                          have hb2 : (!s.testBit x) = true := by rw [hbit]; rfl
                          rw [bit_not, decide_eq_true_eq] at hb2
                          rw [Int.tmod_eq_emod_of_nonneg (Int.ediv_nonneg (by omega) (by have := (pow_bd hx6).1; omega))]; exact hb2
                        have HBT := hide hbit
                        clear hbit
                        go_wp2_with fail
                        go_round
                        case rel => exact ⟨k + 1, false, by omega, by go_num, rfl, by rw [HSU.out, ← HC.out, Int.toNat_natCast, HBT.out]; rfl⟩
                        case measure => simp [intOf]; omega
                  · obtain rfl : k = ks.length := by omega
                    cases c with
                    | false =>
                      go_wp2_with fail
                      go_roundw
                      case rel => exact ⟨s + 1, by omega, by go_num, by first | (rw [HBN.out]; done) | (rw [HBN.out, hmL]; done), by rw [HKS.out, ← HC.out, HG1.out]; first | rfl | go_num | simp, HB9.out, HB9'.out⟩
                      case measure => simp [intOf]; omega
                    | true =>
                      go_wp2_with fail
                      go_roundw
                      case rel => exact ⟨s + 1, by omega, by go_num, by first | (rw [HBN.out]; done) | (rw [HBN.out, hmL]; done), by rw [HKS.out, ← HC.out, HG1.out]; first | rfl | go_num | simp, HB9.out, HB9'.out⟩
                      case measure => simp [intOf]; omega
            · subst hbm
              have HBN := hide (show gBest js (s + 1) = (m : Int) by rw [HBS.out, HG1.out, if_pos rfl, Int.max_eq_right (by omega)])
              by_cases hmL : m = ks.length
              · have hmB : ((m : Int) == (ks.length : Int)) = true := by simp; omega
                go_wp2_with fail
                go_loop [10, 11] (fun sm i => ∃ (k : Nat) (c : Bool), k ≤ ks.length ∧ i = .int .i64 k ∧ sm = .bool c ∧ c = sameTo ks s m k) (fun _ i => ks.length - (intOf i).toNat)
                case atStart => exact ⟨0, _, Nat.zero_le _, rfl, rfl, by simp [sameTo, hmL]⟩
                case round =>
                  obtain ⟨k, c, hk, rfl, rfl, hc⟩ := hrel
                  have HC := hide hc
                  clear hc
                  by_cases hlk : k < ks.length
                  · have HSU := hide (same_succ (s := s) (m := m) hlk)
                    obtain ⟨b4, o4, rfl⟩ := HAK.out (by omega)
                    have r1 := HK9.out.read hlk
                    obtain ⟨hx0, hx1⟩ := HKN.out _ (List.getElem_mem hlk)
                    obtain ⟨x, hx⟩ := Int.eq_ofNat_of_zero_le hx0
                    rw [hx] at r1 HSU hx1
                    have hx6 : x ≤ 6 := by omega
                    have hxI : (x : Int) ≤ 6 := by omega
                    have hkI : (k : Int) < (ks.length : Int) := by omega
                    clear hx hx0
                    cases c with
                    | false =>
                      go_wp2_with fail
                      go_round
                      case rel => exact ⟨k + 1, false, by omega, by go_num, rfl, by rw [HSU.out, ← HC.out]; rfl⟩
                      case measure => simp [intOf]; omega
                    | true =>
                      cases hbit : s.testBit x with
                      | true =>
                        have hbt : ((s : Int) / 2 ^ x).tmod 2 = 1 := by
                          rw [bit_is, decide_eq_true_eq] at hbit
                          rw [Int.tmod_eq_emod_of_nonneg (Int.ediv_nonneg (by omega) (by have := (pow_bd hx6).1; omega))]; exact hbit
                        have HBT := hide hbit
                        clear hbit
                        go_wp2_with fail
                        go_round
                        case rel => exact ⟨k + 1, true, by omega, by go_num, rfl, by rw [HSU.out, ← HC.out, Int.toNat_natCast, HBT.out]; rfl⟩
                        case measure => simp [intOf]; omega
                      | false =>
                        have hbt : ((s : Int) / 2 ^ x).tmod 2 = 0 := by
                          have hb2 : (!s.testBit x) = true := by rw [hbit]; rfl
                          rw [bit_not, decide_eq_true_eq] at hb2
                          rw [Int.tmod_eq_emod_of_nonneg (Int.ediv_nonneg (by omega) (by have := (pow_bd hx6).1; omega))]; exact hb2
                        have HBT := hide hbit
                        clear hbit
                        go_wp2_with fail
                        go_round
                        case rel => exact ⟨k + 1, false, by omega, by go_num, rfl, by rw [HSU.out, ← HC.out, Int.toNat_natCast, HBT.out]; rfl⟩
                        case measure => simp [intOf]; omega
                  · obtain rfl : k = ks.length := by omega
                    cases c with
                    | false =>
                      go_wp2_with fail
                      go_roundw
                      case rel => exact ⟨s + 1, by omega, by go_num, by first | (rw [HBN.out]; done) | (rw [HBN.out, hmL]; done), by rw [HKS.out, ← HC.out, HG1.out]; first | rfl | go_num | simp, HB9.out, HB9'.out⟩
                      case measure => simp [intOf]; omega
                    | true =>
                      go_wp2_with fail
                      go_roundw
                      case rel => exact ⟨s + 1, by omega, by go_num, by first | (rw [HBN.out]; done) | (rw [HBN.out, hmL]; done), by rw [HKS.out, ← HC.out, HG1.out]; first | rfl | go_num | simp, HB9.out, HB9'.out⟩
                      case measure => simp [intOf]; omega
              · have hmB : ((m : Int) == (ks.length : Int)) = false := by simp; omega
                go_wp2_with fail
                go_loop [10, 11] (fun sm i => ∃ (k : Nat) (c : Bool), k ≤ ks.length ∧ i = .int .i64 k ∧ sm = .bool c ∧ c = sameTo ks s m k) (fun _ i => ks.length - (intOf i).toNat)
                case atStart => exact ⟨0, _, Nat.zero_le _, rfl, rfl, by simp [sameTo, hmL]⟩
                case round =>
                  obtain ⟨k, c, hk, rfl, rfl, hc⟩ := hrel
                  have HC := hide hc
                  clear hc
                  by_cases hlk : k < ks.length
                  · have HSU := hide (same_succ (s := s) (m := m) hlk)
                    obtain ⟨b4, o4, rfl⟩ := HAK.out (by omega)
                    have r1 := HK9.out.read hlk
                    obtain ⟨hx0, hx1⟩ := HKN.out _ (List.getElem_mem hlk)
                    obtain ⟨x, hx⟩ := Int.eq_ofNat_of_zero_le hx0
                    rw [hx] at r1 HSU hx1
                    have hx6 : x ≤ 6 := by omega
                    have hxI : (x : Int) ≤ 6 := by omega
                    have hkI : (k : Int) < (ks.length : Int) := by omega
                    clear hx hx0
                    cases c with
                    | false =>
                      go_wp2_with fail
                      go_round
                      case rel => exact ⟨k + 1, false, by omega, by go_num, rfl, by rw [HSU.out, ← HC.out]; rfl⟩
                      case measure => simp [intOf]; omega
                    | true =>
                      cases hbit : s.testBit x with
                      | true =>
                        have hbt : ((s : Int) / 2 ^ x).tmod 2 = 1 := by
                          rw [bit_is, decide_eq_true_eq] at hbit
                          rw [Int.tmod_eq_emod_of_nonneg (Int.ediv_nonneg (by omega) (by have := (pow_bd hx6).1; omega))]; exact hbit
                        have HBT := hide hbit
                        clear hbit
                        go_wp2_with fail
                        go_round
                        case rel => exact ⟨k + 1, true, by omega, by go_num, rfl, by rw [HSU.out, ← HC.out, Int.toNat_natCast, HBT.out]; rfl⟩
                        case measure => simp [intOf]; omega
                      | false =>
                        have hbt : ((s : Int) / 2 ^ x).tmod 2 = 0 := by
                          have hb2 : (!s.testBit x) = true := by rw [hbit]; rfl
                          rw [bit_not, decide_eq_true_eq] at hb2
                          rw [Int.tmod_eq_emod_of_nonneg (Int.ediv_nonneg (by omega) (by have := (pow_bd hx6).1; omega))]; exact hb2
                        have HBT := hide hbit
                        clear hbit
                        go_wp2_with fail
                        go_round
                        case rel => exact ⟨k + 1, false, by omega, by go_num, rfl, by rw [HSU.out, ← HC.out, Int.toNat_natCast, HBT.out]; rfl⟩
                        case measure => simp [intOf]; omega
                  · obtain rfl : k = ks.length := by omega
                    cases c with
                    | false =>
                      go_wp2_with fail
                      go_roundw
                      case rel => exact ⟨s + 1, by omega, by go_num, by first | (rw [HBN.out]; done) | (rw [HBN.out, hmL]; done), by rw [HKS.out, ← HC.out, HG1.out]; first | rfl | go_num | simp, HB9.out, HB9'.out⟩
                      case measure => simp [intOf]; omega
                    | true =>
                      go_wp2_with fail
                      go_roundw
                      case rel => exact ⟨s + 1, by omega, by go_num, by first | (rw [HBN.out]; done) | (rw [HBN.out, hmL]; done), by rw [HKS.out, ← HC.out, HG1.out]; first | rfl | go_num | simp, HB9.out, HB9'.out⟩
                      case measure => simp [intOf]; omega
            · have HBN := hide (show gBest js (s + 1) = gb by rw [HBS.out, HG1.out, if_pos rfl, Int.max_eq_left (by omega)])
              by_cases hmL : m = ks.length
              · have hmB : ((m : Int) == (ks.length : Int)) = true := by simp; omega
                go_wp2_with fail
                go_loop [10, 11] (fun sm i => ∃ (k : Nat) (c : Bool), k ≤ ks.length ∧ i = .int .i64 k ∧ sm = .bool c ∧ c = sameTo ks s m k) (fun _ i => ks.length - (intOf i).toNat)
                case atStart => exact ⟨0, _, Nat.zero_le _, rfl, rfl, by simp [sameTo, hmL]⟩
                case round =>
                  obtain ⟨k, c, hk, rfl, rfl, hc⟩ := hrel
                  have HC := hide hc
                  clear hc
                  by_cases hlk : k < ks.length
                  · have HSU := hide (same_succ (s := s) (m := m) hlk)
                    obtain ⟨b4, o4, rfl⟩ := HAK.out (by omega)
                    have r1 := HK9.out.read hlk
                    obtain ⟨hx0, hx1⟩ := HKN.out _ (List.getElem_mem hlk)
                    obtain ⟨x, hx⟩ := Int.eq_ofNat_of_zero_le hx0
                    rw [hx] at r1 HSU hx1
                    have hx6 : x ≤ 6 := by omega
                    have hxI : (x : Int) ≤ 6 := by omega
                    have hkI : (k : Int) < (ks.length : Int) := by omega
                    clear hx hx0
                    cases c with
                    | false =>
                      go_wp2_with fail
                      go_round
                      case rel => exact ⟨k + 1, false, by omega, by go_num, rfl, by rw [HSU.out, ← HC.out]; rfl⟩
                      case measure => simp [intOf]; omega
                    | true =>
                      cases hbit : s.testBit x with
                      | true =>
                        have hbt : ((s : Int) / 2 ^ x).tmod 2 = 1 := by
                          rw [bit_is, decide_eq_true_eq] at hbit
                          rw [Int.tmod_eq_emod_of_nonneg (Int.ediv_nonneg (by omega) (by have := (pow_bd hx6).1; omega))]; exact hbit
                        have HBT := hide hbit
                        clear hbit
                        go_wp2_with fail
                        go_round
                        case rel => exact ⟨k + 1, true, by omega, by go_num, rfl, by rw [HSU.out, ← HC.out, Int.toNat_natCast, HBT.out]; rfl⟩
                        case measure => simp [intOf]; omega
                      | false =>
                        have hbt : ((s : Int) / 2 ^ x).tmod 2 = 0 := by
                          have hb2 : (!s.testBit x) = true := by rw [hbit]; rfl
                          rw [bit_not, decide_eq_true_eq] at hb2
                          rw [Int.tmod_eq_emod_of_nonneg (Int.ediv_nonneg (by omega) (by have := (pow_bd hx6).1; omega))]; exact hb2
                        have HBT := hide hbit
                        clear hbit
                        go_wp2_with fail
                        go_round
                        case rel => exact ⟨k + 1, false, by omega, by go_num, rfl, by rw [HSU.out, ← HC.out, Int.toNat_natCast, HBT.out]; rfl⟩
                        case measure => simp [intOf]; omega
                  · obtain rfl : k = ks.length := by omega
                    cases c with
                    | false =>
                      go_wp2_with fail
                      go_roundw
                      case rel => exact ⟨s + 1, by omega, by go_num, by first | (rw [HBN.out]; done) | (rw [HBN.out, hmL]; done), by rw [HKS.out, ← HC.out, HG1.out]; first | rfl | go_num | simp, HB9.out, HB9'.out⟩
                      case measure => simp [intOf]; omega
                    | true =>
                      go_wp2_with fail
                      go_roundw
                      case rel => exact ⟨s + 1, by omega, by go_num, by first | (rw [HBN.out]; done) | (rw [HBN.out, hmL]; done), by rw [HKS.out, ← HC.out, HG1.out]; first | rfl | go_num | simp, HB9.out, HB9'.out⟩
                      case measure => simp [intOf]; omega
              · have hmB : ((m : Int) == (ks.length : Int)) = false := by simp; omega
                go_wp2_with fail
                go_loop [10, 11] (fun sm i => ∃ (k : Nat) (c : Bool), k ≤ ks.length ∧ i = .int .i64 k ∧ sm = .bool c ∧ c = sameTo ks s m k) (fun _ i => ks.length - (intOf i).toNat)
                case atStart => exact ⟨0, _, Nat.zero_le _, rfl, rfl, by simp [sameTo, hmL]⟩
                case round =>
                  obtain ⟨k, c, hk, rfl, rfl, hc⟩ := hrel
                  have HC := hide hc
                  clear hc
                  by_cases hlk : k < ks.length
                  · have HSU := hide (same_succ (s := s) (m := m) hlk)
                    obtain ⟨b4, o4, rfl⟩ := HAK.out (by omega)
                    have r1 := HK9.out.read hlk
                    obtain ⟨hx0, hx1⟩ := HKN.out _ (List.getElem_mem hlk)
                    obtain ⟨x, hx⟩ := Int.eq_ofNat_of_zero_le hx0
                    rw [hx] at r1 HSU hx1
                    have hx6 : x ≤ 6 := by omega
                    have hxI : (x : Int) ≤ 6 := by omega
                    have hkI : (k : Int) < (ks.length : Int) := by omega
                    clear hx hx0
                    cases c with
                    | false =>
                      go_wp2_with fail
                      go_round
                      case rel => exact ⟨k + 1, false, by omega, by go_num, rfl, by rw [HSU.out, ← HC.out]; rfl⟩
                      case measure => simp [intOf]; omega
                    | true =>
                      cases hbit : s.testBit x with
                      | true =>
                        have hbt : ((s : Int) / 2 ^ x).tmod 2 = 1 := by
                          rw [bit_is, decide_eq_true_eq] at hbit
                          rw [Int.tmod_eq_emod_of_nonneg (Int.ediv_nonneg (by omega) (by have := (pow_bd hx6).1; omega))]; exact hbit
                        have HBT := hide hbit
                        clear hbit
                        go_wp2_with fail
                        go_round
                        case rel => exact ⟨k + 1, true, by omega, by go_num, rfl, by rw [HSU.out, ← HC.out, Int.toNat_natCast, HBT.out]; rfl⟩
                        case measure => simp [intOf]; omega
                      | false =>
                        have hbt : ((s : Int) / 2 ^ x).tmod 2 = 0 := by
                          have hb2 : (!s.testBit x) = true := by rw [hbit]; rfl
                          rw [bit_not, decide_eq_true_eq] at hb2
                          rw [Int.tmod_eq_emod_of_nonneg (Int.ediv_nonneg (by omega) (by have := (pow_bd hx6).1; omega))]; exact hb2
                        have HBT := hide hbit
                        clear hbit
                        go_wp2_with fail
                        go_round
                        case rel => exact ⟨k + 1, false, by omega, by go_num, rfl, by rw [HSU.out, ← HC.out, Int.toNat_natCast, HBT.out]; rfl⟩
                        case measure => simp [intOf]; omega
                  · obtain rfl : k = ks.length := by omega
                    cases c with
                    | false =>
                      go_wp2_with fail
                      go_roundw
                      case rel => exact ⟨s + 1, by omega, by go_num, by first | (rw [HBN.out]; done) | (rw [HBN.out, hmL]; done), by rw [HKS.out, ← HC.out, HG1.out]; first | rfl | go_num | simp, HB9.out, HB9'.out⟩
                      case measure => simp [intOf]; omega
                    | true =>
                      go_wp2_with fail
                      go_roundw
                      case rel => exact ⟨s + 1, by omega, by go_num, by first | (rw [HBN.out]; done) | (rw [HBN.out, hmL]; done), by rw [HKS.out, ← HC.out, HG1.out]; first | rfl | go_num | simp, HB9.out, HB9'.out⟩
                      case measure => simp [intOf]; omega
          · have hzB : (z == 0) = false := by simpa using hz0
            have HG1 := hide (show goodB js s = false by rw [HG.out]; simpa using hz0)
            have HBN := hide (show gBest js (s + 1) = gb by rw [HBS.out, HG1.out]; rfl)
            by_cases hmL : m = ks.length
            · have hmB : ((m : Int) == (ks.length : Int)) = true := by simp; omega
              go_wp2_with fail
              go_loop [10, 11] (fun sm i => ∃ (k : Nat) (c : Bool), k ≤ ks.length ∧ i = .int .i64 k ∧ sm = .bool c ∧ c = sameTo ks s m k) (fun _ i => ks.length - (intOf i).toNat)
              case atStart => exact ⟨0, _, Nat.zero_le _, rfl, rfl, by simp [sameTo, hmL]⟩
              case round =>
                obtain ⟨k, c, hk, rfl, rfl, hc⟩ := hrel
                have HC := hide hc
                clear hc
                by_cases hlk : k < ks.length
                · have HSU := hide (same_succ (s := s) (m := m) hlk)
                  obtain ⟨b4, o4, rfl⟩ := HAK.out (by omega)
                  have r1 := HK9.out.read hlk
                  obtain ⟨hx0, hx1⟩ := HKN.out _ (List.getElem_mem hlk)
                  obtain ⟨x, hx⟩ := Int.eq_ofNat_of_zero_le hx0
                  rw [hx] at r1 HSU hx1
                  have hx6 : x ≤ 6 := by omega
                  have hxI : (x : Int) ≤ 6 := by omega
                  have hkI : (k : Int) < (ks.length : Int) := by omega
                  clear hx hx0
                  cases c with
                  | false =>
                    go_wp2_with fail
                    go_round
                    case rel => exact ⟨k + 1, false, by omega, by go_num, rfl, by rw [HSU.out, ← HC.out]; rfl⟩
                    case measure => simp [intOf]; omega
                  | true =>
                    cases hbit : s.testBit x with
                    | true =>
                      have hbt : ((s : Int) / 2 ^ x).tmod 2 = 1 := by
                        rw [bit_is, decide_eq_true_eq] at hbit
                        rw [Int.tmod_eq_emod_of_nonneg (Int.ediv_nonneg (by omega) (by have := (pow_bd hx6).1; omega))]; exact hbit
                      have HBT := hide hbit
                      clear hbit
                      go_wp2_with fail
                      go_round
                      case rel => exact ⟨k + 1, true, by omega, by go_num, rfl, by rw [HSU.out, ← HC.out, Int.toNat_natCast, HBT.out]; rfl⟩
                      case measure => simp [intOf]; omega
                    | false =>
                      have hbt : ((s : Int) / 2 ^ x).tmod 2 = 0 := by
                        have hb2 : (!s.testBit x) = true := by rw [hbit]; rfl
                        rw [bit_not, decide_eq_true_eq] at hb2
                        rw [Int.tmod_eq_emod_of_nonneg (Int.ediv_nonneg (by omega) (by have := (pow_bd hx6).1; omega))]; exact hb2
                      have HBT := hide hbit
                      clear hbit
                      go_wp2_with fail
                      go_round
                      case rel => exact ⟨k + 1, false, by omega, by go_num, rfl, by rw [HSU.out, ← HC.out, Int.toNat_natCast, HBT.out]; rfl⟩
                      case measure => simp [intOf]; omega
                · obtain rfl : k = ks.length := by omega
                  cases c with
                  | false =>
                    go_wp2_with fail
                    go_roundw
                    case rel => exact ⟨s + 1, by omega, by go_num, by first | (rw [HBN.out]; done) | (rw [HBN.out, hmL]; done), by rw [HKS.out, ← HC.out, HG1.out]; first | rfl | go_num | simp, HB9.out, HB9'.out⟩
                    case measure => simp [intOf]; omega
                  | true =>
                    go_wp2_with fail
                    go_roundw
                    case rel => exact ⟨s + 1, by omega, by go_num, by first | (rw [HBN.out]; done) | (rw [HBN.out, hmL]; done), by rw [HKS.out, ← HC.out, HG1.out]; first | rfl | go_num | simp, HB9.out, HB9'.out⟩
                    case measure => simp [intOf]; omega
            · have hmB : ((m : Int) == (ks.length : Int)) = false := by simp; omega
              go_wp2_with fail
              go_loop [10, 11] (fun sm i => ∃ (k : Nat) (c : Bool), k ≤ ks.length ∧ i = .int .i64 k ∧ sm = .bool c ∧ c = sameTo ks s m k) (fun _ i => ks.length - (intOf i).toNat)
              case atStart => exact ⟨0, _, Nat.zero_le _, rfl, rfl, by simp [sameTo, hmL]⟩
              case round =>
                obtain ⟨k, c, hk, rfl, rfl, hc⟩ := hrel
                have HC := hide hc
                clear hc
                by_cases hlk : k < ks.length
                · have HSU := hide (same_succ (s := s) (m := m) hlk)
                  obtain ⟨b4, o4, rfl⟩ := HAK.out (by omega)
                  have r1 := HK9.out.read hlk
                  obtain ⟨hx0, hx1⟩ := HKN.out _ (List.getElem_mem hlk)
                  obtain ⟨x, hx⟩ := Int.eq_ofNat_of_zero_le hx0
                  rw [hx] at r1 HSU hx1
                  have hx6 : x ≤ 6 := by omega
                  have hxI : (x : Int) ≤ 6 := by omega
                  have hkI : (k : Int) < (ks.length : Int) := by omega
                  clear hx hx0
                  cases c with
                  | false =>
                    go_wp2_with fail
                    go_round
                    case rel => exact ⟨k + 1, false, by omega, by go_num, rfl, by rw [HSU.out, ← HC.out]; rfl⟩
                    case measure => simp [intOf]; omega
                  | true =>
                    cases hbit : s.testBit x with
                    | true =>
                      have hbt : ((s : Int) / 2 ^ x).tmod 2 = 1 := by
                        rw [bit_is, decide_eq_true_eq] at hbit
                        rw [Int.tmod_eq_emod_of_nonneg (Int.ediv_nonneg (by omega) (by have := (pow_bd hx6).1; omega))]; exact hbit
                      have HBT := hide hbit
                      clear hbit
                      go_wp2_with fail
                      go_round
                      case rel => exact ⟨k + 1, true, by omega, by go_num, rfl, by rw [HSU.out, ← HC.out, Int.toNat_natCast, HBT.out]; rfl⟩
                      case measure => simp [intOf]; omega
                    | false =>
                      have hbt : ((s : Int) / 2 ^ x).tmod 2 = 0 := by
                        have hb2 : (!s.testBit x) = true := by rw [hbit]; rfl
                        rw [bit_not, decide_eq_true_eq] at hb2
                        rw [Int.tmod_eq_emod_of_nonneg (Int.ediv_nonneg (by omega) (by have := (pow_bd hx6).1; omega))]; exact hb2
                      have HBT := hide hbit
                      clear hbit
                      go_wp2_with fail
                      go_round
                      case rel => exact ⟨k + 1, false, by omega, by go_num, rfl, by rw [HSU.out, ← HC.out, Int.toNat_natCast, HBT.out]; rfl⟩
                      case measure => simp [intOf]; omega
                · obtain rfl : k = ks.length := by omega
                  cases c with
                  | false =>
                    go_wp2_with fail
                    go_roundw
                    case rel => exact ⟨s + 1, by omega, by go_num, by first | (rw [HBN.out]; done) | (rw [HBN.out, hmL]; done), by rw [HKS.out, ← HC.out, HG1.out]; first | rfl | go_num | simp, HB9.out, HB9'.out⟩
                    case measure => simp [intOf]; omega
                  | true =>
                    go_wp2_with fail
                    go_roundw
                    case rel => exact ⟨s + 1, by omega, by go_num, by first | (rw [HBN.out]; done) | (rw [HBN.out, hmL]; done), by rw [HKS.out, ← HC.out, HG1.out]; first | rfl | go_num | simp, HB9.out, HB9'.out⟩
                    case measure => simp [intOf]; omega
        · have he : (s : Int) = 2 ^ js.length := by omega
          have he2 : s = 2 ^ js.length := by have := pow_nat js.length; omega
          have e1 : gBest js s = ks.length := by rw [he2]; exact HLB.out
          have e2 : gKept js ks s = 1 := by rw [he2]; exact HLK.out
          rw [e1, e2]
          have hsI : (2 : Int) ^ js.length ≤ (s : Int) := by omega
          clear he he2 e1 e2
          go_wp2_with fail
          refine (ascend_yes _ ks _ _ _ HK6.out HASC.out).mono ?_
          rintro e w9 ⟨rfl, hb⟩
          have HB9 := hide (Below.step HB6.out hb (Nat.le_refl _))
          clear hb
          go_wp2_with fail
          go_ret
          exact ⟨rfl, HB9.out⟩
end Go.Proofs.YtfjemnjdkniibaaDoor
