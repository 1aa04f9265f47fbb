/-
  Parts of the proofs over mills, of: PileA. Conditions: each theorem states its own.
-/
import Derived.Test.YtmemgbklgcjobaaGreatDoorX07
import Derived.Test.YtmemgbklgcjobaaGreatDoorX09
set_option linter.unusedSimpArgs false
set_option linter.unusedVariables false
set_option maxRecDepth 10000
namespace Go.Proofs.YtmemgbklgcjobaaGreatDoor
open Go.RowKit
theorem IntsAt.take {lo hi n cap k : Nat} {ao : Option Addr} {w : World} {xs : List Int} (h : IntsAt lo hi w (.slice ao n cap) xs) (hk : k ≤ n) : IntsAt lo hi w (.slice ao k cap) (xs.take k) := by
  obtain ⟨ao', cap', e, a1, a2, a3, a4⟩ := h
  simp only [Value.slice.injEq] at e
  obtain ⟨rfl, rfl, rfl⟩ := e
  have hl : (xs.take k).length = k := by simp; omega
  refine ⟨ao, cap, by rw [hl], by omega, a2, a3, fun hn => ?_⟩
  obtain ⟨b, o, ea, hb1, hb2, hc⟩ := a4 (by omega)
  refine ⟨b, o, ea, hb1, hb2, fun i hi => ?_⟩
  rw [List.getElem_take]
  exact hc i (by omega)
set_option maxHeartbeats 400000 in
theorem l1Has_any (v : Value) (xs : List Int) (lo hi : Nat) (n : Int) (w : World) (h : IntsAt lo hi w v xs) :
    Calls Tryz.prog 134 #[v, .int .i64 n] w fun e w' => e = .returned (.bool (hasI xs n)) ∧ w = w' := by
  obtain ⟨ao, cap, rfl, hlc, hcap, hhi, hc⟩ := h
  have Hc := hide hc
  clear hc
  go_enter Tryz.func134, Tryz.ntmps134
  go_wp2_with fail
  go_loop [5] (fun i => ∃ k : Nat, k ≤ xs.length ∧ i = .int .i64 k ∧ (∀ j (_ : j < xs.length), j < k → xs[j] ≠ n)) (fun i => xs.length - (intOf i).toNat)
  case atStart => exact ⟨0, Nat.zero_le _, rfl, fun _ _ h => absurd h (Nat.not_lt_zero _)⟩
  case round =>
    obtain ⟨k, hk, rfl, hall⟩ := hrel
    have Ha := hide hall
    clear hall
    by_cases hlt : k < xs.length
    · obtain ⟨b, o, rfl, hb1, hb2, hcs⟩ := Hc.out (by omega)
      obtain ⟨h1, -⟩ := hcs k hlt
      clear hcs
      by_cases hq : xs[k] = n
      · have hqB : (xs[k] == n) = true := by simp [hq]
        have hm : hasI xs n = true := hasI_iff.2 (by rw [← hq]; exact List.getElem_mem _)
        have HM := hide hm
        clear hq hm
        go_wp2_with fail
        go_ret
        exact ⟨by rw [HM.out]; rfl, rfl⟩
      · have hqB : (xs[k] == n) = false := by simp [hq]
        have HQ := hide hq
        clear hq
        go_wp2_with fail
        go_round
        case rel =>
          refine ⟨k + 1, by omega, by go_num, fun j hj hjk => ?_⟩
          rcases Nat.lt_or_ge j k with h | h
          · exact Ha.out j hj h
          · obtain rfl : j = k := by omega
            exact HQ.out
        case measure => simp [intOf]; omega
    · have hm : hasI xs n = false := by
        rw [hasI_false]
        intro hx
        obtain ⟨j, hj, e⟩ := List.getElem_of_mem hx
        exact Ha.out j hj (by omega) e
      have HM := hide hm
      clear hm
      go_wp2_with fail
      go_ret
      exact ⟨by rw [HM.out]; rfl, rfl⟩
theorem contains_hasI (xs : List Int) (n : Int) : xs.contains n = hasI xs n := by
  rw [Bool.eq_iff_iff, hasI_iff]; simp
theorem getD_eq {xs : List Int} {j : Nat} (h : j < xs.length) : xs.getD j 0 = xs[j] := by simp [h]
theorem contains_any (ao : Option Addr) (cap k : Nat) (xs : List Int) (lo hi : Nat) (n : Int) (w : World) (h : IntsAt lo hi w (.slice ao xs.length cap) xs) (hk : k ≤ xs.length) :
    Calls Tryz.prog 146 #[.slice ao k cap, .int .i64 n] w fun e w' => e = .returned (.bool (hasI (xs.take k) n)) ∧ w = w' := by
  rcases Nat.eq_zero_or_pos k with rfl | hk0
  · exact (Tryz.slices_Contains_int_empty ao cap n w).mono fun e w' ⟨he, hw⟩ => ⟨by rw [he]; rfl, hw.symm⟩
  · have hlen := h.len
    obtain ⟨ao', cap', e, a1, a2, a3, a4⟩ := h
    simp only [Value.slice.injEq] at e
    obtain ⟨rfl, -, rfl⟩ := e
    obtain ⟨b, o, rfl, hb1, hb2, hc⟩ := a4 (by omega)
    exact (Tryz.slices_Contains_int b o k cap xs n w hk (by omega) (fun j hj => by rw [(hc j hj).1, getD_eq hj])).mono fun e w' ⟨he, hw⟩ => ⟨by rw [he, contains_hasI], hw.symm⟩
theorem grow_any (n : Nat) (h0 : 0 < n) (h1 : n ≤ 1000) (w : World) :
    Calls Tryz.prog 156 #[.slice none 0 0, .int .i64 n] w fun e w' => ∃ cap, e = .returned (.slice (some ⟨w.heap.size, 0, none⟩) 0 cap) ∧ w'.ownsRow w.heap.size 3 1 (.slice (some ⟨w.heap.size, 0, none⟩) 0 cap) 0 [] ∧ Below w.heap.size w w' := by
  obtain ⟨i0, hi0, hz0, hi1, hi2⟩ := info_parts info_int
  have hn0 : (0 : Int) < (n : Int) := by omega
  have hrun := Lib.run_append_nil_zeros (P := Tryz.prog) w 27 3 27 3 i0 (.int .i64 0) .i64 .i64 Tryz.underlying27 Tryz.underlying3 hi0 hz0 n h0 (by omega) (by omega) (by rw [hi2]; omega)
  have hge := grownCap_ge w n 0 3
  have hle := grownCap_le_maxLen w n 0 3 (by unfold maxLen; omega)
  obtain ⟨cap, hcap⟩ : ∃ cap, grownCap w n 0 3 = cap := ⟨_, rfl⟩
  rw [hcap] at hrun hge hle
  have HR := hide hrun
  unfold maxLen at hle
  have hwr : IntKind.i64.wrap (n : Int) = n := by rw [IntWalk.i64_in] <;> omega
  clear hrun hcap hi1 hi2 hz0
  go_enter Tryz.func156, Tryz.ntmps156
  go_wp2_with (at_builtin; refine Lib.wpList_append_run w rfl _ _ 27 3 rfl (.slice none 0 0) (.int .i64 n) rfl rfl _ _ HR.out ?_)
  go_wp2_with fail
  go_ret
  refine ⟨cap, rfl, ?_, by go_grown⟩
  have hw : ∀ cs : Array Value, cs.size = cap → (w.drew.alloc (.cells cs 3)).ownsRow w.heap.size 3 1 (.slice (some ⟨w.heap.size, 0, none⟩) 0 cap) 0 [] := fun cs hcs =>
    ⟨rfl, .inr ⟨w.heap.size, cap, cs, rfl, Nat.le_refl _, heap_alloc_new w.drew _, Nat.zero_le _, by unfold maxLen; omega, by omega, by simp⟩⟩
  exact hw _ (by simp [size_zeroCells]; omega)
def IntsNew (base : Nat) (xs : List Int) (w : World) (e : Ending) (w' : World) : Prop := ∃ v, e = .returned v ∧ w'.ownsRow base 3 1 v xs.length (flatI xs) ∧ Below base w w'
def cat2 (xs ys : List Int) (k : Nat) : List Int := if k = 0 then [] else if k = 1 then xs else xs ++ ys
theorem flatI_len (a : List Int) : (flatI a).length = a.length := by simp [flatI]
set_option maxHeartbeats 800000 in
theorem concat_any (B T : Nat) (l h : Value) (xs ys : List Int) (w : World) (hr : RowL w B T [l, h]) (Hl : IntsAt 0 w.heap.size w l xs) (Hh : IntsAt 0 w.heap.size w h ys) (h0 : 0 < xs.length + ys.length) (h1 : xs.length + ys.length ≤ 1000) :
    Calls Tryz.prog 104 #[.slice (some ⟨B, 0, none⟩) 2 2] w (IntsNew w.heap.size (xs ++ ys) w) := by
  have HL := hide Hl
  have HH := hide Hh
  have c0 : w.cell? ⟨B, 0, none⟩ = some l := hr.cell 0 (by simp)
  have c1 : w.cell? ⟨B, 1, none⟩ = some h := hr.cell 1 (by simp)
  have hB := hr.lt
  obtain ⟨ao1, cap1, rfl, -, -, -, -⟩ := Hl
  obtain ⟨ao2, cap2, rfl, -, -, -, -⟩ := Hh
  obtain ⟨i0, hi0, hz0, hi1, hi2⟩ := info_parts info_int
  have HR := hide hr
  clear hr
  go_enter Tryz.func104, Tryz.ntmps104
  go_wp2_with fail
  go_loop [3, 5, 11] (fun z s i => ∃ k : Nat, k ≤ 2 ∧ i = .int .i64 k ∧ z = .int .i64 ((cat2 xs ys k).length : Nat)) (fun _ _ i => 2 - (intOf i).toNat)
  case atStart => exact ⟨0, Nat.zero_le _, rfl, rfl⟩
  case round =>
    obtain ⟨k, hk, rfl, rfl⟩ := hrel
    have hk3 : k = 0 ∨ k = 1 ∨ k = 2 := by omega
    rcases hk3 with rfl | rfl | rfl
    · have e : (cat2 xs ys 0).length = 0 := rfl
      rw [e]
      clear e
      go_wp2_with fail
      go_round
      case rel => exact ⟨1, by omega, rfl, by go_num⟩
      case measure => simp [intOf]
    · have e : (cat2 xs ys 1).length = xs.length := rfl
      rw [e]
      clear e
      go_wp2_with fail
      go_round
      case rel => exact ⟨2, by omega, rfl, by simp [cat2]⟩
      case measure => simp [intOf]
    · obtain ⟨n, hn⟩ : ∃ n, xs.length + ys.length = n := ⟨_, rfl⟩
      have e : (cat2 xs ys 2).length = n := by rw [← hn]; simp [cat2]
      rw [e]
      have HN := hide hn
      have hn0 : 0 < n := by omega
      have hn1 : n ≤ 1000 := by omega
      clear e hn
      go_wp2_with fail
      refine (grow_any n hn0 hn1 w).mono ?_
      rintro e w1 ⟨cap, rfl, hown, hb1⟩
      have HO := hide hown
      have HB1 := hide hb1
      have HR1 := hide (HR.out.below hb1 HR.out.lt)
      clear hown hb1 c0 c1
      go_wp2_with fail
      go_loopw [6, 8, 27] (fun v s i wr => ∃ k : Nat, k ≤ 2 ∧ i = .int .i64 k ∧ wr.ownsRow w.heap.size 3 1 v (cat2 xs ys k).length (flatI (cat2 xs ys k)) ∧ Below w.heap.size w wr) (fun _ _ i _ => 2 - (intOf i).toNat)
      case atStart => exact ⟨0, by omega, rfl, by simpa [cat2, flatI] using HO.out, HB1.out⟩
      case round =>
        obtain ⟨k, hk, rfl, hown, hb⟩ := hrel
        have HW := hide hown
        have HBr := hide hb
        obtain ⟨aov, capv, rfl, -, -⟩ := own_slice hown
        have HRr := hide (HR.out.below hb HR.out.lt)
        have hz := hb.size
        clear hown hb
        have hk3 : k = 0 ∨ k = 1 ∨ k = 2 := by omega
        rcases hk3 with rfl | rfl | rfl
        · have d0 : wr.cell? ⟨B, 0, none⟩ = some (.slice ao1 xs.length cap1) := HRr.out.cell 0 (by simp)
          have hsrc := (HL.out.below HBr.out).source
          have HS := hide hsrc
          clear hsrc
          go_wp2_with (at_builtin; refine wpList_append_view rfl _ _ 27 rfl w.heap.size 3 i0 (.int .i64 0) 1 8 Tryz.underlying27 hi0 hz0 hi1 hi2 rfl (by decide) _ _ _ rfl HW.out _ _ _ rfl HS.out ?c1 ?c2 hz ?_)
          case c1 => unfold maxLen; simp [cat2]; omega
          case c2 => simp [cat2]; omega
          intro v2 w2 hown2 hgrow2 _
          have hB2 : Below w.heap.size w w2 := HBr.out.trans (Below.grow hgrow2 HW.out (Nat.le_refl _) hz)
          have HO2 := hide (show w2.ownsRow w.heap.size 3 1 v2 (cat2 xs ys 1).length (flatI (cat2 xs ys 1)) by simpa [cat2, flatI] using hown2)
          have HB2 := hide hB2
          clear hown2 hgrow2 hB2 d0
          go_wp2_with fail
          go_roundw
          case rel => exact ⟨1, by omega, rfl, HO2.out, HB2.out⟩
          case measure => simp [intOf]
        · have d0 : wr.cell? ⟨B, 1, none⟩ = some (.slice ao2 ys.length cap2) := HRr.out.cell 1 (by simp)
          have hsrc := (HH.out.below HBr.out).source
          have HS := hide hsrc
          clear hsrc
          go_wp2_with (at_builtin; refine wpList_append_view rfl _ _ 27 rfl w.heap.size 3 i0 (.int .i64 0) 1 8 Tryz.underlying27 hi0 hz0 hi1 hi2 rfl (by decide) _ _ _ rfl HW.out _ _ _ rfl HS.out ?c1 ?c2 hz ?_)
          case c1 => unfold maxLen; simp [cat2]; omega
          case c2 => simp [cat2]; omega
          intro v2 w2 hown2 hgrow2 _
          have hB2 : Below w.heap.size w w2 := HBr.out.trans (Below.grow hgrow2 HW.out (Nat.le_refl _) hz)
          have HO2 := hide (show w2.ownsRow w.heap.size 3 1 v2 (cat2 xs ys 2).length (flatI (cat2 xs ys 2)) by simpa [cat2, flatI] using hown2)
          have HB2 := hide hB2
          clear hown2 hgrow2 hB2 d0
          go_wp2_with fail
          go_roundw
          case rel => exact ⟨2, by omega, rfl, HO2.out, HB2.out⟩
          case measure => simp [intOf]
        · go_wp2_with fail
          go_ret
          exact ⟨_, rfl, by simpa [cat2] using HW.out, HBr.out⟩
end Go.Proofs.YtmemgbklgcjobaaGreatDoor
