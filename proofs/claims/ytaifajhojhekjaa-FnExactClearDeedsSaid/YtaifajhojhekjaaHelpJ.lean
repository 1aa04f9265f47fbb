/-
  The walks over the laws' helpers: copies, comparisons, marks of slices (MillDeed).
-/
import Derived.Test.YtaifajhojhekjaaWalkA
import Derived.Test.YtaifajhojhekjaaMillV
namespace Go.Proofs.Ytaifajhojhekjaa
open Go.RowKit

theorem info_J : (Try.prog.info? 77).map (fun i => (i.zero, i.size, i.bytes)) = some (some (.agg #[.int .i64 0, .int .i64 0, .int .i64 0]), 3, 24) := by kernel_rfl
def eqJ (a b : J) : Bool := decide (a = b)
theorem eqMillDeed_any (s0 d0 g0 s1 d1 g1 : Int) (w : World) :
    Calls Try.prog 52 #[.agg #[.int .i64 s0, .int .i64 d0, .int .i64 g0], .agg #[.int .i64 s1, .int .i64 d1, .int .i64 g1]] w fun e w' => e = .returned (.bool (eqJ ⟨s0, d0, g0⟩ ⟨s1, d1, g1⟩)) ∧ Below w.heap.size w w' := by
  go_enter Try.func52, Try.ntmps52
  go_wp2
  all_goals
    go_ret
    exact ⟨by simp_all [eqJ], by go_grown⟩
set_option maxRecDepth 10000 in
set_option maxHeartbeats 400000 in
theorem eqMillDeedS_any (v v' : Value) (xs ys : List J) (lo hi lo' hi' : Nat) (w : World) (h : JobsAt lo hi w v xs) (h' : JobsAt lo' hi' w v' ys) :
    Calls Try.prog 22 #[v, v'] w fun e w' => e = .returned (.bool (decide (xs = ys))) ∧ Below w.heap.size w w' := by
  obtain ⟨ao, cap, rfl, hlc, hcap, hhi, hc⟩ := h
  obtain ⟨ao', cap', rfl, hlc', hcap', hhi', hc'⟩ := h'
  have Hc := hide hc
  have Hc' := hide hc'
  clear hc hc'
  by_cases hl : xs.length = ys.length
  · have HL := hide hl
    have hlB : ((xs.length : Int) != (ys.length : Int)) = false := by simp [hl]
    clear hl
    go_enter Try.func22, Try.ntmps22
    go_wp2_with fail
    go_loopw [5] (fun i wr => ∃ k : Nat, k ≤ xs.length ∧ i = .int .i64 k ∧ Below w.heap.size w wr ∧ xs.take k = ys.take k) (fun i _ => xs.length - (intOf i).toNat)
    case atStart => exact ⟨0, Nat.zero_le _, rfl, Below.refl _ _, rfl⟩
    case round =>
      obtain ⟨k, hk, rfl, hb, hall⟩ := hrel
      have Ha := hide hall
      clear hall
      by_cases hlt : k < xs.length
      · have hlt' : k < ys.length := by have := HL.out; omega
        obtain ⟨b, o, rfl, hb1, hb2, hcs⟩ := Hc.out (by omega)
        obtain ⟨b', o', rfl, hb1', hb2', hcs'⟩ := Hc'.out (by omega)
        obtain ⟨⟨h1, h2, h3⟩, -⟩ := hcs k hlt
        obtain ⟨⟨h1', h2', h3'⟩, -⟩ := hcs' k hlt'
        rw [← hb.cell (p := ⟨_, _, none⟩) (by simpa using by omega)] at h1 h2 h3 h1' h2' h3'
        clear hcs hcs'
        have hi1 : (k : Int) < (xs.length : Int) := by omega
        have hi2 : (k : Int) < (ys.length : Int) := by omega
        by_cases hq : xs[k] = ys[k]
        · have hqB : eqJ { s := xs[k].s, d := xs[k].d, g := xs[k].g } { s := ys[k].s, d := ys[k].d, g := ys[k].g } = true := by simp [eqJ, hq]
          have hall' : xs.take (k + 1) = ys.take (k + 1) := by
            rw [List.take_succ_eq_append_getElem hlt, List.take_succ_eq_append_getElem hlt', Ha.out, hq]
          have Ha' := hide hall'
          clear hq hall'
          go_wp2_with fail
          go_still_tail 8, (by kernel_rfl)
          change wpList _ _ _ _ _ wr.drew
          clear h1 h2 h3 h1' h2' h3'
          go_wp2_with (go_at_call 52; refine (eqMillDeed_any _ _ _ _ _ _ _).mono ?_; rintro e w1 ⟨rfl, hw1⟩)
          go_roundw
          case rel => exact ⟨k + 1, by omega, by go_num, Below.step hb.drew hw1 (Nat.le_refl _), Ha'.out⟩
          case measure => simp [intOf]; omega
        · have hqB : eqJ { s := xs[k].s, d := xs[k].d, g := xs[k].g } { s := ys[k].s, d := ys[k].d, g := ys[k].g } = false := by
            unfold eqJ; rw [decide_eq_false_iff_not]; exact hq
          have HQ := hide hq
          clear hq
          go_wp2_with fail
          go_still_tail 8, (by kernel_rfl)
          change wpList _ _ _ _ _ wr.drew
          clear h1 h2 h3 h1' h2' h3'
          go_wp2_with (go_at_call 52; refine (eqMillDeed_any _ _ _ _ _ _ _).mono ?_; rintro e w1 ⟨rfl, hw1⟩)
          go_ret
          refine ⟨?_, Below.step hb.drew hw1 (Nat.le_refl _)⟩
          have hne : xs ≠ ys := by
            intro e
            subst e
            exact HQ.out rfl
          simp [hne]
      · go_wp2_with fail
        go_ret
        refine ⟨?_, hb⟩
        have e : xs = ys := by
          have := Ha.out
          rw [List.take_of_length_le (by omega), List.take_of_length_le (by have := HL.out; omega)] at this
          exact this
        simp [e]
  · have hlB : ((xs.length : Int) != (ys.length : Int)) = true := by simp; omega
    go_enter Try.func22, Try.ntmps22
    go_wp2_with fail
    go_ret
    exact ⟨by simp; intro h; exact hl (by rw [h]), Below.refl _ _⟩

def mkJ (a : Int) : J := ⟨a, a + 1, a + 1 + 1⟩
set_option maxHeartbeats 800000 in
theorem markMillDeedS_any (v : Value) (xs : List J) (lo hi : Nat) (k0 : Int) (w : World) (h : JobsAt lo hi w v xs) (hlen : xs.length ≤ 2097152) (hk0 : 0 ≤ k0) (hk1 : k0 ≤ 16777216) :
    Calls Try.prog 23 #[v, .int .i64 k0] w fun e w' => e = .returned (.int .i64 (k0 + 3 * xs.length)) ∧ Other lo hi w w' ∧ ∃ ys : List J, ys.length = xs.length ∧ (∀ i (_ : i < ys.length), ys[i] = mkJ (k0 + 3 * i)) ∧ JobsAt lo hi w' v ys := by
  have h0 := h
  obtain ⟨ao, cap, rfl, hlc, hcap, hhi, hc⟩ := h
  have Hc := hide hc
  clear hc
  go_enter Try.func23, Try.ntmps23
  go_wp2_with fail
  go_loopw [1, 5] (fun m i wr => ∃ k : Nat, k ≤ xs.length ∧ i = .int .i64 k ∧ m = .int .i64 (k0 + 3 * k) ∧ Other lo hi w wr ∧ ∃ ys : List J, ys.length = xs.length ∧ (∀ i (_ : i < ys.length), i < k → ys[i] = mkJ (k0 + 3 * i)) ∧ JobsAt lo hi wr (.slice ao xs.length cap) ys) (fun _ i _ => xs.length - (intOf i).toNat)
  case atStart => exact ⟨0, Nat.zero_le _, rfl, by simp, Other.refl _ _ _, xs, rfl, fun _ _ h => absurd h (Nat.not_lt_zero _), h0⟩
  case round =>
    obtain ⟨k, hk, rfl, rfl, hb, ys, hyl, hall, hat⟩ := hrel
    have Hyl := hide hyl
    have Ha := hide hall
    have Hat := hide hat
    clear hyl hat hall
    by_cases hlt : k < xs.length
    · obtain ⟨ao', cap', e, a1, a2, a3, a4⟩ := Hat.out
      simp only [Value.slice.injEq] at e
      obtain ⟨rfl, -, rfl⟩ := e
      obtain ⟨b, o, rfl, hb1, hb2, hcs⟩ := a4 (by have := Hyl.out; omega)
      obtain ⟨⟨h1, h2, h3⟩, f1, f2, f3⟩ := hcs k (by have := Hyl.out; omega)
      clear a4 hcs
      go_wp2_with fail
      go_roundw
      case rel =>
        refine ⟨k + 1, by omega, by go_num, by go_num, (((hb.setCell hb1 hb2 _).setCell hb1 hb2 _).setCell hb1 hb2 _), ys.set k (mkJ (k0 + 3 * k)), by simp [Hyl.out], fun i hi hik => ?_, ?_⟩
        · rw [List.getElem_set]
          split
          · subst k; rfl
          · exact Ha.out i (by simpa using hi) (by omega)
        · exact JobsAt.set Hat.out (by have := Hyl.out; omega) (by simp [Hyl.out]) _ _ _
      case measure => simp [intOf]; omega
    · go_wp2_with fail
      go_ret
      refine ⟨?_, hb, ys, Hyl.out, fun i hi => Ha.out i hi (by have := Hyl.out; omega), Hat.out⟩
      have : (k : Int) = xs.length := by omega
      rw [this]; rfl
set_option maxHeartbeats 800000 in
theorem heldMillDeedS_any (v : Value) (ys : List J) (lo hi : Nat) (k0 : Int) (w : World) (h : JobsAt lo hi w v ys) (hlen : ys.length ≤ 2097152) (hk0 : 0 ≤ k0) (hk1 : k0 ≤ 16777216) (hm : ∀ i (_ : i < ys.length), ys[i] = mkJ (k0 + 3 * i)) :
    Calls Try.prog 24 #[v, .int .i64 k0] w fun e w' => e = .returned (.int .i64 (k0 + 3 * ys.length)) ∧ w = w' := by
  obtain ⟨ao, cap, rfl, hlc, hcap, hhi, hc⟩ := h
  have Hc := hide hc
  have Hm := hide hm
  clear hc hm
  go_enter Try.func24, Try.ntmps24
  go_wp2_with fail
  go_loop [1, 5] (fun m i => ∃ k : Nat, k ≤ ys.length ∧ i = .int .i64 k ∧ m = .int .i64 (k0 + 3 * k)) (fun _ i => ys.length - (intOf i).toNat)
  case atStart => exact ⟨0, Nat.zero_le _, rfl, by simp⟩
  case round =>
    obtain ⟨k, hk, rfl, rfl⟩ := hrel
    by_cases hlt : k < ys.length
    · obtain ⟨b, o, rfl, hb1, hb2, hcs⟩ := Hc.out (by omega)
      obtain ⟨⟨h1, h2, h3⟩, -⟩ := hcs k hlt
      rw [Hm.out k hlt] at h1 h2 h3
      simp only [mkJ] at h1 h2 h3
      clear hcs
      go_wp2_with fail
      go_round
      case rel => exact ⟨k + 1, by omega, by go_num, by go_num⟩
      case measure => simp [intOf]; omega
    · go_wp2_with fail
      go_ret
      refine ⟨?_, rfl⟩
      have : (k : Int) = ys.length := by omega
      rw [this]; rfl

end Go.Proofs.Ytaifajhojhekjaa
