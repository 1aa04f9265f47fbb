/-
  The walks over the copies of slices: toIntS, toJobS; over markIntS, markJobS, heldIntS.
-/
import Derived.Test.YtaifajhojhekjaaWalkA
namespace Go.Proofs.Ytaifajhojhekjaa
open Go.RowKit

theorem info_int : (Try.prog.info? 3).map (fun i => (i.zero, i.size, i.bytes)) = some (some (.int .i64 0), 1, 8) := by kernel_rfl
set_option maxHeartbeats 400000 in
theorem toIntS_any (v : Value) (xs : List Int) (lo hi : Nat) (w : World) (h : IntsAt lo hi w v xs) (hlen : xs.length ≤ 2097152) :
    Calls Try.prog 60 #[v] w fun e w' => ∃ v', e = .returned v' ∧ IntsAt w.heap.size w'.heap.size w' v' xs ∧ Below w.heap.size w w' := by
  have hlt0 := h.lt
  obtain ⟨ao, cap, rfl, hlc, hcap, hhi, hc⟩ := h
  have Hc := hide hc
  clear hc
  have hmk := fun W => make_rowN (P := Try.prog) 26 3 _ _ _ Try.underlying26 info_int .i64 .i64 xs.length (by omega) (by omega) W
  go_enter Try.func60, Try.ntmps60
  go_wp2_with fail
  clear hmk
  go_loopw [4] (fun i wr => ∃ k : Nat, k ≤ xs.length ∧ i = .int .i64 k ∧ Below w.heap.size w wr ∧ ∃ f, wr.rowIs w.heap.size 3 xs.length f ∧ (∀ j (_ : j < xs.length), j < k → f j = .int .i64 xs[j])) (fun i _ => xs.length - (intOf i).toNat)
  case atStart =>
    obtain ⟨f, hf⟩ := rowIs_madeN w (Value.int .i64 0).cells (xs.length * 1) 3
    rw [Nat.mul_one] at hf
    exact ⟨0, Nat.zero_le _, rfl, by go_grown, f, hf, fun _ _ h => absurd h (Nat.not_lt_zero _)⟩
  case round =>
    obtain ⟨k, hk, rfl, hb, f, hrow, hall⟩ := hrel
    have Ha := hide hall
    have Hr := hide hrow
    clear hall
    by_cases hlt : k < xs.length
    · obtain ⟨b, o, rfl, hb1, hb2, hcs⟩ := Hc.out (by omega)
      obtain ⟨h1, -⟩ := hcs k hlt
      rw [← hb.cell (p := ⟨b, _, none⟩) (by simpa using by omega)] at h1
      have hg1 := hrow.cell (i := k) hlt
      have hg2 := hrow.frozen k
      clear hcs hrow
      go_wp2_with fail
      go_roundw
      case rel =>
        refine ⟨k + 1, by omega, by go_num, hb.setCell (Nat.le_refl _) _, _, Hr.out.set k _, fun j hj hjk => ?_⟩
        by_cases e : j = k
        · subst e; simp
        · simp only [if_neg e]; exact Ha.out j hj (by omega)
      case measure => simp [intOf]; omega
    · go_wp2_with fail
      go_ret
      refine ⟨_, rfl, IntsAt.of_row Hr.out (Nat.le_refl _) (by omega) (fun i hi => Ha.out i hi (by omega)) (Nat.le_refl _), hb⟩

set_option maxHeartbeats 400000 in
/-- The marks: every int is overwritten. -/
theorem markIntS_any (v : Value) (xs : List Int) (lo hi : Nat) (k0 : Int) (w : World) (h : IntsAt lo hi w v xs) (hlen : xs.length ≤ 2097152) (hk0 : 0 ≤ k0) (hk1 : k0 ≤ 16777216) :
    Calls Try.prog 18 #[v, .int .i64 k0] w fun e w' => e = .returned (.int .i64 (k0 + xs.length)) ∧ Other lo hi w w' ∧ ∃ ys : List Int, ys.length = xs.length ∧ (∀ i (_ : i < ys.length), ys[i] = k0 + i) ∧ IntsAt lo hi w' v ys := by
  have h0 := h
  obtain ⟨ao, cap, rfl, hlc, hcap, hhi, hc⟩ := h
  have Hc := hide hc
  clear hc
  go_enter Try.func18, Try.ntmps18
  go_wp2_with fail
  go_loopw [1, 5] (fun m i wr => ∃ k : Nat, k ≤ xs.length ∧ i = .int .i64 k ∧ m = .int .i64 (k0 + k) ∧ Other lo hi w wr ∧ ∃ ys : List Int, ys.length = xs.length ∧ (∀ i (_ : i < ys.length), i < k → ys[i] = k0 + i) ∧ IntsAt lo hi wr (.slice ao xs.length cap) ys) (fun _ i _ => xs.length - (intOf i).toNat)
  case atStart => exact ⟨0, Nat.zero_le _, rfl, by simp, Other.refl _ _ _, xs, rfl, fun _ _ h => absurd h (Nat.not_lt_zero _), h0⟩
  case round =>
    obtain ⟨k, hk, rfl, rfl, hb, ys, hyl, hall, hat⟩ := hrel
    have Hyl := hide hyl
    have Ha := hide hall
    have Hat := hide hat
    clear hall hyl hat
    by_cases hlt : k < xs.length
    · obtain ⟨ao', cap', e, a1, a2, a3, a4⟩ := Hat.out
      simp only [Value.slice.injEq] at e
      obtain ⟨rfl, -, rfl⟩ := e
      obtain ⟨b, o, rfl, hb1, hb2, hcs⟩ := a4 (by have := Hyl.out; omega)
      obtain ⟨h1, h2⟩ := hcs k (by have := Hyl.out; omega)
      clear a4 hcs
      go_wp2_with fail
      go_roundw
      case rel =>
        refine ⟨k + 1, by omega, by go_num, by go_num, hb.setCell hb1 hb2 _, ys.set k (k0 + k), by simp [Hyl.out], fun i hi hik => ?_, ?_⟩
        · rw [List.getElem_set]
          split
          · subst k; rfl
          · exact Ha.out i (by simpa using hi) (by omega)
        · exact IntsAt.set Hat.out (by have := Hyl.out; omega) (by simp [Hyl.out]) _
      case measure => simp [intOf]; omega
    · go_wp2_with fail
      go_ret
      refine ⟨?_, hb, ys, Hyl.out, fun i hi => Ha.out i hi (by have := Hyl.out; omega), Hat.out⟩
      have : (k : Int) = xs.length := by omega
      rw [this]; rfl

set_option maxHeartbeats 400000 in
/-- The marks are still there. -/
theorem heldIntS_any (v : Value) (ys : List Int) (lo hi : Nat) (k0 : Int) (w : World) (h : IntsAt lo hi w v ys) (hlen : ys.length ≤ 2097152) (hk0 : 0 ≤ k0) (hk1 : k0 ≤ 16777216) (hm : ∀ i (_ : i < ys.length), ys[i] = k0 + i) :
    Calls Try.prog 19 #[v, .int .i64 k0] w fun e w' => e = .returned (.int .i64 (k0 + ys.length)) ∧ w = w' := by
  obtain ⟨ao, cap, rfl, hlc, hcap, hhi, hc⟩ := h
  have Hc := hide hc
  have Hm := hide hm
  clear hc hm
  go_enter Try.func19, Try.ntmps19
  go_wp2_with fail
  go_loop [1, 5] (fun m i => ∃ k : Nat, k ≤ ys.length ∧ i = .int .i64 k ∧ m = .int .i64 (k0 + k)) (fun _ i => ys.length - (intOf i).toNat)
  case atStart => exact ⟨0, Nat.zero_le _, rfl, by simp⟩
  case round =>
    obtain ⟨k, hk, rfl, rfl⟩ := hrel
    by_cases hlt : k < ys.length
    · obtain ⟨b, o, rfl, hb1, hb2, hcs⟩ := Hc.out (by omega)
      obtain ⟨h1, -⟩ := hcs k hlt
      rw [Hm.out k hlt] at h1
      clear hcs
      go_wp2_with fail
      go_round
      case rel => exact ⟨k + 1, by omega, by go_num, by go_num⟩
      case measure => simp [intOf]; omega
    · go_wp2_with fail
      go_ret
      refine ⟨?_, rfl⟩
      have : (k : Int) = ys.length := by omega
      rw [this]; rfl
end Go.Proofs.Ytaifajhojhekjaa
