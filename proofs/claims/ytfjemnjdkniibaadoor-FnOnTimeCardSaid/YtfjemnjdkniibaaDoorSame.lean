/-
  The laws' own small functions on lists of ints: equal lists, a list has a number, numbers ascend.
-/
import Derived.Test.YtfjemnjdkniibaaDoorWalkF
namespace Go.Proofs.YtfjemnjdkniibaaDoor
open Go.RowKit

theorem IntsAt.read {lo hi b o n cap k : Nat} {w : World} {xs : List Int} (h : IntsAt lo hi w (.slice (some ⟨b, o, none⟩) n cap) xs) (hk : k < xs.length) : w.cell? ⟨b, o + k, none⟩ = some (.int .i64 xs[k]) := by
  obtain ⟨ao, cap', e, -, -, -, h4⟩ := h
  simp only [Value.slice.injEq] at e
  obtain ⟨rfl, -, -⟩ := e
  obtain ⟨b', o', e, -, -, hc⟩ := h4 (by omega)
  simp only [Option.some.injEq, Addr.mk.injEq] at e
  obtain ⟨rfl, rfl, -⟩ := e
  exact (hc k hk).1
theorem IntsAt.where {lo hi : Nat} {w : World} {v : Value} {xs : List Int} (h : IntsAt lo hi w v xs) : ∃ ao cap, v = .slice ao xs.length cap ∧ xs.length ≤ cap ∧ cap ≤ 9223372036854775807 ∧ (0 < xs.length → ∃ b o, ao = some ⟨b, o, none⟩) := by
  obtain ⟨ao, cap, rfl, h1, h2, _, h4⟩ := h
  exact ⟨ao, cap, rfl, h1, h2, fun h => by obtain ⟨b, o, e, _⟩ := h4 h; exact ⟨b, o, e⟩⟩

/-- Equal lists are. -/
theorem sameInts_same (v v' : Value) (xs : List Int) (lo hi lo' hi' : Nat) (w : World) (h : IntsAt lo hi w v xs) (h' : IntsAt lo' hi' w v' xs) :
    Calls Tryd.prog 37 #[v, v'] w fun e w' => e = .returned (.bool true) ∧ Below w.heap.size w w' := by
  obtain ⟨ao, cap, rfl, hc1, hc2, ha⟩ := h.where
  obtain ⟨ao', cap', rfl, hc1', hc2', ha'⟩ := h'.where
  have HH := hide h
  have HH' := hide h'
  have HA := hide ha
  have HA' := hide ha'
  clear h h' ha ha'
  go_enter Tryd.func37, Tryd.ntmps37
  go_wp2_with fail
  go_loopw [5] (fun i wr => ∃ k : Nat, k ≤ xs.length ∧ i = .int .i64 k ∧ Below w.heap.size w wr) (fun i _ => xs.length - (intOf i).toNat)
  case atStart => exact ⟨0, Nat.zero_le _, rfl, Below.refl _ _⟩
  case round =>
    obtain ⟨k, hk, rfl, hb⟩ := hrel
    have HB := hide hb
    by_cases hlt : k < xs.length
    · obtain ⟨b, o, rfl⟩ := HA.out (by omega)
      obtain ⟨b', o', rfl⟩ := HA'.out (by omega)
      have r1 := (HH.out.below hb).read hlt
      have r2 := (HH'.out.below hb).read hlt
      generalize xs[k] = x at r1 r2
      have hkI : (k : Int) < (xs.length : Int) := by omega
      clear hb
      go_wp2_with fail
      go_quiet (fail)
      go_wp2_with fail
      go_roundw
      case rel => exact ⟨k + 1, by omega, by go_num, below_drewN HB.out _⟩
      case measure => simp [intOf]; omega
    · clear hb
      go_wp2_with fail
      go_ret
      exact ⟨rfl, HB.out⟩
theorem hasInt_any (v : Value) (xs : List Int) (lo hi : Nat) (n : Int) (w : World) (h : IntsAt lo hi w v xs) :
    Calls Tryd.prog 71 #[v, .int .i64 n] w fun e w' => e = .returned (.bool (hasI xs n)) ∧ w = w' := by
  obtain ⟨ao, cap, rfl, hc1, hc2, ha⟩ := h.where
  have HH := hide h
  have HA := hide ha
  clear h ha
  go_enter Tryd.func71, Tryd.ntmps71
  go_wp2_with fail
  go_loop [5] (fun i => ∃ k : Nat, k ≤ xs.length ∧ i = .int .i64 k ∧ hasI (xs.take k) n = false) (fun i => xs.length - (intOf i).toNat)
  case atStart => exact ⟨0, Nat.zero_le _, rfl, rfl⟩
  case round =>
    obtain ⟨k, hk, rfl, hn⟩ := hrel
    have HN := hide hn
    clear hn
    by_cases hlt : k < xs.length
    · obtain ⟨b, o, rfl⟩ := HA.out (by omega)
      have r1 := HH.out.read hlt
      have HS := hide (hasI_snoc hlt n)
      have HM := hide (List.getElem_mem hlt)
      obtain ⟨x, hx⟩ : ∃ x, xs[k] = x := ⟨_, rfl⟩
      rw [hx] at r1 HS HM
      clear hx
      have hkI : (k : Int) < (xs.length : Int) := by omega
      by_cases he : x = n
      · subst he
        go_wp2_with fail
        go_ret
        exact ⟨by rw [hasI_iff.2 HM.out]; rfl, rfl⟩
      · have heB : (x == n) = false := by simpa using he
        go_wp2_with fail
        go_round
        case rel => exact ⟨k + 1, by omega, by go_num, by rw [HS.out, HN.out, heB]; rfl⟩
        case measure => simp [intOf]; omega
    · go_wp2_with fail
      go_ret
      rw [List.take_of_length_le (by omega)] at HN
      exact ⟨by rw [HN.out]; rfl, rfl⟩
/-- Ascending numbers do. -/
theorem ascend_yes (v : Value) (xs : List Int) (lo hi : Nat) (w : World) (h : IntsAt lo hi w v xs) (hs : xs.Pairwise (· < ·)) :
    Calls Tryd.prog 65 #[v] w fun e w' => e = .returned (.bool true) ∧ Below w.heap.size w w' := by
  obtain ⟨ao, cap, rfl, hc1, hc2, ha⟩ := h.where
  have HH := hide h
  have HA := hide ha
  have HS := hide hs
  clear h ha hs
  go_enter Tryd.func65, Tryd.ntmps65
  go_wp2_with fail
  go_loopw [3] (fun i wr => ∃ k : Nat, 1 ≤ k ∧ k ≤ xs.length + 1 ∧ i = .int .i64 k ∧ Below w.heap.size w wr) (fun i _ => xs.length + 1 - (intOf i).toNat)
  case atStart => exact ⟨1, by omega, by omega, rfl, Below.refl _ _⟩
  case round =>
    obtain ⟨k, hk0, hk, rfl, hb⟩ := hrel
    have HB := hide hb
    by_cases hlt : k < xs.length
    · obtain ⟨b, o, rfl⟩ := HA.out (by omega)
      have r1 := (HH.out.below hb).read hlt
      have r2 := (HH.out.below hb).read (show k - 1 < xs.length by omega)
      have hlt2 := (List.pairwise_iff_getElem.1 HS.out) (k - 1) k (by omega) hlt (by omega)
      generalize xs[k] = x at r1 hlt2
      generalize xs[k - 1] = y at r2 hlt2
      have hkI : (k : Int) < (xs.length : Int) := by omega
      have hkI1 : (1 : Int) ≤ (k : Int) := by omega
      have hw1 : IntKind.i64.wrap ((k : Int) - 1) = ((k - 1 : Nat) : Int) := by rw [IntWalk.i64_in _ (by omega)]; omega
      have hw2 : ((k - 1 : Nat) : Int) < (xs.length : Int) := by omega
      have hge : decide (x ≤ y) = false := by simp; omega
      clear hb
      go_wp2_with fail
      go_quiet (fail)
      clear hw1 hw2
      go_wp2_with fail
      go_roundw
      case rel => exact ⟨k + 1, by omega, by omega, by go_num, below_drewN HB.out _⟩
      case measure => simp [intOf]; omega
    · clear hb
      go_wp2_with fail
      go_ret
      exact ⟨rfl, HB.out⟩
end Go.Proofs.YtfjemnjdkniibaaDoor
