/-
  The walks over the copies of slices: toIntS, toJobS; over markIntS, markJobS, heldIntS.
-/
import Derived.Test.YtbafifilklfafaaDoorWalkA
namespace Go.Proofs.YtbafifilklfafaaDoor
open Go.RowKit

theorem info_int : (Tryd.prog.info? 3).map (fun i => (i.zero, i.size, i.bytes)) = some (some (.int .i64 0), 1, 8) := by kernel_rfl
set_option maxHeartbeats 400000 in
theorem toIntS_any (v : Value) (xs : List Int) (lo hi : Nat) (w : World) (h : IntsAt lo hi w v xs) (hlen : xs.length ≤ 2097152) :
    Calls Tryd.prog 77 #[v] w fun e w' => ∃ v', e = .returned v' ∧ IntsAt w.heap.size w'.heap.size w' v' xs ∧ Below w.heap.size w w' := by
  have hlt0 := h.lt
  obtain ⟨ao, cap, rfl, hlc, hcap, hhi, hc⟩ := h
  have Hc := hide hc
  clear hc
  have hmk := fun W => make_rowN (P := Tryd.prog) 40 3 _ _ _ Tryd.underlying40 info_int .i64 .i64 xs.length (by omega) (by omega) W
  go_enter Tryd.func77, Tryd.ntmps77
  go_wp2_with fail
  clear hmk
  go_loopw [4] (fun i wr => ∃ k : Nat, k ≤ xs.length ∧ i = .int .i64 k ∧ Below w.heap.size w wr ∧ ∃ f, wr.rowIs w.heap.size 3 xs.length f ∧ (∀ j (_ : j < xs.length), j < k → f j = .int .i64 xs[j])) (fun i _ => xs.length - (intOf i).toNat)
  case atStart =>
    obtain ⟨f, hf⟩ := rowIs_madeN w (Value.int .i64 0).cells (xs.length * 1) 3
    rw [Nat.mul_one] at hf
    exact ⟨0, Nat.zero_le _, rfl, by go_grown, f, hf, fun _ _ h => absurd h (Nat.not_lt_zero _)⟩
  case round =>
    obtain ⟨k, hk, rfl, hb, f, hrow, hall⟩ := hrel
    have Ha := hide hall
    have Hr := hide hrow
    clear hall
    by_cases hlt : k < xs.length
    · obtain ⟨b, o, rfl, hb1, hb2, hcs⟩ := Hc.out (by omega)
      obtain ⟨h1, -⟩ := hcs k hlt
      rw [← hb.cell (p := ⟨b, _, none⟩) (by simpa using by omega)] at h1
      have hg1 := hrow.cell (i := k) hlt
      have hg2 := hrow.frozen k
      clear hcs hrow
      go_wp2_with fail
      go_roundw
      case rel =>
        refine ⟨k + 1, by omega, by go_num, hb.setCell (Nat.le_refl _) _, _, Hr.out.set k _, fun j hj hjk => ?_⟩
        by_cases e : j = k
        · subst e; simp
        · simp only [if_neg e]; exact Ha.out j hj (by omega)
      case measure => simp [intOf]; omega
    · go_wp2_with fail
      go_ret
      refine ⟨_, rfl, IntsAt.of_row Hr.out (Nat.le_refl _) (by omega) (fun i hi => Ha.out i hi (by omega)) (Nat.le_refl _), hb⟩

end Go.Proofs.YtbafifilklfafaaDoor
