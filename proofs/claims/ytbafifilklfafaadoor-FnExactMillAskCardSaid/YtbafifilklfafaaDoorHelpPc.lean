/-
  The walks over the laws' helpers: copies, comparisons, marks of slices (Piece).
-/
import Derived.Test.YtbafifilklfafaaDoorWalkA
import Derived.Test.YtbafifilklfafaaDoorMillV
namespace Go.Proofs.YtbafifilklfafaaDoor
open Go.RowKit

theorem info_Pc : (Tryd.prog.info? 109).map (fun i => (i.zero, i.size, i.bytes)) = some (some (.agg #[.int .i64 0, .int .i64 0]), 2, 16) := by kernel_rfl
def eqPc (a b : Pc) : Bool := decide (a = b)
theorem toPiece_any (l0 s0 : Int) (w : World) :
    Calls Tryd.prog 76 #[.agg #[.int .i64 l0, .int .i64 s0]] w fun e w' => e = .returned (.agg #[.int .i64 l0, .int .i64 s0]) ∧ Below w.heap.size w w' := by
  go_enter Tryd.func76, Tryd.ntmps76
  go_wp2
  go_returns
  exact ⟨rfl, by go_grown⟩
theorem eqPiece_any (l0 s0 l1 s1 : Int) (w : World) :
    Calls Tryd.prog 85 #[.agg #[.int .i64 l0, .int .i64 s0], .agg #[.int .i64 l1, .int .i64 s1]] w fun e w' => e = .returned (.bool (eqPc ⟨l0, s0⟩ ⟨l1, s1⟩)) ∧ Below w.heap.size w w' := by
  go_enter Tryd.func85, Tryd.ntmps85
  go_wp2
  all_goals
    go_ret
    exact ⟨by simp_all [eqPc], by go_grown⟩
theorem szPieceS_any (v : Value) (xs : List Pc) (lo hi : Nat) (left : Int) (w : World) (h : PcAt lo hi w v xs) (h1 : 0 ≤ left) (h2 : left ≤ 1048576) :
    Calls Tryd.prog 43 #[v, .int .i64 left] w fun e w' => e = .returned (.int .i64 (szI left xs.length)) ∧ w = w' := by
  have hl := h.len
  obtain ⟨ao, cap, rfl, hlc, hcap, hhi, hc⟩ := h
  have Hc := hide hc
  clear hc
  go_enter Tryd.func43, Tryd.ntmps43
  go_wp2
  all_goals
    go_ret
    refine ⟨?_, rfl⟩
    unfold szI
    first | (rw [if_pos (by omega)]; rfl) | (rw [if_neg (by omega)]; rfl)

set_option maxRecDepth 10000 in
set_option maxHeartbeats 400000 in
theorem eqPieceS_any (v v' : Value) (xs ys : List Pc) (lo hi lo' hi' : Nat) (w : World) (h : PcAt lo hi w v xs) (h' : PcAt lo' hi' w v' ys) :
    Calls Tryd.prog 60 #[v, v'] w fun e w' => e = .returned (.bool (decide (xs = ys))) ∧ Below w.heap.size w w' := by
  obtain ⟨ao, cap, rfl, hlc, hcap, hhi, hc⟩ := h
  obtain ⟨ao', cap', rfl, hlc', hcap', hhi', hc'⟩ := h'
  have Hc := hide hc
  have Hc' := hide hc'
  clear hc hc'
  by_cases hl : xs.length = ys.length
  · have HL := hide hl
    have hlB : ((xs.length : Int) != (ys.length : Int)) = false := by simp [hl]
    clear hl
    go_enter Tryd.func60, Tryd.ntmps60
    go_wp2_with fail
    go_loopw [5] (fun i wr => ∃ k : Nat, k ≤ xs.length ∧ i = .int .i64 k ∧ Below w.heap.size w wr ∧ xs.take k = ys.take k) (fun i _ => xs.length - (intOf i).toNat)
    case atStart => exact ⟨0, Nat.zero_le _, rfl, Below.refl _ _, rfl⟩
    case round =>
      obtain ⟨k, hk, rfl, hb, hall⟩ := hrel
      have Ha := hide hall
      clear hall
      by_cases hlt : k < xs.length
      · have hlt' : k < ys.length := by have := HL.out; omega
        obtain ⟨b, o, rfl, hb1, hb2, hcs⟩ := Hc.out (by omega)
        obtain ⟨b', o', rfl, hb1', hb2', hcs'⟩ := Hc'.out (by omega)
        obtain ⟨⟨h1, h2⟩, -⟩ := hcs k hlt
        obtain ⟨⟨h1', h2'⟩, -⟩ := hcs' k hlt'
        rw [← hb.cell (p := ⟨_, _, none⟩) (by simpa using by omega)] at h1 h2 h1' h2'
        clear hcs hcs'
        have hi1 : (k : Int) < (xs.length : Int) := by omega
        have hi2 : (k : Int) < (ys.length : Int) := by omega
        by_cases hq : xs[k] = ys[k]
        · have hqB : eqPc { l := xs[k].l, s := xs[k].s } { l := ys[k].l, s := ys[k].s } = true := by simp [eqPc, hq]
          have hall' : xs.take (k + 1) = ys.take (k + 1) := by
            rw [List.take_succ_eq_append_getElem hlt, List.take_succ_eq_append_getElem hlt', Ha.out, hq]
          have Ha' := hide hall'
          clear hq hall'
          go_wp2_with fail
          go_still_tail 8, (by kernel_rfl)
          change wpList _ _ _ _ _ wr.drew
          clear h1 h2 h1' h2'
          go_wp2_with (go_at_call 85; refine (eqPiece_any _ _ _ _ _).mono ?_; rintro e w1 ⟨rfl, hw1⟩)
          go_roundw
          case rel => exact ⟨k + 1, by omega, by go_num, Below.step hb.drew hw1 (Nat.le_refl _), Ha'.out⟩
          case measure => simp [intOf]; omega
        · have hqB : eqPc { l := xs[k].l, s := xs[k].s } { l := ys[k].l, s := ys[k].s } = false := by
            unfold eqPc; rw [decide_eq_false_iff_not]; exact hq
          have HQ := hide hq
          clear hq
          go_wp2_with fail
          go_still_tail 8, (by kernel_rfl)
          change wpList _ _ _ _ _ wr.drew
          clear h1 h2 h1' h2'
          go_wp2_with (go_at_call 85; refine (eqPiece_any _ _ _ _ _).mono ?_; rintro e w1 ⟨rfl, hw1⟩)
          go_ret
          refine ⟨?_, Below.step hb.drew hw1 (Nat.le_refl _)⟩
          have hne : xs ≠ ys := by
            intro e
            subst e
            exact HQ.out rfl
          simp [hne]
      · go_wp2_with fail
        go_ret
        refine ⟨?_, hb⟩
        have e : xs = ys := by
          have := Ha.out
          rw [List.take_of_length_le (by omega), List.take_of_length_le (by have := HL.out; omega)] at this
          exact this
        simp [e]
  · have hlB : ((xs.length : Int) != (ys.length : Int)) = true := by simp; omega
    go_enter Tryd.func60, Tryd.ntmps60
    go_wp2_with fail
    go_ret
    exact ⟨by simp; intro h; exact hl (by rw [h]), Below.refl _ _⟩

set_option maxHeartbeats 800000 in
theorem toPieceS_any (v : Value) (xs : List Pc) (lo hi : Nat) (w : World) (h : PcAt lo hi w v xs) (hlen : xs.length ≤ 2097152) :
    Calls Tryd.prog 52 #[v] w fun e w' => ∃ v', e = .returned v' ∧ PcAt w.heap.size (w.heap.size + 1) w' v' xs ∧ Below w.heap.size w w' := by
  have hlt0 := h.lt
  obtain ⟨ao, cap, rfl, hlc, hcap, hhi, hc⟩ := h
  have Hc := hide hc
  clear hc
  have hmk := fun W => make_rowN (P := Tryd.prog) 49 109 _ _ _ Tryd.underlying49 info_Pc .i64 .i64 xs.length (by omega) (by omega) W
  go_enter Tryd.func52, Tryd.ntmps52
  go_wp2_with fail
  clear hmk
  go_loopw [4] (fun i wr => ∃ k : Nat, k ≤ xs.length ∧ i = .int .i64 k ∧ Below w.heap.size w wr ∧ ∃ f, wr.rowIs w.heap.size 109 (xs.length * 2) f ∧ (∀ j (_ : j < xs.length), j < k → f (j * 2) = .int .i64 xs[j].l ∧ f (j * 2 + 1) = .int .i64 xs[j].s)) (fun i _ => xs.length - (intOf i).toNat)
  case atStart =>
    obtain ⟨f, hf⟩ := rowIs_madeN w (Value.agg #[Value.int .i64 0, Value.int .i64 0]).cells (xs.length * 2) 109
    exact ⟨0, Nat.zero_le _, rfl, by go_grown, f, hf, fun _ _ h => absurd h (Nat.not_lt_zero _)⟩
  case round =>
    obtain ⟨k, hk, rfl, hb, f, hrow, hall⟩ := hrel
    have Ha := hide hall
    have Hr := hide hrow
    clear hall
    by_cases hlt : k < xs.length
    · obtain ⟨b, o, rfl, hb1, hb2, hcs⟩ := Hc.out (by omega)
      obtain ⟨⟨h1, h2⟩, -⟩ := hcs k hlt
      rw [← hb.cell (p := ⟨b, _, none⟩) (by simpa using by omega)] at h1 h2
      have hz : w.heap.size < wr.heap.size := hrow.lt
      clear hcs hrow
      go_wp2_with (go_at_call 76; refine (toPiece_any _ _ _).mono ?_; rintro e w1 ⟨rfl, hw1⟩; have hg1 := (rowIs_below Hr.out hw1 hz).cell (i := k * 2) (by omega); have hg2 := (rowIs_below Hr.out hw1 hz).cell (i := k * 2 + 1) (by omega); have hf1 := (rowIs_below Hr.out hw1 hz).frozen (k * 2); have hf2 := (rowIs_below Hr.out hw1 hz).frozen (k * 2 + 1))
      obtain ⟨f', hr', e1, e2, eo⟩ := rowIs_put2 (rowIs_below Hr.out hw1 hz) (k * 2) (.int .i64 xs[k].l) (.int .i64 xs[k].s)
      go_roundw
      case rel =>
        refine ⟨k + 1, by omega, by go_num, (((Below.step hb hw1 (Nat.le_refl _)).setCell (Nat.le_refl _) _).setCell (Nat.le_refl _) _), f', hr', fun j hj hjk => ?_⟩
        by_cases e : j = k
        · subst e; exact ⟨e1, e2⟩
        · rw [eo _ (by omega) (by omega), eo _ (by omega) (by omega)]
          exact Ha.out j hj (by omega)
      case measure => simp [intOf]; omega
    · go_wp2_with fail
      go_ret
      refine ⟨_, rfl, PcAt.of_row1 Hr.out (Nat.le_refl _) (Nat.le_refl _) (by omega) (fun i hi => Ha.out i hi (by omega)), hb⟩

def mkPc (a : Int) : Pc := ⟨a, a + 1⟩
end Go.Proofs.YtbafifilklfafaaDoor
