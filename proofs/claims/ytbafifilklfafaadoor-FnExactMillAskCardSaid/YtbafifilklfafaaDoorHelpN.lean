/-
  The walks over the laws' helpers: comparisons, sizes, marks of piles and of mills.
-/
import Derived.Test.YtbafifilklfafaaDoorHelpM
namespace Go.Proofs.YtbafifilklfafaaDoor
open Go.RowKit

set_option maxHeartbeats 400000 in
theorem eqIntS_any (v v' : Value) (xs ys : List Int) (lo hi lo' hi' : Nat) (w : World) (h : IntsAt lo hi w v xs) (h' : IntsAt lo' hi' w v' ys) :
    Calls Tryd.prog 86 #[v, v'] w fun e w' => e = .returned (.bool (decide (xs = ys))) ∧ Below w.heap.size w w' := by
  obtain ⟨ao, cap, rfl, hlc, hcap, hhi, hc⟩ := h
  obtain ⟨ao', cap', rfl, hlc', hcap', hhi', hc'⟩ := h'
  have Hc := hide hc
  have Hc' := hide hc'
  clear hc hc'
  by_cases hl : xs.length = ys.length
  · have HL := hide hl
    have hlB : ((xs.length : Int) != (ys.length : Int)) = false := by simp [hl]
    clear hl
    go_enter Tryd.func86, Tryd.ntmps86
    go_wp2_with fail
    go_loopw [5] (fun i wr => ∃ k : Nat, k ≤ xs.length ∧ i = .int .i64 k ∧ Below w.heap.size w wr ∧ xs.take k = ys.take k) (fun i _ => xs.length - (intOf i).toNat)
    case atStart => exact ⟨0, Nat.zero_le _, rfl, Below.refl _ _, rfl⟩
    case round =>
      obtain ⟨k, hk, rfl, hb, hall⟩ := hrel
      have Ha := hide hall
      clear hall
      by_cases hlt : k < xs.length
      · have hlt' : k < ys.length := by have := HL.out; omega
        obtain ⟨b, o, rfl, hb1, hb2, hcs⟩ := Hc.out (by omega)
        obtain ⟨b', o', rfl, hb1', hb2', hcs'⟩ := Hc'.out (by omega)
        obtain ⟨h1, -⟩ := hcs k hlt
        obtain ⟨h1', -⟩ := hcs' k hlt'
        rw [← hb.cell (p := ⟨_, _, none⟩) (by simpa using by omega)] at h1 h1'
        clear hcs hcs'
        have hi1 : (k : Int) < (xs.length : Int) := by omega
        have hi2 : (k : Int) < (ys.length : Int) := by omega
        by_cases hq : xs[k] = ys[k]
        · have hqB : (xs[k] != ys[k]) = false := by simp [hq]
          have hall' : xs.take (k + 1) = ys.take (k + 1) := by
            rw [List.take_succ_eq_append_getElem hlt, List.take_succ_eq_append_getElem hlt', Ha.out, hq]
          have Ha' := hide hall'
          clear hq hall'
          go_wp2_with fail
          go_quiet (fail)
          go_wp2_with fail
          go_roundw
          case rel => exact ⟨k + 1, by omega, by go_num, below_drewN hb _, Ha'.out⟩
          case measure => simp [intOf]; omega
        · have hqB : (xs[k] != ys[k]) = true := by simp [hq]
          have HQ := hide hq
          clear hq
          go_wp2_with fail
          go_quiet (fail)
          go_wp2_with fail
          go_ret
          refine ⟨?_, below_drewN hb _⟩
          have hne : xs ≠ ys := by
            intro e
            subst e
            exact HQ.out rfl
          simp [hne]
      · go_wp2_with fail
        go_ret
        refine ⟨?_, hb⟩
        have e : xs = ys := by
          have := Ha.out
          rw [List.take_of_length_le (by omega), List.take_of_length_le (by have := HL.out; omega)] at this
          exact this
        simp [e]
  · have hlB : ((xs.length : Int) != (ys.length : Int)) = true := by simp; omega
    go_enter Tryd.func86, Tryd.ntmps86
    go_wp2_with fail
    go_ret
    exact ⟨by simp; intro h; exact hl (by rw [h]), Below.refl _ _⟩
theorem eqPile_same (l h l' h' : Value) (lo hi : List Int) (w : World) (Hl : IntsAt 0 w.heap.size w l lo) (Hh : IntsAt 0 w.heap.size w h hi) (Hl' : IntsAt 0 w.heap.size w l' lo) (Hh' : IntsAt 0 w.heap.size w h' hi) :
    Calls Tryd.prog 61 #[pileV l h, pileV l' h'] w fun e w' => e = .returned (.bool true) ∧ Below w.heap.size w w' := by
  have HL := hide Hl
  have HH := hide Hh
  have HL' := hide Hl'
  have HH' := hide Hh'
  unfold pileV
  clear Hl Hh Hl' Hh'
  go_enter Tryd.func61, Tryd.ntmps61
  go_wp2_with fail
  refine calls_at fun wx hwx => ?_
  have R1 : RowL wx w.heap.size 50 [l, h] := by rw [hwx]; exact (RowL.new _ _ _).alloc _
  have R2 : RowL wx (w.heap.size + 1) 50 [l', h'] := by rw [hwx]; simpa using RowL.new (w.alloc _) 50 [l', h']
  have hb0 : Below w.heap.size w wx := by rw [hwx]; go_grown
  clear hwx
  refine (eqIntS_any l l' lo lo _ _ _ _ _ (HL.out.below hb0) (HL'.out.below hb0)).mono ?_
  rintro e w1 ⟨rfl, hb1⟩
  have hdec : decide (lo = lo) = true := by simp
  rw [hdec]
  have R1b := R1.below hb1 R1.lt
  have R2b := R2.below hb1 R2.lt
  have HB1 := hide (Below.step hb0 hb1 (Nat.le_refl _))
  have c1 : w1.cell? ⟨w.heap.size, 1, none⟩ = some h := R1b.cell 1 (by simp)
  have c2 : w1.cell? ⟨w.heap.size + 1, 1, none⟩ = some h' := R2b.cell 1 (by simp)
  clear hb1 hdec
  go_wp2_with fail
  refine (eqIntS_any h h' hi hi _ _ _ _ _ (HH.out.below HB1.out) (HH'.out.below HB1.out)).mono ?_
  rintro e w2 ⟨rfl, hb2⟩
  have hdec : decide (hi = hi) = true := by simp
  rw [hdec]
  have HB2 := hide (Below.step HB1.out hb2 (Nat.le_refl _))
  clear hb2 hdec c1 c2
  go_wp2_with fail
  go_ret
  exact ⟨rfl, HB2.out⟩
theorem szIntS_any (v : Value) (xs : List Int) (lo hi : Nat) (left : Int) (w : World) (h : IntsAt lo hi w v xs) (h1 : 0 ≤ left) (h2 : left ≤ 1048576) :
    Calls Tryd.prog 70 #[v, .int .i64 left] w fun e w' => e = .returned (.int .i64 (szI left xs.length)) ∧ w = w' := by
  have hl := h.len
  obtain ⟨ao, cap, rfl, hlc, hcap, hhi, hc⟩ := h
  have Hc := hide hc
  clear hc
  go_enter Tryd.func70, Tryd.ntmps70
  go_wp2
  all_goals
    go_ret
    refine ⟨?_, rfl⟩
    unfold szI
    first | (rw [if_pos (by omega)]; rfl) | (rw [if_neg (by omega)]; rfl)
theorem szI_no {left : Int} {n : Nat} (h : left < (n : Int)) : szI left n = -1 := by unfold szI; rw [if_pos (by omega)]
theorem szI_yes {left : Int} {n : Nat} (h : (n : Int) ≤ left) : szI left n = left - n := by unfold szI; rw [if_neg (by omega)]
theorem szPile_any (l h : Value) (lo hi : List Int) (left : Int) (w : World) (Hl : IntsAt 0 w.heap.size w l lo) (Hh : IntsAt 0 w.heap.size w h hi) (h1 : 0 ≤ left) (h2 : left ≤ 1048576) :
    Calls Tryd.prog 44 #[pileV l h, .int .i64 left] w fun e w' => e = .returned (.int .i64 (szI left (lo.length + hi.length))) ∧ Below w.heap.size w w' := by
  have HL := hide Hl
  have HH := hide Hh
  unfold pileV
  clear Hl Hh
  by_cases g1 : (lo.length : Int) ≤ left
  · by_cases g2 : ((lo.length + hi.length : Nat) : Int) ≤ left
    · rw [szI_yes g2]
      go_enter Tryd.func44, Tryd.ntmps44
      go_wp2_with fail
      refine (szIntS_any l lo _ _ left _ (HL.out.below ((Below.refl _ _).alloc (Nat.le_refl _) _)) h1 h2).mono ?_
      rw [szI_yes g1]
      rintro e w1 ⟨rfl, rfl⟩
      go_wp2_with fail
      refine (szIntS_any h hi _ _ (left - lo.length) _ (HH.out.below ((Below.refl _ _).alloc (Nat.le_refl _) _)) (by omega) (by omega)).mono ?_
      rw [szI_yes (show (hi.length : Int) ≤ left - lo.length by omega)]
      rintro e w1 ⟨rfl, rfl⟩
      go_wp2_with fail
      go_ret
      exact ⟨by rw [Int.natCast_add, ← Int.sub_sub]; rfl, by go_grown⟩
    · rw [szI_no (by omega)]
      go_enter Tryd.func44, Tryd.ntmps44
      go_wp2_with fail
      refine (szIntS_any l lo _ _ left _ (HL.out.below ((Below.refl _ _).alloc (Nat.le_refl _) _)) h1 h2).mono ?_
      rw [szI_yes g1]
      rintro e w1 ⟨rfl, rfl⟩
      go_wp2_with fail
      refine (szIntS_any h hi _ _ (left - lo.length) _ (HH.out.below ((Below.refl _ _).alloc (Nat.le_refl _) _)) (by omega) (by omega)).mono ?_
      rw [szI_no (by omega)]
      rintro e w1 ⟨rfl, rfl⟩
      go_wp2_with fail
      go_ret
      exact ⟨rfl, by go_grown⟩
  · rw [szI_no (by omega)]
    go_enter Tryd.func44, Tryd.ntmps44
    go_wp2_with fail
    refine (szIntS_any l lo _ _ left _ (HL.out.below ((Below.refl _ _).alloc (Nat.le_refl _) _)) h1 h2).mono ?_
    rw [szI_no (by omega)]
    rintro e w1 ⟨rfl, rfl⟩
    go_wp2_with fail
    go_ret
    exact ⟨rfl, by go_grown⟩
/-- How many elements a mill has. -/
def sizeM (m : Mi) : Nat := m.store.length + m.pieces.length + (m.low.length + m.high.length)
set_option maxRecDepth 10000 in
theorem szMill_any (s p l h : Value) (m : Mi) (left : Int) (w : World) (H : MillIn 0 w.heap.size w s p l h m) (h1 : 0 ≤ left) (h2 : left ≤ 1048576) :
    Calls Tryd.prog 16 #[millV s p l h m, .int .i64 left] w fun e w' => e = .returned (.int .i64 (szI left (sizeM m))) ∧ Below w.heap.size w w' := by
  have VS := hide H.store
  have VP := hide H.pieces
  have VL := hide H.low
  have VH := hide H.high
  clear H
  unfold millV
  have hc : (¬ (m.store.length : Int) ≤ left) ∨ ((m.store.length : Int) ≤ left ∧ ¬ (m.pieces.length : Int) ≤ left - m.store.length) ∨ ((m.store.length : Int) ≤ left ∧ (m.pieces.length : Int) ≤ left - m.store.length ∧ ¬ ((m.low.length + m.high.length : Nat) : Int) ≤ left - m.store.length - m.pieces.length) ∨
      ((m.store.length : Int) ≤ left ∧ (m.pieces.length : Int) ≤ left - m.store.length ∧ ((m.low.length + m.high.length : Nat) : Int) ≤ left - m.store.length - m.pieces.length) := by omega
  have e : szI left (sizeM m) = if (m.store.length : Int) ≤ left ∧ (m.pieces.length : Int) ≤ left - m.store.length ∧ ((m.low.length + m.high.length : Nat) : Int) ≤ left - m.store.length - m.pieces.length then left - m.store.length - m.pieces.length - (m.low.length + m.high.length : Nat) else -1 := by
    unfold szI sizeM
    split <;> split <;> omega
  rw [e]
  rcases hc with g1 | ⟨g1, g2⟩ | ⟨g1, g2, g3⟩ | ⟨g1, g2, g3⟩
  · rw [if_neg (fun h => g1 h.1)]
    go_enter Tryd.func16, Tryd.ntmps16
    go_wp2_with fail
    refine (szStuffS_any s m.store _ _ left _ (VS.out.below ((Below.refl _ _).alloc (Nat.le_refl _) _)) h1 h2).mono ?_
    rw [szI_no (by omega)]
    rintro e w1 ⟨rfl, rfl⟩
    go_wp2_with fail
    go_ret
    exact ⟨rfl, by go_grown⟩
  · rw [if_neg (fun h => g2 h.2.1)]
    go_enter Tryd.func16, Tryd.ntmps16
    go_wp2_with fail
    refine (szStuffS_any s m.store _ _ left _ (VS.out.below ((Below.refl _ _).alloc (Nat.le_refl _) _)) h1 h2).mono ?_
    rw [szI_yes g1]
    rintro e w1 ⟨rfl, rfl⟩
    go_wp2_with fail
    refine (szPieceS_any p m.pieces _ _ (left - m.store.length) _ (VP.out.below ((Below.refl _ _).alloc (Nat.le_refl _) _)) (by omega) (by omega)).mono ?_
    rw [szI_no (by omega)]
    rintro e w1 ⟨rfl, rfl⟩
    go_wp2_with fail
    go_ret
    exact ⟨rfl, by go_grown⟩
  · rw [if_neg (fun h => g3 h.2.2)]
    go_enter Tryd.func16, Tryd.ntmps16
    go_wp2_with fail
    refine (szStuffS_any s m.store _ _ left _ (VS.out.below ((Below.refl _ _).alloc (Nat.le_refl _) _)) h1 h2).mono ?_
    rw [szI_yes g1]
    rintro e w1 ⟨rfl, rfl⟩
    go_wp2_with fail
    refine (szPieceS_any p m.pieces _ _ (left - m.store.length) _ (VP.out.below ((Below.refl _ _).alloc (Nat.le_refl _) _)) (by omega) (by omega)).mono ?_
    rw [szI_yes g2]
    rintro e w1 ⟨rfl, rfl⟩
    go_wp2_with fail
    refine calls_at fun wx hwx => ?_
    have hb0 : Below w.heap.size w wx := by rw [hwx]; go_grown
    clear hwx
    refine (szPile_any l h m.low m.high (left - m.store.length - m.pieces.length) _ ((VL.out.below hb0).mono (Nat.le_refl _) hb0.size (Nat.le_refl _)) ((VH.out.below hb0).mono (Nat.le_refl _) hb0.size (Nat.le_refl _)) (by omega) (by omega)).mono ?_
    rw [szI_no (by omega)]
    rintro e w1 ⟨rfl, hb1⟩
    have HB1 := hide (Below.step hb0 hb1 (Nat.le_refl _))
    clear hb1
    go_wp2_with fail
    go_ret
    exact ⟨rfl, HB1.out⟩
  · rw [if_pos ⟨g1, g2, g3⟩]
    go_enter Tryd.func16, Tryd.ntmps16
    go_wp2_with fail
    refine (szStuffS_any s m.store _ _ left _ (VS.out.below ((Below.refl _ _).alloc (Nat.le_refl _) _)) h1 h2).mono ?_
    rw [szI_yes g1]
    rintro e w1 ⟨rfl, rfl⟩
    go_wp2_with fail
    refine (szPieceS_any p m.pieces _ _ (left - m.store.length) _ (VP.out.below ((Below.refl _ _).alloc (Nat.le_refl _) _)) (by omega) (by omega)).mono ?_
    rw [szI_yes g2]
    rintro e w1 ⟨rfl, rfl⟩
    go_wp2_with fail
    refine calls_at fun wx hwx => ?_
    have hb0 : Below w.heap.size w wx := by rw [hwx]; go_grown
    clear hwx
    refine (szPile_any l h m.low m.high (left - m.store.length - m.pieces.length) _ ((VL.out.below hb0).mono (Nat.le_refl _) hb0.size (Nat.le_refl _)) ((VH.out.below hb0).mono (Nat.le_refl _) hb0.size (Nat.le_refl _)) (by omega) (by omega)).mono ?_
    rw [szI_yes g3]
    rintro e w1 ⟨rfl, hb1⟩
    have HB1 := hide (Below.step hb0 hb1 (Nat.le_refl _))
    have hr : 0 ≤ left - m.store.length - m.pieces.length - (m.low.length + m.high.length : Nat) := by omega
    clear hb1
    go_wp2_with fail
    go_ret
    exact ⟨rfl, HB1.out⟩
end Go.Proofs.YtbafifilklfafaaDoor
