/-
  What the draws of the laws give: some jobs; some jobs and some ints.
-/
import Derived.Test.YtfjemnjdkniibaaDoorDrawB
namespace Go.Proofs.YtfjemnjdkniibaaDoor
open Go.RowKit

def ListGot (w : World) (e : Ending) (w' : World) : Prop := ∃ v js, e = .returned v ∧ js.length ≤ 7 ∧ (∃ g c, v = .slice (some ⟨g, 0, none⟩) js.length c) ∧ JobsAt w.heap.size w'.heap.size w' v js ∧ Below w.heap.size w w'
def PairGot (w : World) (e : Ending) (w' : World) : Prop :=
  ∃ v js v1 bs, e = .returned (.tuple #[v, v1]) ∧ js.length ≤ 7 ∧ bs.length ≤ 9 ∧ JobsAt w.heap.size w'.heap.size w' v js ∧ IntsAt w.heap.size w'.heap.size w' v1 bs ∧ Below w.heap.size w w'
theorem list_got {w w1 w2 : World} {R : Nat} {v : Value} {js : List J} (hb : Below w.heap.size w w1) (hR : w.heap.size ≤ R) (hl : js.length ≤ 7) (hnn : ∃ g c, v = .slice (some ⟨g, 0, none⟩) js.length c) (hj : JobsAt w1.heap.size w2.heap.size w2 v js) (ho : Other R (R + 1) w1 w2) : ListGot w (.returned v) w2 :=
  ⟨v, js, rfl, hl, hnn, hj.mono hb.size (Nat.le_refl _) (Nat.le_refl _), hb.trans (ho.below hR hb.size)⟩
theorem pair_got {w w1 w2 : World} {R : Nat} {v v1 : Value} {js : List J} {bs : List Int} (hb : Below w.heap.size w w1) (hR : w.heap.size ≤ R) (hl : js.length ≤ 7) (hbl : bs.length ≤ 9) (hj : JobsAt w1.heap.size w2.heap.size w2 v js) (hi : IntsAt w1.heap.size w2.heap.size w2 v1 bs) (ho : Other R (R + 1) w1 w2) :
    PairGot w (.returned (.tuple #[v, v1])) w2 :=
  ⟨v, js, v1, bs, rfl, hl, hbl, hj.mono hb.size (Nat.le_refl _) (Nat.le_refl _), hi.mono hb.size (Nat.le_refl _) (Nat.le_refl _), hb.trans (ho.below hR hb.size)⟩

theorem drawJobsValid (v : Value) (n : Nat) (w : World) (h : BytesAt 0 w.heap.size w v n) : Calls Tryd.prog 23 #[v] w (ListGot w) := by
  have HB := hide h
  clear h
  go_enter Tryd.func23, Tryd.ntmps23
  go_wp2_with fail
  refine (open_any v n _ HB.out).mono ?_
  rintro e w1 ⟨R, rfl, hR, hb1, hr1⟩
  go_wp2_with fail
  refine (l20Jobs_any R 0 2 _ hr1 (by omega) (by omega) (by omega)).mono ?_
  rintro e w2 ⟨v1, js, rfl, hl, hnn, hj, ho, hr⟩
  have HF := hide (list_got hb1 hR hl hnn hj ho)
  clear hj ho hr hr1 hb1
  go_wp2_with fail
  go_ret
  exact HF.out
theorem drawDueOrder (v : Value) (n : Nat) (w : World) (h : BytesAt 0 w.heap.size w v n) : Calls Tryd.prog 51 #[v] w (ListGot w) := by
  have HB := hide h
  clear h
  go_enter Tryd.func51, Tryd.ntmps51
  go_wp2_with fail
  refine (open_any v n _ HB.out).mono ?_
  rintro e w1 ⟨R, rfl, hR, hb1, hr1⟩
  go_wp2_with fail
  refine (l20Jobs_any R 0 9 _ hr1 (by omega) (by omega) (by omega)).mono ?_
  rintro e w2 ⟨v1, js, rfl, hl, hnn, hj, ho, hr⟩
  have HF := hide (list_got hb1 hR hl hnn hj ho)
  clear hj ho hr hr1 hb1
  go_wp2_with fail
  go_ret
  exact HF.out
theorem drawWeightOrder (v : Value) (n : Nat) (w : World) (h : BytesAt 0 w.heap.size w v n) : Calls Tryd.prog 47 #[v] w (ListGot w) := by
  have HB := hide h
  clear h
  go_enter Tryd.func47, Tryd.ntmps47
  go_wp2_with fail
  refine (open_any v n _ HB.out).mono ?_
  rintro e w1 ⟨R, rfl, hR, hb1, hr1⟩
  go_wp2_with fail
  refine (l20Jobs_any R 0 9 _ hr1 (by omega) (by omega) (by omega)).mono ?_
  rintro e w2 ⟨v1, js, rfl, hl, hnn, hj, ho, hr⟩
  have HF := hide (list_got hb1 hR hl hnn hj ho)
  clear hj ho hr hr1 hb1
  go_wp2_with fail
  go_ret
  exact HF.out
theorem drawOnTime (v : Value) (n : Nat) (w : World) (h : BytesAt 0 w.heap.size w v n) : Calls Tryd.prog 61 #[v] w (ListGot w) := by
  have HB := hide h
  clear h
  go_enter Tryd.func61, Tryd.ntmps61
  go_wp2_with fail
  refine (open_any v n _ HB.out).mono ?_
  rintro e w1 ⟨R, rfl, hR, hb1, hr1⟩
  go_wp2_with fail
  refine (l20Jobs_any R 0 9 _ hr1 (by omega) (by omega) (by omega)).mono ?_
  rintro e w2 ⟨v1, js, rfl, hl, hnn, hj, ho, hr⟩
  have HF := hide (list_got hb1 hR hl hnn hj ho)
  clear hj ho hr hr1 hb1
  go_wp2_with fail
  go_ret
  exact HF.out
theorem drawFewestLate (v : Value) (n : Nat) (w : World) (h : BytesAt 0 w.heap.size w v n) : Calls Tryd.prog 69 #[v] w (ListGot w) := by
  have HB := hide h
  clear h
  go_enter Tryd.func69, Tryd.ntmps69
  go_wp2_with fail
  refine (open_any v n _ HB.out).mono ?_
  rintro e w1 ⟨R, rfl, hR, hb1, hr1⟩
  go_wp2_with fail
  refine (l20Jobs_any R 0 9 _ hr1 (by omega) (by omega) (by omega)).mono ?_
  rintro e w2 ⟨v1, js, rfl, hl, hnn, hj, ho, hr⟩
  have HF := hide (list_got hb1 hR hl hnn hj ho)
  clear hj ho hr hr1 hb1
  go_wp2_with fail
  go_ret
  exact HF.out
theorem drawTwoBest (v : Value) (n : Nat) (w : World) (h : BytesAt 0 w.heap.size w v n) : Calls Tryd.prog 33 #[v] w (ListGot w) := by
  have HB := hide h
  clear h
  go_enter Tryd.func33, Tryd.ntmps33
  go_wp2_with fail
  refine (open_any v n _ HB.out).mono ?_
  rintro e w1 ⟨R, rfl, hR, hb1, hr1⟩
  go_wp2_with fail
  refine (l20Jobs_any R 0 9 _ hr1 (by omega) (by omega) (by omega)).mono ?_
  rintro e w2 ⟨v1, js, rfl, hl, hnn, hj, ho, hr⟩
  have HF := hide (list_got hb1 hR hl hnn hj ho)
  clear hj ho hr hr1 hb1
  go_wp2_with fail
  go_ret
  exact HF.out
theorem drawTwoLong (v : Value) (n : Nat) (w : World) (h : BytesAt 0 w.heap.size w v n) : Calls Tryd.prog 44 #[v] w (ListGot w) := by
  have HB := hide h
  clear h
  go_enter Tryd.func44, Tryd.ntmps44
  go_wp2_with fail
  refine (open_any v n _ HB.out).mono ?_
  rintro e w1 ⟨R, rfl, hR, hb1, hr1⟩
  go_wp2_with fail
  refine (l20Jobs_any R 0 9 _ hr1 (by omega) (by omega) (by omega)).mono ?_
  rintro e w2 ⟨v1, js, rfl, hl, hnn, hj, ho, hr⟩
  have HF := hide (list_got hb1 hR hl hnn hj ho)
  clear hj ho hr hr1 hb1
  go_wp2_with fail
  go_ret
  exact HF.out
theorem drawJobEnds (v : Value) (n : Nat) (w : World) (h : BytesAt 0 w.heap.size w v n) : Calls Tryd.prog 35 #[v] w (PairGot w) := by
  have HB := hide h
  clear h
  go_enter Tryd.func35, Tryd.ntmps35
  go_wp2_with fail
  refine (open_any v n _ HB.out).mono ?_
  rintro e w1 ⟨R, rfl, hR, hb1, hr1⟩
  go_wp2_with fail
  refine (worked_any R 0 _ hr1 (by omega)).mono ?_
  rintro e w2 ⟨v1, js, v2, bs, rfl, hl, hbl, hj, hi, ho, hr⟩
  have HF := hide (pair_got hb1 hR hl hbl hj hi ho)
  clear hj hi ho hr hr1 hb1
  go_wp2_with fail
  go_ret2
  exact HF.out
theorem drawJobsLate (v : Value) (n : Nat) (w : World) (h : BytesAt 0 w.heap.size w v n) : Calls Tryd.prog 66 #[v] w (PairGot w) := by
  have HB := hide h
  clear h
  go_enter Tryd.func66, Tryd.ntmps66
  go_wp2_with fail
  refine (open_any v n _ HB.out).mono ?_
  rintro e w1 ⟨R, rfl, hR, hb1, hr1⟩
  go_wp2_with fail
  refine (worked_any R 0 _ hr1 (by omega)).mono ?_
  rintro e w2 ⟨v1, js, v2, bs, rfl, hl, hbl, hj, hi, ho, hr⟩
  have HF := hide (pair_got hb1 hR hl hbl hj hi ho)
  clear hj hi ho hr hr1 hb1
  go_wp2_with fail
  go_ret2
  exact HF.out
theorem drawWorstLate (v : Value) (n : Nat) (w : World) (h : BytesAt 0 w.heap.size w v n) : Calls Tryd.prog 57 #[v] w (PairGot w) := by
  have HB := hide h
  clear h
  go_enter Tryd.func57, Tryd.ntmps57
  go_wp2_with fail
  refine (open_any v n _ HB.out).mono ?_
  rintro e w1 ⟨R, rfl, hR, hb1, hr1⟩
  go_wp2_with fail
  refine (worked_any R 0 _ hr1 (by omega)).mono ?_
  rintro e w2 ⟨v1, js, v2, bs, rfl, hl, hbl, hj, hi, ho, hr⟩
  have HF := hide (pair_got hb1 hR hl hbl hj hi ho)
  clear hj hi ho hr hr1 hb1
  go_wp2_with fail
  go_ret2
  exact HF.out
theorem drawEndSum (v : Value) (n : Nat) (w : World) (h : BytesAt 0 w.heap.size w v n) : Calls Tryd.prog 55 #[v] w (PairGot w) := by
  have HB := hide h
  clear h
  go_enter Tryd.func55, Tryd.ntmps55
  go_wp2_with fail
  refine (open_any v n _ HB.out).mono ?_
  rintro e w1 ⟨R, rfl, hR, hb1, hr1⟩
  go_wp2_with fail
  refine (worked_any R 0 _ hr1 (by omega)).mono ?_
  rintro e w2 ⟨v1, js, v2, bs, rfl, hl, hbl, hj, hi, ho, hr⟩
  have HF := hide (pair_got hb1 hR hl hbl hj hi ho)
  clear hj hi ho hr hr1 hb1
  go_wp2_with fail
  go_ret2
  exact HF.out
theorem drawBeforeValid (v : Value) (n : Nat) (w : World) (h : BytesAt 0 w.heap.size w v n) : Calls Tryd.prog 30 #[v] w (PairGot w) := by
  have HB := hide h
  clear h
  go_enter Tryd.func30, Tryd.ntmps30
  go_wp2_with fail
  refine (open_any v n _ HB.out).mono ?_
  rintro e w1 ⟨R, rfl, hR, hb1, hr1⟩
  go_wp2_with fail
  refine (before_any R 0 2 _ hr1 (by omega) (by omega) (by omega)).mono ?_
  rintro e w2 ⟨v1, js, v2, bs, rfl, hl, hbl, hj, hi, ho, hr⟩
  have HF := hide (pair_got hb1 hR hl hbl hj hi ho)
  clear hj hi ho hr hr1 hb1
  go_wp2_with fail
  go_ret2
  exact HF.out
theorem drawBeforeBest (v : Value) (n : Nat) (w : World) (h : BytesAt 0 w.heap.size w v n) : Calls Tryd.prog 59 #[v] w (PairGot w) := by
  have HB := hide h
  clear h
  go_enter Tryd.func59, Tryd.ntmps59
  go_wp2_with fail
  refine (open_any v n _ HB.out).mono ?_
  rintro e w1 ⟨R, rfl, hR, hb1, hr1⟩
  go_wp2_with fail
  refine (before_any R 0 9 _ hr1 (by omega) (by omega) (by omega)).mono ?_
  rintro e w2 ⟨v1, js, v2, bs, rfl, hl, hbl, hj, hi, ho, hr⟩
  have HF := hide (pair_got hb1 hR hl hbl hj hi ho)
  clear hj hi ho hr hr1 hb1
  go_wp2_with fail
  go_ret2
  exact HF.out
end Go.Proofs.YtfjemnjdkniibaaDoor
