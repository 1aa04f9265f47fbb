/-
  The walks over the laws FnExactJobsValid, FnExactTwoEnd, ..: each answers true, whatever the input, and leaves all old memory alone.
-/
import Derived.Test.YtmkkefkdeoennaaWalkB
namespace Go.Proofs.Ytmkkefkdeoennaa
open Go.RowKit

theorem bstep {a w w1 : World} (h : Below a.heap.size a w) (k : Below w.heap.size w w1) : Below a.heap.size a w1 := Below.step h k (Nat.le_refl _)

theorem szI_lt {n : Nat} (h : ¬ n ≤ 1048576) : szI 1048576 n = -1 := by unfold szI; rw [if_pos (by omega)]
theorem szI_ge {n : Nat} (h : n ≤ 1048576) : szI 1048576 n = 1048576 - n := by unfold szI; rw [if_neg (by omega)]

theorem law_JobsValid (v : Value) (js : List J) (w : World) (h : JobsAt 0 w.heap.size w v js) :
    Calls Try.prog 4 #[v] w fun e w' => e = .returned (.bool true) ∧ Below w.heap.size w w' := by
  by_cases hn : js.length ≤ 1048576
  · go_enter Try.func4, Try.ntmps4
    go_wp2_with fail
    refine (szJobS_any v js 0 w.heap.size _ w h (by omega) (by omega)).mono ?_
    rw [szI_ge hn]
    rintro e w' ⟨rfl, rfl⟩
    go_wp2_with fail
    refine (toJobS_any v js 0 _ w h (by omega)).mono ?_
    rintro e w1 ⟨v1, rfl, h1, hb1⟩
    have k1 := h.below hb1
    go_wp2_with fail
    refine (jsv_spec v1 js _ _ w1 h1).mono ?_
    rintro e w2 ⟨rfl, hb2⟩
    have k2 := k1.below hb2
    go_wp2_with fail
    refine (toJobS_any v js 0 _ w2 k2 (by omega)).mono ?_
    rintro e w3 ⟨v3, rfl, h3, hb3⟩
    have k3 := k2.below hb3
    go_wp2_with fail
    refine (jsv_impl v3 js _ _ w3 h3).mono ?_
    rintro e w4 ⟨rfl, hb4⟩
    have k4 := k3.below hb4
    have h4 := h3.below hb4
    go_wp2_with fail
    refine (toJobS_any v js 0 _ w4 k4 (by omega)).mono ?_
    rintro e w5 ⟨v5, rfl, h5, hb5⟩
    have h5' := h4.below hb5
    go_wp2_with fail
    refine (eqJobS_any v3 v5 js js _ _ _ _ w5 h5' h5).mono ?_
    rintro e w6 ⟨rfl, hb6⟩
    go_wp2_with fail
    go_ret
    exact ⟨rfl, bstep (bstep (bstep (bstep (bstep hb1 hb2) hb3) hb4) hb5) hb6⟩
  · go_enter Try.func4, Try.ntmps4
    go_wp2_with fail
    refine (szJobS_any v js 0 w.heap.size _ w h (by omega) (by omega)).mono ?_
    rw [szI_lt hn]
    rintro e w' ⟨rfl, rfl⟩
    go_wp2_with fail
    go_ret
    exact ⟨rfl, Below.refl _ _⟩
theorem law_JobValid (s d g : Int) (w : World) :
    Calls Try.prog 3 #[.agg #[.int .i64 s, .int .i64 d, .int .i64 g]] w fun e w' => e = .returned (.bool true) ∧ Below w.heap.size w w' := by
  go_enter Try.func3, Try.ntmps3
  go_wp2_with fail
  refine (toJob_any _ _ _ _).mono ?_
  rintro e w1 ⟨rfl, hb1⟩
  go_wp2_with fail
  refine (jv_spec _ _ _ _).mono ?_
  rintro e w2 ⟨rfl, hb2⟩
  have hB2 : Below (w.heap.size + 1) (w.alloc (.cells #[.int .i64 s, .int .i64 d, .int .i64 g] 23)) w2 := Below.step (hb1.mono (by simp)) hb2 (by simp)
  have hc1 : w2.cell? ⟨w.heap.size, 0, none⟩ = some (.int .i64 s) := by rw [hB2.cell (by simp)]; simp [go_sem]
  have hc2 : w2.cell? ⟨w.heap.size, 1, none⟩ = some (.int .i64 d) := by rw [hB2.cell (by simp)]; simp [go_sem]
  have hc3 : w2.cell? ⟨w.heap.size, 2, none⟩ = some (.int .i64 g) := by rw [hB2.cell (by simp)]; simp [go_sem]
  go_wp2_with fail
  refine (toJob_any _ _ _ _).mono ?_
  rintro e w3 ⟨rfl, hb3⟩
  go_wp2_with fail
  refine (jv_impl _ _ _ _).mono ?_
  rintro e w4 ⟨rfl, hb4⟩
  go_wp2_with fail
  go_ret
  refine ⟨rfl, ?_⟩
  have h := ((Below.refl w.heap.size w).alloc (Nat.le_refl _) (.cells #[.int .i64 s, .int .i64 d, .int .i64 g] 23)).trans (hB2.mono (by omega))
  exact Below.step (Below.step h hb3 (Nat.le_refl _)) hb4 (Nat.le_refl _)

end Go.Proofs.Ytmkkefkdeoennaa
