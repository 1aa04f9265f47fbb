/-
  SpotOf, and the law FnExactSpotOf.
-/
import Derived.Test.YtdpijblhcjmicaaRows
import Derived.Test.YtdpijblhcjmicaaBase
import Derived.Test.YtdpijblhcjmicaaProg
namespace Go.Proofs.Ytdpijblhcjmicaa
open Go.RowKit

/-- The spot with a number. -/
def spotTop (n : Int) : Bool := if n < 0 then false else n % 2 == 1
def spotPlace (n : Int) : Int := if n < 0 then 0 else n / 2
def spotV (n : Int) : Value := .agg #[.bool (spotTop n), .int .i64 (spotPlace n)]

theorem spotOf_spec (n : Int) (w : World) (hn : -9223372036854775808 ≤ n ∧ n ≤ 9223372036854775807) :
    Calls Try.prog 8 #[.int .i64 n] w fun e w' => e = .returned (spotV n) ∧ Below w.heap.size w w' := by
  obtain ⟨h1, h2⟩ := hn
  by_cases hneg : n < 0
  all_goals
    go_enter Try.func8, Try.ntmps8
    go_wp2
    go_returns
    exact ⟨by simp [spotV, spotTop, spotPlace, hneg] <;> omega, by go_grown⟩

theorem spotOf_impl (n : Int) (w : World) (hn : -9223372036854775808 ≤ n ∧ n ≤ 9223372036854775807) :
    Calls Try.prog 9 #[.int .i64 n] w fun e w' => e = .returned (spotV n) ∧ Below w.heap.size w w' := by
  obtain ⟨h1, h2⟩ := hn
  by_cases hneg : n < 0
  all_goals
    go_enter Try.func9, Try.ntmps9
    go_wp2
    go_returns
    exact ⟨by simp [spotV, spotTop, spotPlace, hneg] <;> omega, by go_grown⟩

theorem eqSpot_any (a b : Bool) (p q : Int) (w : World) :
    Calls Try.prog 10 #[.agg #[.bool a, .int .i64 p], .agg #[.bool b, .int .i64 q]] w fun e w' => e = .returned (.bool (a == b && p == q)) ∧ Below w.heap.size w w' := by
  go_enter Try.func10, Try.ntmps10
  go_wp2
  all_goals
    go_ret
    exact ⟨by simp_all, by go_grown⟩

theorem law_SpotOf (n : Int) (w : World) (hn : -9223372036854775808 ≤ n ∧ n ≤ 9223372036854775807) :
    Calls Try.prog 3 #[.int .i64 n] w fun e w' => e = .returned (.bool true) ∧ Below w.heap.size w w' := by
  have HS := hide (fun w => spotOf_spec n w hn)
  have HI := hide (fun w => spotOf_impl n w hn)
  unfold spotV at HS HI
  go_enter Try.func3, Try.ntmps3
  go_wp2_with fail
  refine (HS.out _).mono ?_
  rintro e w1 ⟨rfl, hb1⟩
  go_wp2_with fail
  obtain ⟨wx, hwx⟩ : ∃ wx, wx = w1.alloc (Obj.cells #[Value.bool (spotTop n), Value.int IntKind.i64 (spotPlace n)] 23) := ⟨_, rfl⟩
  rw [← hwx]
  have hbx : Below w.heap.size w wx := by rw [hwx]; exact hb1.alloc hb1.size _
  have hsx : wx.heap.size = w1.heap.size + 1 := by rw [hwx]; simp
  have hr : wx.rowIs w1.heap.size 23 2 (fun i => if i = 0 then .bool (spotTop n) else .int .i64 (spotPlace n)) := by
    rw [hwx]
    exact World.rowIs_alloc w1 _ _ _ (by intro i hi; simp at hi; match i, hi with | 0, _ => rfl | 1, _ => rfl)
  clear hwx
  refine (HI.out _).mono ?_
  rintro e w2 ⟨rfl, hb2⟩
  have hr2 := rowIs_below hr hb2 (by omega)
  have hbw := Below.step hbx hb2 (Nat.le_refl _)
  have c0 : w2.cell? ⟨w1.heap.size, 0, none⟩ = some (.bool (spotTop n)) := by simpa using hr2.cell (i := 0) (by omega)
  have c1 : w2.cell? ⟨w1.heap.size, 1, none⟩ = some (.int .i64 (spotPlace n)) := by simpa using hr2.cell (i := 1) (by omega)
  have hlt : w1.heap.size < w2.heap.size := by have := hb2.size; omega
  clear hr hr2
  go_wp2_with fail
  refine (eqSpot_any _ _ _ _ _).mono ?_
  rintro e w3 ⟨rfl, hb3⟩
  have hE : (spotTop n == spotTop n && spotPlace n == spotPlace n) = true := by simp
  go_wp2_with fail
  go_ret
  exact ⟨rfl, Below.step (hbw.alloc hbw.size _) hb3 (Nat.le_refl _)⟩
end Go.Proofs.Ytdpijblhcjmicaa
