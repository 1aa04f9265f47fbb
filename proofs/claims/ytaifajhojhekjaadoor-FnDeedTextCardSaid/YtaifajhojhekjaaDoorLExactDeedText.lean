/-
  The walk over the law FnExactDeedText.
-/
import Derived.Test.YtaifajhojhekjaaDoorTextA
namespace Go.Proofs.YtaifajhojhekjaaDoor
open Go.RowKit

theorem toDeed_any (s d g : Int) (w : World) :
    Calls Tryd.prog 18 #[.agg #[.int .i64 s, .int .i64 d, .int .i64 g]] w fun e w' => e = .returned (.agg #[.int .i64 s, .int .i64 d, .int .i64 g]) ∧ Below w.heap.size w w' := by
  go_enter Tryd.func18, Tryd.ntmps18
  go_wp2
  go_returns
  exact ⟨rfl, by go_grown⟩

/-- The box's cells behind a call. -/
theorem box3 {w0 W w' : World} {B : Nat} {u v x : Value} (hb : Below W.heap.size W w') (h0 : W.cell? ⟨B, 0, none⟩ = some u) (h1 : W.cell? ⟨B, 1, none⟩ = some v) (hx : W.cell? ⟨B, 2, none⟩ = some x) (h2 : B < W.heap.size) (h3 : Below w0.heap.size w0 W) :
    (w'.cell? ⟨B, 0, none⟩ = some u ∧ w'.cell? ⟨B, 1, none⟩ = some v ∧ w'.cell? ⟨B, 2, none⟩ = some x) ∧ B < w'.heap.size ∧ Below w0.heap.size w0 w' :=
  ⟨⟨by rw [hb.cell h2]; exact h0, by rw [hb.cell h2]; exact h1, by rw [hb.cell h2]; exact hx⟩, Nat.lt_of_lt_of_le h2 hb.size, Below.step h3 hb (Nat.le_refl _)⟩

set_option maxRecDepth 10000 in
theorem law_ExactDeedText (k o t : Int) (w : World) (hna : NamesIs w) (hpo : PowIs w) :
    Calls Tryd.prog 4 #[.agg #[.int .i64 k, .int .i64 o, .int .i64 t]] w fun e w' => e = .returned (.bool true) ∧ Below w.heap.size w w' := by
  go_enter Tryd.func4, Tryd.ntmps4
  go_wp2_with fail
  obtain ⟨wx, hwx⟩ : ∃ wx, wx = w.alloc (Obj.cells #[Value.int IntKind.i64 k, Value.int IntKind.i64 o, Value.int IntKind.i64 t] 30) := ⟨_, rfl⟩
  rw [← hwx]
  have hdb : Below w.heap.size w wx := by rw [hwx]; exact (Below.refl _ _).alloc (Nat.le_refl _) _
  have hd0 : wx.cell? ⟨w.heap.size, 0, none⟩ = some (.int .i64 k) := by rw [hwx]; simp [go_sem]
  have hd1 : wx.cell? ⟨w.heap.size, 1, none⟩ = some (.int .i64 o) := by rw [hwx]; simp [go_sem]
  have hd2 : wx.cell? ⟨w.heap.size, 2, none⟩ = some (.int .i64 t) := by rw [hwx]; simp [go_sem]
  have hdl : w.heap.size < wx.heap.size := by rw [hwx]; simp
  clear hwx
  refine (toDeed_any k o t _).mono ?_
  rintro e w1 ⟨rfl, hb1⟩
  obtain ⟨⟨c0, c1, c2⟩, cl, cb⟩ := box3 hb1 hd0 hd1 hd2 hdl hdb
  clear hb1 hd0 hd1 hd2 hdl hdb
  go_wp2_with fail
  refine (dt_spec k o t _).mono ?_
  rintro e w2 ⟨rfl, hb2⟩
  obtain ⟨⟨d0, d1, d2⟩, dl, db⟩ := box3 hb2 c0 c1 c2 cl cb
  clear hb2 c0 c1 c2 cl cb
  go_wp2_with fail
  refine (toDeed_any k o t _).mono ?_
  rintro e w3 ⟨rfl, hb3⟩
  obtain ⟨-, -, cb⟩ := box3 hb3 d0 d1 d2 dl db
  clear hb3 d0 d1 d2 dl db
  go_wp2_with fail
  refine (dt_impl k o t _ (hna.stays cb) (hpo.stays cb)).mono ?_
  rintro e w4 ⟨rfl, hb4⟩
  have HB := hide (Below.step cb hb4 (Nat.le_refl _))
  clear hb4 cb
  go_wp2_with fail
  go_ret
  exact ⟨rfl, HB.out⟩
end Go.Proofs.YtaifajhojhekjaaDoor
