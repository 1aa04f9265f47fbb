/-
  The walk over the law FnExactReadDeed.
-/
import Derived.Test.YtaifajhojhekjaaDoorPlainRD
import Derived.Test.YtaifajhojhekjaaDoorLExactDeedText
namespace Go.Proofs.YtaifajhojhekjaaDoor
open Go.RowKit

theorem eqDeed_any (s d g s' d' g' : Int) (w : World) :
    Calls Tryd.prog 27 #[.agg #[.int .i64 s, .int .i64 d, .int .i64 g], .agg #[.int .i64 s', .int .i64 d', .int .i64 g']] w fun e w' => e = .returned (.bool (jeq ⟨s, d, g⟩ ⟨s', d', g'⟩)) ∧ Below w.heap.size w w' := by
  go_enter Tryd.func27, Tryd.ntmps27
  go_wp2
  all_goals
    go_ret
    exact ⟨by simp_all [jeq], by go_grown⟩
theorem eqDeed_same (s d g : Int) (w : World) :
    Calls Tryd.prog 27 #[.agg #[.int .i64 s, .int .i64 d, .int .i64 g], .agg #[.int .i64 s, .int .i64 d, .int .i64 g]] w fun e w' => e = .returned (.bool true) ∧ Below w.heap.size w w' :=
  (eqDeed_any s d g s d g w).mono fun e w' ⟨he, hb⟩ => ⟨by rw [he]; simp [jeq], hb⟩
theorem deedV_form (r : Option (Int × Int × Int)) : ∃ k o t b, deedV r = .tuple #[.agg #[.int .i64 k, .int .i64 o, .int .i64 t], .bool b] := by
  rcases r with _ | ⟨k, o, t⟩
  · exact ⟨0, 0, 0, false, rfl⟩
  · exact ⟨k, o, t, true, rfl⟩

set_option maxRecDepth 10000 in
theorem law_ExactReadDeed (s : ByteArray) (m : Int) (w : World) (hs : s.size ≤ 9223372036854775807) (hm : w.cell? ⟨1, 0, none⟩ = some (.int .i64 m)) (hna : NamesIs w) :
    Calls Tryd.prog 6 #[.string s] w fun e w' => e = .returned (.bool true) ∧ Below w.heap.size w w' := by
  have h1lt : 1 < w.heap.size := by
    rcases Nat.lt_or_ge 1 w.heap.size with h | h
    · exact h
    · simp [World.cell?, Array.getElem?_eq_none h] at hm
  by_cases hlong : 1048576 < s.size
  · have hlB : decide ((1048576 : Int) < (s.size : Int)) = true := by simp; omega
    go_enter Tryd.func6, Tryd.ntmps6
    go_wp2_with fail
    go_ret
    exact ⟨rfl, by go_grown⟩
  have hlB : decide ((1048576 : Int) < (s.size : Int)) = false := by simp; omega
  obtain ⟨k, o, t, b, hd⟩ := deedV_form (rdI (partsB s))
  have HD := hide hd
  clear hd
  go_enter Tryd.func6, Tryd.ntmps6
  go_wp2_with fail
  refine (readDeed_spec s _ (by omega)).mono ?_
  rintro e w1 ⟨⟨xs, hx, rfl⟩, hb1⟩
  rw [rd_parts hx, HD.out]
  clear hx
  go_wp2_with fail
  obtain ⟨wx, hwx⟩ : ∃ wx, wx = w1.alloc (Obj.cells #[Value.int IntKind.i64 k, Value.int IntKind.i64 o, Value.int IntKind.i64 t] 32) := ⟨_, rfl⟩
  rw [← hwx]
  have hdb : Below w.heap.size w wx := by rw [hwx]; exact hb1.alloc hb1.size _
  have hd0 : wx.cell? ⟨w1.heap.size, 0, none⟩ = some (.int .i64 k) := by rw [hwx]; simp [go_sem]
  have hd1 : wx.cell? ⟨w1.heap.size, 1, none⟩ = some (.int .i64 o) := by rw [hwx]; simp [go_sem]
  have hd2 : wx.cell? ⟨w1.heap.size, 2, none⟩ = some (.int .i64 t) := by rw [hwx]; simp [go_sem]
  have hdl : w1.heap.size < wx.heap.size := by rw [hwx]; simp
  clear hwx hb1
  refine (readDeed_impl s m _ (by omega) (by rw [hdb.cell h1lt]; exact hm) (hna.stays hdb)).mono ?_
  rintro e w2 ⟨rfl, hb2⟩
  rw [HD.out]
  obtain ⟨⟨c0, c1, c2⟩, cl, cb⟩ := box3 hb2 hd0 hd1 hd2 hdl hdb
  clear hb2 hd0 hd1 hd2 hdl hdb
  go_wp2_with fail
  refine (eqDeed_same k o t _).mono ?_
  rintro e w3 ⟨rfl, hb3⟩
  have HB3 := hide (Below.step (cb.alloc cb.size (.cells #[.int .i64 k, .int .i64 o, .int .i64 t] 32)) hb3 (Nat.le_refl _))
  clear hb3 c0 c1 c2 cl cb
  cases b
  all_goals
    go_wp2_with fail
    go_ret
    exact ⟨rfl, HB3.out⟩
end Go.Proofs.YtaifajhojhekjaaDoor
