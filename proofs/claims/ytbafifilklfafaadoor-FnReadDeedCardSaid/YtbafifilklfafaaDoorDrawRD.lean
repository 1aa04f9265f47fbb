/-
  The draw of FnReadDeed.
-/
import Derived.Test.YtbafifilklfafaaDoorSpoil
import Derived.Test.YtbafifilklfafaaDoorJournC
namespace Go.Proofs.YtbafifilklfafaaDoor
open Go.RowKit

set_option maxRecDepth 10000 in
set_option maxHeartbeats 800000 in
theorem drawReadDeed (v : Value) (n : Nat) (w : World) (h : BytesAt 0 w.heap.size w v n) :
    Calls Tryd.prog 6 #[v] w fun e w' => ∃ t : ByteArray, e = .returned (.string t) ∧ t.size ≤ 100 ∧ Below w.heap.size w w' := by
  have HB0 := hide h
  clear h
  go_enter Tryd.func6, Tryd.ntmps6
  go_wp2_with fail
  refine (open_any v n w HB0.out).mono ?_
  rintro e w1 ⟨R, rfl, hR, hb1, hr1⟩
  have B_1 := hide hb1
  have hRl := hr1.lt
  clear hb1
  go_wp2_with fail
  refine (said_any R 0 w1 hr1 (by omega)).mono ?_
  rintro e w2 ⟨a, o, t, rfl, ho, hr2⟩
  have B_2 := hide (B_1.out.trans (ho.below hR B_1.out.size))
  have hr2l := hr2.lt
  clear ho hr1
  go_wp2_with fail
  refine (dt_spec a o t w2).mono ?_
  rintro e w3 ⟨rfl, hb⟩
  have B_3 := hide (Below.step B_2.out hb (Nat.le_refl _))
  have hr3 := hr2.keep hb hr2l
  clear hb hr2
  have hl : (dtB a o t).size ≤ 60 := dtJ_len ⟨a, o, t⟩
  obtain ⟨D, hD⟩ : ∃ D, dtB a o t = D := ⟨_, rfl⟩
  rw [hD] at hl ⊢
  clear hD
  go_wp2_with fail
  refine (pick_in R 3 3 w3 hr3 (by omega) (by omega) (by omega)).mono ?_
  rintro e w4 ⟨x, rfl, p1, p2, ho, hr4⟩
  have B_4 := hide (B_3.out.trans (ho.below hR B_3.out.size))
  clear ho hr3
  cases hq : (x == 0) with
  | false =>
    go_wp2_with fail
    go_ret
    exact ⟨D, rfl, by omega, B_4.out⟩
  | true =>
    go_wp2_with fail
    refine (spoil_any R 4 D w4 hr4 (by omega) (by omega)).mono ?_
    rintro e w5 ⟨s, rfl, hs, ho, -⟩
    have B_5 := hide (B_4.out.trans (ho.below hR B_4.out.size))
    clear ho
    go_wp2_with fail
    go_ret
    exact ⟨s, rfl, by omega, B_5.out⟩
end Go.Proofs.YtbafifilklfafaaDoor
