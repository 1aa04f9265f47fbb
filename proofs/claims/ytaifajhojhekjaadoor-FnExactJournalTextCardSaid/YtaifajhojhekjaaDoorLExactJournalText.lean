/-
  The walk over the law FnExactJournalText.
-/
import Derived.Test.YtaifajhojhekjaaDoorJournC
import Derived.Test.YtaifajhojhekjaaDoorHelpJ
namespace Go.Proofs.YtaifajhojhekjaaDoor
open Go.RowKit

set_option maxRecDepth 10000 in
set_option maxHeartbeats 800000 in
theorem law_ExactJournalText (v : Value) (js : List J) (w : World) (H : JobsAt 0 w.heap.size w v js) (hna : NamesIs w) (hpo : PowIs w) :
    Calls Tryd.prog 5 #[v] w fun e w' => e = .returned (.bool true) ∧ Below w.heap.size w w' := by
  obtain ⟨ao, cap, rfl, -, -, -, -⟩ := id H
  have hjl := H.len
  have hsz := szMillDeedS_any _ js _ _ 1048576 w H (by omega) (by omega)
  by_cases hbig : 1048576 < js.length
  · rw [show szI 1048576 js.length = -1 by unfold szI; rw [if_pos (by omega)]] at hsz
    go_enter Tryd.func5, Tryd.ntmps5
    go_wp2_with fail
    refine hsz.mono ?_
    rintro e w1 ⟨rfl, rfl⟩
    go_wp2_with fail
    go_ret
    exact ⟨rfl, Below.refl _ _⟩
  obtain ⟨z, hz, hz0⟩ : ∃ z : Int, szI 1048576 js.length = z ∧ 0 ≤ z := ⟨_, rfl, by unfold szI; split <;> omega⟩
  rw [hz] at hsz
  obtain ⟨t, ht⟩ : ∃ t, jtR js = t := ⟨_, rfl⟩
  have hlen : js.length ≤ 2097152 := by omega
  have HV := hide H
  clear hz hbig H
  go_enter Tryd.func5, Tryd.ntmps5
  go_wp2_with fail
  refine hsz.mono ?_
  rintro e wq ⟨rfl, rfl⟩
  clear hsz
  go_wp2_with fail
  refine (toMillDeedS_any _ js _ _ w HV.out hlen).mono ?_
  rintro e w1 ⟨v1, rfl, hn, hb⟩
  have V1 := hide hn
  have B1 := hide hb
  have A1 := hide (HV.out.below hb)
  clear hn hb
  go_wp2_with fail
  refine (journalText_spec v1 js _ _ w1 V1.out).mono ?_
  rintro e w2 ⟨rfl, hb⟩
  have A2 := hide (A1.out.below hb)
  have B2 := hide (Below.step B1.out hb (Nat.le_refl _))
  clear hb
  rw [ht]
  go_wp2_with fail
  refine (toMillDeedS_any _ js _ _ w2 A2.out hlen).mono ?_
  rintro e w3 ⟨v3, rfl, hn, hb⟩
  have V3 := hide hn
  have A3 := hide (A2.out.below hb)
  have B3 := hide (Below.step B2.out hb (Nat.le_refl _))
  clear hn hb
  go_wp2_with fail
  refine (journalText_impl v3 js _ _ w3 V3.out (hna.stays B3.out) (hpo.stays B3.out)).mono ?_
  rintro e w4 ⟨rfl, hb⟩
  have A4 := hide (A3.out.below hb)
  have V4 := hide (V3.out.below hb)
  have B4 := hide (Below.step B3.out hb (Nat.le_refl _))
  clear hb
  rw [ht]
  go_wp2_with fail
  refine (toMillDeedS_any _ js _ _ w4 A4.out hlen).mono ?_
  rintro e w5 ⟨v5, rfl, hn, hb⟩
  have V5 := hide hn
  have W5 := hide (V4.out.below hb)
  have B5 := hide (Below.step B4.out hb (Nat.le_refl _))
  clear hn hb
  go_wp2_with fail
  refine (eqMillDeedS_any v3 v5 js js _ _ _ _ w5 W5.out V5.out).mono ?_
  rw [show decide (js = js) = true by simp]
  rintro e w6 ⟨rfl, hb⟩
  have B6 := hide (Below.step B5.out hb (Nat.le_refl _))
  clear hb
  go_wp2_with fail
  go_ret
  exact ⟨rfl, B6.out⟩
end Go.Proofs.YtaifajhojhekjaaDoor
