/-
  Facts of the order of FewestLate, and of OnTime, for the laws.
-/
import Derived.Test.YtfjemnjdkniibaaDoorSums
import Derived.Test.YtfjemnjdkniibaaDoorWalkU
namespace Go.Proofs.YtfjemnjdkniibaaDoor
open Go.RowKit
theorem asc_nil : ∀ n, ascTo [] n = []
  | 0 => rfl
  | n + 1 => by simp [ascTo, asc_nil n, hasI]
theorem onTime_bad {js : List J} (hv : jsvB js = false) : onTimeR js = [] := by simp [onTimeR, keptR, hv, asc_nil]
theorem few_bad {js : List J} (hv : jsvB js = false) : fewR js = [] := by simp [fewR, orderR, hv, inK, offK]
theorem few_has {js : List J} (hv : jsvB js = true) {k : Nat} (hk : k < (fewR js).length) : hasI (onTimeR js) (fewR js)[k] = decide (k < (onTimeR js).length) := by
  have hp := (inK_perm hv).length_eq
  have hl := few_perm hv
  by_cases h : k < (onTimeR js).length
  · rw [decide_eq_true h]
    have hk' : k < (inK (onTimeR js) (orderR kDue js)).length := by omega
    have e : (fewR js)[k] = (inK (onTimeR js) (orderR kDue js))[k] := by
      simp only [fewR]; rw [List.getElem_append_left hk']
    rw [e]
    have := List.getElem_mem hk'
    unfold inK at this
    exact (List.mem_filter.1 this).2
  · rw [decide_eq_false h]
    have hk' : (inK (onTimeR js) (orderR kDue js)).length ≤ k := by omega
    have e : (fewR js)[k] = (offK (onTimeR js) (orderR kDue js))[k - (inK (onTimeR js) (orderR kDue js)).length]'(by simp only [fewR, List.length_append] at hk; omega) := by
      simp only [fewR]; rw [List.getElem_append_right hk']
    rw [e]
    have hm := List.getElem_mem (l := offK (onTimeR js) (orderR kDue js)) (n := k - (inK (onTimeR js) (orderR kDue js)).length) (by simp only [fewR, List.length_append] at hk; omega)
    have := (List.mem_filter.1 (show _ ∈ (orderR kDue js).filter _ from hm)).2
    simpa using this
theorem onTime_le {js : List J} (hv : jsvB js = true) : (onTimeR js).length ≤ js.length := by
  obtain ⟨h1, h2, -, -⟩ := onTime_facts hv
  exact few h2 fun a ha => h1 a ha
end Go.Proofs.YtfjemnjdkniibaaDoor
