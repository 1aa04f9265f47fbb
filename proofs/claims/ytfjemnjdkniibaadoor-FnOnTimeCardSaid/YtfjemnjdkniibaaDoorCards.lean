/-
  DERIVED. GIVEN WITH THE SEED: THE CARDS: each row of YtfjemnjdkniibaaDoorRows.lean that lists a variable, with what it lists TIED to the program's text (the seventh form; the later family's looks); each row that meets fmt, with fmt's text TOLD by the authors' own Lean function (tested against real Go, not proved from fmt's source: count such statements apart). THE CARD IS WHAT COUNTS. Prove the row's statement (the work); the ties are given (YtfjemnjdkniibaaDoorTie.lean); close each card by the builder's one call (the guide's Derived/Test/ToyasCard.lean, 'card_holds'). Laid BY PROGRAM, IN A SANDBOX (cutbox-door.mjs). By AI agents, Wed Nov 11 2026. No macro, syntax, notation, axiom, sorry.
-/
import Derived.Test.YtfjemnjdkniibaaDoorRows
import GoSem.ClaimSeven
namespace Go.Proofs.YtfjemnjdkniibaaDoor
namespace Rows

/-- THE TIED CARD OF 'laws.FnJobValid'. -/
def fnJobValidCard : Claim7 := { stood := { row := fnJobValidRow, standIns := [], harness := (true, "6969447b5d0889542b03e0bd0634447f3010e8b78e09319bb82c227372a7bc19"), looks := false }, kinds := [], alts := [], laidByText := true, laidKinds := [.data, .data, .data], laidTests := true, laidLooks := .later }
def FnJobValidCardSaid : Prop := Claim7.holds Tryd.pinned (.plain (OpenSpec.ofChange fnJobValidSpec)) fnJobValidCard

/-- THE TIED CARD OF 'laws.FnJobsValid'. -/
def fnJobsValidCard : Claim7 := { stood := { row := fnJobsValidRow, standIns := [], harness := (true, "6969447b5d0889542b03e0bd0634447f3010e8b78e09319bb82c227372a7bc19"), looks := false }, kinds := [], alts := [], laidByText := true, laidKinds := [.data, .data, .data], laidTests := true, laidLooks := .later }
def FnJobsValidCardSaid : Prop := Claim7.holds Tryd.pinned (.plain (OpenSpec.ofChange fnJobsValidSpec)) fnJobsValidCard

/-- THE TIED CARD OF 'laws.FnTwoEnd'. -/
def fnTwoEndCard : Claim7 := { stood := { row := fnTwoEndRow, standIns := [], harness := (true, "6969447b5d0889542b03e0bd0634447f3010e8b78e09319bb82c227372a7bc19"), looks := false }, kinds := [], alts := [], laidByText := true, laidKinds := [.data, .data, .data], laidTests := true, laidLooks := .later }
def FnTwoEndCardSaid : Prop := Claim7.holds Tryd.pinned (.plain (OpenSpec.ofChange fnTwoEndSpec)) fnTwoEndCard

/-- THE TIED CARD OF 'laws.FnBeforeValid'. -/
def fnBeforeValidCard : Claim7 := { stood := { row := fnBeforeValidRow, standIns := [], harness := (true, "6969447b5d0889542b03e0bd0634447f3010e8b78e09319bb82c227372a7bc19"), looks := false }, kinds := [], alts := [], laidByText := true, laidKinds := [.data, .data, .data], laidTests := true, laidLooks := .later }
def FnBeforeValidCardSaid : Prop := Claim7.holds Tryd.pinned (.plain (OpenSpec.ofChange fnBeforeValidSpec)) fnBeforeValidCard

/-- THE TIED CARD OF 'laws.FnTwoBest'. -/
def fnTwoBestCard : Claim7 := { stood := { row := fnTwoBestRow, standIns := [], harness := (true, "6969447b5d0889542b03e0bd0634447f3010e8b78e09319bb82c227372a7bc19"), looks := false }, kinds := [], alts := [], laidByText := true, laidKinds := [.data, .data, .data], laidTests := true, laidLooks := .later }
def FnTwoBestCardSaid : Prop := Claim7.holds Tryd.pinned (.plain (OpenSpec.ofChange fnTwoBestSpec)) fnTwoBestCard

/-- THE TIED CARD OF 'laws.FnJobEnds'. -/
def fnJobEndsCard : Claim7 := { stood := { row := fnJobEndsRow, standIns := [], harness := (true, "6969447b5d0889542b03e0bd0634447f3010e8b78e09319bb82c227372a7bc19"), looks := false }, kinds := [], alts := [], laidByText := true, laidKinds := [.data, .data, .data], laidTests := true, laidLooks := .later }
def FnJobEndsCardSaid : Prop := Claim7.holds Tryd.pinned (.plain (OpenSpec.ofChange fnJobEndsSpec)) fnJobEndsCard

/-- THE TIED CARD OF 'laws.FnBeforeOk'. -/
def fnBeforeOkCard : Claim7 := { stood := { row := fnBeforeOkRow, standIns := [], harness := (true, "6969447b5d0889542b03e0bd0634447f3010e8b78e09319bb82c227372a7bc19"), looks := false }, kinds := [], alts := [], laidByText := true, laidKinds := [.data, .data, .data], laidTests := true, laidLooks := .later }
def FnBeforeOkCardSaid : Prop := Claim7.holds Tryd.pinned (.plain (OpenSpec.ofChange fnBeforeOkSpec)) fnBeforeOkCard

/-- THE TIED CARD OF 'laws.FnTwoLong'. -/
def fnTwoLongCard : Claim7 := { stood := { row := fnTwoLongRow, standIns := [], harness := (true, "6969447b5d0889542b03e0bd0634447f3010e8b78e09319bb82c227372a7bc19"), looks := false }, kinds := [], alts := [], laidByText := true, laidKinds := [.data, .data, .data], laidTests := true, laidLooks := .later }
def FnTwoLongCardSaid : Prop := Claim7.holds Tryd.pinned (.plain (OpenSpec.ofChange fnTwoLongSpec)) fnTwoLongCard

/-- THE TIED CARD OF 'laws.FnWeightOrder'. -/
def fnWeightOrderCard : Claim7 := { stood := { row := fnWeightOrderRow, standIns := [], harness := (true, "6969447b5d0889542b03e0bd0634447f3010e8b78e09319bb82c227372a7bc19"), looks := false }, kinds := [], alts := [], laidByText := true, laidKinds := [.data, .data, .data], laidTests := true, laidLooks := .later }
def FnWeightOrderCardSaid : Prop := Claim7.holds Tryd.pinned (.plain (OpenSpec.ofChange fnWeightOrderSpec)) fnWeightOrderCard

/-- THE TIED CARD OF 'laws.FnDueOrder'. -/
def fnDueOrderCard : Claim7 := { stood := { row := fnDueOrderRow, standIns := [], harness := (true, "6969447b5d0889542b03e0bd0634447f3010e8b78e09319bb82c227372a7bc19"), looks := false }, kinds := [], alts := [], laidByText := true, laidKinds := [.data, .data, .data], laidTests := true, laidLooks := .later }
def FnDueOrderCardSaid : Prop := Claim7.holds Tryd.pinned (.plain (OpenSpec.ofChange fnDueOrderSpec)) fnDueOrderCard

/-- THE TIED CARD OF 'laws.FnEndSum'. -/
def fnEndSumCard : Claim7 := { stood := { row := fnEndSumRow, standIns := [], harness := (true, "6969447b5d0889542b03e0bd0634447f3010e8b78e09319bb82c227372a7bc19"), looks := false }, kinds := [], alts := [], laidByText := true, laidKinds := [.data, .data, .data], laidTests := true, laidLooks := .later }
def FnEndSumCardSaid : Prop := Claim7.holds Tryd.pinned (.plain (OpenSpec.ofChange fnEndSumSpec)) fnEndSumCard

/-- THE TIED CARD OF 'laws.FnWorstLate'. -/
def fnWorstLateCard : Claim7 := { stood := { row := fnWorstLateRow, standIns := [], harness := (true, "6969447b5d0889542b03e0bd0634447f3010e8b78e09319bb82c227372a7bc19"), looks := false }, kinds := [], alts := [], laidByText := true, laidKinds := [.data, .data, .data], laidTests := true, laidLooks := .later }
def FnWorstLateCardSaid : Prop := Claim7.holds Tryd.pinned (.plain (OpenSpec.ofChange fnWorstLateSpec)) fnWorstLateCard

/-- THE TIED CARD OF 'laws.FnBeforeBest'. -/
def fnBeforeBestCard : Claim7 := { stood := { row := fnBeforeBestRow, standIns := [], harness := (true, "6969447b5d0889542b03e0bd0634447f3010e8b78e09319bb82c227372a7bc19"), looks := false }, kinds := [], alts := [], laidByText := true, laidKinds := [.data, .data, .data], laidTests := true, laidLooks := .later }
def FnBeforeBestCardSaid : Prop := Claim7.holds Tryd.pinned (.plain (OpenSpec.ofChange fnBeforeBestSpec)) fnBeforeBestCard

/-- THE TIED CARD OF 'laws.FnOnTime'. -/
def fnOnTimeCard : Claim7 := { stood := { row := fnOnTimeRow, standIns := [], harness := (true, "6969447b5d0889542b03e0bd0634447f3010e8b78e09319bb82c227372a7bc19"), looks := false }, kinds := [], alts := [], laidByText := true, laidKinds := [.data, .data, .data], laidTests := true, laidLooks := .later }
def FnOnTimeCardSaid : Prop := Claim7.holds Tryd.pinned (.plain (OpenSpec.ofChange fnOnTimeSpec)) fnOnTimeCard

/-- THE TIED CARD OF 'laws.FnJobsLate'. -/
def fnJobsLateCard : Claim7 := { stood := { row := fnJobsLateRow, standIns := [], harness := (true, "6969447b5d0889542b03e0bd0634447f3010e8b78e09319bb82c227372a7bc19"), looks := false }, kinds := [], alts := [], laidByText := true, laidKinds := [.data, .data, .data], laidTests := true, laidLooks := .later }
def FnJobsLateCardSaid : Prop := Claim7.holds Tryd.pinned (.plain (OpenSpec.ofChange fnJobsLateSpec)) fnJobsLateCard

/-- THE TIED CARD OF 'laws.FnFewestLate'. -/
def fnFewestLateCard : Claim7 := { stood := { row := fnFewestLateRow, standIns := [], harness := (true, "6969447b5d0889542b03e0bd0634447f3010e8b78e09319bb82c227372a7bc19"), looks := false }, kinds := [], alts := [], laidByText := true, laidKinds := [.data, .data, .data], laidTests := true, laidLooks := .later }
def FnFewestLateCardSaid : Prop := Claim7.holds Tryd.pinned (.plain (OpenSpec.ofChange fnFewestLateSpec)) fnFewestLateCard

/-- THE SECOND FORM's CARD OF 'laws.FnJobValid'. -/
def fnJobValidUptoCard : Claim7 := { stood := { row := fnJobValidUptoRow, standIns := [], harness := (true, "6969447b5d0889542b03e0bd0634447f3010e8b78e09319bb82c227372a7bc19"), looks := false }, kinds := [], alts := [], laidByText := true, laidKinds := [.data, .data, .data], laidTests := true, laidLooks := .later }
def FnJobValidUptoCardSaid : Prop := Claim7.holds Tryd.pinned (.plain (OpenSpec.upto fnJobValidSpec)) fnJobValidUptoCard

/-- THE SECOND FORM's CARD OF 'laws.FnJobsValid'. -/
def fnJobsValidUptoCard : Claim7 := { stood := { row := fnJobsValidUptoRow, standIns := [], harness := (true, "6969447b5d0889542b03e0bd0634447f3010e8b78e09319bb82c227372a7bc19"), looks := false }, kinds := [], alts := [], laidByText := true, laidKinds := [.data, .data, .data], laidTests := true, laidLooks := .later }
def FnJobsValidUptoCardSaid : Prop := Claim7.holds Tryd.pinned (.plain (OpenSpec.upto fnJobsValidSpec)) fnJobsValidUptoCard

/-- THE SECOND FORM's CARD OF 'laws.FnTwoEnd'. -/
def fnTwoEndUptoCard : Claim7 := { stood := { row := fnTwoEndUptoRow, standIns := [], harness := (true, "6969447b5d0889542b03e0bd0634447f3010e8b78e09319bb82c227372a7bc19"), looks := false }, kinds := [], alts := [], laidByText := true, laidKinds := [.data, .data, .data], laidTests := true, laidLooks := .later }
def FnTwoEndUptoCardSaid : Prop := Claim7.holds Tryd.pinned (.plain (OpenSpec.upto fnTwoEndSpec)) fnTwoEndUptoCard

/-- THE SECOND FORM's CARD OF 'laws.FnBeforeValid'. -/
def fnBeforeValidUptoCard : Claim7 := { stood := { row := fnBeforeValidUptoRow, standIns := [], harness := (true, "6969447b5d0889542b03e0bd0634447f3010e8b78e09319bb82c227372a7bc19"), looks := false }, kinds := [], alts := [], laidByText := true, laidKinds := [.data, .data, .data], laidTests := true, laidLooks := .later }
def FnBeforeValidUptoCardSaid : Prop := Claim7.holds Tryd.pinned (.plain (OpenSpec.upto fnBeforeValidSpec)) fnBeforeValidUptoCard

/-- THE SECOND FORM's CARD OF 'laws.FnTwoBest'. -/
def fnTwoBestUptoCard : Claim7 := { stood := { row := fnTwoBestUptoRow, standIns := [], harness := (true, "6969447b5d0889542b03e0bd0634447f3010e8b78e09319bb82c227372a7bc19"), looks := false }, kinds := [], alts := [], laidByText := true, laidKinds := [.data, .data, .data], laidTests := true, laidLooks := .later }
def FnTwoBestUptoCardSaid : Prop := Claim7.holds Tryd.pinned (.plain (OpenSpec.upto fnTwoBestSpec)) fnTwoBestUptoCard

/-- THE SECOND FORM's CARD OF 'laws.FnJobEnds'. -/
def fnJobEndsUptoCard : Claim7 := { stood := { row := fnJobEndsUptoRow, standIns := [], harness := (true, "6969447b5d0889542b03e0bd0634447f3010e8b78e09319bb82c227372a7bc19"), looks := false }, kinds := [], alts := [], laidByText := true, laidKinds := [.data, .data, .data], laidTests := true, laidLooks := .later }
def FnJobEndsUptoCardSaid : Prop := Claim7.holds Tryd.pinned (.plain (OpenSpec.upto fnJobEndsSpec)) fnJobEndsUptoCard

/-- THE SECOND FORM's CARD OF 'laws.FnBeforeOk'. -/
def fnBeforeOkUptoCard : Claim7 := { stood := { row := fnBeforeOkUptoRow, standIns := [], harness := (true, "6969447b5d0889542b03e0bd0634447f3010e8b78e09319bb82c227372a7bc19"), looks := false }, kinds := [], alts := [], laidByText := true, laidKinds := [.data, .data, .data], laidTests := true, laidLooks := .later }
def FnBeforeOkUptoCardSaid : Prop := Claim7.holds Tryd.pinned (.plain (OpenSpec.upto fnBeforeOkSpec)) fnBeforeOkUptoCard

/-- THE SECOND FORM's CARD OF 'laws.FnTwoLong'. -/
def fnTwoLongUptoCard : Claim7 := { stood := { row := fnTwoLongUptoRow, standIns := [], harness := (true, "6969447b5d0889542b03e0bd0634447f3010e8b78e09319bb82c227372a7bc19"), looks := false }, kinds := [], alts := [], laidByText := true, laidKinds := [.data, .data, .data], laidTests := true, laidLooks := .later }
def FnTwoLongUptoCardSaid : Prop := Claim7.holds Tryd.pinned (.plain (OpenSpec.upto fnTwoLongSpec)) fnTwoLongUptoCard

/-- THE SECOND FORM's CARD OF 'laws.FnWeightOrder'. -/
def fnWeightOrderUptoCard : Claim7 := { stood := { row := fnWeightOrderUptoRow, standIns := [], harness := (true, "6969447b5d0889542b03e0bd0634447f3010e8b78e09319bb82c227372a7bc19"), looks := false }, kinds := [], alts := [], laidByText := true, laidKinds := [.data, .data, .data], laidTests := true, laidLooks := .later }
def FnWeightOrderUptoCardSaid : Prop := Claim7.holds Tryd.pinned (.plain (OpenSpec.upto fnWeightOrderSpec)) fnWeightOrderUptoCard

/-- THE SECOND FORM's CARD OF 'laws.FnDueOrder'. -/
def fnDueOrderUptoCard : Claim7 := { stood := { row := fnDueOrderUptoRow, standIns := [], harness := (true, "6969447b5d0889542b03e0bd0634447f3010e8b78e09319bb82c227372a7bc19"), looks := false }, kinds := [], alts := [], laidByText := true, laidKinds := [.data, .data, .data], laidTests := true, laidLooks := .later }
def FnDueOrderUptoCardSaid : Prop := Claim7.holds Tryd.pinned (.plain (OpenSpec.upto fnDueOrderSpec)) fnDueOrderUptoCard

/-- THE SECOND FORM's CARD OF 'laws.FnEndSum'. -/
def fnEndSumUptoCard : Claim7 := { stood := { row := fnEndSumUptoRow, standIns := [], harness := (true, "6969447b5d0889542b03e0bd0634447f3010e8b78e09319bb82c227372a7bc19"), looks := false }, kinds := [], alts := [], laidByText := true, laidKinds := [.data, .data, .data], laidTests := true, laidLooks := .later }
def FnEndSumUptoCardSaid : Prop := Claim7.holds Tryd.pinned (.plain (OpenSpec.upto fnEndSumSpec)) fnEndSumUptoCard

/-- THE SECOND FORM's CARD OF 'laws.FnWorstLate'. -/
def fnWorstLateUptoCard : Claim7 := { stood := { row := fnWorstLateUptoRow, standIns := [], harness := (true, "6969447b5d0889542b03e0bd0634447f3010e8b78e09319bb82c227372a7bc19"), looks := false }, kinds := [], alts := [], laidByText := true, laidKinds := [.data, .data, .data], laidTests := true, laidLooks := .later }
def FnWorstLateUptoCardSaid : Prop := Claim7.holds Tryd.pinned (.plain (OpenSpec.upto fnWorstLateSpec)) fnWorstLateUptoCard

/-- THE SECOND FORM's CARD OF 'laws.FnBeforeBest'. -/
def fnBeforeBestUptoCard : Claim7 := { stood := { row := fnBeforeBestUptoRow, standIns := [], harness := (true, "6969447b5d0889542b03e0bd0634447f3010e8b78e09319bb82c227372a7bc19"), looks := false }, kinds := [], alts := [], laidByText := true, laidKinds := [.data, .data, .data], laidTests := true, laidLooks := .later }
def FnBeforeBestUptoCardSaid : Prop := Claim7.holds Tryd.pinned (.plain (OpenSpec.upto fnBeforeBestSpec)) fnBeforeBestUptoCard

/-- THE SECOND FORM's CARD OF 'laws.FnOnTime'. -/
def fnOnTimeUptoCard : Claim7 := { stood := { row := fnOnTimeUptoRow, standIns := [], harness := (true, "6969447b5d0889542b03e0bd0634447f3010e8b78e09319bb82c227372a7bc19"), looks := false }, kinds := [], alts := [], laidByText := true, laidKinds := [.data, .data, .data], laidTests := true, laidLooks := .later }
def FnOnTimeUptoCardSaid : Prop := Claim7.holds Tryd.pinned (.plain (OpenSpec.upto fnOnTimeSpec)) fnOnTimeUptoCard

/-- THE SECOND FORM's CARD OF 'laws.FnJobsLate'. -/
def fnJobsLateUptoCard : Claim7 := { stood := { row := fnJobsLateUptoRow, standIns := [], harness := (true, "6969447b5d0889542b03e0bd0634447f3010e8b78e09319bb82c227372a7bc19"), looks := false }, kinds := [], alts := [], laidByText := true, laidKinds := [.data, .data, .data], laidTests := true, laidLooks := .later }
def FnJobsLateUptoCardSaid : Prop := Claim7.holds Tryd.pinned (.plain (OpenSpec.upto fnJobsLateSpec)) fnJobsLateUptoCard

/-- THE SECOND FORM's CARD OF 'laws.FnFewestLate'. -/
def fnFewestLateUptoCard : Claim7 := { stood := { row := fnFewestLateUptoRow, standIns := [], harness := (true, "6969447b5d0889542b03e0bd0634447f3010e8b78e09319bb82c227372a7bc19"), looks := false }, kinds := [], alts := [], laidByText := true, laidKinds := [.data, .data, .data], laidTests := true, laidLooks := .later }
def FnFewestLateUptoCardSaid : Prop := Claim7.holds Tryd.pinned (.plain (OpenSpec.upto fnFewestLateSpec)) fnFewestLateUptoCard
end Rows
end Go.Proofs.YtfjemnjdkniibaaDoor
