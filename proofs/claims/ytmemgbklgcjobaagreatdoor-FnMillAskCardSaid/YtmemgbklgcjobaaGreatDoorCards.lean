/-
  DERIVED. GIVEN WITH THE SEED: THE CARDS: each row of YtmemgbklgcjobaaGreatDoorRows.lean that lists a variable, with what it lists TIED to the program's text (the seventh form; the later family's looks); each row that meets fmt, with fmt's text TOLD by the authors' own Lean function (tested against real Go, not proved from fmt's source: count such statements apart). THE CARD IS WHAT COUNTS. Prove the row's statement (the work); the ties are given (YtmemgbklgcjobaaGreatDoorTie.lean); close each card by the builder's one call (the guide's Derived/Test/ToyasCard.lean, 'card_holds'). Laid BY PROGRAM, IN A SANDBOX (cutbox-door.mjs). By AI agents, Wed Nov 11 2026. No macro, syntax, notation, axiom, sorry.
-/
import Derived.Test.YtmemgbklgcjobaaGreatDoorRows
import GoSem.ClaimSeven
namespace Go.Proofs.YtmemgbklgcjobaaGreatDoor
namespace Rows

/-- THE TIED CARD OF 'laws.FnReplay'. -/
def fnReplayCard : Claim7 := { stood := { row := fnReplayRow, standIns := [], harness := (true, "ea20e812a75417b2c80d469bd28044c17902a7bd661edc306e415a3d7b25defb"), looks := false }, kinds := [], alts := [], laidByText := true, laidKinds := [.data, .data, .data, .data, .data, .pinned], laidTests := true, laidLooks := .later }
def FnReplayCardSaid : Prop := Claim7.holds Tryz.pinned (.plain (OpenSpec.ofChange fnReplaySpec)) fnReplayCard

/-- THE TIED CARD OF 'laws.FnMillLine'. -/
def fnMillLineCard : Claim7 := { stood := { row := fnMillLineRow, standIns := [], harness := (true, "ea20e812a75417b2c80d469bd28044c17902a7bd661edc306e415a3d7b25defb"), looks := false }, kinds := [], alts := [], laidByText := true, laidKinds := [.data, .data, .data, .data, .data, .pinned], laidTests := true, laidLooks := .later }
def FnMillLineCardSaid : Prop := Claim7.holds Tryz.pinned (.plain (OpenSpec.ofChange fnMillLineSpec)) fnMillLineCard

/-- THE TIED CARD OF 'laws.FnExactMillLine'. -/
def fnExactMillLineCard : Claim7 := { stood := { row := fnExactMillLineRow, standIns := [], harness := (true, "ea20e812a75417b2c80d469bd28044c17902a7bd661edc306e415a3d7b25defb"), looks := false }, kinds := [], alts := [], laidByText := true, laidKinds := [.data, .data, .data, .data, .data, .pinned], laidTests := true, laidLooks := .later }
def FnExactMillLineCardSaid : Prop := Claim7.holds Tryz.pinned (.plain (OpenSpec.ofChange fnExactMillLineSpec)) fnExactMillLineCard

/-- THE TIED CARD OF 'laws.FnMillValid'. -/
def fnMillValidCard : Claim7 := { stood := { row := fnMillValidRow, standIns := [], harness := (true, "ea20e812a75417b2c80d469bd28044c17902a7bd661edc306e415a3d7b25defb"), looks := false }, kinds := [], alts := [], laidByText := true, laidKinds := [.data, .data, .data], laidTests := true, laidLooks := .later }
def FnMillValidCardSaid : Prop := Claim7.holds Tryz.pinned (.plain (OpenSpec.ofChange fnMillValidSpec)) fnMillValidCard

/-- THE TIED CARD OF 'laws.FnMillMass'. -/
def fnMillMassCard : Claim7 := { stood := { row := fnMillMassRow, standIns := [], harness := (true, "ea20e812a75417b2c80d469bd28044c17902a7bd661edc306e415a3d7b25defb"), looks := false }, kinds := [], alts := [], laidByText := true, laidKinds := [.data, .data, .data], laidTests := true, laidLooks := .later }
def FnMillMassCardSaid : Prop := Claim7.holds Tryz.pinned (.plain (OpenSpec.ofChange fnMillMassSpec)) fnMillMassCard

/-- THE TIED CARD OF 'laws.FnPiecesIn'. -/
def fnPiecesInCard : Claim7 := { stood := { row := fnPiecesInRow, standIns := [], harness := (true, "ea20e812a75417b2c80d469bd28044c17902a7bd661edc306e415a3d7b25defb"), looks := false }, kinds := [], alts := [], laidByText := true, laidKinds := [.data, .data, .data], laidTests := true, laidLooks := .later }
def FnPiecesInCardSaid : Prop := Claim7.holds Tryz.pinned (.plain (OpenSpec.ofChange fnPiecesInSpec)) fnPiecesInCard

/-- THE TIED CARD OF 'laws.FnMillDo'. -/
def fnMillDoCard : Claim7 := { stood := { row := fnMillDoRow, standIns := [], harness := (true, "ea20e812a75417b2c80d469bd28044c17902a7bd661edc306e415a3d7b25defb"), looks := false }, kinds := [], alts := [], laidByText := true, laidKinds := [.data, .data, .data], laidTests := true, laidLooks := .later }
def FnMillDoCardSaid : Prop := Claim7.holds Tryz.pinned (.plain (OpenSpec.ofChange fnMillDoSpec)) fnMillDoCard

/-- THE TIED CARD OF 'laws.FnClearDeeds'. -/
def fnClearDeedsCard : Claim7 := { stood := { row := fnClearDeedsRow, standIns := [], harness := (true, "ea20e812a75417b2c80d469bd28044c17902a7bd661edc306e415a3d7b25defb"), looks := false }, kinds := [], alts := [], laidByText := true, laidKinds := [.data, .data, .data], laidTests := true, laidLooks := .later }
def FnClearDeedsCardSaid : Prop := Claim7.holds Tryz.pinned (.plain (OpenSpec.ofChange fnClearDeedsSpec)) fnClearDeedsCard

/-- THE TIED CARD OF 'laws.FnMillRun'. -/
def fnMillRunCard : Claim7 := { stood := { row := fnMillRunRow, standIns := [], harness := (true, "ea20e812a75417b2c80d469bd28044c17902a7bd661edc306e415a3d7b25defb"), looks := false }, kinds := [], alts := [], laidByText := true, laidKinds := [.data, .data, .data], laidTests := true, laidLooks := .later }
def FnMillRunCardSaid : Prop := Claim7.holds Tryz.pinned (.plain (OpenSpec.ofChange fnMillRunSpec)) fnMillRunCard

/-- THE TIED CARD OF 'laws.FnMillAsk'. -/
def fnMillAskCard : Claim7 := { stood := { row := fnMillAskRow, standIns := [], harness := (true, "ea20e812a75417b2c80d469bd28044c17902a7bd661edc306e415a3d7b25defb"), looks := false }, kinds := [], alts := [], laidByText := true, laidKinds := [.data, .data, .data, .data, .pinned], laidTests := true, laidLooks := .later }
def FnMillAskCardSaid : Prop := Claim7.holds Tryz.pinned (.plain (OpenSpec.ofChange fnMillAskSpec)) fnMillAskCard

/-- THE TIED CARD OF 'laws.FnExactReplay'. -/
def fnExactReplayCard : Claim7 := { stood := { row := fnExactReplayRow, standIns := [], harness := (true, "ea20e812a75417b2c80d469bd28044c17902a7bd661edc306e415a3d7b25defb"), looks := false }, kinds := [], alts := [], laidByText := true, laidKinds := [.data, .data, .pinned], laidTests := true, laidLooks := .later }
def FnExactReplayCardSaid : Prop := Claim7.holds Tryz.pinned (.plain (OpenSpec.ofChange fnExactReplaySpec)) fnExactReplayCard

/-- THE SECOND FORM's CARD OF 'laws.FnReplay'. -/
def fnReplayUptoCard : Claim7 := { stood := { row := fnReplayUptoRow, standIns := [], harness := (true, "ea20e812a75417b2c80d469bd28044c17902a7bd661edc306e415a3d7b25defb"), looks := false }, kinds := [], alts := [], laidByText := true, laidKinds := [.data, .data, .data, .data, .data, .pinned], laidTests := true, laidLooks := .later }
def FnReplayUptoCardSaid : Prop := Claim7.holds Tryz.pinned (.plain (OpenSpec.upto fnReplaySpec)) fnReplayUptoCard

/-- THE SECOND FORM's CARD OF 'laws.FnMillLine'. -/
def fnMillLineUptoCard : Claim7 := { stood := { row := fnMillLineUptoRow, standIns := [], harness := (true, "ea20e812a75417b2c80d469bd28044c17902a7bd661edc306e415a3d7b25defb"), looks := false }, kinds := [], alts := [], laidByText := true, laidKinds := [.data, .data, .data, .data, .data, .pinned], laidTests := true, laidLooks := .later }
def FnMillLineUptoCardSaid : Prop := Claim7.holds Tryz.pinned (.plain (OpenSpec.upto fnMillLineSpec)) fnMillLineUptoCard

/-- THE SECOND FORM's CARD OF 'laws.FnExactMillLine'. -/
def fnExactMillLineUptoCard : Claim7 := { stood := { row := fnExactMillLineUptoRow, standIns := [], harness := (true, "ea20e812a75417b2c80d469bd28044c17902a7bd661edc306e415a3d7b25defb"), looks := false }, kinds := [], alts := [], laidByText := true, laidKinds := [.data, .data, .data, .data, .data, .pinned], laidTests := true, laidLooks := .later }
def FnExactMillLineUptoCardSaid : Prop := Claim7.holds Tryz.pinned (.plain (OpenSpec.upto fnExactMillLineSpec)) fnExactMillLineUptoCard

/-- THE SECOND FORM's CARD OF 'laws.FnMillValid'. -/
def fnMillValidUptoCard : Claim7 := { stood := { row := fnMillValidUptoRow, standIns := [], harness := (true, "ea20e812a75417b2c80d469bd28044c17902a7bd661edc306e415a3d7b25defb"), looks := false }, kinds := [], alts := [], laidByText := true, laidKinds := [.data, .data, .data], laidTests := true, laidLooks := .later }
def FnMillValidUptoCardSaid : Prop := Claim7.holds Tryz.pinned (.plain (OpenSpec.upto fnMillValidSpec)) fnMillValidUptoCard

/-- THE SECOND FORM's CARD OF 'laws.FnMillMass'. -/
def fnMillMassUptoCard : Claim7 := { stood := { row := fnMillMassUptoRow, standIns := [], harness := (true, "ea20e812a75417b2c80d469bd28044c17902a7bd661edc306e415a3d7b25defb"), looks := false }, kinds := [], alts := [], laidByText := true, laidKinds := [.data, .data, .data], laidTests := true, laidLooks := .later }
def FnMillMassUptoCardSaid : Prop := Claim7.holds Tryz.pinned (.plain (OpenSpec.upto fnMillMassSpec)) fnMillMassUptoCard

/-- THE SECOND FORM's CARD OF 'laws.FnPiecesIn'. -/
def fnPiecesInUptoCard : Claim7 := { stood := { row := fnPiecesInUptoRow, standIns := [], harness := (true, "ea20e812a75417b2c80d469bd28044c17902a7bd661edc306e415a3d7b25defb"), looks := false }, kinds := [], alts := [], laidByText := true, laidKinds := [.data, .data, .data], laidTests := true, laidLooks := .later }
def FnPiecesInUptoCardSaid : Prop := Claim7.holds Tryz.pinned (.plain (OpenSpec.upto fnPiecesInSpec)) fnPiecesInUptoCard

/-- THE SECOND FORM's CARD OF 'laws.FnMillDo'. -/
def fnMillDoUptoCard : Claim7 := { stood := { row := fnMillDoUptoRow, standIns := [], harness := (true, "ea20e812a75417b2c80d469bd28044c17902a7bd661edc306e415a3d7b25defb"), looks := false }, kinds := [], alts := [], laidByText := true, laidKinds := [.data, .data, .data], laidTests := true, laidLooks := .later }
def FnMillDoUptoCardSaid : Prop := Claim7.holds Tryz.pinned (.plain (OpenSpec.upto fnMillDoSpec)) fnMillDoUptoCard

/-- THE SECOND FORM's CARD OF 'laws.FnClearDeeds'. -/
def fnClearDeedsUptoCard : Claim7 := { stood := { row := fnClearDeedsUptoRow, standIns := [], harness := (true, "ea20e812a75417b2c80d469bd28044c17902a7bd661edc306e415a3d7b25defb"), looks := false }, kinds := [], alts := [], laidByText := true, laidKinds := [.data, .data, .data], laidTests := true, laidLooks := .later }
def FnClearDeedsUptoCardSaid : Prop := Claim7.holds Tryz.pinned (.plain (OpenSpec.upto fnClearDeedsSpec)) fnClearDeedsUptoCard

/-- THE SECOND FORM's CARD OF 'laws.FnMillRun'. -/
def fnMillRunUptoCard : Claim7 := { stood := { row := fnMillRunUptoRow, standIns := [], harness := (true, "ea20e812a75417b2c80d469bd28044c17902a7bd661edc306e415a3d7b25defb"), looks := false }, kinds := [], alts := [], laidByText := true, laidKinds := [.data, .data, .data], laidTests := true, laidLooks := .later }
def FnMillRunUptoCardSaid : Prop := Claim7.holds Tryz.pinned (.plain (OpenSpec.upto fnMillRunSpec)) fnMillRunUptoCard

/-- THE SECOND FORM's CARD OF 'laws.FnMillAsk'. -/
def fnMillAskUptoCard : Claim7 := { stood := { row := fnMillAskUptoRow, standIns := [], harness := (true, "ea20e812a75417b2c80d469bd28044c17902a7bd661edc306e415a3d7b25defb"), looks := false }, kinds := [], alts := [], laidByText := true, laidKinds := [.data, .data, .data, .data, .pinned], laidTests := true, laidLooks := .later }
def FnMillAskUptoCardSaid : Prop := Claim7.holds Tryz.pinned (.plain (OpenSpec.upto fnMillAskSpec)) fnMillAskUptoCard

/-- THE SECOND FORM's CARD OF 'laws.FnExactReplay'. -/
def fnExactReplayUptoCard : Claim7 := { stood := { row := fnExactReplayUptoRow, standIns := [], harness := (true, "ea20e812a75417b2c80d469bd28044c17902a7bd661edc306e415a3d7b25defb"), looks := false }, kinds := [], alts := [], laidByText := true, laidKinds := [.data, .data, .pinned], laidTests := true, laidLooks := .later }
def FnExactReplayUptoCardSaid : Prop := Claim7.holds Tryz.pinned (.plain (OpenSpec.upto fnExactReplaySpec)) fnExactReplayUptoCard
end Rows
end Go.Proofs.YtmemgbklgcjobaaGreatDoor
