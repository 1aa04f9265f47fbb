/-
  DERIVED. GIVEN WITH THE SEED: THE CARDS: each row of YtbafifilklfafaaDoorRows.lean that lists a variable, with what it lists TIED to the program's text (the seventh form; the later family's looks); each row that meets fmt, with fmt's text TOLD by the authors' own Lean function (tested against real Go, not proved from fmt's source: count such statements apart). THE CARD IS WHAT COUNTS. Prove the row's statement (the work); the ties are given (YtbafifilklfafaaDoorTie.lean); close each card by the builder's one call (the guide's Derived/Test/ToyasCard.lean, 'card_holds'). Laid BY PROGRAM, IN A SANDBOX (cutbox-door.mjs). By AI agents, Wed Nov 11 2026. No macro, syntax, notation, axiom, sorry.
-/
import Derived.Test.YtbafifilklfafaaDoorRows
import GoSem.ClaimSeven
namespace Go.Proofs.YtbafifilklfafaaDoor
namespace Rows

/-- THE TIED CARD OF 'laws.FnReadDeed'. -/
def fnReadDeedCard : Claim7 := { stood := { row := fnReadDeedRow, standIns := [], harness := (true, "568f274b47d09a8ea0ba0b9fc3b4f92464eef128e394f8999cbdcf1e64af62f6"), looks := false }, kinds := [], alts := [], laidByText := true, laidKinds := [.data, .data, .data, .data, .data, .pinned], laidTests := true, laidLooks := .later }
def FnReadDeedCardSaid : Prop := Claim7.holds Tryd.pinned (.plain (OpenSpec.ofChange fnReadDeedSpec)) fnReadDeedCard

/-- THE TIED CARD OF 'laws.FnReadJournal'. -/
def fnReadJournalCard : Claim7 := { stood := { row := fnReadJournalRow, standIns := [], harness := (true, "568f274b47d09a8ea0ba0b9fc3b4f92464eef128e394f8999cbdcf1e64af62f6"), looks := false }, kinds := [], alts := [], laidByText := true, laidKinds := [.data, .data, .data, .data, .data, .pinned], laidTests := true, laidLooks := .later }
def FnReadJournalCardSaid : Prop := Claim7.holds Tryd.pinned (.plain (OpenSpec.ofChange fnReadJournalSpec)) fnReadJournalCard

/-- THE TIED CARD OF 'laws.FnExactMillAsk'. -/
def fnExactMillAskCard : Claim7 := { stood := { row := fnExactMillAskRow, standIns := [], harness := (true, "568f274b47d09a8ea0ba0b9fc3b4f92464eef128e394f8999cbdcf1e64af62f6"), looks := false }, kinds := [], alts := [], laidByText := true, laidKinds := [.data, .data, .data], laidTests := true, laidLooks := .later }
def FnExactMillAskCardSaid : Prop := Claim7.holds Tryd.pinned (.plain (OpenSpec.ofChange fnExactMillAskSpec)) fnExactMillAskCard

/-- THE SECOND FORM's CARD OF 'laws.FnReadDeed'. -/
def fnReadDeedUptoCard : Claim7 := { stood := { row := fnReadDeedUptoRow, standIns := [], harness := (true, "568f274b47d09a8ea0ba0b9fc3b4f92464eef128e394f8999cbdcf1e64af62f6"), looks := false }, kinds := [], alts := [], laidByText := true, laidKinds := [.data, .data, .data, .data, .data, .pinned], laidTests := true, laidLooks := .later }
def FnReadDeedUptoCardSaid : Prop := Claim7.holds Tryd.pinned (.plain (OpenSpec.upto fnReadDeedSpec)) fnReadDeedUptoCard

/-- THE SECOND FORM's CARD OF 'laws.FnReadJournal'. -/
def fnReadJournalUptoCard : Claim7 := { stood := { row := fnReadJournalUptoRow, standIns := [], harness := (true, "568f274b47d09a8ea0ba0b9fc3b4f92464eef128e394f8999cbdcf1e64af62f6"), looks := false }, kinds := [], alts := [], laidByText := true, laidKinds := [.data, .data, .data, .data, .data, .pinned], laidTests := true, laidLooks := .later }
def FnReadJournalUptoCardSaid : Prop := Claim7.holds Tryd.pinned (.plain (OpenSpec.upto fnReadJournalSpec)) fnReadJournalUptoCard

/-- THE SECOND FORM's CARD OF 'laws.FnExactMillAsk'. -/
def fnExactMillAskUptoCard : Claim7 := { stood := { row := fnExactMillAskUptoRow, standIns := [], harness := (true, "568f274b47d09a8ea0ba0b9fc3b4f92464eef128e394f8999cbdcf1e64af62f6"), looks := false }, kinds := [], alts := [], laidByText := true, laidKinds := [.data, .data, .data], laidTests := true, laidLooks := .later }
def FnExactMillAskUptoCardSaid : Prop := Claim7.holds Tryd.pinned (.plain (OpenSpec.upto fnExactMillAskSpec)) fnExactMillAskUptoCard
end Rows
end Go.Proofs.YtbafifilklfafaaDoor
