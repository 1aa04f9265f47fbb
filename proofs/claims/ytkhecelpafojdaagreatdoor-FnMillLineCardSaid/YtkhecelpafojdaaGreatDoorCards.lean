/-
  DERIVED. GIVEN WITH THE SEED: THE CARDS: each row of YtkhecelpafojdaaGreatDoorRows.lean that lists a variable, with what it lists TIED to the program's text (the seventh form; the later family's looks); each row that meets fmt, with fmt's text TOLD by the authors' own Lean function (tested against real Go, not proved from fmt's source: count such statements apart). THE CARD IS WHAT COUNTS. Prove the row's statement (the work); the ties are given (YtkhecelpafojdaaGreatDoorTie.lean); close each card by the builder's one call (the guide's Derived/Test/ToyasCard.lean, 'card_holds'). Laid BY PROGRAM, IN A SANDBOX (cutbox-door.mjs). By AI agents, Wed Nov 11 2026. No macro, syntax, notation, axiom, sorry.
-/
import Derived.Test.YtkhecelpafojdaaGreatDoorRows
import GoSem.ClaimSeven
namespace Go.Proofs.YtkhecelpafojdaaGreatDoor
namespace Rows

/-- THE TIED CARD OF 'laws.FnMillLine'. -/
def fnMillLineCard : Claim7 := { stood := { row := fnMillLineRow, standIns := [], harness := (true, "29615eafbc89bbea507922096353c81cbe6667cf5d3bc49ac7c22965e11912a1"), looks := false }, kinds := [], alts := [], laidByText := true, laidKinds := [.data, .data, .data, .data, .data, .pinned], laidTests := true, laidLooks := .later }
def FnMillLineCardSaid : Prop := Claim7.holds Tryz.pinned (.plain (OpenSpec.ofChange fnMillLineSpec)) fnMillLineCard

/-- THE SECOND FORM's CARD OF 'laws.FnMillLine'. -/
def fnMillLineUptoCard : Claim7 := { stood := { row := fnMillLineUptoRow, standIns := [], harness := (true, "29615eafbc89bbea507922096353c81cbe6667cf5d3bc49ac7c22965e11912a1"), looks := false }, kinds := [], alts := [], laidByText := true, laidKinds := [.data, .data, .data, .data, .data, .pinned], laidTests := true, laidLooks := .later }
def FnMillLineUptoCardSaid : Prop := Claim7.holds Tryz.pinned (.plain (OpenSpec.upto fnMillLineSpec)) fnMillLineUptoCard
end Rows
end Go.Proofs.YtkhecelpafojdaaGreatDoor
