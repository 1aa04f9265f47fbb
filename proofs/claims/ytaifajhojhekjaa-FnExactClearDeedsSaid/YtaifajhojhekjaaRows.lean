/-
  No cell of these rows narrows 'for every input' (looked for: loops, veiled, ifaces, maps, wideKeys, modest, calm, conditions, laid).
  DERIVED. THE GIVEN ROWS OF THIS SEAT. 4 by the template 'for every input the law returns true; each argument reads behind the call as it read before'; 0 by the template 'total and deterministic' (their statements: YtaifajhojhekjaaTotals.lean).
  GIVEN WITH THE SEED: the statements are not yours to turn. If you find one false, say at which input.
  Laid BY PROGRAM, IN A SANDBOX (cutbox-rows.mjs): the forced cells as the released guide's own fill.sh prints them over the translation 7622b6438a904b7c… (all of the seat's roots in one cut). By AI agents, Wed Nov 11 2026. No macro, syntax, notation, axiom, sorry.
-/
import Derived.Test.YtaifajhojhekjaaChecked
import GoSem.Claim
import GoSem.ClaimJoined
import GoSem.ClaimMapViews
import Derived.JoinedTies
import Derived.KernelRfl
namespace Go.Proofs.Ytaifajhojhekjaa
/- THE CELL 'sum', in the pinned program and in every row, IS THE sha256 OF THE DUMP (.gsa) THAT YtaifajhojhekjaaProg.lean LOADS. Nothing in Lean hashes anything: it is a label: what it is worth is what the hold of that sum in a sandbox is worth. -/
noncomputable def Try.pinned : Pinned := { name := "ytaifajhojhekjaa", sum := "7622b6438a904b7c0949ac08b97d2a609c2db133be892b27a281cb44de1b689e", checked := Try.checked }
namespace Rows
def none {H : Type} : Left H := { results := [], args := [] }

/-- 'laws.FnExactMillValid': WHATEVER THE INPUT: true; the input reads as it did. -/
def fnExactMillValidSpec : ChangeSpec := { name := "fnExactMillValid", fn := fun _ => fun
  | [d] => { results := [.lit (.bool true)], args := [d] }
  | _ => none }
def fnExactMillValidRow : OpenClaim := { program := "ytaifajhojhekjaa", sum := "7622b6438a904b7c0949ac08b97d2a609c2db133be892b27a281cb44de1b689e", func := "loop.example/steelmill/laws.FnExactMillValid", spec := "fnExactMillValid", recurses := true, apart := false }
def FnExactMillValidSaid : Prop := fnExactMillValidRow.holds Try.pinned (OpenSpec.ofChange fnExactMillValidSpec)

/-- ITS FALSE NEIGHBOUR: 'it returns false'. Refute it at one input. -/
def fnExactMillValidWrong : ChangeSpec := { name := "fnExactMillValid", fn := fun _ => fun
  | [d] => { results := [.lit (.bool false)], args := [d] }
  | _ => none }
def FnExactMillValidWrongFalsely : Prop := fnExactMillValidRow.holds Try.pinned (OpenSpec.ofChange fnExactMillValidWrong)

/-- 'laws.FnExactMillMass': WHATEVER THE INPUT: true; the input reads as it did. -/
def fnExactMillMassSpec : ChangeSpec := { name := "fnExactMillMass", fn := fun _ => fun
  | [d] => { results := [.lit (.bool true)], args := [d] }
  | _ => none }
def fnExactMillMassRow : OpenClaim := { program := "ytaifajhojhekjaa", sum := "7622b6438a904b7c0949ac08b97d2a609c2db133be892b27a281cb44de1b689e", func := "loop.example/steelmill/laws.FnExactMillMass", spec := "fnExactMillMass", recurses := true, apart := false }
def FnExactMillMassSaid : Prop := fnExactMillMassRow.holds Try.pinned (OpenSpec.ofChange fnExactMillMassSpec)

/-- ITS FALSE NEIGHBOUR: 'it returns false'. Refute it at one input. -/
def fnExactMillMassWrong : ChangeSpec := { name := "fnExactMillMass", fn := fun _ => fun
  | [d] => { results := [.lit (.bool false)], args := [d] }
  | _ => none }
def FnExactMillMassWrongFalsely : Prop := fnExactMillMassRow.holds Try.pinned (OpenSpec.ofChange fnExactMillMassWrong)

/-- 'laws.FnExactPiecesIn': WHATEVER THE INPUT: true; the input reads as it did. -/
def fnExactPiecesInSpec : ChangeSpec := { name := "fnExactPiecesIn", fn := fun _ => fun
  | [d1, d2] => { results := [.lit (.bool true)], args := [d1, d2] }
  | _ => none }
def fnExactPiecesInRow : OpenClaim := { program := "ytaifajhojhekjaa", sum := "7622b6438a904b7c0949ac08b97d2a609c2db133be892b27a281cb44de1b689e", func := "loop.example/steelmill/laws.FnExactPiecesIn", spec := "fnExactPiecesIn", recurses := true, apart := false }
def FnExactPiecesInSaid : Prop := fnExactPiecesInRow.holds Try.pinned (OpenSpec.ofChange fnExactPiecesInSpec)

/-- ITS FALSE NEIGHBOUR: 'it returns false'. Refute it at one input. -/
def fnExactPiecesInWrong : ChangeSpec := { name := "fnExactPiecesIn", fn := fun _ => fun
  | [d1, d2] => { results := [.lit (.bool false)], args := [d1, d2] }
  | _ => none }
def FnExactPiecesInWrongFalsely : Prop := fnExactPiecesInRow.holds Try.pinned (OpenSpec.ofChange fnExactPiecesInWrong)

/-- 'laws.FnExactClearDeeds': WHATEVER THE INPUT: true; the input reads as it did. -/
def fnExactClearDeedsSpec : ChangeSpec := { name := "fnExactClearDeeds", fn := fun _ => fun
  | [d] => { results := [.lit (.bool true)], args := [d] }
  | _ => none }
def fnExactClearDeedsRow : OpenClaim := { program := "ytaifajhojhekjaa", sum := "7622b6438a904b7c0949ac08b97d2a609c2db133be892b27a281cb44de1b689e", func := "loop.example/steelmill/laws.FnExactClearDeeds", spec := "fnExactClearDeeds", recurses := true, apart := false }
def FnExactClearDeedsSaid : Prop := fnExactClearDeedsRow.holds Try.pinned (OpenSpec.ofChange fnExactClearDeedsSpec)

/-- ITS FALSE NEIGHBOUR: 'it returns false'. Refute it at one input. -/
def fnExactClearDeedsWrong : ChangeSpec := { name := "fnExactClearDeeds", fn := fun _ => fun
  | [d] => { results := [.lit (.bool false)], args := [d] }
  | _ => none }
def FnExactClearDeedsWrongFalsely : Prop := fnExactClearDeedsRow.holds Try.pinned (OpenSpec.ofChange fnExactClearDeedsWrong)

/- THE SECOND FORM. 'bulk': how many values and letters a reading holds, each counted each time it is reached (what is shared counts as often as it is met; a slice's spare places count too). A statement '..UptoSaid' is the law's where the arguments, and the package variables that the reading takes, are together of bulk at most 1048576: NARROWER than '..Said'. Prove '..Said' where nothing that the law and all that it calls make is longer than what came in: it says more and counts as full. Else prove '..UptoSaid'. A law counts once. -/
mutual
def uptoBulk {H : Type} : DataW H → Nat
  | .lit (.string bytes) => bytes.length + 1
  | .lit _ => 1
  | .nil => 1
  | .ptr d => uptoBulk d + 1
  | .slice elems spare => uptoBulkAll elems + uptoBulkAll spare + 1
  | .agg parts => uptoBulkAll parts + 1
  | .iface _ d => uptoBulk d + 1
  | .map entries => uptoBulkEntries entries + 1
  | .held _ => 1
def uptoBulkAll {H : Type} : List (DataW H) → Nat
  | [] => 0
  | d :: r => uptoBulk d + uptoBulkAll r
def uptoBulkEntries {H : Type} : List (Lit × DataW H) → Nat
  | [] => 0
  | x :: r => uptoBulkEntry x + uptoBulkEntries r
def uptoBulkEntry {H : Type} : Lit × DataW H → Nat
  | (.string bytes, d) => bytes.length + uptoBulk d + 1
  | (_, d) => uptoBulk d + 1
 end
def uptoSmall : (H : Type) → List (DataW H) → Bool := fun _ ds => decide (uptoBulkAll ds ≤ 1048576)
def OpenSpec.upto (s : _root_.Go.ChangeSpec) : _root_.Go.OpenSpec := { _root_.Go.OpenSpec.ofChange s with cond := some uptoSmall }

/-- 'laws.FnExactMillValid', WHERE WHAT IT READS IS OF BULK AT MOST 1048576: true; the input reads as it did. -/
def fnExactMillValidUptoRow : OpenClaim := { program := "ytaifajhojhekjaa", sum := "7622b6438a904b7c0949ac08b97d2a609c2db133be892b27a281cb44de1b689e", func := "loop.example/steelmill/laws.FnExactMillValid", spec := "fnExactMillValid", recurses := true, apart := false, narrowed := true }
def FnExactMillValidUptoSaid : Prop := fnExactMillValidUptoRow.holds Try.pinned (OpenSpec.upto fnExactMillValidSpec)

/-- 'laws.FnExactMillMass', WHERE WHAT IT READS IS OF BULK AT MOST 1048576: true; the input reads as it did. -/
def fnExactMillMassUptoRow : OpenClaim := { program := "ytaifajhojhekjaa", sum := "7622b6438a904b7c0949ac08b97d2a609c2db133be892b27a281cb44de1b689e", func := "loop.example/steelmill/laws.FnExactMillMass", spec := "fnExactMillMass", recurses := true, apart := false, narrowed := true }
def FnExactMillMassUptoSaid : Prop := fnExactMillMassUptoRow.holds Try.pinned (OpenSpec.upto fnExactMillMassSpec)

/-- 'laws.FnExactPiecesIn', WHERE WHAT IT READS IS OF BULK AT MOST 1048576: true; the input reads as it did. -/
def fnExactPiecesInUptoRow : OpenClaim := { program := "ytaifajhojhekjaa", sum := "7622b6438a904b7c0949ac08b97d2a609c2db133be892b27a281cb44de1b689e", func := "loop.example/steelmill/laws.FnExactPiecesIn", spec := "fnExactPiecesIn", recurses := true, apart := false, narrowed := true }
def FnExactPiecesInUptoSaid : Prop := fnExactPiecesInUptoRow.holds Try.pinned (OpenSpec.upto fnExactPiecesInSpec)

/-- 'laws.FnExactClearDeeds', WHERE WHAT IT READS IS OF BULK AT MOST 1048576: true; the input reads as it did. -/
def fnExactClearDeedsUptoRow : OpenClaim := { program := "ytaifajhojhekjaa", sum := "7622b6438a904b7c0949ac08b97d2a609c2db133be892b27a281cb44de1b689e", func := "loop.example/steelmill/laws.FnExactClearDeeds", spec := "fnExactClearDeeds", recurses := true, apart := false, narrowed := true }
def FnExactClearDeedsUptoSaid : Prop := fnExactClearDeedsUptoRow.holds Try.pinned (OpenSpec.upto fnExactClearDeedsSpec)

end Rows
end Go.Proofs.Ytaifajhojhekjaa
