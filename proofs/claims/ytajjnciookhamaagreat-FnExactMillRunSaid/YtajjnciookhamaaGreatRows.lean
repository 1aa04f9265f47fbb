/-
  No cell of these rows narrows 'for every input' (looked for: loops, veiled, ifaces, maps, wideKeys, modest, calm, conditions, laid).
  DERIVED. THE GIVEN ROWS OF THIS SEAT. 2 by the template 'for every input the law returns true; each argument reads behind the call as it read before'; 0 by the template 'total and deterministic' (their statements: YtajjnciookhamaaGreatTotals.lean).
  GIVEN WITH THE SEED: the statements are not yours to turn. If you find one false, say at which input.
  Laid BY PROGRAM, IN A SANDBOX (cutbox-rows.mjs): the forced cells as the released guide's own fill.sh prints them over the translation cdce2d982e7eba9b… (all of the seat's roots in one cut). By AI agents, Wed Nov 11 2026. No macro, syntax, notation, axiom, sorry.
-/
import Derived.Test.YtajjnciookhamaaGreatChecked
import GoSem.Claim
import GoSem.ClaimJoined
import GoSem.ClaimMapViews
import Derived.JoinedTies
import Derived.KernelRfl
namespace Go.Proofs.YtajjnciookhamaaGreat
/- THE CELL 'sum', in the pinned program and in every row, IS THE sha256 OF THE DUMP (.gsa) THAT YtajjnciookhamaaGreatProg.lean LOADS. Nothing in Lean hashes anything: it is a label: what it is worth is what the hold of that sum in a sandbox is worth. -/
noncomputable def Tryz.pinned : Pinned := { name := "ytajjnciookhamaagreat", sum := "cdce2d982e7eba9bd973f8e801d677b490d3ae6deea56b5a944663e3052aa692", checked := Tryz.checked }
namespace Rows
def none {H : Type} : Left H := { results := [], args := [] }

/-- 'laws.FnExactMillDo': WHATEVER THE INPUT: true; the input reads as it did. -/
def fnExactMillDoSpec : ChangeSpec := { name := "fnExactMillDo", fn := fun _ => fun
  | [d1, d2] => { results := [.lit (.bool true)], args := [d1, d2] }
  | _ => none }
def fnExactMillDoRow : OpenClaim := { program := "ytajjnciookhamaagreat", sum := "cdce2d982e7eba9bd973f8e801d677b490d3ae6deea56b5a944663e3052aa692", func := "loop.example/steelmill/laws.FnExactMillDo", spec := "fnExactMillDo", recurses := true, apart := false }
def FnExactMillDoSaid : Prop := fnExactMillDoRow.holds Tryz.pinned (OpenSpec.ofChange fnExactMillDoSpec)

/-- ITS FALSE NEIGHBOUR: 'it returns false'. Refute it at one input. -/
def fnExactMillDoWrong : ChangeSpec := { name := "fnExactMillDo", fn := fun _ => fun
  | [d1, d2] => { results := [.lit (.bool false)], args := [d1, d2] }
  | _ => none }
def FnExactMillDoWrongFalsely : Prop := fnExactMillDoRow.holds Tryz.pinned (OpenSpec.ofChange fnExactMillDoWrong)

/-- 'laws.FnExactMillRun': WHATEVER THE INPUT: true; the input reads as it did. -/
def fnExactMillRunSpec : ChangeSpec := { name := "fnExactMillRun", fn := fun _ => fun
  | [d1, d2] => { results := [.lit (.bool true)], args := [d1, d2] }
  | _ => none }
def fnExactMillRunRow : OpenClaim := { program := "ytajjnciookhamaagreat", sum := "cdce2d982e7eba9bd973f8e801d677b490d3ae6deea56b5a944663e3052aa692", func := "loop.example/steelmill/laws.FnExactMillRun", spec := "fnExactMillRun", recurses := true, apart := false }
def FnExactMillRunSaid : Prop := fnExactMillRunRow.holds Tryz.pinned (OpenSpec.ofChange fnExactMillRunSpec)

/-- ITS FALSE NEIGHBOUR: 'it returns false'. Refute it at one input. -/
def fnExactMillRunWrong : ChangeSpec := { name := "fnExactMillRun", fn := fun _ => fun
  | [d1, d2] => { results := [.lit (.bool false)], args := [d1, d2] }
  | _ => none }
def FnExactMillRunWrongFalsely : Prop := fnExactMillRunRow.holds Tryz.pinned (OpenSpec.ofChange fnExactMillRunWrong)

/- THE SECOND FORM. 'bulk': how many values and letters a reading holds, each counted each time it is reached (what is shared counts as often as it is met; a slice's spare places count too). A statement '..UptoSaid' is the law's where the arguments, and the package variables that the reading takes, are together of bulk at most 1048576: NARROWER than '..Said'. Prove '..Said' where nothing that the law and all that it calls make is longer than what came in: it says more and counts as full. Else prove '..UptoSaid'. A law counts once. -/
mutual
def uptoBulk {H : Type} : DataW H → Nat
  | .lit (.string bytes) => bytes.length + 1
  | .lit _ => 1
  | .nil => 1
  | .ptr d => uptoBulk d + 1
  | .slice elems spare => uptoBulkAll elems + uptoBulkAll spare + 1
  | .agg parts => uptoBulkAll parts + 1
  | .iface _ d => uptoBulk d + 1
  | .map entries => uptoBulkEntries entries + 1
  | .held _ => 1
def uptoBulkAll {H : Type} : List (DataW H) → Nat
  | [] => 0
  | d :: r => uptoBulk d + uptoBulkAll r
def uptoBulkEntries {H : Type} : List (Lit × DataW H) → Nat
  | [] => 0
  | x :: r => uptoBulkEntry x + uptoBulkEntries r
def uptoBulkEntry {H : Type} : Lit × DataW H → Nat
  | (.string bytes, d) => bytes.length + uptoBulk d + 1
  | (_, d) => uptoBulk d + 1
 end
def uptoSmall : (H : Type) → List (DataW H) → Bool := fun _ ds => decide (uptoBulkAll ds ≤ 1048576)
def OpenSpec.upto (s : _root_.Go.ChangeSpec) : _root_.Go.OpenSpec := { _root_.Go.OpenSpec.ofChange s with cond := some uptoSmall }

/-- 'laws.FnExactMillDo', WHERE WHAT IT READS IS OF BULK AT MOST 1048576: true; the input reads as it did. -/
def fnExactMillDoUptoRow : OpenClaim := { program := "ytajjnciookhamaagreat", sum := "cdce2d982e7eba9bd973f8e801d677b490d3ae6deea56b5a944663e3052aa692", func := "loop.example/steelmill/laws.FnExactMillDo", spec := "fnExactMillDo", recurses := true, apart := false, narrowed := true }
def FnExactMillDoUptoSaid : Prop := fnExactMillDoUptoRow.holds Tryz.pinned (OpenSpec.upto fnExactMillDoSpec)

/-- 'laws.FnExactMillRun', WHERE WHAT IT READS IS OF BULK AT MOST 1048576: true; the input reads as it did. -/
def fnExactMillRunUptoRow : OpenClaim := { program := "ytajjnciookhamaagreat", sum := "cdce2d982e7eba9bd973f8e801d677b490d3ae6deea56b5a944663e3052aa692", func := "loop.example/steelmill/laws.FnExactMillRun", spec := "fnExactMillRun", recurses := true, apart := false, narrowed := true }
def FnExactMillRunUptoSaid : Prop := fnExactMillRunUptoRow.holds Tryz.pinned (OpenSpec.upto fnExactMillRunSpec)

end Rows
end Go.Proofs.YtajjnciookhamaaGreat
