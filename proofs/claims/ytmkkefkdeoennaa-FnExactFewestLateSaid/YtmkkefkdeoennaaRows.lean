/-
  No cell of these rows narrows 'for every input' (looked for: loops, veiled, ifaces, maps, wideKeys, modest, calm, conditions, laid).
  DERIVED. THE GIVEN ROWS OF THIS SEAT. 16 by the template 'for every input the law returns true; each argument reads behind the call as it read before'; 0 by the template 'total and deterministic' (their statements: YtmkkefkdeoennaaTotals.lean).
  GIVEN WITH THE SEED: the statements are not yours to turn. If you find one false, say at which input.
  Laid BY PROGRAM, IN A SANDBOX (cutbox-rows.mjs): the forced cells as the released guide's own fill.sh prints them over the translation b8fc3205a353e739… (all of the seat's roots in one cut). By AI agents, Wed Nov 11 2026. No macro, syntax, notation, axiom, sorry.
-/
import Derived.Test.YtmkkefkdeoennaaChecked
import GoSem.Claim
import GoSem.ClaimJoined
import GoSem.ClaimMapViews
import Derived.JoinedTies
import Derived.KernelRfl
namespace Go.Proofs.Ytmkkefkdeoennaa
/- THE CELL 'sum', in the pinned program and in every row, IS THE sha256 OF THE DUMP (.gsa) THAT YtmkkefkdeoennaaProg.lean LOADS. Nothing in Lean hashes anything: it is a label: what it is worth is what the hold of that sum in a sandbox is worth. -/
noncomputable def Try.pinned : Pinned := { name := "ytmkkefkdeoennaa", sum := "b8fc3205a353e739e7251ac9079f44d4c32c6cc995b82cb01c0cb2899b8b7e86", checked := Try.checked }
namespace Rows
def none {H : Type} : Left H := { results := [], args := [] }

/-- 'laws.FnExactJobValid': WHATEVER THE INPUT: true; the input reads as it did. -/
def fnExactJobValidSpec : ChangeSpec := { name := "fnExactJobValid", fn := fun _ => fun
  | [d] => { results := [.lit (.bool true)], args := [d] }
  | _ => none }
def fnExactJobValidRow : OpenClaim := { program := "ytmkkefkdeoennaa", sum := "b8fc3205a353e739e7251ac9079f44d4c32c6cc995b82cb01c0cb2899b8b7e86", func := "loop.example/steelmill/laws.FnExactJobValid", spec := "fnExactJobValid", apart := false }
def FnExactJobValidSaid : Prop := fnExactJobValidRow.holds Try.pinned (OpenSpec.ofChange fnExactJobValidSpec)

/-- ITS FALSE NEIGHBOUR: 'it returns false'. Refute it at one input. -/
def fnExactJobValidWrong : ChangeSpec := { name := "fnExactJobValid", fn := fun _ => fun
  | [d] => { results := [.lit (.bool false)], args := [d] }
  | _ => none }
def FnExactJobValidWrongFalsely : Prop := fnExactJobValidRow.holds Try.pinned (OpenSpec.ofChange fnExactJobValidWrong)

/-- 'laws.FnExactJobsValid': WHATEVER THE INPUT: true; the input reads as it did. -/
def fnExactJobsValidSpec : ChangeSpec := { name := "fnExactJobsValid", fn := fun _ => fun
  | [d] => { results := [.lit (.bool true)], args := [d] }
  | _ => none }
def fnExactJobsValidRow : OpenClaim := { program := "ytmkkefkdeoennaa", sum := "b8fc3205a353e739e7251ac9079f44d4c32c6cc995b82cb01c0cb2899b8b7e86", func := "loop.example/steelmill/laws.FnExactJobsValid", spec := "fnExactJobsValid", apart := false }
def FnExactJobsValidSaid : Prop := fnExactJobsValidRow.holds Try.pinned (OpenSpec.ofChange fnExactJobsValidSpec)

/-- ITS FALSE NEIGHBOUR: 'it returns false'. Refute it at one input. -/
def fnExactJobsValidWrong : ChangeSpec := { name := "fnExactJobsValid", fn := fun _ => fun
  | [d] => { results := [.lit (.bool false)], args := [d] }
  | _ => none }
def FnExactJobsValidWrongFalsely : Prop := fnExactJobsValidRow.holds Try.pinned (OpenSpec.ofChange fnExactJobsValidWrong)

/-- 'laws.FnExactTwoEnd': WHATEVER THE INPUT: true; the input reads as it did. -/
def fnExactTwoEndSpec : ChangeSpec := { name := "fnExactTwoEnd", fn := fun _ => fun
  | [d1, d2] => { results := [.lit (.bool true)], args := [d1, d2] }
  | _ => none }
def fnExactTwoEndRow : OpenClaim := { program := "ytmkkefkdeoennaa", sum := "b8fc3205a353e739e7251ac9079f44d4c32c6cc995b82cb01c0cb2899b8b7e86", func := "loop.example/steelmill/laws.FnExactTwoEnd", spec := "fnExactTwoEnd", apart := false }
def FnExactTwoEndSaid : Prop := fnExactTwoEndRow.holds Try.pinned (OpenSpec.ofChange fnExactTwoEndSpec)

/-- ITS FALSE NEIGHBOUR: 'it returns false'. Refute it at one input. -/
def fnExactTwoEndWrong : ChangeSpec := { name := "fnExactTwoEnd", fn := fun _ => fun
  | [d1, d2] => { results := [.lit (.bool false)], args := [d1, d2] }
  | _ => none }
def FnExactTwoEndWrongFalsely : Prop := fnExactTwoEndRow.holds Try.pinned (OpenSpec.ofChange fnExactTwoEndWrong)

/-- 'laws.FnExactBeforeValid': WHATEVER THE INPUT: true; the input reads as it did. -/
def fnExactBeforeValidSpec : ChangeSpec := { name := "fnExactBeforeValid", fn := fun _ => fun
  | [d1, d2] => { results := [.lit (.bool true)], args := [d1, d2] }
  | _ => none }
def fnExactBeforeValidRow : OpenClaim := { program := "ytmkkefkdeoennaa", sum := "b8fc3205a353e739e7251ac9079f44d4c32c6cc995b82cb01c0cb2899b8b7e86", func := "loop.example/steelmill/laws.FnExactBeforeValid", spec := "fnExactBeforeValid", apart := false }
def FnExactBeforeValidSaid : Prop := fnExactBeforeValidRow.holds Try.pinned (OpenSpec.ofChange fnExactBeforeValidSpec)

/-- ITS FALSE NEIGHBOUR: 'it returns false'. Refute it at one input. -/
def fnExactBeforeValidWrong : ChangeSpec := { name := "fnExactBeforeValid", fn := fun _ => fun
  | [d1, d2] => { results := [.lit (.bool false)], args := [d1, d2] }
  | _ => none }
def FnExactBeforeValidWrongFalsely : Prop := fnExactBeforeValidRow.holds Try.pinned (OpenSpec.ofChange fnExactBeforeValidWrong)

/-- 'laws.FnExactTwoBest': WHATEVER THE INPUT: true; the input reads as it did. -/
def fnExactTwoBestSpec : ChangeSpec := { name := "fnExactTwoBest", fn := fun _ => fun
  | [d] => { results := [.lit (.bool true)], args := [d] }
  | _ => none }
def fnExactTwoBestRow : OpenClaim := { program := "ytmkkefkdeoennaa", sum := "b8fc3205a353e739e7251ac9079f44d4c32c6cc995b82cb01c0cb2899b8b7e86", func := "loop.example/steelmill/laws.FnExactTwoBest", spec := "fnExactTwoBest", apart := false }
def FnExactTwoBestSaid : Prop := fnExactTwoBestRow.holds Try.pinned (OpenSpec.ofChange fnExactTwoBestSpec)

/-- ITS FALSE NEIGHBOUR: 'it returns false'. Refute it at one input. -/
def fnExactTwoBestWrong : ChangeSpec := { name := "fnExactTwoBest", fn := fun _ => fun
  | [d] => { results := [.lit (.bool false)], args := [d] }
  | _ => none }
def FnExactTwoBestWrongFalsely : Prop := fnExactTwoBestRow.holds Try.pinned (OpenSpec.ofChange fnExactTwoBestWrong)

/-- 'laws.FnExactEndSum': WHATEVER THE INPUT: true; the input reads as it did. -/
def fnExactEndSumSpec : ChangeSpec := { name := "fnExactEndSum", fn := fun _ => fun
  | [d1, d2] => { results := [.lit (.bool true)], args := [d1, d2] }
  | _ => none }
def fnExactEndSumRow : OpenClaim := { program := "ytmkkefkdeoennaa", sum := "b8fc3205a353e739e7251ac9079f44d4c32c6cc995b82cb01c0cb2899b8b7e86", func := "loop.example/steelmill/laws.FnExactEndSum", spec := "fnExactEndSum", apart := false }
def FnExactEndSumSaid : Prop := fnExactEndSumRow.holds Try.pinned (OpenSpec.ofChange fnExactEndSumSpec)

/-- ITS FALSE NEIGHBOUR: 'it returns false'. Refute it at one input. -/
def fnExactEndSumWrong : ChangeSpec := { name := "fnExactEndSum", fn := fun _ => fun
  | [d1, d2] => { results := [.lit (.bool false)], args := [d1, d2] }
  | _ => none }
def FnExactEndSumWrongFalsely : Prop := fnExactEndSumRow.holds Try.pinned (OpenSpec.ofChange fnExactEndSumWrong)

/-- 'laws.FnExactWorstLate': WHATEVER THE INPUT: true; the input reads as it did. -/
def fnExactWorstLateSpec : ChangeSpec := { name := "fnExactWorstLate", fn := fun _ => fun
  | [d1, d2] => { results := [.lit (.bool true)], args := [d1, d2] }
  | _ => none }
def fnExactWorstLateRow : OpenClaim := { program := "ytmkkefkdeoennaa", sum := "b8fc3205a353e739e7251ac9079f44d4c32c6cc995b82cb01c0cb2899b8b7e86", func := "loop.example/steelmill/laws.FnExactWorstLate", spec := "fnExactWorstLate", apart := false }
def FnExactWorstLateSaid : Prop := fnExactWorstLateRow.holds Try.pinned (OpenSpec.ofChange fnExactWorstLateSpec)

/-- ITS FALSE NEIGHBOUR: 'it returns false'. Refute it at one input. -/
def fnExactWorstLateWrong : ChangeSpec := { name := "fnExactWorstLate", fn := fun _ => fun
  | [d1, d2] => { results := [.lit (.bool false)], args := [d1, d2] }
  | _ => none }
def FnExactWorstLateWrongFalsely : Prop := fnExactWorstLateRow.holds Try.pinned (OpenSpec.ofChange fnExactWorstLateWrong)

/-- 'laws.FnExactJobEnds': WHATEVER THE INPUT: true; the input reads as it did. -/
def fnExactJobEndsSpec : ChangeSpec := { name := "fnExactJobEnds", fn := fun _ => fun
  | [d1, d2] => { results := [.lit (.bool true)], args := [d1, d2] }
  | _ => none }
def fnExactJobEndsRow : OpenClaim := { program := "ytmkkefkdeoennaa", sum := "b8fc3205a353e739e7251ac9079f44d4c32c6cc995b82cb01c0cb2899b8b7e86", func := "loop.example/steelmill/laws.FnExactJobEnds", spec := "fnExactJobEnds", apart := false }
def FnExactJobEndsSaid : Prop := fnExactJobEndsRow.holds Try.pinned (OpenSpec.ofChange fnExactJobEndsSpec)

/-- ITS FALSE NEIGHBOUR: 'it returns false'. Refute it at one input. -/
def fnExactJobEndsWrong : ChangeSpec := { name := "fnExactJobEnds", fn := fun _ => fun
  | [d1, d2] => { results := [.lit (.bool false)], args := [d1, d2] }
  | _ => none }
def FnExactJobEndsWrongFalsely : Prop := fnExactJobEndsRow.holds Try.pinned (OpenSpec.ofChange fnExactJobEndsWrong)

/-- 'laws.FnExactJobsLate': WHATEVER THE INPUT: true; the input reads as it did. -/
def fnExactJobsLateSpec : ChangeSpec := { name := "fnExactJobsLate", fn := fun _ => fun
  | [d1, d2] => { results := [.lit (.bool true)], args := [d1, d2] }
  | _ => none }
def fnExactJobsLateRow : OpenClaim := { program := "ytmkkefkdeoennaa", sum := "b8fc3205a353e739e7251ac9079f44d4c32c6cc995b82cb01c0cb2899b8b7e86", func := "loop.example/steelmill/laws.FnExactJobsLate", spec := "fnExactJobsLate", apart := false }
def FnExactJobsLateSaid : Prop := fnExactJobsLateRow.holds Try.pinned (OpenSpec.ofChange fnExactJobsLateSpec)

/-- ITS FALSE NEIGHBOUR: 'it returns false'. Refute it at one input. -/
def fnExactJobsLateWrong : ChangeSpec := { name := "fnExactJobsLate", fn := fun _ => fun
  | [d1, d2] => { results := [.lit (.bool false)], args := [d1, d2] }
  | _ => none }
def FnExactJobsLateWrongFalsely : Prop := fnExactJobsLateRow.holds Try.pinned (OpenSpec.ofChange fnExactJobsLateWrong)

/-- 'laws.FnExactBeforeOk': WHATEVER THE INPUT: true; the input reads as it did. -/
def fnExactBeforeOkSpec : ChangeSpec := { name := "fnExactBeforeOk", fn := fun _ => fun
  | [d1, d2, d3] => { results := [.lit (.bool true)], args := [d1, d2, d3] }
  | _ => none }
def fnExactBeforeOkRow : OpenClaim := { program := "ytmkkefkdeoennaa", sum := "b8fc3205a353e739e7251ac9079f44d4c32c6cc995b82cb01c0cb2899b8b7e86", func := "loop.example/steelmill/laws.FnExactBeforeOk", spec := "fnExactBeforeOk", apart := false }
def FnExactBeforeOkSaid : Prop := fnExactBeforeOkRow.holds Try.pinned (OpenSpec.ofChange fnExactBeforeOkSpec)

/-- ITS FALSE NEIGHBOUR: 'it returns false'. Refute it at one input. -/
def fnExactBeforeOkWrong : ChangeSpec := { name := "fnExactBeforeOk", fn := fun _ => fun
  | [d1, d2, d3] => { results := [.lit (.bool false)], args := [d1, d2, d3] }
  | _ => none }
def FnExactBeforeOkWrongFalsely : Prop := fnExactBeforeOkRow.holds Try.pinned (OpenSpec.ofChange fnExactBeforeOkWrong)

/-- 'laws.FnExactBeforeBest': WHATEVER THE INPUT: true; the input reads as it did. -/
def fnExactBeforeBestSpec : ChangeSpec := { name := "fnExactBeforeBest", fn := fun _ => fun
  | [d1, d2] => { results := [.lit (.bool true)], args := [d1, d2] }
  | _ => none }
def fnExactBeforeBestRow : OpenClaim := { program := "ytmkkefkdeoennaa", sum := "b8fc3205a353e739e7251ac9079f44d4c32c6cc995b82cb01c0cb2899b8b7e86", func := "loop.example/steelmill/laws.FnExactBeforeBest", spec := "fnExactBeforeBest", apart := false }
def FnExactBeforeBestSaid : Prop := fnExactBeforeBestRow.holds Try.pinned (OpenSpec.ofChange fnExactBeforeBestSpec)

/-- ITS FALSE NEIGHBOUR: 'it returns false'. Refute it at one input. -/
def fnExactBeforeBestWrong : ChangeSpec := { name := "fnExactBeforeBest", fn := fun _ => fun
  | [d1, d2] => { results := [.lit (.bool false)], args := [d1, d2] }
  | _ => none }
def FnExactBeforeBestWrongFalsely : Prop := fnExactBeforeBestRow.holds Try.pinned (OpenSpec.ofChange fnExactBeforeBestWrong)

/-- 'laws.FnExactTwoLong': WHATEVER THE INPUT: true; the input reads as it did. -/
def fnExactTwoLongSpec : ChangeSpec := { name := "fnExactTwoLong", fn := fun _ => fun
  | [d] => { results := [.lit (.bool true)], args := [d] }
  | _ => none }
def fnExactTwoLongRow : OpenClaim := { program := "ytmkkefkdeoennaa", sum := "b8fc3205a353e739e7251ac9079f44d4c32c6cc995b82cb01c0cb2899b8b7e86", func := "loop.example/steelmill/laws.FnExactTwoLong", spec := "fnExactTwoLong", unfollowed := true, recurses := true, apart := false }
def FnExactTwoLongSaid : Prop := fnExactTwoLongRow.holds Try.pinned (OpenSpec.ofChange fnExactTwoLongSpec)

/-- ITS FALSE NEIGHBOUR: 'it returns false'. Refute it at one input. -/
def fnExactTwoLongWrong : ChangeSpec := { name := "fnExactTwoLong", fn := fun _ => fun
  | [d] => { results := [.lit (.bool false)], args := [d] }
  | _ => none }
def FnExactTwoLongWrongFalsely : Prop := fnExactTwoLongRow.holds Try.pinned (OpenSpec.ofChange fnExactTwoLongWrong)

/-- 'laws.FnExactDueOrder': WHATEVER THE INPUT: true; the input reads as it did. -/
def fnExactDueOrderSpec : ChangeSpec := { name := "fnExactDueOrder", fn := fun _ => fun
  | [d] => { results := [.lit (.bool true)], args := [d] }
  | _ => none }
def fnExactDueOrderRow : OpenClaim := { program := "ytmkkefkdeoennaa", sum := "b8fc3205a353e739e7251ac9079f44d4c32c6cc995b82cb01c0cb2899b8b7e86", func := "loop.example/steelmill/laws.FnExactDueOrder", spec := "fnExactDueOrder", unfollowed := true, recurses := true, apart := false }
def FnExactDueOrderSaid : Prop := fnExactDueOrderRow.holds Try.pinned (OpenSpec.ofChange fnExactDueOrderSpec)

/-- ITS FALSE NEIGHBOUR: 'it returns false'. Refute it at one input. -/
def fnExactDueOrderWrong : ChangeSpec := { name := "fnExactDueOrder", fn := fun _ => fun
  | [d] => { results := [.lit (.bool false)], args := [d] }
  | _ => none }
def FnExactDueOrderWrongFalsely : Prop := fnExactDueOrderRow.holds Try.pinned (OpenSpec.ofChange fnExactDueOrderWrong)

/-- 'laws.FnExactWeightOrder': WHATEVER THE INPUT: true; the input reads as it did. -/
def fnExactWeightOrderSpec : ChangeSpec := { name := "fnExactWeightOrder", fn := fun _ => fun
  | [d] => { results := [.lit (.bool true)], args := [d] }
  | _ => none }
def fnExactWeightOrderRow : OpenClaim := { program := "ytmkkefkdeoennaa", sum := "b8fc3205a353e739e7251ac9079f44d4c32c6cc995b82cb01c0cb2899b8b7e86", func := "loop.example/steelmill/laws.FnExactWeightOrder", spec := "fnExactWeightOrder", unfollowed := true, recurses := true, apart := false }
def FnExactWeightOrderSaid : Prop := fnExactWeightOrderRow.holds Try.pinned (OpenSpec.ofChange fnExactWeightOrderSpec)

/-- ITS FALSE NEIGHBOUR: 'it returns false'. Refute it at one input. -/
def fnExactWeightOrderWrong : ChangeSpec := { name := "fnExactWeightOrder", fn := fun _ => fun
  | [d] => { results := [.lit (.bool false)], args := [d] }
  | _ => none }
def FnExactWeightOrderWrongFalsely : Prop := fnExactWeightOrderRow.holds Try.pinned (OpenSpec.ofChange fnExactWeightOrderWrong)

/-- 'laws.FnExactOnTime': WHATEVER THE INPUT: true; the input reads as it did. -/
def fnExactOnTimeSpec : ChangeSpec := { name := "fnExactOnTime", fn := fun _ => fun
  | [d] => { results := [.lit (.bool true)], args := [d] }
  | _ => none }
def fnExactOnTimeRow : OpenClaim := { program := "ytmkkefkdeoennaa", sum := "b8fc3205a353e739e7251ac9079f44d4c32c6cc995b82cb01c0cb2899b8b7e86", func := "loop.example/steelmill/laws.FnExactOnTime", spec := "fnExactOnTime", unfollowed := true, recurses := true, apart := false }
def FnExactOnTimeSaid : Prop := fnExactOnTimeRow.holds Try.pinned (OpenSpec.ofChange fnExactOnTimeSpec)

/-- ITS FALSE NEIGHBOUR: 'it returns false'. Refute it at one input. -/
def fnExactOnTimeWrong : ChangeSpec := { name := "fnExactOnTime", fn := fun _ => fun
  | [d] => { results := [.lit (.bool false)], args := [d] }
  | _ => none }
def FnExactOnTimeWrongFalsely : Prop := fnExactOnTimeRow.holds Try.pinned (OpenSpec.ofChange fnExactOnTimeWrong)

/-- 'laws.FnExactFewestLate': WHATEVER THE INPUT: true; the input reads as it did. -/
def fnExactFewestLateSpec : ChangeSpec := { name := "fnExactFewestLate", fn := fun _ => fun
  | [d] => { results := [.lit (.bool true)], args := [d] }
  | _ => none }
def fnExactFewestLateRow : OpenClaim := { program := "ytmkkefkdeoennaa", sum := "b8fc3205a353e739e7251ac9079f44d4c32c6cc995b82cb01c0cb2899b8b7e86", func := "loop.example/steelmill/laws.FnExactFewestLate", spec := "fnExactFewestLate", unfollowed := true, recurses := true, apart := false }
def FnExactFewestLateSaid : Prop := fnExactFewestLateRow.holds Try.pinned (OpenSpec.ofChange fnExactFewestLateSpec)

/-- ITS FALSE NEIGHBOUR: 'it returns false'. Refute it at one input. -/
def fnExactFewestLateWrong : ChangeSpec := { name := "fnExactFewestLate", fn := fun _ => fun
  | [d] => { results := [.lit (.bool false)], args := [d] }
  | _ => none }
def FnExactFewestLateWrongFalsely : Prop := fnExactFewestLateRow.holds Try.pinned (OpenSpec.ofChange fnExactFewestLateWrong)

/- THE SECOND FORM. 'bulk': how many values and letters a reading holds, each counted each time it is reached (what is shared counts as often as it is met; a slice's spare places count too). A statement '..UptoSaid' is the law's where the arguments, and the package variables that the reading takes, are together of bulk at most 1048576: NARROWER than '..Said'. Prove '..Said' where nothing that the law and all that it calls make is longer than what came in: it says more and counts as full. Else prove '..UptoSaid'. A law counts once. -/
mutual
def uptoBulk {H : Type} : DataW H → Nat
  | .lit (.string bytes) => bytes.length + 1
  | .lit _ => 1
  | .nil => 1
  | .ptr d => uptoBulk d + 1
  | .slice elems spare => uptoBulkAll elems + uptoBulkAll spare + 1
  | .agg parts => uptoBulkAll parts + 1
  | .iface _ d => uptoBulk d + 1
  | .map entries => uptoBulkEntries entries + 1
  | .held _ => 1
def uptoBulkAll {H : Type} : List (DataW H) → Nat
  | [] => 0
  | d :: r => uptoBulk d + uptoBulkAll r
def uptoBulkEntries {H : Type} : List (Lit × DataW H) → Nat
  | [] => 0
  | x :: r => uptoBulkEntry x + uptoBulkEntries r
def uptoBulkEntry {H : Type} : Lit × DataW H → Nat
  | (.string bytes, d) => bytes.length + uptoBulk d + 1
  | (_, d) => uptoBulk d + 1
 end
def uptoSmall : (H : Type) → List (DataW H) → Bool := fun _ ds => decide (uptoBulkAll ds ≤ 1048576)
def OpenSpec.upto (s : _root_.Go.ChangeSpec) : _root_.Go.OpenSpec := { _root_.Go.OpenSpec.ofChange s with cond := some uptoSmall }

/-- 'laws.FnExactJobValid', WHERE WHAT IT READS IS OF BULK AT MOST 1048576: true; the input reads as it did. -/
def fnExactJobValidUptoRow : OpenClaim := { program := "ytmkkefkdeoennaa", sum := "b8fc3205a353e739e7251ac9079f44d4c32c6cc995b82cb01c0cb2899b8b7e86", func := "loop.example/steelmill/laws.FnExactJobValid", spec := "fnExactJobValid", apart := false, narrowed := true }
def FnExactJobValidUptoSaid : Prop := fnExactJobValidUptoRow.holds Try.pinned (OpenSpec.upto fnExactJobValidSpec)

/-- 'laws.FnExactJobsValid', WHERE WHAT IT READS IS OF BULK AT MOST 1048576: true; the input reads as it did. -/
def fnExactJobsValidUptoRow : OpenClaim := { program := "ytmkkefkdeoennaa", sum := "b8fc3205a353e739e7251ac9079f44d4c32c6cc995b82cb01c0cb2899b8b7e86", func := "loop.example/steelmill/laws.FnExactJobsValid", spec := "fnExactJobsValid", apart := false, narrowed := true }
def FnExactJobsValidUptoSaid : Prop := fnExactJobsValidUptoRow.holds Try.pinned (OpenSpec.upto fnExactJobsValidSpec)

/-- 'laws.FnExactTwoEnd', WHERE WHAT IT READS IS OF BULK AT MOST 1048576: true; the input reads as it did. -/
def fnExactTwoEndUptoRow : OpenClaim := { program := "ytmkkefkdeoennaa", sum := "b8fc3205a353e739e7251ac9079f44d4c32c6cc995b82cb01c0cb2899b8b7e86", func := "loop.example/steelmill/laws.FnExactTwoEnd", spec := "fnExactTwoEnd", apart := false, narrowed := true }
def FnExactTwoEndUptoSaid : Prop := fnExactTwoEndUptoRow.holds Try.pinned (OpenSpec.upto fnExactTwoEndSpec)

/-- 'laws.FnExactBeforeValid', WHERE WHAT IT READS IS OF BULK AT MOST 1048576: true; the input reads as it did. -/
def fnExactBeforeValidUptoRow : OpenClaim := { program := "ytmkkefkdeoennaa", sum := "b8fc3205a353e739e7251ac9079f44d4c32c6cc995b82cb01c0cb2899b8b7e86", func := "loop.example/steelmill/laws.FnExactBeforeValid", spec := "fnExactBeforeValid", apart := false, narrowed := true }
def FnExactBeforeValidUptoSaid : Prop := fnExactBeforeValidUptoRow.holds Try.pinned (OpenSpec.upto fnExactBeforeValidSpec)

/-- 'laws.FnExactTwoBest', WHERE WHAT IT READS IS OF BULK AT MOST 1048576: true; the input reads as it did. -/
def fnExactTwoBestUptoRow : OpenClaim := { program := "ytmkkefkdeoennaa", sum := "b8fc3205a353e739e7251ac9079f44d4c32c6cc995b82cb01c0cb2899b8b7e86", func := "loop.example/steelmill/laws.FnExactTwoBest", spec := "fnExactTwoBest", apart := false, narrowed := true }
def FnExactTwoBestUptoSaid : Prop := fnExactTwoBestUptoRow.holds Try.pinned (OpenSpec.upto fnExactTwoBestSpec)

/-- 'laws.FnExactEndSum', WHERE WHAT IT READS IS OF BULK AT MOST 1048576: true; the input reads as it did. -/
def fnExactEndSumUptoRow : OpenClaim := { program := "ytmkkefkdeoennaa", sum := "b8fc3205a353e739e7251ac9079f44d4c32c6cc995b82cb01c0cb2899b8b7e86", func := "loop.example/steelmill/laws.FnExactEndSum", spec := "fnExactEndSum", apart := false, narrowed := true }
def FnExactEndSumUptoSaid : Prop := fnExactEndSumUptoRow.holds Try.pinned (OpenSpec.upto fnExactEndSumSpec)

/-- 'laws.FnExactWorstLate', WHERE WHAT IT READS IS OF BULK AT MOST 1048576: true; the input reads as it did. -/
def fnExactWorstLateUptoRow : OpenClaim := { program := "ytmkkefkdeoennaa", sum := "b8fc3205a353e739e7251ac9079f44d4c32c6cc995b82cb01c0cb2899b8b7e86", func := "loop.example/steelmill/laws.FnExactWorstLate", spec := "fnExactWorstLate", apart := false, narrowed := true }
def FnExactWorstLateUptoSaid : Prop := fnExactWorstLateUptoRow.holds Try.pinned (OpenSpec.upto fnExactWorstLateSpec)

/-- 'laws.FnExactJobEnds', WHERE WHAT IT READS IS OF BULK AT MOST 1048576: true; the input reads as it did. -/
def fnExactJobEndsUptoRow : OpenClaim := { program := "ytmkkefkdeoennaa", sum := "b8fc3205a353e739e7251ac9079f44d4c32c6cc995b82cb01c0cb2899b8b7e86", func := "loop.example/steelmill/laws.FnExactJobEnds", spec := "fnExactJobEnds", apart := false, narrowed := true }
def FnExactJobEndsUptoSaid : Prop := fnExactJobEndsUptoRow.holds Try.pinned (OpenSpec.upto fnExactJobEndsSpec)

/-- 'laws.FnExactJobsLate', WHERE WHAT IT READS IS OF BULK AT MOST 1048576: true; the input reads as it did. -/
def fnExactJobsLateUptoRow : OpenClaim := { program := "ytmkkefkdeoennaa", sum := "b8fc3205a353e739e7251ac9079f44d4c32c6cc995b82cb01c0cb2899b8b7e86", func := "loop.example/steelmill/laws.FnExactJobsLate", spec := "fnExactJobsLate", apart := false, narrowed := true }
def FnExactJobsLateUptoSaid : Prop := fnExactJobsLateUptoRow.holds Try.pinned (OpenSpec.upto fnExactJobsLateSpec)

/-- 'laws.FnExactBeforeOk', WHERE WHAT IT READS IS OF BULK AT MOST 1048576: true; the input reads as it did. -/
def fnExactBeforeOkUptoRow : OpenClaim := { program := "ytmkkefkdeoennaa", sum := "b8fc3205a353e739e7251ac9079f44d4c32c6cc995b82cb01c0cb2899b8b7e86", func := "loop.example/steelmill/laws.FnExactBeforeOk", spec := "fnExactBeforeOk", apart := false, narrowed := true }
def FnExactBeforeOkUptoSaid : Prop := fnExactBeforeOkUptoRow.holds Try.pinned (OpenSpec.upto fnExactBeforeOkSpec)

/-- 'laws.FnExactBeforeBest', WHERE WHAT IT READS IS OF BULK AT MOST 1048576: true; the input reads as it did. -/
def fnExactBeforeBestUptoRow : OpenClaim := { program := "ytmkkefkdeoennaa", sum := "b8fc3205a353e739e7251ac9079f44d4c32c6cc995b82cb01c0cb2899b8b7e86", func := "loop.example/steelmill/laws.FnExactBeforeBest", spec := "fnExactBeforeBest", apart := false, narrowed := true }
def FnExactBeforeBestUptoSaid : Prop := fnExactBeforeBestUptoRow.holds Try.pinned (OpenSpec.upto fnExactBeforeBestSpec)

/-- 'laws.FnExactTwoLong', WHERE WHAT IT READS IS OF BULK AT MOST 1048576: true; the input reads as it did. -/
def fnExactTwoLongUptoRow : OpenClaim := { program := "ytmkkefkdeoennaa", sum := "b8fc3205a353e739e7251ac9079f44d4c32c6cc995b82cb01c0cb2899b8b7e86", func := "loop.example/steelmill/laws.FnExactTwoLong", spec := "fnExactTwoLong", unfollowed := true, recurses := true, apart := false, narrowed := true }
def FnExactTwoLongUptoSaid : Prop := fnExactTwoLongUptoRow.holds Try.pinned (OpenSpec.upto fnExactTwoLongSpec)

/-- 'laws.FnExactDueOrder', WHERE WHAT IT READS IS OF BULK AT MOST 1048576: true; the input reads as it did. -/
def fnExactDueOrderUptoRow : OpenClaim := { program := "ytmkkefkdeoennaa", sum := "b8fc3205a353e739e7251ac9079f44d4c32c6cc995b82cb01c0cb2899b8b7e86", func := "loop.example/steelmill/laws.FnExactDueOrder", spec := "fnExactDueOrder", unfollowed := true, recurses := true, apart := false, narrowed := true }
def FnExactDueOrderUptoSaid : Prop := fnExactDueOrderUptoRow.holds Try.pinned (OpenSpec.upto fnExactDueOrderSpec)

/-- 'laws.FnExactWeightOrder', WHERE WHAT IT READS IS OF BULK AT MOST 1048576: true; the input reads as it did. -/
def fnExactWeightOrderUptoRow : OpenClaim := { program := "ytmkkefkdeoennaa", sum := "b8fc3205a353e739e7251ac9079f44d4c32c6cc995b82cb01c0cb2899b8b7e86", func := "loop.example/steelmill/laws.FnExactWeightOrder", spec := "fnExactWeightOrder", unfollowed := true, recurses := true, apart := false, narrowed := true }
def FnExactWeightOrderUptoSaid : Prop := fnExactWeightOrderUptoRow.holds Try.pinned (OpenSpec.upto fnExactWeightOrderSpec)

/-- 'laws.FnExactOnTime', WHERE WHAT IT READS IS OF BULK AT MOST 1048576: true; the input reads as it did. -/
def fnExactOnTimeUptoRow : OpenClaim := { program := "ytmkkefkdeoennaa", sum := "b8fc3205a353e739e7251ac9079f44d4c32c6cc995b82cb01c0cb2899b8b7e86", func := "loop.example/steelmill/laws.FnExactOnTime", spec := "fnExactOnTime", unfollowed := true, recurses := true, apart := false, narrowed := true }
def FnExactOnTimeUptoSaid : Prop := fnExactOnTimeUptoRow.holds Try.pinned (OpenSpec.upto fnExactOnTimeSpec)

/-- 'laws.FnExactFewestLate', WHERE WHAT IT READS IS OF BULK AT MOST 1048576: true; the input reads as it did. -/
def fnExactFewestLateUptoRow : OpenClaim := { program := "ytmkkefkdeoennaa", sum := "b8fc3205a353e739e7251ac9079f44d4c32c6cc995b82cb01c0cb2899b8b7e86", func := "loop.example/steelmill/laws.FnExactFewestLate", spec := "fnExactFewestLate", unfollowed := true, recurses := true, apart := false, narrowed := true }
def FnExactFewestLateUptoSaid : Prop := fnExactFewestLateUptoRow.holds Try.pinned (OpenSpec.upto fnExactFewestLateSpec)

end Rows
end Go.Proofs.Ytmkkefkdeoennaa
