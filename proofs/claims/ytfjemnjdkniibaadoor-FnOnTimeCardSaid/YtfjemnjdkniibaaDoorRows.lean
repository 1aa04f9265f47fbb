/-
  NARROWER THAN 'FOR EVERY INPUT', by the rows' own cells (each row's printed sentence says how): FnJobValid: laid · FnJobsValid: laid · FnTwoEnd: laid · FnBeforeValid: laid · FnTwoBest: laid · FnJobEnds: laid · FnBeforeOk: laid · FnTwoLong: laid · FnWeightOrder: laid · FnDueOrder: laid · FnEndSum: laid · FnWorstLate: laid · FnBeforeBest: laid · FnOnTime: laid · FnJobsLate: laid · FnFewestLate: laid.
  DERIVED. THE GIVEN ROWS OF THIS SEAT. 16 by the template 'for every input the law returns true; each argument reads behind the call as it read before'; 0 by the template 'total and deterministic' (their statements: YtfjemnjdkniibaaDoorTotals.lean).
  GIVEN WITH THE SEED: the statements are not yours to turn. If you find one false, say at which input.
  Laid BY PROGRAM, IN A SANDBOX (cutbox-rows.mjs): the forced cells as the released guide's own fill.sh prints them over the translation 039a9a4e2660f7a4… (all of the seat's roots in one cut). By AI agents, Wed Nov 11 2026. No macro, syntax, notation, axiom, sorry.
-/
import Derived.Test.YtfjemnjdkniibaaDoorChecked
import GoSem.Claim
import GoSem.ClaimJoined
import GoSem.ClaimMapViews
import Derived.JoinedTies
import Derived.KernelRfl
namespace Go.Proofs.YtfjemnjdkniibaaDoor
/- THE CELL 'sum', in the pinned program and in every row, IS THE sha256 OF THE DUMP (.gsa) THAT YtfjemnjdkniibaaDoorProg.lean LOADS. Nothing in Lean hashes anything: it is a label: what it is worth is what the hold of that sum in a sandbox is worth. -/
noncomputable def Tryd.pinned : Pinned := { name := "ytfjemnjdkniibaadoor", sum := "039a9a4e2660f7a4331d92122144a840bf99ed1ab509c053d261bbedb857f71b", checked := Tryd.checked }
namespace Rows
def none {H : Type} : Left H := { results := [], args := [] }

/- WHAT THE LISTED PACKAGE-LEVEL VARIABLES READ AS WHEN THE CALL BEGINS. Each datum BY PROGRAM (the guide's laid-datum.mjs) off the statement by which the dump's own 'gosem.cut.vars' lays the variable. In a bare row this is a premise. The card (YtfjemnjdkniibaaDoorCards.lean) ties it to the program's text. -/
def laid_math_bits_deBruijn32tab {H : Type} : DataW H := .agg [.lit (.int .u8 0), .lit (.int .u8 1), .lit (.int .u8 28), .lit (.int .u8 2), .lit (.int .u8 29), .lit (.int .u8 14), .lit (.int .u8 24), .lit (.int .u8 3), .lit (.int .u8 30), .lit (.int .u8 22), .lit (.int .u8 20), .lit (.int .u8 15), .lit (.int .u8 25), .lit (.int .u8 17), .lit (.int .u8 4), .lit (.int .u8 8), .lit (.int .u8 31), .lit (.int .u8 27), .lit (.int .u8 13), .lit (.int .u8 23), .lit (.int .u8 21), .lit (.int .u8 19), .lit (.int .u8 16), .lit (.int .u8 7), .lit (.int .u8 26), .lit (.int .u8 12), .lit (.int .u8 18), .lit (.int .u8 6), .lit (.int .u8 11), .lit (.int .u8 5), .lit (.int .u8 10), .lit (.int .u8 9)]
def laid_math_bits_deBruijn64tab {H : Type} : DataW H := .agg [.lit (.int .u8 0), .lit (.int .u8 1), .lit (.int .u8 56), .lit (.int .u8 2), .lit (.int .u8 57), .lit (.int .u8 49), .lit (.int .u8 28), .lit (.int .u8 3), .lit (.int .u8 61), .lit (.int .u8 58), .lit (.int .u8 42), .lit (.int .u8 50), .lit (.int .u8 38), .lit (.int .u8 29), .lit (.int .u8 17), .lit (.int .u8 4), .lit (.int .u8 62), .lit (.int .u8 47), .lit (.int .u8 59), .lit (.int .u8 36), .lit (.int .u8 45), .lit (.int .u8 43), .lit (.int .u8 51), .lit (.int .u8 22), .lit (.int .u8 53), .lit (.int .u8 39), .lit (.int .u8 33), .lit (.int .u8 30), .lit (.int .u8 24), .lit (.int .u8 18), .lit (.int .u8 12), .lit (.int .u8 5), .lit (.int .u8 63), .lit (.int .u8 55), .lit (.int .u8 48), .lit (.int .u8 27), .lit (.int .u8 60), .lit (.int .u8 41), .lit (.int .u8 37), .lit (.int .u8 16), .lit (.int .u8 46), .lit (.int .u8 35), .lit (.int .u8 44), .lit (.int .u8 21), .lit (.int .u8 52), .lit (.int .u8 32), .lit (.int .u8 23), .lit (.int .u8 11), .lit (.int .u8 54), .lit (.int .u8 26), .lit (.int .u8 40), .lit (.int .u8 15), .lit (.int .u8 34), .lit (.int .u8 20), .lit (.int .u8 31), .lit (.int .u8 10), .lit (.int .u8 25), .lit (.int .u8 14), .lit (.int .u8 19), .lit (.int .u8 9), .lit (.int .u8 13), .lit (.int .u8 8), .lit (.int .u8 7), .lit (.int .u8 6)]
def laid_internal_strconv_uint64pow10 {H : Type} : DataW H := .agg [.lit (.int .u64 1), .lit (.int .u64 10), .lit (.int .u64 100), .lit (.int .u64 1000), .lit (.int .u64 10000), .lit (.int .u64 100000), .lit (.int .u64 1000000), .lit (.int .u64 10000000), .lit (.int .u64 100000000), .lit (.int .u64 1000000000), .lit (.int .u64 10000000000), .lit (.int .u64 100000000000), .lit (.int .u64 1000000000000), .lit (.int .u64 10000000000000), .lit (.int .u64 100000000000000), .lit (.int .u64 1000000000000000), .lit (.int .u64 10000000000000000), .lit (.int .u64 100000000000000000), .lit (.int .u64 1000000000000000000), .lit (.int .u64 10000000000000000000)]

/-- 'laws.FnJobValid': WHATEVER THE INPUT: true; the input reads as it did. -/
def fnJobValidSpec : ChangeSpec := { name := "fnJobValid", fn := fun _ => fun
  | [d] => { results := [.lit (.bool true)], args := [d] }
  | _ => none }
def fnJobValidRow : OpenClaim := { program := "ytfjemnjdkniibaadoor", sum := "039a9a4e2660f7a4331d92122144a840bf99ed1ab509c053d261bbedb857f71b", func := "loop.example/steelmill/laws.FnJobValid", spec := "fnJobValid", named := ["internal/strconv.uint64pow10", "math/bits.deBruijn32tab", "math/bits.deBruijn64tab"], apart := false, laid := [("math/bits.deBruijn32tab", laid_math_bits_deBruijn32tab), ("math/bits.deBruijn64tab", laid_math_bits_deBruijn64tab), ("internal/strconv.uint64pow10", laid_internal_strconv_uint64pow10)] }
def FnJobValidSaid : Prop := fnJobValidRow.holds Tryd.pinned (OpenSpec.ofChange fnJobValidSpec)

/-- ITS FALSE NEIGHBOUR: 'it returns false'. Refute it at one input. -/
def fnJobValidWrong : ChangeSpec := { name := "fnJobValid", fn := fun _ => fun
  | [d] => { results := [.lit (.bool false)], args := [d] }
  | _ => none }
def FnJobValidWrongFalsely : Prop := fnJobValidRow.holds Tryd.pinned (OpenSpec.ofChange fnJobValidWrong)

/-- 'laws.FnJobsValid': WHATEVER THE INPUT: true; the input reads as it did. -/
def fnJobsValidSpec : ChangeSpec := { name := "fnJobsValid", fn := fun _ => fun
  | [d] => { results := [.lit (.bool true)], args := [d] }
  | _ => none }
def fnJobsValidRow : OpenClaim := { program := "ytfjemnjdkniibaadoor", sum := "039a9a4e2660f7a4331d92122144a840bf99ed1ab509c053d261bbedb857f71b", func := "loop.example/steelmill/laws.FnJobsValid", spec := "fnJobsValid", named := ["internal/strconv.uint64pow10", "math/bits.deBruijn32tab", "math/bits.deBruijn64tab"], apart := false, laid := [("math/bits.deBruijn32tab", laid_math_bits_deBruijn32tab), ("math/bits.deBruijn64tab", laid_math_bits_deBruijn64tab), ("internal/strconv.uint64pow10", laid_internal_strconv_uint64pow10)] }
def FnJobsValidSaid : Prop := fnJobsValidRow.holds Tryd.pinned (OpenSpec.ofChange fnJobsValidSpec)

/-- ITS FALSE NEIGHBOUR: 'it returns false'. Refute it at one input. -/
def fnJobsValidWrong : ChangeSpec := { name := "fnJobsValid", fn := fun _ => fun
  | [d] => { results := [.lit (.bool false)], args := [d] }
  | _ => none }
def FnJobsValidWrongFalsely : Prop := fnJobsValidRow.holds Tryd.pinned (OpenSpec.ofChange fnJobsValidWrong)

/-- 'laws.FnTwoEnd': WHATEVER THE INPUT: true; the input reads as it did. -/
def fnTwoEndSpec : ChangeSpec := { name := "fnTwoEnd", fn := fun _ => fun
  | [d] => { results := [.lit (.bool true)], args := [d] }
  | _ => none }
def fnTwoEndRow : OpenClaim := { program := "ytfjemnjdkniibaadoor", sum := "039a9a4e2660f7a4331d92122144a840bf99ed1ab509c053d261bbedb857f71b", func := "loop.example/steelmill/laws.FnTwoEnd", spec := "fnTwoEnd", named := ["internal/strconv.uint64pow10", "math/bits.deBruijn32tab", "math/bits.deBruijn64tab"], apart := false, laid := [("math/bits.deBruijn32tab", laid_math_bits_deBruijn32tab), ("math/bits.deBruijn64tab", laid_math_bits_deBruijn64tab), ("internal/strconv.uint64pow10", laid_internal_strconv_uint64pow10)] }
def FnTwoEndSaid : Prop := fnTwoEndRow.holds Tryd.pinned (OpenSpec.ofChange fnTwoEndSpec)

/-- ITS FALSE NEIGHBOUR: 'it returns false'. Refute it at one input. -/
def fnTwoEndWrong : ChangeSpec := { name := "fnTwoEnd", fn := fun _ => fun
  | [d] => { results := [.lit (.bool false)], args := [d] }
  | _ => none }
def FnTwoEndWrongFalsely : Prop := fnTwoEndRow.holds Tryd.pinned (OpenSpec.ofChange fnTwoEndWrong)

/-- 'laws.FnBeforeValid': WHATEVER THE INPUT: true; the input reads as it did. -/
def fnBeforeValidSpec : ChangeSpec := { name := "fnBeforeValid", fn := fun _ => fun
  | [d] => { results := [.lit (.bool true)], args := [d] }
  | _ => none }
def fnBeforeValidRow : OpenClaim := { program := "ytfjemnjdkniibaadoor", sum := "039a9a4e2660f7a4331d92122144a840bf99ed1ab509c053d261bbedb857f71b", func := "loop.example/steelmill/laws.FnBeforeValid", spec := "fnBeforeValid", named := ["internal/strconv.uint64pow10", "math/bits.deBruijn32tab", "math/bits.deBruijn64tab"], apart := false, laid := [("math/bits.deBruijn32tab", laid_math_bits_deBruijn32tab), ("math/bits.deBruijn64tab", laid_math_bits_deBruijn64tab), ("internal/strconv.uint64pow10", laid_internal_strconv_uint64pow10)] }
def FnBeforeValidSaid : Prop := fnBeforeValidRow.holds Tryd.pinned (OpenSpec.ofChange fnBeforeValidSpec)

/-- ITS FALSE NEIGHBOUR: 'it returns false'. Refute it at one input. -/
def fnBeforeValidWrong : ChangeSpec := { name := "fnBeforeValid", fn := fun _ => fun
  | [d] => { results := [.lit (.bool false)], args := [d] }
  | _ => none }
def FnBeforeValidWrongFalsely : Prop := fnBeforeValidRow.holds Tryd.pinned (OpenSpec.ofChange fnBeforeValidWrong)

/-- 'laws.FnTwoBest': WHATEVER THE INPUT: true; the input reads as it did. -/
def fnTwoBestSpec : ChangeSpec := { name := "fnTwoBest", fn := fun _ => fun
  | [d] => { results := [.lit (.bool true)], args := [d] }
  | _ => none }
def fnTwoBestRow : OpenClaim := { program := "ytfjemnjdkniibaadoor", sum := "039a9a4e2660f7a4331d92122144a840bf99ed1ab509c053d261bbedb857f71b", func := "loop.example/steelmill/laws.FnTwoBest", spec := "fnTwoBest", named := ["internal/strconv.uint64pow10", "math/bits.deBruijn32tab", "math/bits.deBruijn64tab"], apart := false, laid := [("math/bits.deBruijn32tab", laid_math_bits_deBruijn32tab), ("math/bits.deBruijn64tab", laid_math_bits_deBruijn64tab), ("internal/strconv.uint64pow10", laid_internal_strconv_uint64pow10)] }
def FnTwoBestSaid : Prop := fnTwoBestRow.holds Tryd.pinned (OpenSpec.ofChange fnTwoBestSpec)

/-- ITS FALSE NEIGHBOUR: 'it returns false'. Refute it at one input. -/
def fnTwoBestWrong : ChangeSpec := { name := "fnTwoBest", fn := fun _ => fun
  | [d] => { results := [.lit (.bool false)], args := [d] }
  | _ => none }
def FnTwoBestWrongFalsely : Prop := fnTwoBestRow.holds Tryd.pinned (OpenSpec.ofChange fnTwoBestWrong)

/-- 'laws.FnJobEnds': WHATEVER THE INPUT: true; the input reads as it did. -/
def fnJobEndsSpec : ChangeSpec := { name := "fnJobEnds", fn := fun _ => fun
  | [d] => { results := [.lit (.bool true)], args := [d] }
  | _ => none }
def fnJobEndsRow : OpenClaim := { program := "ytfjemnjdkniibaadoor", sum := "039a9a4e2660f7a4331d92122144a840bf99ed1ab509c053d261bbedb857f71b", func := "loop.example/steelmill/laws.FnJobEnds", spec := "fnJobEnds", named := ["internal/strconv.uint64pow10", "math/bits.deBruijn32tab", "math/bits.deBruijn64tab"], apart := false, laid := [("math/bits.deBruijn32tab", laid_math_bits_deBruijn32tab), ("math/bits.deBruijn64tab", laid_math_bits_deBruijn64tab), ("internal/strconv.uint64pow10", laid_internal_strconv_uint64pow10)] }
def FnJobEndsSaid : Prop := fnJobEndsRow.holds Tryd.pinned (OpenSpec.ofChange fnJobEndsSpec)

/-- ITS FALSE NEIGHBOUR: 'it returns false'. Refute it at one input. -/
def fnJobEndsWrong : ChangeSpec := { name := "fnJobEnds", fn := fun _ => fun
  | [d] => { results := [.lit (.bool false)], args := [d] }
  | _ => none }
def FnJobEndsWrongFalsely : Prop := fnJobEndsRow.holds Tryd.pinned (OpenSpec.ofChange fnJobEndsWrong)

/-- 'laws.FnBeforeOk': WHATEVER THE INPUT: true; the input reads as it did. -/
def fnBeforeOkSpec : ChangeSpec := { name := "fnBeforeOk", fn := fun _ => fun
  | [d] => { results := [.lit (.bool true)], args := [d] }
  | _ => none }
def fnBeforeOkRow : OpenClaim := { program := "ytfjemnjdkniibaadoor", sum := "039a9a4e2660f7a4331d92122144a840bf99ed1ab509c053d261bbedb857f71b", func := "loop.example/steelmill/laws.FnBeforeOk", spec := "fnBeforeOk", named := ["internal/strconv.uint64pow10", "math/bits.deBruijn32tab", "math/bits.deBruijn64tab"], apart := false, laid := [("math/bits.deBruijn32tab", laid_math_bits_deBruijn32tab), ("math/bits.deBruijn64tab", laid_math_bits_deBruijn64tab), ("internal/strconv.uint64pow10", laid_internal_strconv_uint64pow10)] }
def FnBeforeOkSaid : Prop := fnBeforeOkRow.holds Tryd.pinned (OpenSpec.ofChange fnBeforeOkSpec)

/-- ITS FALSE NEIGHBOUR: 'it returns false'. Refute it at one input. -/
def fnBeforeOkWrong : ChangeSpec := { name := "fnBeforeOk", fn := fun _ => fun
  | [d] => { results := [.lit (.bool false)], args := [d] }
  | _ => none }
def FnBeforeOkWrongFalsely : Prop := fnBeforeOkRow.holds Tryd.pinned (OpenSpec.ofChange fnBeforeOkWrong)

/-- 'laws.FnTwoLong': WHATEVER THE INPUT: true; the input reads as it did. -/
def fnTwoLongSpec : ChangeSpec := { name := "fnTwoLong", fn := fun _ => fun
  | [d] => { results := [.lit (.bool true)], args := [d] }
  | _ => none }
def fnTwoLongRow : OpenClaim := { program := "ytfjemnjdkniibaadoor", sum := "039a9a4e2660f7a4331d92122144a840bf99ed1ab509c053d261bbedb857f71b", func := "loop.example/steelmill/laws.FnTwoLong", spec := "fnTwoLong", unfollowed := true, recurses := true, named := ["internal/strconv.uint64pow10", "math/bits.deBruijn32tab", "math/bits.deBruijn64tab"], apart := false, laid := [("math/bits.deBruijn32tab", laid_math_bits_deBruijn32tab), ("math/bits.deBruijn64tab", laid_math_bits_deBruijn64tab), ("internal/strconv.uint64pow10", laid_internal_strconv_uint64pow10)] }
def FnTwoLongSaid : Prop := fnTwoLongRow.holds Tryd.pinned (OpenSpec.ofChange fnTwoLongSpec)

/-- ITS FALSE NEIGHBOUR: 'it returns false'. Refute it at one input. -/
def fnTwoLongWrong : ChangeSpec := { name := "fnTwoLong", fn := fun _ => fun
  | [d] => { results := [.lit (.bool false)], args := [d] }
  | _ => none }
def FnTwoLongWrongFalsely : Prop := fnTwoLongRow.holds Tryd.pinned (OpenSpec.ofChange fnTwoLongWrong)

/-- 'laws.FnWeightOrder': WHATEVER THE INPUT: true; the input reads as it did. -/
def fnWeightOrderSpec : ChangeSpec := { name := "fnWeightOrder", fn := fun _ => fun
  | [d] => { results := [.lit (.bool true)], args := [d] }
  | _ => none }
def fnWeightOrderRow : OpenClaim := { program := "ytfjemnjdkniibaadoor", sum := "039a9a4e2660f7a4331d92122144a840bf99ed1ab509c053d261bbedb857f71b", func := "loop.example/steelmill/laws.FnWeightOrder", spec := "fnWeightOrder", unfollowed := true, recurses := true, named := ["internal/strconv.uint64pow10", "math/bits.deBruijn32tab", "math/bits.deBruijn64tab"], apart := false, laid := [("math/bits.deBruijn32tab", laid_math_bits_deBruijn32tab), ("math/bits.deBruijn64tab", laid_math_bits_deBruijn64tab), ("internal/strconv.uint64pow10", laid_internal_strconv_uint64pow10)] }
def FnWeightOrderSaid : Prop := fnWeightOrderRow.holds Tryd.pinned (OpenSpec.ofChange fnWeightOrderSpec)

/-- ITS FALSE NEIGHBOUR: 'it returns false'. Refute it at one input. -/
def fnWeightOrderWrong : ChangeSpec := { name := "fnWeightOrder", fn := fun _ => fun
  | [d] => { results := [.lit (.bool false)], args := [d] }
  | _ => none }
def FnWeightOrderWrongFalsely : Prop := fnWeightOrderRow.holds Tryd.pinned (OpenSpec.ofChange fnWeightOrderWrong)

/-- 'laws.FnDueOrder': WHATEVER THE INPUT: true; the input reads as it did. -/
def fnDueOrderSpec : ChangeSpec := { name := "fnDueOrder", fn := fun _ => fun
  | [d] => { results := [.lit (.bool true)], args := [d] }
  | _ => none }
def fnDueOrderRow : OpenClaim := { program := "ytfjemnjdkniibaadoor", sum := "039a9a4e2660f7a4331d92122144a840bf99ed1ab509c053d261bbedb857f71b", func := "loop.example/steelmill/laws.FnDueOrder", spec := "fnDueOrder", unfollowed := true, recurses := true, named := ["internal/strconv.uint64pow10", "math/bits.deBruijn32tab", "math/bits.deBruijn64tab"], apart := false, laid := [("math/bits.deBruijn32tab", laid_math_bits_deBruijn32tab), ("math/bits.deBruijn64tab", laid_math_bits_deBruijn64tab), ("internal/strconv.uint64pow10", laid_internal_strconv_uint64pow10)] }
def FnDueOrderSaid : Prop := fnDueOrderRow.holds Tryd.pinned (OpenSpec.ofChange fnDueOrderSpec)

/-- ITS FALSE NEIGHBOUR: 'it returns false'. Refute it at one input. -/
def fnDueOrderWrong : ChangeSpec := { name := "fnDueOrder", fn := fun _ => fun
  | [d] => { results := [.lit (.bool false)], args := [d] }
  | _ => none }
def FnDueOrderWrongFalsely : Prop := fnDueOrderRow.holds Tryd.pinned (OpenSpec.ofChange fnDueOrderWrong)

/-- 'laws.FnEndSum': WHATEVER THE INPUT: true; the input reads as it did. -/
def fnEndSumSpec : ChangeSpec := { name := "fnEndSum", fn := fun _ => fun
  | [d] => { results := [.lit (.bool true)], args := [d] }
  | _ => none }
def fnEndSumRow : OpenClaim := { program := "ytfjemnjdkniibaadoor", sum := "039a9a4e2660f7a4331d92122144a840bf99ed1ab509c053d261bbedb857f71b", func := "loop.example/steelmill/laws.FnEndSum", spec := "fnEndSum", unfollowed := true, recurses := true, named := ["internal/strconv.uint64pow10", "math/bits.deBruijn32tab", "math/bits.deBruijn64tab"], apart := false, laid := [("math/bits.deBruijn32tab", laid_math_bits_deBruijn32tab), ("math/bits.deBruijn64tab", laid_math_bits_deBruijn64tab), ("internal/strconv.uint64pow10", laid_internal_strconv_uint64pow10)] }
def FnEndSumSaid : Prop := fnEndSumRow.holds Tryd.pinned (OpenSpec.ofChange fnEndSumSpec)

/-- ITS FALSE NEIGHBOUR: 'it returns false'. Refute it at one input. -/
def fnEndSumWrong : ChangeSpec := { name := "fnEndSum", fn := fun _ => fun
  | [d] => { results := [.lit (.bool false)], args := [d] }
  | _ => none }
def FnEndSumWrongFalsely : Prop := fnEndSumRow.holds Tryd.pinned (OpenSpec.ofChange fnEndSumWrong)

/-- 'laws.FnWorstLate': WHATEVER THE INPUT: true; the input reads as it did. -/
def fnWorstLateSpec : ChangeSpec := { name := "fnWorstLate", fn := fun _ => fun
  | [d] => { results := [.lit (.bool true)], args := [d] }
  | _ => none }
def fnWorstLateRow : OpenClaim := { program := "ytfjemnjdkniibaadoor", sum := "039a9a4e2660f7a4331d92122144a840bf99ed1ab509c053d261bbedb857f71b", func := "loop.example/steelmill/laws.FnWorstLate", spec := "fnWorstLate", unfollowed := true, recurses := true, named := ["internal/strconv.uint64pow10", "math/bits.deBruijn32tab", "math/bits.deBruijn64tab"], apart := false, laid := [("math/bits.deBruijn32tab", laid_math_bits_deBruijn32tab), ("math/bits.deBruijn64tab", laid_math_bits_deBruijn64tab), ("internal/strconv.uint64pow10", laid_internal_strconv_uint64pow10)] }
def FnWorstLateSaid : Prop := fnWorstLateRow.holds Tryd.pinned (OpenSpec.ofChange fnWorstLateSpec)

/-- ITS FALSE NEIGHBOUR: 'it returns false'. Refute it at one input. -/
def fnWorstLateWrong : ChangeSpec := { name := "fnWorstLate", fn := fun _ => fun
  | [d] => { results := [.lit (.bool false)], args := [d] }
  | _ => none }
def FnWorstLateWrongFalsely : Prop := fnWorstLateRow.holds Tryd.pinned (OpenSpec.ofChange fnWorstLateWrong)

/-- 'laws.FnBeforeBest': WHATEVER THE INPUT: true; the input reads as it did. -/
def fnBeforeBestSpec : ChangeSpec := { name := "fnBeforeBest", fn := fun _ => fun
  | [d] => { results := [.lit (.bool true)], args := [d] }
  | _ => none }
def fnBeforeBestRow : OpenClaim := { program := "ytfjemnjdkniibaadoor", sum := "039a9a4e2660f7a4331d92122144a840bf99ed1ab509c053d261bbedb857f71b", func := "loop.example/steelmill/laws.FnBeforeBest", spec := "fnBeforeBest", unfollowed := true, recurses := true, named := ["internal/strconv.uint64pow10", "math/bits.deBruijn32tab", "math/bits.deBruijn64tab"], apart := false, laid := [("math/bits.deBruijn32tab", laid_math_bits_deBruijn32tab), ("math/bits.deBruijn64tab", laid_math_bits_deBruijn64tab), ("internal/strconv.uint64pow10", laid_internal_strconv_uint64pow10)] }
def FnBeforeBestSaid : Prop := fnBeforeBestRow.holds Tryd.pinned (OpenSpec.ofChange fnBeforeBestSpec)

/-- ITS FALSE NEIGHBOUR: 'it returns false'. Refute it at one input. -/
def fnBeforeBestWrong : ChangeSpec := { name := "fnBeforeBest", fn := fun _ => fun
  | [d] => { results := [.lit (.bool false)], args := [d] }
  | _ => none }
def FnBeforeBestWrongFalsely : Prop := fnBeforeBestRow.holds Tryd.pinned (OpenSpec.ofChange fnBeforeBestWrong)

/-- 'laws.FnOnTime': WHATEVER THE INPUT: true; the input reads as it did. -/
def fnOnTimeSpec : ChangeSpec := { name := "fnOnTime", fn := fun _ => fun
  | [d] => { results := [.lit (.bool true)], args := [d] }
  | _ => none }
def fnOnTimeRow : OpenClaim := { program := "ytfjemnjdkniibaadoor", sum := "039a9a4e2660f7a4331d92122144a840bf99ed1ab509c053d261bbedb857f71b", func := "loop.example/steelmill/laws.FnOnTime", spec := "fnOnTime", unfollowed := true, recurses := true, named := ["internal/strconv.uint64pow10", "math/bits.deBruijn32tab", "math/bits.deBruijn64tab"], apart := false, laid := [("math/bits.deBruijn32tab", laid_math_bits_deBruijn32tab), ("math/bits.deBruijn64tab", laid_math_bits_deBruijn64tab), ("internal/strconv.uint64pow10", laid_internal_strconv_uint64pow10)] }
def FnOnTimeSaid : Prop := fnOnTimeRow.holds Tryd.pinned (OpenSpec.ofChange fnOnTimeSpec)

/-- ITS FALSE NEIGHBOUR: 'it returns false'. Refute it at one input. -/
def fnOnTimeWrong : ChangeSpec := { name := "fnOnTime", fn := fun _ => fun
  | [d] => { results := [.lit (.bool false)], args := [d] }
  | _ => none }
def FnOnTimeWrongFalsely : Prop := fnOnTimeRow.holds Tryd.pinned (OpenSpec.ofChange fnOnTimeWrong)

/-- 'laws.FnJobsLate': WHATEVER THE INPUT: true; the input reads as it did. -/
def fnJobsLateSpec : ChangeSpec := { name := "fnJobsLate", fn := fun _ => fun
  | [d] => { results := [.lit (.bool true)], args := [d] }
  | _ => none }
def fnJobsLateRow : OpenClaim := { program := "ytfjemnjdkniibaadoor", sum := "039a9a4e2660f7a4331d92122144a840bf99ed1ab509c053d261bbedb857f71b", func := "loop.example/steelmill/laws.FnJobsLate", spec := "fnJobsLate", unfollowed := true, recurses := true, named := ["internal/strconv.uint64pow10", "math/bits.deBruijn32tab", "math/bits.deBruijn64tab"], apart := false, laid := [("math/bits.deBruijn32tab", laid_math_bits_deBruijn32tab), ("math/bits.deBruijn64tab", laid_math_bits_deBruijn64tab), ("internal/strconv.uint64pow10", laid_internal_strconv_uint64pow10)] }
def FnJobsLateSaid : Prop := fnJobsLateRow.holds Tryd.pinned (OpenSpec.ofChange fnJobsLateSpec)

/-- ITS FALSE NEIGHBOUR: 'it returns false'. Refute it at one input. -/
def fnJobsLateWrong : ChangeSpec := { name := "fnJobsLate", fn := fun _ => fun
  | [d] => { results := [.lit (.bool false)], args := [d] }
  | _ => none }
def FnJobsLateWrongFalsely : Prop := fnJobsLateRow.holds Tryd.pinned (OpenSpec.ofChange fnJobsLateWrong)

/-- 'laws.FnFewestLate': WHATEVER THE INPUT: true; the input reads as it did. -/
def fnFewestLateSpec : ChangeSpec := { name := "fnFewestLate", fn := fun _ => fun
  | [d] => { results := [.lit (.bool true)], args := [d] }
  | _ => none }
def fnFewestLateRow : OpenClaim := { program := "ytfjemnjdkniibaadoor", sum := "039a9a4e2660f7a4331d92122144a840bf99ed1ab509c053d261bbedb857f71b", func := "loop.example/steelmill/laws.FnFewestLate", spec := "fnFewestLate", unfollowed := true, recurses := true, named := ["internal/strconv.uint64pow10", "math/bits.deBruijn32tab", "math/bits.deBruijn64tab"], apart := false, laid := [("math/bits.deBruijn32tab", laid_math_bits_deBruijn32tab), ("math/bits.deBruijn64tab", laid_math_bits_deBruijn64tab), ("internal/strconv.uint64pow10", laid_internal_strconv_uint64pow10)] }
def FnFewestLateSaid : Prop := fnFewestLateRow.holds Tryd.pinned (OpenSpec.ofChange fnFewestLateSpec)

/-- ITS FALSE NEIGHBOUR: 'it returns false'. Refute it at one input. -/
def fnFewestLateWrong : ChangeSpec := { name := "fnFewestLate", fn := fun _ => fun
  | [d] => { results := [.lit (.bool false)], args := [d] }
  | _ => none }
def FnFewestLateWrongFalsely : Prop := fnFewestLateRow.holds Tryd.pinned (OpenSpec.ofChange fnFewestLateWrong)

/- THE SECOND FORM. 'bulk': how many values and letters a reading holds, each counted each time it is reached (what is shared counts as often as it is met; a slice's spare places count too). A statement '..UptoSaid' is the law's where the arguments, and the package variables that the reading takes, are together of bulk at most 1048576: NARROWER than '..Said'. Prove '..Said' where nothing that the law and all that it calls make is longer than what came in: it says more and counts as full. Else prove '..UptoSaid'. A law counts once. -/
mutual
def uptoBulk {H : Type} : DataW H → Nat
  | .lit (.string bytes) => bytes.length + 1
  | .lit _ => 1
  | .nil => 1
  | .ptr d => uptoBulk d + 1
  | .slice elems spare => uptoBulkAll elems + uptoBulkAll spare + 1
  | .agg parts => uptoBulkAll parts + 1
  | .iface _ d => uptoBulk d + 1
  | .map entries => uptoBulkEntries entries + 1
  | .held _ => 1
def uptoBulkAll {H : Type} : List (DataW H) → Nat
  | [] => 0
  | d :: r => uptoBulk d + uptoBulkAll r
def uptoBulkEntries {H : Type} : List (Lit × DataW H) → Nat
  | [] => 0
  | x :: r => uptoBulkEntry x + uptoBulkEntries r
def uptoBulkEntry {H : Type} : Lit × DataW H → Nat
  | (.string bytes, d) => bytes.length + uptoBulk d + 1
  | (_, d) => uptoBulk d + 1
 end
def uptoSmall : (H : Type) → List (DataW H) → Bool := fun _ ds => decide (uptoBulkAll ds ≤ 1048576)
def OpenSpec.upto (s : _root_.Go.ChangeSpec) : _root_.Go.OpenSpec := { _root_.Go.OpenSpec.ofChange s with cond := some uptoSmall }

/-- 'laws.FnJobValid', WHERE WHAT IT READS IS OF BULK AT MOST 1048576: true; the input reads as it did. -/
def fnJobValidUptoRow : OpenClaim := { program := "ytfjemnjdkniibaadoor", sum := "039a9a4e2660f7a4331d92122144a840bf99ed1ab509c053d261bbedb857f71b", func := "loop.example/steelmill/laws.FnJobValid", spec := "fnJobValid", named := ["internal/strconv.uint64pow10", "math/bits.deBruijn32tab", "math/bits.deBruijn64tab"], apart := false, laid := [("math/bits.deBruijn32tab", laid_math_bits_deBruijn32tab), ("math/bits.deBruijn64tab", laid_math_bits_deBruijn64tab), ("internal/strconv.uint64pow10", laid_internal_strconv_uint64pow10)], narrowed := true }
def FnJobValidUptoSaid : Prop := fnJobValidUptoRow.holds Tryd.pinned (OpenSpec.upto fnJobValidSpec)

/-- 'laws.FnJobsValid', WHERE WHAT IT READS IS OF BULK AT MOST 1048576: true; the input reads as it did. -/
def fnJobsValidUptoRow : OpenClaim := { program := "ytfjemnjdkniibaadoor", sum := "039a9a4e2660f7a4331d92122144a840bf99ed1ab509c053d261bbedb857f71b", func := "loop.example/steelmill/laws.FnJobsValid", spec := "fnJobsValid", named := ["internal/strconv.uint64pow10", "math/bits.deBruijn32tab", "math/bits.deBruijn64tab"], apart := false, laid := [("math/bits.deBruijn32tab", laid_math_bits_deBruijn32tab), ("math/bits.deBruijn64tab", laid_math_bits_deBruijn64tab), ("internal/strconv.uint64pow10", laid_internal_strconv_uint64pow10)], narrowed := true }
def FnJobsValidUptoSaid : Prop := fnJobsValidUptoRow.holds Tryd.pinned (OpenSpec.upto fnJobsValidSpec)

/-- 'laws.FnTwoEnd', WHERE WHAT IT READS IS OF BULK AT MOST 1048576: true; the input reads as it did. -/
def fnTwoEndUptoRow : OpenClaim := { program := "ytfjemnjdkniibaadoor", sum := "039a9a4e2660f7a4331d92122144a840bf99ed1ab509c053d261bbedb857f71b", func := "loop.example/steelmill/laws.FnTwoEnd", spec := "fnTwoEnd", named := ["internal/strconv.uint64pow10", "math/bits.deBruijn32tab", "math/bits.deBruijn64tab"], apart := false, laid := [("math/bits.deBruijn32tab", laid_math_bits_deBruijn32tab), ("math/bits.deBruijn64tab", laid_math_bits_deBruijn64tab), ("internal/strconv.uint64pow10", laid_internal_strconv_uint64pow10)], narrowed := true }
def FnTwoEndUptoSaid : Prop := fnTwoEndUptoRow.holds Tryd.pinned (OpenSpec.upto fnTwoEndSpec)

/-- 'laws.FnBeforeValid', WHERE WHAT IT READS IS OF BULK AT MOST 1048576: true; the input reads as it did. -/
def fnBeforeValidUptoRow : OpenClaim := { program := "ytfjemnjdkniibaadoor", sum := "039a9a4e2660f7a4331d92122144a840bf99ed1ab509c053d261bbedb857f71b", func := "loop.example/steelmill/laws.FnBeforeValid", spec := "fnBeforeValid", named := ["internal/strconv.uint64pow10", "math/bits.deBruijn32tab", "math/bits.deBruijn64tab"], apart := false, laid := [("math/bits.deBruijn32tab", laid_math_bits_deBruijn32tab), ("math/bits.deBruijn64tab", laid_math_bits_deBruijn64tab), ("internal/strconv.uint64pow10", laid_internal_strconv_uint64pow10)], narrowed := true }
def FnBeforeValidUptoSaid : Prop := fnBeforeValidUptoRow.holds Tryd.pinned (OpenSpec.upto fnBeforeValidSpec)

/-- 'laws.FnTwoBest', WHERE WHAT IT READS IS OF BULK AT MOST 1048576: true; the input reads as it did. -/
def fnTwoBestUptoRow : OpenClaim := { program := "ytfjemnjdkniibaadoor", sum := "039a9a4e2660f7a4331d92122144a840bf99ed1ab509c053d261bbedb857f71b", func := "loop.example/steelmill/laws.FnTwoBest", spec := "fnTwoBest", named := ["internal/strconv.uint64pow10", "math/bits.deBruijn32tab", "math/bits.deBruijn64tab"], apart := false, laid := [("math/bits.deBruijn32tab", laid_math_bits_deBruijn32tab), ("math/bits.deBruijn64tab", laid_math_bits_deBruijn64tab), ("internal/strconv.uint64pow10", laid_internal_strconv_uint64pow10)], narrowed := true }
def FnTwoBestUptoSaid : Prop := fnTwoBestUptoRow.holds Tryd.pinned (OpenSpec.upto fnTwoBestSpec)

/-- 'laws.FnJobEnds', WHERE WHAT IT READS IS OF BULK AT MOST 1048576: true; the input reads as it did. -/
def fnJobEndsUptoRow : OpenClaim := { program := "ytfjemnjdkniibaadoor", sum := "039a9a4e2660f7a4331d92122144a840bf99ed1ab509c053d261bbedb857f71b", func := "loop.example/steelmill/laws.FnJobEnds", spec := "fnJobEnds", named := ["internal/strconv.uint64pow10", "math/bits.deBruijn32tab", "math/bits.deBruijn64tab"], apart := false, laid := [("math/bits.deBruijn32tab", laid_math_bits_deBruijn32tab), ("math/bits.deBruijn64tab", laid_math_bits_deBruijn64tab), ("internal/strconv.uint64pow10", laid_internal_strconv_uint64pow10)], narrowed := true }
def FnJobEndsUptoSaid : Prop := fnJobEndsUptoRow.holds Tryd.pinned (OpenSpec.upto fnJobEndsSpec)

/-- 'laws.FnBeforeOk', WHERE WHAT IT READS IS OF BULK AT MOST 1048576: true; the input reads as it did. -/
def fnBeforeOkUptoRow : OpenClaim := { program := "ytfjemnjdkniibaadoor", sum := "039a9a4e2660f7a4331d92122144a840bf99ed1ab509c053d261bbedb857f71b", func := "loop.example/steelmill/laws.FnBeforeOk", spec := "fnBeforeOk", named := ["internal/strconv.uint64pow10", "math/bits.deBruijn32tab", "math/bits.deBruijn64tab"], apart := false, laid := [("math/bits.deBruijn32tab", laid_math_bits_deBruijn32tab), ("math/bits.deBruijn64tab", laid_math_bits_deBruijn64tab), ("internal/strconv.uint64pow10", laid_internal_strconv_uint64pow10)], narrowed := true }
def FnBeforeOkUptoSaid : Prop := fnBeforeOkUptoRow.holds Tryd.pinned (OpenSpec.upto fnBeforeOkSpec)

/-- 'laws.FnTwoLong', WHERE WHAT IT READS IS OF BULK AT MOST 1048576: true; the input reads as it did. -/
def fnTwoLongUptoRow : OpenClaim := { program := "ytfjemnjdkniibaadoor", sum := "039a9a4e2660f7a4331d92122144a840bf99ed1ab509c053d261bbedb857f71b", func := "loop.example/steelmill/laws.FnTwoLong", spec := "fnTwoLong", unfollowed := true, recurses := true, named := ["internal/strconv.uint64pow10", "math/bits.deBruijn32tab", "math/bits.deBruijn64tab"], apart := false, laid := [("math/bits.deBruijn32tab", laid_math_bits_deBruijn32tab), ("math/bits.deBruijn64tab", laid_math_bits_deBruijn64tab), ("internal/strconv.uint64pow10", laid_internal_strconv_uint64pow10)], narrowed := true }
def FnTwoLongUptoSaid : Prop := fnTwoLongUptoRow.holds Tryd.pinned (OpenSpec.upto fnTwoLongSpec)

/-- 'laws.FnWeightOrder', WHERE WHAT IT READS IS OF BULK AT MOST 1048576: true; the input reads as it did. -/
def fnWeightOrderUptoRow : OpenClaim := { program := "ytfjemnjdkniibaadoor", sum := "039a9a4e2660f7a4331d92122144a840bf99ed1ab509c053d261bbedb857f71b", func := "loop.example/steelmill/laws.FnWeightOrder", spec := "fnWeightOrder", unfollowed := true, recurses := true, named := ["internal/strconv.uint64pow10", "math/bits.deBruijn32tab", "math/bits.deBruijn64tab"], apart := false, laid := [("math/bits.deBruijn32tab", laid_math_bits_deBruijn32tab), ("math/bits.deBruijn64tab", laid_math_bits_deBruijn64tab), ("internal/strconv.uint64pow10", laid_internal_strconv_uint64pow10)], narrowed := true }
def FnWeightOrderUptoSaid : Prop := fnWeightOrderUptoRow.holds Tryd.pinned (OpenSpec.upto fnWeightOrderSpec)

/-- 'laws.FnDueOrder', WHERE WHAT IT READS IS OF BULK AT MOST 1048576: true; the input reads as it did. -/
def fnDueOrderUptoRow : OpenClaim := { program := "ytfjemnjdkniibaadoor", sum := "039a9a4e2660f7a4331d92122144a840bf99ed1ab509c053d261bbedb857f71b", func := "loop.example/steelmill/laws.FnDueOrder", spec := "fnDueOrder", unfollowed := true, recurses := true, named := ["internal/strconv.uint64pow10", "math/bits.deBruijn32tab", "math/bits.deBruijn64tab"], apart := false, laid := [("math/bits.deBruijn32tab", laid_math_bits_deBruijn32tab), ("math/bits.deBruijn64tab", laid_math_bits_deBruijn64tab), ("internal/strconv.uint64pow10", laid_internal_strconv_uint64pow10)], narrowed := true }
def FnDueOrderUptoSaid : Prop := fnDueOrderUptoRow.holds Tryd.pinned (OpenSpec.upto fnDueOrderSpec)

/-- 'laws.FnEndSum', WHERE WHAT IT READS IS OF BULK AT MOST 1048576: true; the input reads as it did. -/
def fnEndSumUptoRow : OpenClaim := { program := "ytfjemnjdkniibaadoor", sum := "039a9a4e2660f7a4331d92122144a840bf99ed1ab509c053d261bbedb857f71b", func := "loop.example/steelmill/laws.FnEndSum", spec := "fnEndSum", unfollowed := true, recurses := true, named := ["internal/strconv.uint64pow10", "math/bits.deBruijn32tab", "math/bits.deBruijn64tab"], apart := false, laid := [("math/bits.deBruijn32tab", laid_math_bits_deBruijn32tab), ("math/bits.deBruijn64tab", laid_math_bits_deBruijn64tab), ("internal/strconv.uint64pow10", laid_internal_strconv_uint64pow10)], narrowed := true }
def FnEndSumUptoSaid : Prop := fnEndSumUptoRow.holds Tryd.pinned (OpenSpec.upto fnEndSumSpec)

/-- 'laws.FnWorstLate', WHERE WHAT IT READS IS OF BULK AT MOST 1048576: true; the input reads as it did. -/
def fnWorstLateUptoRow : OpenClaim := { program := "ytfjemnjdkniibaadoor", sum := "039a9a4e2660f7a4331d92122144a840bf99ed1ab509c053d261bbedb857f71b", func := "loop.example/steelmill/laws.FnWorstLate", spec := "fnWorstLate", unfollowed := true, recurses := true, named := ["internal/strconv.uint64pow10", "math/bits.deBruijn32tab", "math/bits.deBruijn64tab"], apart := false, laid := [("math/bits.deBruijn32tab", laid_math_bits_deBruijn32tab), ("math/bits.deBruijn64tab", laid_math_bits_deBruijn64tab), ("internal/strconv.uint64pow10", laid_internal_strconv_uint64pow10)], narrowed := true }
def FnWorstLateUptoSaid : Prop := fnWorstLateUptoRow.holds Tryd.pinned (OpenSpec.upto fnWorstLateSpec)

/-- 'laws.FnBeforeBest', WHERE WHAT IT READS IS OF BULK AT MOST 1048576: true; the input reads as it did. -/
def fnBeforeBestUptoRow : OpenClaim := { program := "ytfjemnjdkniibaadoor", sum := "039a9a4e2660f7a4331d92122144a840bf99ed1ab509c053d261bbedb857f71b", func := "loop.example/steelmill/laws.FnBeforeBest", spec := "fnBeforeBest", unfollowed := true, recurses := true, named := ["internal/strconv.uint64pow10", "math/bits.deBruijn32tab", "math/bits.deBruijn64tab"], apart := false, laid := [("math/bits.deBruijn32tab", laid_math_bits_deBruijn32tab), ("math/bits.deBruijn64tab", laid_math_bits_deBruijn64tab), ("internal/strconv.uint64pow10", laid_internal_strconv_uint64pow10)], narrowed := true }
def FnBeforeBestUptoSaid : Prop := fnBeforeBestUptoRow.holds Tryd.pinned (OpenSpec.upto fnBeforeBestSpec)

/-- 'laws.FnOnTime', WHERE WHAT IT READS IS OF BULK AT MOST 1048576: true; the input reads as it did. -/
def fnOnTimeUptoRow : OpenClaim := { program := "ytfjemnjdkniibaadoor", sum := "039a9a4e2660f7a4331d92122144a840bf99ed1ab509c053d261bbedb857f71b", func := "loop.example/steelmill/laws.FnOnTime", spec := "fnOnTime", unfollowed := true, recurses := true, named := ["internal/strconv.uint64pow10", "math/bits.deBruijn32tab", "math/bits.deBruijn64tab"], apart := false, laid := [("math/bits.deBruijn32tab", laid_math_bits_deBruijn32tab), ("math/bits.deBruijn64tab", laid_math_bits_deBruijn64tab), ("internal/strconv.uint64pow10", laid_internal_strconv_uint64pow10)], narrowed := true }
def FnOnTimeUptoSaid : Prop := fnOnTimeUptoRow.holds Tryd.pinned (OpenSpec.upto fnOnTimeSpec)

/-- 'laws.FnJobsLate', WHERE WHAT IT READS IS OF BULK AT MOST 1048576: true; the input reads as it did. -/
def fnJobsLateUptoRow : OpenClaim := { program := "ytfjemnjdkniibaadoor", sum := "039a9a4e2660f7a4331d92122144a840bf99ed1ab509c053d261bbedb857f71b", func := "loop.example/steelmill/laws.FnJobsLate", spec := "fnJobsLate", unfollowed := true, recurses := true, named := ["internal/strconv.uint64pow10", "math/bits.deBruijn32tab", "math/bits.deBruijn64tab"], apart := false, laid := [("math/bits.deBruijn32tab", laid_math_bits_deBruijn32tab), ("math/bits.deBruijn64tab", laid_math_bits_deBruijn64tab), ("internal/strconv.uint64pow10", laid_internal_strconv_uint64pow10)], narrowed := true }
def FnJobsLateUptoSaid : Prop := fnJobsLateUptoRow.holds Tryd.pinned (OpenSpec.upto fnJobsLateSpec)

/-- 'laws.FnFewestLate', WHERE WHAT IT READS IS OF BULK AT MOST 1048576: true; the input reads as it did. -/
def fnFewestLateUptoRow : OpenClaim := { program := "ytfjemnjdkniibaadoor", sum := "039a9a4e2660f7a4331d92122144a840bf99ed1ab509c053d261bbedb857f71b", func := "loop.example/steelmill/laws.FnFewestLate", spec := "fnFewestLate", unfollowed := true, recurses := true, named := ["internal/strconv.uint64pow10", "math/bits.deBruijn32tab", "math/bits.deBruijn64tab"], apart := false, laid := [("math/bits.deBruijn32tab", laid_math_bits_deBruijn32tab), ("math/bits.deBruijn64tab", laid_math_bits_deBruijn64tab), ("internal/strconv.uint64pow10", laid_internal_strconv_uint64pow10)], narrowed := true }
def FnFewestLateUptoSaid : Prop := fnFewestLateUptoRow.holds Tryd.pinned (OpenSpec.upto fnFewestLateSpec)

end Rows
end Go.Proofs.YtfjemnjdkniibaaDoor
