/-
  NARROWER THAN 'FOR EVERY INPUT', by the rows' own cells (each row's printed sentence says how): FnReplay: laid · FnMillLine: laid · FnExactMillLine: laid · FnMillValid: laid · FnMillMass: laid · FnPiecesIn: laid · FnMillDo: laid · FnClearDeeds: laid · FnMillRun: laid · FnMillAsk: laid · FnExactReplay: laid.
  DERIVED. THE GIVEN ROWS OF THIS SEAT. 11 by the template 'for every input the law returns true; each argument reads behind the call as it read before'; 0 by the template 'total and deterministic' (their statements: YtmemgbklgcjobaaGreatDoorTotals.lean).
  GIVEN WITH THE SEED: the statements are not yours to turn. If you find one false, say at which input.
  Laid BY PROGRAM, IN A SANDBOX (cutbox-rows.mjs): the forced cells as the released guide's own fill.sh prints them over the translation b5218ecdc0f29872… (all of the seat's roots in one cut). By AI agents, Wed Nov 11 2026. No macro, syntax, notation, axiom, sorry.
-/
import Derived.Test.YtmemgbklgcjobaaGreatDoorChecked
import GoSem.PinnedTables
import GoSem.Claim
import GoSem.ClaimJoined
import GoSem.ClaimMapViews
import Derived.JoinedTies
import Derived.KernelRfl
namespace Go.Proofs.YtmemgbklgcjobaaGreatDoor
/- THE CELL 'sum', in the pinned program and in every row, IS THE sha256 OF THE DUMP (.gsa) THAT YtmemgbklgcjobaaGreatDoorProg.lean LOADS. Nothing in Lean hashes anything: it is a label: what it is worth is what the hold of that sum in a sandbox is worth. -/
noncomputable def Tryz.pinned : Pinned := { name := "ytmemgbklgcjobaagreatdoor", sum := "b5218ecdc0f29872b2bf3daa5da771c903f44c95e63ccce3ffe8e5a8509817b1", checked := Tryz.checked }
namespace Rows
def none {H : Type} : Left H := { results := [], args := [] }

/- WHAT THE LISTED PACKAGE-LEVEL VARIABLES READ AS WHEN THE CALL BEGINS. Each datum BY PROGRAM (the guide's laid-datum.mjs) off the statement by which the dump's own 'gosem.cut.vars' lays the variable. In a bare row this is a premise. The card (YtmemgbklgcjobaaGreatDoorCards.lean) ties it to the program's text. -/
def laid_math_bits_deBruijn32tab {H : Type} : DataW H := .agg [.lit (.int .u8 0), .lit (.int .u8 1), .lit (.int .u8 28), .lit (.int .u8 2), .lit (.int .u8 29), .lit (.int .u8 14), .lit (.int .u8 24), .lit (.int .u8 3), .lit (.int .u8 30), .lit (.int .u8 22), .lit (.int .u8 20), .lit (.int .u8 15), .lit (.int .u8 25), .lit (.int .u8 17), .lit (.int .u8 4), .lit (.int .u8 8), .lit (.int .u8 31), .lit (.int .u8 27), .lit (.int .u8 13), .lit (.int .u8 23), .lit (.int .u8 21), .lit (.int .u8 19), .lit (.int .u8 16), .lit (.int .u8 7), .lit (.int .u8 26), .lit (.int .u8 12), .lit (.int .u8 18), .lit (.int .u8 6), .lit (.int .u8 11), .lit (.int .u8 5), .lit (.int .u8 10), .lit (.int .u8 9)]
def laid_math_bits_deBruijn64tab {H : Type} : DataW H := .agg [.lit (.int .u8 0), .lit (.int .u8 1), .lit (.int .u8 56), .lit (.int .u8 2), .lit (.int .u8 57), .lit (.int .u8 49), .lit (.int .u8 28), .lit (.int .u8 3), .lit (.int .u8 61), .lit (.int .u8 58), .lit (.int .u8 42), .lit (.int .u8 50), .lit (.int .u8 38), .lit (.int .u8 29), .lit (.int .u8 17), .lit (.int .u8 4), .lit (.int .u8 62), .lit (.int .u8 47), .lit (.int .u8 59), .lit (.int .u8 36), .lit (.int .u8 45), .lit (.int .u8 43), .lit (.int .u8 51), .lit (.int .u8 22), .lit (.int .u8 53), .lit (.int .u8 39), .lit (.int .u8 33), .lit (.int .u8 30), .lit (.int .u8 24), .lit (.int .u8 18), .lit (.int .u8 12), .lit (.int .u8 5), .lit (.int .u8 63), .lit (.int .u8 55), .lit (.int .u8 48), .lit (.int .u8 27), .lit (.int .u8 60), .lit (.int .u8 41), .lit (.int .u8 37), .lit (.int .u8 16), .lit (.int .u8 46), .lit (.int .u8 35), .lit (.int .u8 44), .lit (.int .u8 21), .lit (.int .u8 52), .lit (.int .u8 32), .lit (.int .u8 23), .lit (.int .u8 11), .lit (.int .u8 54), .lit (.int .u8 26), .lit (.int .u8 40), .lit (.int .u8 15), .lit (.int .u8 34), .lit (.int .u8 20), .lit (.int .u8 31), .lit (.int .u8 10), .lit (.int .u8 25), .lit (.int .u8 14), .lit (.int .u8 19), .lit (.int .u8 9), .lit (.int .u8 13), .lit (.int .u8 8), .lit (.int .u8 7), .lit (.int .u8 6)]
def laid_internal_strconv_uint64pow10 {H : Type} : DataW H := .agg [.lit (.int .u64 1), .lit (.int .u64 10), .lit (.int .u64 100), .lit (.int .u64 1000), .lit (.int .u64 10000), .lit (.int .u64 100000), .lit (.int .u64 1000000), .lit (.int .u64 10000000), .lit (.int .u64 100000000), .lit (.int .u64 1000000000), .lit (.int .u64 10000000000), .lit (.int .u64 100000000000), .lit (.int .u64 1000000000000), .lit (.int .u64 10000000000000), .lit (.int .u64 100000000000000), .lit (.int .u64 1000000000000000), .lit (.int .u64 10000000000000000), .lit (.int .u64 100000000000000000), .lit (.int .u64 1000000000000000000), .lit (.int .u64 10000000000000000000)]
def laid_unicode_utf8_acceptRanges {H : Type} : DataW H := .agg [.agg [.lit (.int .u8 128), .lit (.int .u8 191)], .agg [.lit (.int .u8 160), .lit (.int .u8 191)], .agg [.lit (.int .u8 128), .lit (.int .u8 159)], .agg [.lit (.int .u8 144), .lit (.int .u8 191)], .agg [.lit (.int .u8 128), .lit (.int .u8 143)], .agg [.lit (.int .u8 0), .lit (.int .u8 0)], .agg [.lit (.int .u8 0), .lit (.int .u8 0)], .agg [.lit (.int .u8 0), .lit (.int .u8 0)], .agg [.lit (.int .u8 0), .lit (.int .u8 0)], .agg [.lit (.int .u8 0), .lit (.int .u8 0)], .agg [.lit (.int .u8 0), .lit (.int .u8 0)], .agg [.lit (.int .u8 0), .lit (.int .u8 0)], .agg [.lit (.int .u8 0), .lit (.int .u8 0)], .agg [.lit (.int .u8 0), .lit (.int .u8 0)], .agg [.lit (.int .u8 0), .lit (.int .u8 0)], .agg [.lit (.int .u8 0), .lit (.int .u8 0)]]
def laid_loop_example_steelmill_impl_deedNames {H : Type} : DataW H := .agg [.lit (.string [109, 101, 108, 116]), .lit (.string [99, 117, 116]), .lit (.string [114, 111, 108, 108]), .lit (.string [108, 105, 102, 116]), .lit (.string [115, 104, 105, 112])]
/-- One of Go's own tables, pinned by name: the form's constant. -/
def laid_unicode_utf8_first : DataW Unit := Go.Pinned.utf8First

/-- 'laws.FnReplay': WHATEVER THE INPUT: true; the input reads as it did. -/
def fnReplaySpec : ChangeSpec := { name := "fnReplay", vars := ["loop.example/steelmill/impl.deedNames"], fn := fun _ => fun
  | [d, g1] => { results := [.lit (.bool true)], args := [d], vars := [g1] }
  | _ => none }
def fnReplayRow : OpenClaim := { program := "ytmemgbklgcjobaagreatdoor", sum := "b5218ecdc0f29872b2bf3daa5da771c903f44c95e63ccce3ffe8e5a8509817b1", func := "loop.example/steelmill/laws.FnReplay", spec := "fnReplay", inPlace := ["internal/bytealg.IndexByteString", "internal/bytealg.IndexString", "internal/bytealg.CountString"], recurses := true, named := ["internal/bytealg.MaxLen", "unicode/utf8.first", "unicode/utf8.acceptRanges", "loop.example/steelmill/impl.deedNames", "internal/strconv.uint64pow10", "math/bits.deBruijn32tab", "math/bits.deBruijn64tab"], apart := false, laid := [("math/bits.deBruijn32tab", laid_math_bits_deBruijn32tab), ("math/bits.deBruijn64tab", laid_math_bits_deBruijn64tab), ("internal/strconv.uint64pow10", laid_internal_strconv_uint64pow10), ("unicode/utf8.acceptRanges", laid_unicode_utf8_acceptRanges), ("loop.example/steelmill/impl.deedNames", laid_loop_example_steelmill_impl_deedNames), ("unicode/utf8.first", laid_unicode_utf8_first)] }
def FnReplaySaid : Prop := fnReplayRow.holds Tryz.pinned (OpenSpec.ofChange fnReplaySpec)

/-- ITS FALSE NEIGHBOUR: 'it returns false'. Refute it at one input. -/
def fnReplayWrong : ChangeSpec := { name := "fnReplay", vars := ["loop.example/steelmill/impl.deedNames"], fn := fun _ => fun
  | [d, g1] => { results := [.lit (.bool false)], args := [d], vars := [g1] }
  | _ => none }
def FnReplayWrongFalsely : Prop := fnReplayRow.holds Tryz.pinned (OpenSpec.ofChange fnReplayWrong)

/-- 'laws.FnMillLine': WHATEVER THE INPUT: true; the input reads as it did. -/
def fnMillLineSpec : ChangeSpec := { name := "fnMillLine", vars := ["loop.example/steelmill/impl.deedNames"], fn := fun _ => fun
  | [d1, d2, g1] => { results := [.lit (.bool true)], args := [d1, d2], vars := [g1] }
  | _ => none }
def fnMillLineRow : OpenClaim := { program := "ytmemgbklgcjobaagreatdoor", sum := "b5218ecdc0f29872b2bf3daa5da771c903f44c95e63ccce3ffe8e5a8509817b1", func := "loop.example/steelmill/laws.FnMillLine", spec := "fnMillLine", inPlace := ["internal/bytealg.CountString", "internal/bytealg.IndexByteString", "internal/bytealg.IndexString", "internal/abi.NoEscape", "internal/bytealg.MakeNoZero"], recurses := true, named := ["unicode/utf8.first", "unicode/utf8.acceptRanges", "internal/bytealg.MaxLen", "loop.example/steelmill/impl.deedNames", "internal/strconv.uint64pow10", "math/bits.deBruijn32tab", "math/bits.deBruijn64tab"], apart := false, laid := [("math/bits.deBruijn32tab", laid_math_bits_deBruijn32tab), ("math/bits.deBruijn64tab", laid_math_bits_deBruijn64tab), ("internal/strconv.uint64pow10", laid_internal_strconv_uint64pow10), ("unicode/utf8.acceptRanges", laid_unicode_utf8_acceptRanges), ("loop.example/steelmill/impl.deedNames", laid_loop_example_steelmill_impl_deedNames), ("unicode/utf8.first", laid_unicode_utf8_first)] }
def FnMillLineSaid : Prop := fnMillLineRow.holds Tryz.pinned (OpenSpec.ofChange fnMillLineSpec)

/-- ITS FALSE NEIGHBOUR: 'it returns false'. Refute it at one input. -/
def fnMillLineWrong : ChangeSpec := { name := "fnMillLine", vars := ["loop.example/steelmill/impl.deedNames"], fn := fun _ => fun
  | [d1, d2, g1] => { results := [.lit (.bool false)], args := [d1, d2], vars := [g1] }
  | _ => none }
def FnMillLineWrongFalsely : Prop := fnMillLineRow.holds Tryz.pinned (OpenSpec.ofChange fnMillLineWrong)

/-- 'laws.FnExactMillLine': WHATEVER THE INPUT: true; the input reads as it did. -/
def fnExactMillLineSpec : ChangeSpec := { name := "fnExactMillLine", vars := ["loop.example/steelmill/impl.deedNames"], fn := fun _ => fun
  | [d1, d2, g1] => { results := [.lit (.bool true)], args := [d1, d2], vars := [g1] }
  | _ => none }
def fnExactMillLineRow : OpenClaim := { program := "ytmemgbklgcjobaagreatdoor", sum := "b5218ecdc0f29872b2bf3daa5da771c903f44c95e63ccce3ffe8e5a8509817b1", func := "loop.example/steelmill/laws.FnExactMillLine", spec := "fnExactMillLine", inPlace := ["internal/bytealg.CountString", "internal/bytealg.IndexByteString", "internal/bytealg.IndexString", "internal/abi.NoEscape", "internal/bytealg.MakeNoZero"], recurses := true, named := ["unicode/utf8.first", "unicode/utf8.acceptRanges", "internal/bytealg.MaxLen", "loop.example/steelmill/impl.deedNames", "internal/strconv.uint64pow10", "math/bits.deBruijn32tab", "math/bits.deBruijn64tab"], apart := false, laid := [("math/bits.deBruijn32tab", laid_math_bits_deBruijn32tab), ("math/bits.deBruijn64tab", laid_math_bits_deBruijn64tab), ("internal/strconv.uint64pow10", laid_internal_strconv_uint64pow10), ("unicode/utf8.acceptRanges", laid_unicode_utf8_acceptRanges), ("loop.example/steelmill/impl.deedNames", laid_loop_example_steelmill_impl_deedNames), ("unicode/utf8.first", laid_unicode_utf8_first)] }
def FnExactMillLineSaid : Prop := fnExactMillLineRow.holds Tryz.pinned (OpenSpec.ofChange fnExactMillLineSpec)

/-- ITS FALSE NEIGHBOUR: 'it returns false'. Refute it at one input. -/
def fnExactMillLineWrong : ChangeSpec := { name := "fnExactMillLine", vars := ["loop.example/steelmill/impl.deedNames"], fn := fun _ => fun
  | [d1, d2, g1] => { results := [.lit (.bool false)], args := [d1, d2], vars := [g1] }
  | _ => none }
def FnExactMillLineWrongFalsely : Prop := fnExactMillLineRow.holds Tryz.pinned (OpenSpec.ofChange fnExactMillLineWrong)

/-- 'laws.FnMillValid': WHATEVER THE INPUT: true; the input reads as it did. -/
def fnMillValidSpec : ChangeSpec := { name := "fnMillValid", fn := fun _ => fun
  | [d] => { results := [.lit (.bool true)], args := [d] }
  | _ => none }
def fnMillValidRow : OpenClaim := { program := "ytmemgbklgcjobaagreatdoor", sum := "b5218ecdc0f29872b2bf3daa5da771c903f44c95e63ccce3ffe8e5a8509817b1", func := "loop.example/steelmill/laws.FnMillValid", spec := "fnMillValid", recurses := true, named := ["internal/strconv.uint64pow10", "math/bits.deBruijn32tab", "math/bits.deBruijn64tab"], apart := false, laid := [("math/bits.deBruijn32tab", laid_math_bits_deBruijn32tab), ("math/bits.deBruijn64tab", laid_math_bits_deBruijn64tab), ("internal/strconv.uint64pow10", laid_internal_strconv_uint64pow10)] }
def FnMillValidSaid : Prop := fnMillValidRow.holds Tryz.pinned (OpenSpec.ofChange fnMillValidSpec)

/-- ITS FALSE NEIGHBOUR: 'it returns false'. Refute it at one input. -/
def fnMillValidWrong : ChangeSpec := { name := "fnMillValid", fn := fun _ => fun
  | [d] => { results := [.lit (.bool false)], args := [d] }
  | _ => none }
def FnMillValidWrongFalsely : Prop := fnMillValidRow.holds Tryz.pinned (OpenSpec.ofChange fnMillValidWrong)

/-- 'laws.FnMillMass': WHATEVER THE INPUT: true; the input reads as it did. -/
def fnMillMassSpec : ChangeSpec := { name := "fnMillMass", fn := fun _ => fun
  | [d] => { results := [.lit (.bool true)], args := [d] }
  | _ => none }
def fnMillMassRow : OpenClaim := { program := "ytmemgbklgcjobaagreatdoor", sum := "b5218ecdc0f29872b2bf3daa5da771c903f44c95e63ccce3ffe8e5a8509817b1", func := "loop.example/steelmill/laws.FnMillMass", spec := "fnMillMass", recurses := true, named := ["internal/strconv.uint64pow10", "math/bits.deBruijn32tab", "math/bits.deBruijn64tab"], apart := false, laid := [("math/bits.deBruijn32tab", laid_math_bits_deBruijn32tab), ("math/bits.deBruijn64tab", laid_math_bits_deBruijn64tab), ("internal/strconv.uint64pow10", laid_internal_strconv_uint64pow10)] }
def FnMillMassSaid : Prop := fnMillMassRow.holds Tryz.pinned (OpenSpec.ofChange fnMillMassSpec)

/-- ITS FALSE NEIGHBOUR: 'it returns false'. Refute it at one input. -/
def fnMillMassWrong : ChangeSpec := { name := "fnMillMass", fn := fun _ => fun
  | [d] => { results := [.lit (.bool false)], args := [d] }
  | _ => none }
def FnMillMassWrongFalsely : Prop := fnMillMassRow.holds Tryz.pinned (OpenSpec.ofChange fnMillMassWrong)

/-- 'laws.FnPiecesIn': WHATEVER THE INPUT: true; the input reads as it did. -/
def fnPiecesInSpec : ChangeSpec := { name := "fnPiecesIn", fn := fun _ => fun
  | [d] => { results := [.lit (.bool true)], args := [d] }
  | _ => none }
def fnPiecesInRow : OpenClaim := { program := "ytmemgbklgcjobaagreatdoor", sum := "b5218ecdc0f29872b2bf3daa5da771c903f44c95e63ccce3ffe8e5a8509817b1", func := "loop.example/steelmill/laws.FnPiecesIn", spec := "fnPiecesIn", recurses := true, named := ["internal/strconv.uint64pow10", "math/bits.deBruijn32tab", "math/bits.deBruijn64tab"], apart := false, laid := [("math/bits.deBruijn32tab", laid_math_bits_deBruijn32tab), ("math/bits.deBruijn64tab", laid_math_bits_deBruijn64tab), ("internal/strconv.uint64pow10", laid_internal_strconv_uint64pow10)] }
def FnPiecesInSaid : Prop := fnPiecesInRow.holds Tryz.pinned (OpenSpec.ofChange fnPiecesInSpec)

/-- ITS FALSE NEIGHBOUR: 'it returns false'. Refute it at one input. -/
def fnPiecesInWrong : ChangeSpec := { name := "fnPiecesIn", fn := fun _ => fun
  | [d] => { results := [.lit (.bool false)], args := [d] }
  | _ => none }
def FnPiecesInWrongFalsely : Prop := fnPiecesInRow.holds Tryz.pinned (OpenSpec.ofChange fnPiecesInWrong)

/-- 'laws.FnMillDo': WHATEVER THE INPUT: true; the input reads as it did. -/
def fnMillDoSpec : ChangeSpec := { name := "fnMillDo", fn := fun _ => fun
  | [d] => { results := [.lit (.bool true)], args := [d] }
  | _ => none }
def fnMillDoRow : OpenClaim := { program := "ytmemgbklgcjobaagreatdoor", sum := "b5218ecdc0f29872b2bf3daa5da771c903f44c95e63ccce3ffe8e5a8509817b1", func := "loop.example/steelmill/laws.FnMillDo", spec := "fnMillDo", recurses := true, named := ["internal/strconv.uint64pow10", "math/bits.deBruijn32tab", "math/bits.deBruijn64tab"], apart := false, laid := [("math/bits.deBruijn32tab", laid_math_bits_deBruijn32tab), ("math/bits.deBruijn64tab", laid_math_bits_deBruijn64tab), ("internal/strconv.uint64pow10", laid_internal_strconv_uint64pow10)] }
def FnMillDoSaid : Prop := fnMillDoRow.holds Tryz.pinned (OpenSpec.ofChange fnMillDoSpec)

/-- ITS FALSE NEIGHBOUR: 'it returns false'. Refute it at one input. -/
def fnMillDoWrong : ChangeSpec := { name := "fnMillDo", fn := fun _ => fun
  | [d] => { results := [.lit (.bool false)], args := [d] }
  | _ => none }
def FnMillDoWrongFalsely : Prop := fnMillDoRow.holds Tryz.pinned (OpenSpec.ofChange fnMillDoWrong)

/-- 'laws.FnClearDeeds': WHATEVER THE INPUT: true; the input reads as it did. -/
def fnClearDeedsSpec : ChangeSpec := { name := "fnClearDeeds", fn := fun _ => fun
  | [d] => { results := [.lit (.bool true)], args := [d] }
  | _ => none }
def fnClearDeedsRow : OpenClaim := { program := "ytmemgbklgcjobaagreatdoor", sum := "b5218ecdc0f29872b2bf3daa5da771c903f44c95e63ccce3ffe8e5a8509817b1", func := "loop.example/steelmill/laws.FnClearDeeds", spec := "fnClearDeeds", recurses := true, named := ["internal/strconv.uint64pow10", "math/bits.deBruijn32tab", "math/bits.deBruijn64tab"], apart := false, laid := [("math/bits.deBruijn32tab", laid_math_bits_deBruijn32tab), ("math/bits.deBruijn64tab", laid_math_bits_deBruijn64tab), ("internal/strconv.uint64pow10", laid_internal_strconv_uint64pow10)] }
def FnClearDeedsSaid : Prop := fnClearDeedsRow.holds Tryz.pinned (OpenSpec.ofChange fnClearDeedsSpec)

/-- ITS FALSE NEIGHBOUR: 'it returns false'. Refute it at one input. -/
def fnClearDeedsWrong : ChangeSpec := { name := "fnClearDeeds", fn := fun _ => fun
  | [d] => { results := [.lit (.bool false)], args := [d] }
  | _ => none }
def FnClearDeedsWrongFalsely : Prop := fnClearDeedsRow.holds Tryz.pinned (OpenSpec.ofChange fnClearDeedsWrong)

/-- 'laws.FnMillRun': WHATEVER THE INPUT: true; the input reads as it did. -/
def fnMillRunSpec : ChangeSpec := { name := "fnMillRun", fn := fun _ => fun
  | [d] => { results := [.lit (.bool true)], args := [d] }
  | _ => none }
def fnMillRunRow : OpenClaim := { program := "ytmemgbklgcjobaagreatdoor", sum := "b5218ecdc0f29872b2bf3daa5da771c903f44c95e63ccce3ffe8e5a8509817b1", func := "loop.example/steelmill/laws.FnMillRun", spec := "fnMillRun", recurses := true, named := ["internal/strconv.uint64pow10", "math/bits.deBruijn32tab", "math/bits.deBruijn64tab"], apart := false, laid := [("math/bits.deBruijn32tab", laid_math_bits_deBruijn32tab), ("math/bits.deBruijn64tab", laid_math_bits_deBruijn64tab), ("internal/strconv.uint64pow10", laid_internal_strconv_uint64pow10)] }
def FnMillRunSaid : Prop := fnMillRunRow.holds Tryz.pinned (OpenSpec.ofChange fnMillRunSpec)

/-- ITS FALSE NEIGHBOUR: 'it returns false'. Refute it at one input. -/
def fnMillRunWrong : ChangeSpec := { name := "fnMillRun", fn := fun _ => fun
  | [d] => { results := [.lit (.bool false)], args := [d] }
  | _ => none }
def FnMillRunWrongFalsely : Prop := fnMillRunRow.holds Tryz.pinned (OpenSpec.ofChange fnMillRunWrong)

/-- 'laws.FnMillAsk': WHATEVER THE INPUT: true; the input reads as it did. -/
def fnMillAskSpec : ChangeSpec := { name := "fnMillAsk", fn := fun _ => fun
  | [d] => { results := [.lit (.bool true)], args := [d] }
  | _ => none }
def fnMillAskRow : OpenClaim := { program := "ytmemgbklgcjobaagreatdoor", sum := "b5218ecdc0f29872b2bf3daa5da771c903f44c95e63ccce3ffe8e5a8509817b1", func := "loop.example/steelmill/laws.FnMillAsk", spec := "fnMillAsk", inPlace := ["internal/abi.NoEscape", "internal/bytealg.MakeNoZero", "internal/bytealg.CountString", "internal/bytealg.IndexByteString", "internal/bytealg.IndexString"], recurses := true, named := ["internal/strconv.uint64pow10", "math/bits.deBruijn32tab", "math/bits.deBruijn64tab", "unicode/utf8.first", "unicode/utf8.acceptRanges", "internal/bytealg.MaxLen"], apart := false, laid := [("math/bits.deBruijn32tab", laid_math_bits_deBruijn32tab), ("math/bits.deBruijn64tab", laid_math_bits_deBruijn64tab), ("internal/strconv.uint64pow10", laid_internal_strconv_uint64pow10), ("unicode/utf8.acceptRanges", laid_unicode_utf8_acceptRanges), ("unicode/utf8.first", laid_unicode_utf8_first)] }
def FnMillAskSaid : Prop := fnMillAskRow.holds Tryz.pinned (OpenSpec.ofChange fnMillAskSpec)

/-- ITS FALSE NEIGHBOUR: 'it returns false'. Refute it at one input. -/
def fnMillAskWrong : ChangeSpec := { name := "fnMillAsk", fn := fun _ => fun
  | [d] => { results := [.lit (.bool false)], args := [d] }
  | _ => none }
def FnMillAskWrongFalsely : Prop := fnMillAskRow.holds Tryz.pinned (OpenSpec.ofChange fnMillAskWrong)

/-- 'laws.FnExactReplay': WHATEVER THE INPUT: true; the input reads as it did. -/
def fnExactReplaySpec : ChangeSpec := { name := "fnExactReplay", vars := ["loop.example/steelmill/impl.deedNames"], fn := fun _ => fun
  | [d1, d2, g1] => { results := [.lit (.bool true)], args := [d1, d2], vars := [g1] }
  | _ => none }
def fnExactReplayRow : OpenClaim := { program := "ytmemgbklgcjobaagreatdoor", sum := "b5218ecdc0f29872b2bf3daa5da771c903f44c95e63ccce3ffe8e5a8509817b1", func := "loop.example/steelmill/laws.FnExactReplay", spec := "fnExactReplay", inPlace := ["internal/bytealg.IndexByteString", "internal/bytealg.IndexString", "internal/bytealg.CountString"], recurses := true, named := ["internal/bytealg.MaxLen", "unicode/utf8.first", "unicode/utf8.acceptRanges", "loop.example/steelmill/impl.deedNames"], apart := false, laid := [("unicode/utf8.acceptRanges", laid_unicode_utf8_acceptRanges), ("loop.example/steelmill/impl.deedNames", laid_loop_example_steelmill_impl_deedNames), ("unicode/utf8.first", laid_unicode_utf8_first)] }
def FnExactReplaySaid : Prop := fnExactReplayRow.holds Tryz.pinned (OpenSpec.ofChange fnExactReplaySpec)

/-- ITS FALSE NEIGHBOUR: 'it returns false'. Refute it at one input. -/
def fnExactReplayWrong : ChangeSpec := { name := "fnExactReplay", vars := ["loop.example/steelmill/impl.deedNames"], fn := fun _ => fun
  | [d1, d2, g1] => { results := [.lit (.bool false)], args := [d1, d2], vars := [g1] }
  | _ => none }
def FnExactReplayWrongFalsely : Prop := fnExactReplayRow.holds Tryz.pinned (OpenSpec.ofChange fnExactReplayWrong)

/- THE SECOND FORM. 'bulk': how many values and letters a reading holds, each counted each time it is reached (what is shared counts as often as it is met; a slice's spare places count too). A statement '..UptoSaid' is the law's where the arguments, and the package variables that the reading takes, are together of bulk at most 1048576: NARROWER than '..Said'. Prove '..Said' where nothing that the law and all that it calls make is longer than what came in: it says more and counts as full. Else prove '..UptoSaid'. A law counts once. -/
mutual
def uptoBulk {H : Type} : DataW H → Nat
  | .lit (.string bytes) => bytes.length + 1
  | .lit _ => 1
  | .nil => 1
  | .ptr d => uptoBulk d + 1
  | .slice elems spare => uptoBulkAll elems + uptoBulkAll spare + 1
  | .agg parts => uptoBulkAll parts + 1
  | .iface _ d => uptoBulk d + 1
  | .map entries => uptoBulkEntries entries + 1
  | .held _ => 1
def uptoBulkAll {H : Type} : List (DataW H) → Nat
  | [] => 0
  | d :: r => uptoBulk d + uptoBulkAll r
def uptoBulkEntries {H : Type} : List (Lit × DataW H) → Nat
  | [] => 0
  | x :: r => uptoBulkEntry x + uptoBulkEntries r
def uptoBulkEntry {H : Type} : Lit × DataW H → Nat
  | (.string bytes, d) => bytes.length + uptoBulk d + 1
  | (_, d) => uptoBulk d + 1
 end
def uptoSmall : (H : Type) → List (DataW H) → Bool := fun _ ds => decide (uptoBulkAll ds ≤ 1048576)
def OpenSpec.upto (s : _root_.Go.ChangeSpec) : _root_.Go.OpenSpec := { _root_.Go.OpenSpec.ofChange s with cond := some uptoSmall }

/-- 'laws.FnReplay', WHERE WHAT IT READS IS OF BULK AT MOST 1048576: true; the input reads as it did. -/
def fnReplayUptoRow : OpenClaim := { program := "ytmemgbklgcjobaagreatdoor", sum := "b5218ecdc0f29872b2bf3daa5da771c903f44c95e63ccce3ffe8e5a8509817b1", func := "loop.example/steelmill/laws.FnReplay", spec := "fnReplay", inPlace := ["internal/bytealg.IndexByteString", "internal/bytealg.IndexString", "internal/bytealg.CountString"], recurses := true, named := ["internal/bytealg.MaxLen", "unicode/utf8.first", "unicode/utf8.acceptRanges", "loop.example/steelmill/impl.deedNames", "internal/strconv.uint64pow10", "math/bits.deBruijn32tab", "math/bits.deBruijn64tab"], apart := false, laid := [("math/bits.deBruijn32tab", laid_math_bits_deBruijn32tab), ("math/bits.deBruijn64tab", laid_math_bits_deBruijn64tab), ("internal/strconv.uint64pow10", laid_internal_strconv_uint64pow10), ("unicode/utf8.acceptRanges", laid_unicode_utf8_acceptRanges), ("loop.example/steelmill/impl.deedNames", laid_loop_example_steelmill_impl_deedNames), ("unicode/utf8.first", laid_unicode_utf8_first)], narrowed := true }
def FnReplayUptoSaid : Prop := fnReplayUptoRow.holds Tryz.pinned (OpenSpec.upto fnReplaySpec)

/-- 'laws.FnMillLine', WHERE WHAT IT READS IS OF BULK AT MOST 1048576: true; the input reads as it did. -/
def fnMillLineUptoRow : OpenClaim := { program := "ytmemgbklgcjobaagreatdoor", sum := "b5218ecdc0f29872b2bf3daa5da771c903f44c95e63ccce3ffe8e5a8509817b1", func := "loop.example/steelmill/laws.FnMillLine", spec := "fnMillLine", inPlace := ["internal/bytealg.CountString", "internal/bytealg.IndexByteString", "internal/bytealg.IndexString", "internal/abi.NoEscape", "internal/bytealg.MakeNoZero"], recurses := true, named := ["unicode/utf8.first", "unicode/utf8.acceptRanges", "internal/bytealg.MaxLen", "loop.example/steelmill/impl.deedNames", "internal/strconv.uint64pow10", "math/bits.deBruijn32tab", "math/bits.deBruijn64tab"], apart := false, laid := [("math/bits.deBruijn32tab", laid_math_bits_deBruijn32tab), ("math/bits.deBruijn64tab", laid_math_bits_deBruijn64tab), ("internal/strconv.uint64pow10", laid_internal_strconv_uint64pow10), ("unicode/utf8.acceptRanges", laid_unicode_utf8_acceptRanges), ("loop.example/steelmill/impl.deedNames", laid_loop_example_steelmill_impl_deedNames), ("unicode/utf8.first", laid_unicode_utf8_first)], narrowed := true }
def FnMillLineUptoSaid : Prop := fnMillLineUptoRow.holds Tryz.pinned (OpenSpec.upto fnMillLineSpec)

/-- 'laws.FnExactMillLine', WHERE WHAT IT READS IS OF BULK AT MOST 1048576: true; the input reads as it did. -/
def fnExactMillLineUptoRow : OpenClaim := { program := "ytmemgbklgcjobaagreatdoor", sum := "b5218ecdc0f29872b2bf3daa5da771c903f44c95e63ccce3ffe8e5a8509817b1", func := "loop.example/steelmill/laws.FnExactMillLine", spec := "fnExactMillLine", inPlace := ["internal/bytealg.CountString", "internal/bytealg.IndexByteString", "internal/bytealg.IndexString", "internal/abi.NoEscape", "internal/bytealg.MakeNoZero"], recurses := true, named := ["unicode/utf8.first", "unicode/utf8.acceptRanges", "internal/bytealg.MaxLen", "loop.example/steelmill/impl.deedNames", "internal/strconv.uint64pow10", "math/bits.deBruijn32tab", "math/bits.deBruijn64tab"], apart := false, laid := [("math/bits.deBruijn32tab", laid_math_bits_deBruijn32tab), ("math/bits.deBruijn64tab", laid_math_bits_deBruijn64tab), ("internal/strconv.uint64pow10", laid_internal_strconv_uint64pow10), ("unicode/utf8.acceptRanges", laid_unicode_utf8_acceptRanges), ("loop.example/steelmill/impl.deedNames", laid_loop_example_steelmill_impl_deedNames), ("unicode/utf8.first", laid_unicode_utf8_first)], narrowed := true }
def FnExactMillLineUptoSaid : Prop := fnExactMillLineUptoRow.holds Tryz.pinned (OpenSpec.upto fnExactMillLineSpec)

/-- 'laws.FnMillValid', WHERE WHAT IT READS IS OF BULK AT MOST 1048576: true; the input reads as it did. -/
def fnMillValidUptoRow : OpenClaim := { program := "ytmemgbklgcjobaagreatdoor", sum := "b5218ecdc0f29872b2bf3daa5da771c903f44c95e63ccce3ffe8e5a8509817b1", func := "loop.example/steelmill/laws.FnMillValid", spec := "fnMillValid", recurses := true, named := ["internal/strconv.uint64pow10", "math/bits.deBruijn32tab", "math/bits.deBruijn64tab"], apart := false, laid := [("math/bits.deBruijn32tab", laid_math_bits_deBruijn32tab), ("math/bits.deBruijn64tab", laid_math_bits_deBruijn64tab), ("internal/strconv.uint64pow10", laid_internal_strconv_uint64pow10)], narrowed := true }
def FnMillValidUptoSaid : Prop := fnMillValidUptoRow.holds Tryz.pinned (OpenSpec.upto fnMillValidSpec)

/-- 'laws.FnMillMass', WHERE WHAT IT READS IS OF BULK AT MOST 1048576: true; the input reads as it did. -/
def fnMillMassUptoRow : OpenClaim := { program := "ytmemgbklgcjobaagreatdoor", sum := "b5218ecdc0f29872b2bf3daa5da771c903f44c95e63ccce3ffe8e5a8509817b1", func := "loop.example/steelmill/laws.FnMillMass", spec := "fnMillMass", recurses := true, named := ["internal/strconv.uint64pow10", "math/bits.deBruijn32tab", "math/bits.deBruijn64tab"], apart := false, laid := [("math/bits.deBruijn32tab", laid_math_bits_deBruijn32tab), ("math/bits.deBruijn64tab", laid_math_bits_deBruijn64tab), ("internal/strconv.uint64pow10", laid_internal_strconv_uint64pow10)], narrowed := true }
def FnMillMassUptoSaid : Prop := fnMillMassUptoRow.holds Tryz.pinned (OpenSpec.upto fnMillMassSpec)

/-- 'laws.FnPiecesIn', WHERE WHAT IT READS IS OF BULK AT MOST 1048576: true; the input reads as it did. -/
def fnPiecesInUptoRow : OpenClaim := { program := "ytmemgbklgcjobaagreatdoor", sum := "b5218ecdc0f29872b2bf3daa5da771c903f44c95e63ccce3ffe8e5a8509817b1", func := "loop.example/steelmill/laws.FnPiecesIn", spec := "fnPiecesIn", recurses := true, named := ["internal/strconv.uint64pow10", "math/bits.deBruijn32tab", "math/bits.deBruijn64tab"], apart := false, laid := [("math/bits.deBruijn32tab", laid_math_bits_deBruijn32tab), ("math/bits.deBruijn64tab", laid_math_bits_deBruijn64tab), ("internal/strconv.uint64pow10", laid_internal_strconv_uint64pow10)], narrowed := true }
def FnPiecesInUptoSaid : Prop := fnPiecesInUptoRow.holds Tryz.pinned (OpenSpec.upto fnPiecesInSpec)

/-- 'laws.FnMillDo', WHERE WHAT IT READS IS OF BULK AT MOST 1048576: true; the input reads as it did. -/
def fnMillDoUptoRow : OpenClaim := { program := "ytmemgbklgcjobaagreatdoor", sum := "b5218ecdc0f29872b2bf3daa5da771c903f44c95e63ccce3ffe8e5a8509817b1", func := "loop.example/steelmill/laws.FnMillDo", spec := "fnMillDo", recurses := true, named := ["internal/strconv.uint64pow10", "math/bits.deBruijn32tab", "math/bits.deBruijn64tab"], apart := false, laid := [("math/bits.deBruijn32tab", laid_math_bits_deBruijn32tab), ("math/bits.deBruijn64tab", laid_math_bits_deBruijn64tab), ("internal/strconv.uint64pow10", laid_internal_strconv_uint64pow10)], narrowed := true }
def FnMillDoUptoSaid : Prop := fnMillDoUptoRow.holds Tryz.pinned (OpenSpec.upto fnMillDoSpec)

/-- 'laws.FnClearDeeds', WHERE WHAT IT READS IS OF BULK AT MOST 1048576: true; the input reads as it did. -/
def fnClearDeedsUptoRow : OpenClaim := { program := "ytmemgbklgcjobaagreatdoor", sum := "b5218ecdc0f29872b2bf3daa5da771c903f44c95e63ccce3ffe8e5a8509817b1", func := "loop.example/steelmill/laws.FnClearDeeds", spec := "fnClearDeeds", recurses := true, named := ["internal/strconv.uint64pow10", "math/bits.deBruijn32tab", "math/bits.deBruijn64tab"], apart := false, laid := [("math/bits.deBruijn32tab", laid_math_bits_deBruijn32tab), ("math/bits.deBruijn64tab", laid_math_bits_deBruijn64tab), ("internal/strconv.uint64pow10", laid_internal_strconv_uint64pow10)], narrowed := true }
def FnClearDeedsUptoSaid : Prop := fnClearDeedsUptoRow.holds Tryz.pinned (OpenSpec.upto fnClearDeedsSpec)

/-- 'laws.FnMillRun', WHERE WHAT IT READS IS OF BULK AT MOST 1048576: true; the input reads as it did. -/
def fnMillRunUptoRow : OpenClaim := { program := "ytmemgbklgcjobaagreatdoor", sum := "b5218ecdc0f29872b2bf3daa5da771c903f44c95e63ccce3ffe8e5a8509817b1", func := "loop.example/steelmill/laws.FnMillRun", spec := "fnMillRun", recurses := true, named := ["internal/strconv.uint64pow10", "math/bits.deBruijn32tab", "math/bits.deBruijn64tab"], apart := false, laid := [("math/bits.deBruijn32tab", laid_math_bits_deBruijn32tab), ("math/bits.deBruijn64tab", laid_math_bits_deBruijn64tab), ("internal/strconv.uint64pow10", laid_internal_strconv_uint64pow10)], narrowed := true }
def FnMillRunUptoSaid : Prop := fnMillRunUptoRow.holds Tryz.pinned (OpenSpec.upto fnMillRunSpec)

/-- 'laws.FnMillAsk', WHERE WHAT IT READS IS OF BULK AT MOST 1048576: true; the input reads as it did. -/
def fnMillAskUptoRow : OpenClaim := { program := "ytmemgbklgcjobaagreatdoor", sum := "b5218ecdc0f29872b2bf3daa5da771c903f44c95e63ccce3ffe8e5a8509817b1", func := "loop.example/steelmill/laws.FnMillAsk", spec := "fnMillAsk", inPlace := ["internal/abi.NoEscape", "internal/bytealg.MakeNoZero", "internal/bytealg.CountString", "internal/bytealg.IndexByteString", "internal/bytealg.IndexString"], recurses := true, named := ["internal/strconv.uint64pow10", "math/bits.deBruijn32tab", "math/bits.deBruijn64tab", "unicode/utf8.first", "unicode/utf8.acceptRanges", "internal/bytealg.MaxLen"], apart := false, laid := [("math/bits.deBruijn32tab", laid_math_bits_deBruijn32tab), ("math/bits.deBruijn64tab", laid_math_bits_deBruijn64tab), ("internal/strconv.uint64pow10", laid_internal_strconv_uint64pow10), ("unicode/utf8.acceptRanges", laid_unicode_utf8_acceptRanges), ("unicode/utf8.first", laid_unicode_utf8_first)], narrowed := true }
def FnMillAskUptoSaid : Prop := fnMillAskUptoRow.holds Tryz.pinned (OpenSpec.upto fnMillAskSpec)

/-- 'laws.FnExactReplay', WHERE WHAT IT READS IS OF BULK AT MOST 1048576: true; the input reads as it did. -/
def fnExactReplayUptoRow : OpenClaim := { program := "ytmemgbklgcjobaagreatdoor", sum := "b5218ecdc0f29872b2bf3daa5da771c903f44c95e63ccce3ffe8e5a8509817b1", func := "loop.example/steelmill/laws.FnExactReplay", spec := "fnExactReplay", inPlace := ["internal/bytealg.IndexByteString", "internal/bytealg.IndexString", "internal/bytealg.CountString"], recurses := true, named := ["internal/bytealg.MaxLen", "unicode/utf8.first", "unicode/utf8.acceptRanges", "loop.example/steelmill/impl.deedNames"], apart := false, laid := [("unicode/utf8.acceptRanges", laid_unicode_utf8_acceptRanges), ("loop.example/steelmill/impl.deedNames", laid_loop_example_steelmill_impl_deedNames), ("unicode/utf8.first", laid_unicode_utf8_first)], narrowed := true }
def FnExactReplayUptoSaid : Prop := fnExactReplayUptoRow.holds Tryz.pinned (OpenSpec.upto fnExactReplaySpec)

end Rows
end Go.Proofs.YtmemgbklgcjobaaGreatDoor
