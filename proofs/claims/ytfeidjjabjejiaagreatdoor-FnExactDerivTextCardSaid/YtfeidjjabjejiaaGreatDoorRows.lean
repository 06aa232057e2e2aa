/-
  NARROWER THAN 'FOR EVERY INPUT', by the rows' own cells (each row's printed sentence says how): FnDerivParts: laid · FnExactDerivBy: loops, laid · FnExactDerivText: loops, laid · FnRex: laid · FnExactNormOr: loops, laid · FnExactNormAnd: loops, laid · FnNormUnit: laid · FnNormAssoc: laid · FnExactNorm: loops, laid · FnNormTwo: laid · FnNorm: laid.
  DERIVED. THE GIVEN ROWS OF THIS SEAT. 11 by the template 'for every input the law returns true; each argument reads behind the call as it read before'; 0 by the template 'total and deterministic' (their statements: YtfeidjjabjejiaaGreatDoorTotals.lean).
  GIVEN WITH THE SEED: the statements are not yours to turn. If you find one false, say at which input.
  Laid BY PROGRAM, IN A SANDBOX (cutbox-rows.mjs): the forced cells as the released guide's own fill.sh prints them over the translation 76d6fc15152d5c51… (all of the seat's roots in one cut). By AI agents, Wed Nov 11 2026. No macro, syntax, notation, axiom, sorry.
-/
import Derived.Test.YtfeidjjabjejiaaGreatDoorChecked
import GoSem.PinnedTables
import GoSem.Claim
import GoSem.ClaimJoined
import GoSem.ClaimMapViews
import Derived.JoinedTies
import Derived.KernelRfl
namespace Go.Proofs.YtfeidjjabjejiaaGreatDoor
/- THE CELL 'sum', in the pinned program and in every row, IS THE sha256 OF THE DUMP (.gsa) THAT YtfeidjjabjejiaaGreatDoorProg.lean LOADS. Nothing in Lean hashes anything: it is a label: what it is worth is what the hold of that sum in a sandbox is worth. -/
noncomputable def Tryz.pinned : Pinned := { name := "ytfeidjjabjejiaagreatdoor", sum := "76d6fc15152d5c51fd0ac6c289cfc5602af9f8b4c1785d816ab24d8a9ecee935", checked := Tryz.checked }
namespace Rows
def none {H : Type} : Left H := { results := [], args := [] }

/- WHAT THE LISTED PACKAGE-LEVEL VARIABLES READ AS WHEN THE CALL BEGINS. Each datum BY PROGRAM (the guide's laid-datum.mjs) off the statement by which the dump's own 'gosem.cut.vars' lays the variable. In a bare row this is a premise. The card (YtfeidjjabjejiaaGreatDoorCards.lean) ties it to the program's text. -/
def laid_math_bits_deBruijn32tab {H : Type} : DataW H := .agg [.lit (.int .u8 0), .lit (.int .u8 1), .lit (.int .u8 28), .lit (.int .u8 2), .lit (.int .u8 29), .lit (.int .u8 14), .lit (.int .u8 24), .lit (.int .u8 3), .lit (.int .u8 30), .lit (.int .u8 22), .lit (.int .u8 20), .lit (.int .u8 15), .lit (.int .u8 25), .lit (.int .u8 17), .lit (.int .u8 4), .lit (.int .u8 8), .lit (.int .u8 31), .lit (.int .u8 27), .lit (.int .u8 13), .lit (.int .u8 23), .lit (.int .u8 21), .lit (.int .u8 19), .lit (.int .u8 16), .lit (.int .u8 7), .lit (.int .u8 26), .lit (.int .u8 12), .lit (.int .u8 18), .lit (.int .u8 6), .lit (.int .u8 11), .lit (.int .u8 5), .lit (.int .u8 10), .lit (.int .u8 9)]
def laid_math_bits_deBruijn64tab {H : Type} : DataW H := .agg [.lit (.int .u8 0), .lit (.int .u8 1), .lit (.int .u8 56), .lit (.int .u8 2), .lit (.int .u8 57), .lit (.int .u8 49), .lit (.int .u8 28), .lit (.int .u8 3), .lit (.int .u8 61), .lit (.int .u8 58), .lit (.int .u8 42), .lit (.int .u8 50), .lit (.int .u8 38), .lit (.int .u8 29), .lit (.int .u8 17), .lit (.int .u8 4), .lit (.int .u8 62), .lit (.int .u8 47), .lit (.int .u8 59), .lit (.int .u8 36), .lit (.int .u8 45), .lit (.int .u8 43), .lit (.int .u8 51), .lit (.int .u8 22), .lit (.int .u8 53), .lit (.int .u8 39), .lit (.int .u8 33), .lit (.int .u8 30), .lit (.int .u8 24), .lit (.int .u8 18), .lit (.int .u8 12), .lit (.int .u8 5), .lit (.int .u8 63), .lit (.int .u8 55), .lit (.int .u8 48), .lit (.int .u8 27), .lit (.int .u8 60), .lit (.int .u8 41), .lit (.int .u8 37), .lit (.int .u8 16), .lit (.int .u8 46), .lit (.int .u8 35), .lit (.int .u8 44), .lit (.int .u8 21), .lit (.int .u8 52), .lit (.int .u8 32), .lit (.int .u8 23), .lit (.int .u8 11), .lit (.int .u8 54), .lit (.int .u8 26), .lit (.int .u8 40), .lit (.int .u8 15), .lit (.int .u8 34), .lit (.int .u8 20), .lit (.int .u8 31), .lit (.int .u8 10), .lit (.int .u8 25), .lit (.int .u8 14), .lit (.int .u8 19), .lit (.int .u8 9), .lit (.int .u8 13), .lit (.int .u8 8), .lit (.int .u8 7), .lit (.int .u8 6)]
def laid_internal_strconv_uint64pow10 {H : Type} : DataW H := .agg [.lit (.int .u64 1), .lit (.int .u64 10), .lit (.int .u64 100), .lit (.int .u64 1000), .lit (.int .u64 10000), .lit (.int .u64 100000), .lit (.int .u64 1000000), .lit (.int .u64 10000000), .lit (.int .u64 100000000), .lit (.int .u64 1000000000), .lit (.int .u64 10000000000), .lit (.int .u64 100000000000), .lit (.int .u64 1000000000000), .lit (.int .u64 10000000000000), .lit (.int .u64 100000000000000), .lit (.int .u64 1000000000000000), .lit (.int .u64 10000000000000000), .lit (.int .u64 100000000000000000), .lit (.int .u64 1000000000000000000), .lit (.int .u64 10000000000000000000)]
def laid_unicode_utf8_acceptRanges {H : Type} : DataW H := .agg [.agg [.lit (.int .u8 128), .lit (.int .u8 191)], .agg [.lit (.int .u8 160), .lit (.int .u8 191)], .agg [.lit (.int .u8 128), .lit (.int .u8 159)], .agg [.lit (.int .u8 144), .lit (.int .u8 191)], .agg [.lit (.int .u8 128), .lit (.int .u8 143)], .agg [.lit (.int .u8 0), .lit (.int .u8 0)], .agg [.lit (.int .u8 0), .lit (.int .u8 0)], .agg [.lit (.int .u8 0), .lit (.int .u8 0)], .agg [.lit (.int .u8 0), .lit (.int .u8 0)], .agg [.lit (.int .u8 0), .lit (.int .u8 0)], .agg [.lit (.int .u8 0), .lit (.int .u8 0)], .agg [.lit (.int .u8 0), .lit (.int .u8 0)], .agg [.lit (.int .u8 0), .lit (.int .u8 0)], .agg [.lit (.int .u8 0), .lit (.int .u8 0)], .agg [.lit (.int .u8 0), .lit (.int .u8 0)], .agg [.lit (.int .u8 0), .lit (.int .u8 0)]]
/-- One of Go's own tables, pinned by name: the form's constant. -/
def laid_unicode_utf8_first : DataW Unit := Go.Pinned.utf8First

/-- 'laws.FnDerivParts': WHATEVER THE INPUT: true; the input reads as it did. -/
def fnDerivPartsSpec : ChangeSpec := { name := "fnDerivParts", fn := fun _ => fun
  | [d] => { results := [.lit (.bool true)], args := [d] }
  | _ => none }
def fnDerivPartsRow : OpenClaim := { program := "ytfeidjjabjejiaagreatdoor", sum := "76d6fc15152d5c51fd0ac6c289cfc5602af9f8b4c1785d816ab24d8a9ecee935", func := "loop.example/carding/laws.FnDerivParts", spec := "fnDerivParts", inPlace := ["internal/abi.NoEscape", "internal/bytealg.MakeNoZero"], recurses := true, named := ["internal/strconv.uint64pow10", "math/bits.deBruijn32tab", "math/bits.deBruijn64tab"], apart := false, laid := [("math/bits.deBruijn32tab", laid_math_bits_deBruijn32tab), ("math/bits.deBruijn64tab", laid_math_bits_deBruijn64tab), ("internal/strconv.uint64pow10", laid_internal_strconv_uint64pow10)] }
def FnDerivPartsSaid : Prop := fnDerivPartsRow.holds Tryz.pinned (OpenSpec.ofChange fnDerivPartsSpec)

/-- ITS FALSE NEIGHBOUR: 'it returns false'. Refute it at one input. -/
def fnDerivPartsWrong : ChangeSpec := { name := "fnDerivParts", fn := fun _ => fun
  | [d] => { results := [.lit (.bool false)], args := [d] }
  | _ => none }
def FnDerivPartsWrongFalsely : Prop := fnDerivPartsRow.holds Tryz.pinned (OpenSpec.ofChange fnDerivPartsWrong)

/-- 'laws.FnExactDerivBy': WHATEVER THE INPUT: true; the input reads as it did. -/
def fnExactDerivBySpec : ChangeSpec := { name := "fnExactDerivBy", fn := fun _ => fun
  | [d1, d2] => { results := [.lit (.bool true)], args := [d1, d2] }
  | _ => none }
def fnExactDerivByRow : OpenClaim := { program := "ytfeidjjabjejiaagreatdoor", sum := "76d6fc15152d5c51fd0ac6c289cfc5602af9f8b4c1785d816ab24d8a9ecee935", func := "loop.example/carding/laws.FnExactDerivBy", spec := "fnExactDerivBy", inPlace := ["internal/abi.NoEscape", "internal/bytealg.MakeNoZero"], recurses := true, named := ["internal/strconv.uint64pow10", "math/bits.deBruijn32tab", "math/bits.deBruijn64tab"], loops := true, apart := false, laid := [("math/bits.deBruijn32tab", laid_math_bits_deBruijn32tab), ("math/bits.deBruijn64tab", laid_math_bits_deBruijn64tab), ("internal/strconv.uint64pow10", laid_internal_strconv_uint64pow10)] }
def FnExactDerivBySaid : Prop := fnExactDerivByRow.holds Tryz.pinned (OpenSpec.ofChange fnExactDerivBySpec)

/-- ITS FALSE NEIGHBOUR: 'it returns false'. Refute it at one input. -/
def fnExactDerivByWrong : ChangeSpec := { name := "fnExactDerivBy", fn := fun _ => fun
  | [d1, d2] => { results := [.lit (.bool false)], args := [d1, d2] }
  | _ => none }
def FnExactDerivByWrongFalsely : Prop := fnExactDerivByRow.holds Tryz.pinned (OpenSpec.ofChange fnExactDerivByWrong)

/-- 'laws.FnExactDerivText': WHATEVER THE INPUT: true; the input reads as it did. -/
def fnExactDerivTextSpec : ChangeSpec := { name := "fnExactDerivText", fn := fun _ => fun
  | [d1, d2] => { results := [.lit (.bool true)], args := [d1, d2] }
  | _ => none }
def fnExactDerivTextRow : OpenClaim := { program := "ytfeidjjabjejiaagreatdoor", sum := "76d6fc15152d5c51fd0ac6c289cfc5602af9f8b4c1785d816ab24d8a9ecee935", func := "loop.example/carding/laws.FnExactDerivText", spec := "fnExactDerivText", inPlace := ["internal/abi.NoEscape", "internal/bytealg.MakeNoZero"], recurses := true, named := ["internal/strconv.uint64pow10", "math/bits.deBruijn32tab", "math/bits.deBruijn64tab"], loops := true, apart := false, laid := [("math/bits.deBruijn32tab", laid_math_bits_deBruijn32tab), ("math/bits.deBruijn64tab", laid_math_bits_deBruijn64tab), ("internal/strconv.uint64pow10", laid_internal_strconv_uint64pow10)] }
def FnExactDerivTextSaid : Prop := fnExactDerivTextRow.holds Tryz.pinned (OpenSpec.ofChange fnExactDerivTextSpec)

/-- ITS FALSE NEIGHBOUR: 'it returns false'. Refute it at one input. -/
def fnExactDerivTextWrong : ChangeSpec := { name := "fnExactDerivText", fn := fun _ => fun
  | [d1, d2] => { results := [.lit (.bool false)], args := [d1, d2] }
  | _ => none }
def FnExactDerivTextWrongFalsely : Prop := fnExactDerivTextRow.holds Tryz.pinned (OpenSpec.ofChange fnExactDerivTextWrong)

/-- 'laws.FnRex': WHATEVER THE INPUT: true; the input reads as it did. -/
def fnRexSpec : ChangeSpec := { name := "fnRex", fn := fun _ => fun
  | [d1, d2] => { results := [.lit (.bool true)], args := [d1, d2] }
  | _ => none }
def fnRexRow : OpenClaim := { program := "ytfeidjjabjejiaagreatdoor", sum := "76d6fc15152d5c51fd0ac6c289cfc5602af9f8b4c1785d816ab24d8a9ecee935", func := "loop.example/carding/laws.FnRex", spec := "fnRex", inPlace := ["internal/abi.NoEscape", "internal/bytealg.MakeNoZero", "internal/bytealg.CountString", "internal/bytealg.IndexByteString", "internal/bytealg.IndexString"], recurses := true, named := ["internal/strconv.uint64pow10", "math/bits.deBruijn32tab", "math/bits.deBruijn64tab", "unicode/utf8.first", "unicode/utf8.acceptRanges", "internal/bytealg.MaxLen"], apart := false, laid := [("math/bits.deBruijn32tab", laid_math_bits_deBruijn32tab), ("math/bits.deBruijn64tab", laid_math_bits_deBruijn64tab), ("internal/strconv.uint64pow10", laid_internal_strconv_uint64pow10), ("unicode/utf8.acceptRanges", laid_unicode_utf8_acceptRanges), ("unicode/utf8.first", laid_unicode_utf8_first)] }
def FnRexSaid : Prop := fnRexRow.holds Tryz.pinned (OpenSpec.ofChange fnRexSpec)

/-- ITS FALSE NEIGHBOUR: 'it returns false'. Refute it at one input. -/
def fnRexWrong : ChangeSpec := { name := "fnRex", fn := fun _ => fun
  | [d1, d2] => { results := [.lit (.bool false)], args := [d1, d2] }
  | _ => none }
def FnRexWrongFalsely : Prop := fnRexRow.holds Tryz.pinned (OpenSpec.ofChange fnRexWrong)

/-- 'laws.FnExactNormOr': WHATEVER THE INPUT: true; the input reads as it did. -/
def fnExactNormOrSpec : ChangeSpec := { name := "fnExactNormOr", fn := fun _ => fun
  | [d1, d2] => { results := [.lit (.bool true)], args := [d1, d2] }
  | _ => none }
def fnExactNormOrRow : OpenClaim := { program := "ytfeidjjabjejiaagreatdoor", sum := "76d6fc15152d5c51fd0ac6c289cfc5602af9f8b4c1785d816ab24d8a9ecee935", func := "loop.example/carding/laws.FnExactNormOr", spec := "fnExactNormOr", inPlace := ["internal/abi.NoEscape", "internal/bytealg.MakeNoZero"], recurses := true, named := ["internal/strconv.uint64pow10", "math/bits.deBruijn32tab", "math/bits.deBruijn64tab"], loops := true, apart := false, laid := [("math/bits.deBruijn32tab", laid_math_bits_deBruijn32tab), ("math/bits.deBruijn64tab", laid_math_bits_deBruijn64tab), ("internal/strconv.uint64pow10", laid_internal_strconv_uint64pow10)] }
def FnExactNormOrSaid : Prop := fnExactNormOrRow.holds Tryz.pinned (OpenSpec.ofChange fnExactNormOrSpec)

/-- ITS FALSE NEIGHBOUR: 'it returns false'. Refute it at one input. -/
def fnExactNormOrWrong : ChangeSpec := { name := "fnExactNormOr", fn := fun _ => fun
  | [d1, d2] => { results := [.lit (.bool false)], args := [d1, d2] }
  | _ => none }
def FnExactNormOrWrongFalsely : Prop := fnExactNormOrRow.holds Tryz.pinned (OpenSpec.ofChange fnExactNormOrWrong)

/-- 'laws.FnExactNormAnd': WHATEVER THE INPUT: true; the input reads as it did. -/
def fnExactNormAndSpec : ChangeSpec := { name := "fnExactNormAnd", fn := fun _ => fun
  | [d1, d2] => { results := [.lit (.bool true)], args := [d1, d2] }
  | _ => none }
def fnExactNormAndRow : OpenClaim := { program := "ytfeidjjabjejiaagreatdoor", sum := "76d6fc15152d5c51fd0ac6c289cfc5602af9f8b4c1785d816ab24d8a9ecee935", func := "loop.example/carding/laws.FnExactNormAnd", spec := "fnExactNormAnd", inPlace := ["internal/abi.NoEscape", "internal/bytealg.MakeNoZero"], recurses := true, named := ["internal/strconv.uint64pow10", "math/bits.deBruijn32tab", "math/bits.deBruijn64tab"], loops := true, apart := false, laid := [("math/bits.deBruijn32tab", laid_math_bits_deBruijn32tab), ("math/bits.deBruijn64tab", laid_math_bits_deBruijn64tab), ("internal/strconv.uint64pow10", laid_internal_strconv_uint64pow10)] }
def FnExactNormAndSaid : Prop := fnExactNormAndRow.holds Tryz.pinned (OpenSpec.ofChange fnExactNormAndSpec)

/-- ITS FALSE NEIGHBOUR: 'it returns false'. Refute it at one input. -/
def fnExactNormAndWrong : ChangeSpec := { name := "fnExactNormAnd", fn := fun _ => fun
  | [d1, d2] => { results := [.lit (.bool false)], args := [d1, d2] }
  | _ => none }
def FnExactNormAndWrongFalsely : Prop := fnExactNormAndRow.holds Tryz.pinned (OpenSpec.ofChange fnExactNormAndWrong)

/-- 'laws.FnNormUnit': WHATEVER THE INPUT: true; the input reads as it did. -/
def fnNormUnitSpec : ChangeSpec := { name := "fnNormUnit", fn := fun _ => fun
  | [d] => { results := [.lit (.bool true)], args := [d] }
  | _ => none }
def fnNormUnitRow : OpenClaim := { program := "ytfeidjjabjejiaagreatdoor", sum := "76d6fc15152d5c51fd0ac6c289cfc5602af9f8b4c1785d816ab24d8a9ecee935", func := "loop.example/carding/laws.FnNormUnit", spec := "fnNormUnit", inPlace := ["internal/abi.NoEscape", "internal/bytealg.MakeNoZero"], recurses := true, named := ["internal/strconv.uint64pow10", "math/bits.deBruijn32tab", "math/bits.deBruijn64tab"], apart := false, laid := [("math/bits.deBruijn32tab", laid_math_bits_deBruijn32tab), ("math/bits.deBruijn64tab", laid_math_bits_deBruijn64tab), ("internal/strconv.uint64pow10", laid_internal_strconv_uint64pow10)] }
def FnNormUnitSaid : Prop := fnNormUnitRow.holds Tryz.pinned (OpenSpec.ofChange fnNormUnitSpec)

/-- ITS FALSE NEIGHBOUR: 'it returns false'. Refute it at one input. -/
def fnNormUnitWrong : ChangeSpec := { name := "fnNormUnit", fn := fun _ => fun
  | [d] => { results := [.lit (.bool false)], args := [d] }
  | _ => none }
def FnNormUnitWrongFalsely : Prop := fnNormUnitRow.holds Tryz.pinned (OpenSpec.ofChange fnNormUnitWrong)

/-- 'laws.FnNormAssoc': WHATEVER THE INPUT: true; the input reads as it did. -/
def fnNormAssocSpec : ChangeSpec := { name := "fnNormAssoc", fn := fun _ => fun
  | [d1, d2] => { results := [.lit (.bool true)], args := [d1, d2] }
  | _ => none }
def fnNormAssocRow : OpenClaim := { program := "ytfeidjjabjejiaagreatdoor", sum := "76d6fc15152d5c51fd0ac6c289cfc5602af9f8b4c1785d816ab24d8a9ecee935", func := "loop.example/carding/laws.FnNormAssoc", spec := "fnNormAssoc", inPlace := ["internal/abi.NoEscape", "internal/bytealg.MakeNoZero"], recurses := true, named := ["internal/strconv.uint64pow10", "math/bits.deBruijn32tab", "math/bits.deBruijn64tab"], apart := false, laid := [("math/bits.deBruijn32tab", laid_math_bits_deBruijn32tab), ("math/bits.deBruijn64tab", laid_math_bits_deBruijn64tab), ("internal/strconv.uint64pow10", laid_internal_strconv_uint64pow10)] }
def FnNormAssocSaid : Prop := fnNormAssocRow.holds Tryz.pinned (OpenSpec.ofChange fnNormAssocSpec)

/-- ITS FALSE NEIGHBOUR: 'it returns false'. Refute it at one input. -/
def fnNormAssocWrong : ChangeSpec := { name := "fnNormAssoc", fn := fun _ => fun
  | [d1, d2] => { results := [.lit (.bool false)], args := [d1, d2] }
  | _ => none }
def FnNormAssocWrongFalsely : Prop := fnNormAssocRow.holds Tryz.pinned (OpenSpec.ofChange fnNormAssocWrong)

/-- 'laws.FnExactNorm': WHATEVER THE INPUT: true; the input reads as it did. -/
def fnExactNormSpec : ChangeSpec := { name := "fnExactNorm", fn := fun _ => fun
  | [d] => { results := [.lit (.bool true)], args := [d] }
  | _ => none }
def fnExactNormRow : OpenClaim := { program := "ytfeidjjabjejiaagreatdoor", sum := "76d6fc15152d5c51fd0ac6c289cfc5602af9f8b4c1785d816ab24d8a9ecee935", func := "loop.example/carding/laws.FnExactNorm", spec := "fnExactNorm", inPlace := ["internal/abi.NoEscape", "internal/bytealg.MakeNoZero"], recurses := true, named := ["internal/strconv.uint64pow10", "math/bits.deBruijn32tab", "math/bits.deBruijn64tab"], loops := true, apart := false, laid := [("math/bits.deBruijn32tab", laid_math_bits_deBruijn32tab), ("math/bits.deBruijn64tab", laid_math_bits_deBruijn64tab), ("internal/strconv.uint64pow10", laid_internal_strconv_uint64pow10)] }
def FnExactNormSaid : Prop := fnExactNormRow.holds Tryz.pinned (OpenSpec.ofChange fnExactNormSpec)

/-- ITS FALSE NEIGHBOUR: 'it returns false'. Refute it at one input. -/
def fnExactNormWrong : ChangeSpec := { name := "fnExactNorm", fn := fun _ => fun
  | [d] => { results := [.lit (.bool false)], args := [d] }
  | _ => none }
def FnExactNormWrongFalsely : Prop := fnExactNormRow.holds Tryz.pinned (OpenSpec.ofChange fnExactNormWrong)

/-- 'laws.FnNormTwo': WHATEVER THE INPUT: true; the input reads as it did. -/
def fnNormTwoSpec : ChangeSpec := { name := "fnNormTwo", fn := fun _ => fun
  | [d1, d2] => { results := [.lit (.bool true)], args := [d1, d2] }
  | _ => none }
def fnNormTwoRow : OpenClaim := { program := "ytfeidjjabjejiaagreatdoor", sum := "76d6fc15152d5c51fd0ac6c289cfc5602af9f8b4c1785d816ab24d8a9ecee935", func := "loop.example/carding/laws.FnNormTwo", spec := "fnNormTwo", inPlace := ["internal/abi.NoEscape", "internal/bytealg.MakeNoZero"], recurses := true, named := ["internal/strconv.uint64pow10", "math/bits.deBruijn32tab", "math/bits.deBruijn64tab"], apart := false, laid := [("math/bits.deBruijn32tab", laid_math_bits_deBruijn32tab), ("math/bits.deBruijn64tab", laid_math_bits_deBruijn64tab), ("internal/strconv.uint64pow10", laid_internal_strconv_uint64pow10)] }
def FnNormTwoSaid : Prop := fnNormTwoRow.holds Tryz.pinned (OpenSpec.ofChange fnNormTwoSpec)

/-- ITS FALSE NEIGHBOUR: 'it returns false'. Refute it at one input. -/
def fnNormTwoWrong : ChangeSpec := { name := "fnNormTwo", fn := fun _ => fun
  | [d1, d2] => { results := [.lit (.bool false)], args := [d1, d2] }
  | _ => none }
def FnNormTwoWrongFalsely : Prop := fnNormTwoRow.holds Tryz.pinned (OpenSpec.ofChange fnNormTwoWrong)

/-- 'laws.FnNorm': WHATEVER THE INPUT: true; the input reads as it did. -/
def fnNormSpec : ChangeSpec := { name := "fnNorm", fn := fun _ => fun
  | [d1, d2] => { results := [.lit (.bool true)], args := [d1, d2] }
  | _ => none }
def fnNormRow : OpenClaim := { program := "ytfeidjjabjejiaagreatdoor", sum := "76d6fc15152d5c51fd0ac6c289cfc5602af9f8b4c1785d816ab24d8a9ecee935", func := "loop.example/carding/laws.FnNorm", spec := "fnNorm", inPlace := ["internal/abi.NoEscape", "internal/bytealg.MakeNoZero"], recurses := true, named := ["internal/strconv.uint64pow10", "math/bits.deBruijn32tab", "math/bits.deBruijn64tab"], apart := false, laid := [("math/bits.deBruijn32tab", laid_math_bits_deBruijn32tab), ("math/bits.deBruijn64tab", laid_math_bits_deBruijn64tab), ("internal/strconv.uint64pow10", laid_internal_strconv_uint64pow10)] }
def FnNormSaid : Prop := fnNormRow.holds Tryz.pinned (OpenSpec.ofChange fnNormSpec)

/-- ITS FALSE NEIGHBOUR: 'it returns false'. Refute it at one input. -/
def fnNormWrong : ChangeSpec := { name := "fnNorm", fn := fun _ => fun
  | [d1, d2] => { results := [.lit (.bool false)], args := [d1, d2] }
  | _ => none }
def FnNormWrongFalsely : Prop := fnNormRow.holds Tryz.pinned (OpenSpec.ofChange fnNormWrong)

/- THE SECOND FORM. 'bulk': how many values and letters a reading holds, each counted each time it is reached (what is shared counts as often as it is met; a slice's spare places count too). A statement '..UptoSaid' is the law's where the arguments, and the package variables that the reading takes, are together of bulk at most 1048576: NARROWER than '..Said'. Prove '..Said' where nothing that the law and all that it calls make is longer than what came in: it says more and counts as full. Else prove '..UptoSaid'. A law counts once. -/
mutual
def uptoBulk {H : Type} : DataW H → Nat
  | .lit (.string bytes) => bytes.length + 1
  | .lit _ => 1
  | .nil => 1
  | .ptr d => uptoBulk d + 1
  | .slice elems spare => uptoBulkAll elems + uptoBulkAll spare + 1
  | .agg parts => uptoBulkAll parts + 1
  | .iface _ d => uptoBulk d + 1
  | .map entries => uptoBulkEntries entries + 1
  | .held _ => 1
def uptoBulkAll {H : Type} : List (DataW H) → Nat
  | [] => 0
  | d :: r => uptoBulk d + uptoBulkAll r
def uptoBulkEntries {H : Type} : List (Lit × DataW H) → Nat
  | [] => 0
  | x :: r => uptoBulkEntry x + uptoBulkEntries r
def uptoBulkEntry {H : Type} : Lit × DataW H → Nat
  | (.string bytes, d) => bytes.length + uptoBulk d + 1
  | (_, d) => uptoBulk d + 1
 end
def uptoSmall : (H : Type) → List (DataW H) → Bool := fun _ ds => decide (uptoBulkAll ds ≤ 1048576)
def OpenSpec.upto (s : _root_.Go.ChangeSpec) : _root_.Go.OpenSpec := { _root_.Go.OpenSpec.ofChange s with cond := some uptoSmall }

/-- 'laws.FnDerivParts', WHERE WHAT IT READS IS OF BULK AT MOST 1048576: true; the input reads as it did. -/
def fnDerivPartsUptoRow : OpenClaim := { program := "ytfeidjjabjejiaagreatdoor", sum := "76d6fc15152d5c51fd0ac6c289cfc5602af9f8b4c1785d816ab24d8a9ecee935", func := "loop.example/carding/laws.FnDerivParts", spec := "fnDerivParts", inPlace := ["internal/abi.NoEscape", "internal/bytealg.MakeNoZero"], recurses := true, named := ["internal/strconv.uint64pow10", "math/bits.deBruijn32tab", "math/bits.deBruijn64tab"], apart := false, laid := [("math/bits.deBruijn32tab", laid_math_bits_deBruijn32tab), ("math/bits.deBruijn64tab", laid_math_bits_deBruijn64tab), ("internal/strconv.uint64pow10", laid_internal_strconv_uint64pow10)], narrowed := true }
def FnDerivPartsUptoSaid : Prop := fnDerivPartsUptoRow.holds Tryz.pinned (OpenSpec.upto fnDerivPartsSpec)

/-- 'laws.FnExactDerivBy', WHERE WHAT IT READS IS OF BULK AT MOST 1048576: true; the input reads as it did. -/
def fnExactDerivByUptoRow : OpenClaim := { program := "ytfeidjjabjejiaagreatdoor", sum := "76d6fc15152d5c51fd0ac6c289cfc5602af9f8b4c1785d816ab24d8a9ecee935", func := "loop.example/carding/laws.FnExactDerivBy", spec := "fnExactDerivBy", inPlace := ["internal/abi.NoEscape", "internal/bytealg.MakeNoZero"], recurses := true, named := ["internal/strconv.uint64pow10", "math/bits.deBruijn32tab", "math/bits.deBruijn64tab"], loops := true, apart := false, laid := [("math/bits.deBruijn32tab", laid_math_bits_deBruijn32tab), ("math/bits.deBruijn64tab", laid_math_bits_deBruijn64tab), ("internal/strconv.uint64pow10", laid_internal_strconv_uint64pow10)], narrowed := true }
def FnExactDerivByUptoSaid : Prop := fnExactDerivByUptoRow.holds Tryz.pinned (OpenSpec.upto fnExactDerivBySpec)

/-- 'laws.FnExactDerivText', WHERE WHAT IT READS IS OF BULK AT MOST 1048576: true; the input reads as it did. -/
def fnExactDerivTextUptoRow : OpenClaim := { program := "ytfeidjjabjejiaagreatdoor", sum := "76d6fc15152d5c51fd0ac6c289cfc5602af9f8b4c1785d816ab24d8a9ecee935", func := "loop.example/carding/laws.FnExactDerivText", spec := "fnExactDerivText", inPlace := ["internal/abi.NoEscape", "internal/bytealg.MakeNoZero"], recurses := true, named := ["internal/strconv.uint64pow10", "math/bits.deBruijn32tab", "math/bits.deBruijn64tab"], loops := true, apart := false, laid := [("math/bits.deBruijn32tab", laid_math_bits_deBruijn32tab), ("math/bits.deBruijn64tab", laid_math_bits_deBruijn64tab), ("internal/strconv.uint64pow10", laid_internal_strconv_uint64pow10)], narrowed := true }
def FnExactDerivTextUptoSaid : Prop := fnExactDerivTextUptoRow.holds Tryz.pinned (OpenSpec.upto fnExactDerivTextSpec)

/-- 'laws.FnRex', WHERE WHAT IT READS IS OF BULK AT MOST 1048576: true; the input reads as it did. -/
def fnRexUptoRow : OpenClaim := { program := "ytfeidjjabjejiaagreatdoor", sum := "76d6fc15152d5c51fd0ac6c289cfc5602af9f8b4c1785d816ab24d8a9ecee935", func := "loop.example/carding/laws.FnRex", spec := "fnRex", inPlace := ["internal/abi.NoEscape", "internal/bytealg.MakeNoZero", "internal/bytealg.CountString", "internal/bytealg.IndexByteString", "internal/bytealg.IndexString"], recurses := true, named := ["internal/strconv.uint64pow10", "math/bits.deBruijn32tab", "math/bits.deBruijn64tab", "unicode/utf8.first", "unicode/utf8.acceptRanges", "internal/bytealg.MaxLen"], apart := false, laid := [("math/bits.deBruijn32tab", laid_math_bits_deBruijn32tab), ("math/bits.deBruijn64tab", laid_math_bits_deBruijn64tab), ("internal/strconv.uint64pow10", laid_internal_strconv_uint64pow10), ("unicode/utf8.acceptRanges", laid_unicode_utf8_acceptRanges), ("unicode/utf8.first", laid_unicode_utf8_first)], narrowed := true }
def FnRexUptoSaid : Prop := fnRexUptoRow.holds Tryz.pinned (OpenSpec.upto fnRexSpec)

/-- 'laws.FnExactNormOr', WHERE WHAT IT READS IS OF BULK AT MOST 1048576: true; the input reads as it did. -/
def fnExactNormOrUptoRow : OpenClaim := { program := "ytfeidjjabjejiaagreatdoor", sum := "76d6fc15152d5c51fd0ac6c289cfc5602af9f8b4c1785d816ab24d8a9ecee935", func := "loop.example/carding/laws.FnExactNormOr", spec := "fnExactNormOr", inPlace := ["internal/abi.NoEscape", "internal/bytealg.MakeNoZero"], recurses := true, named := ["internal/strconv.uint64pow10", "math/bits.deBruijn32tab", "math/bits.deBruijn64tab"], loops := true, apart := false, laid := [("math/bits.deBruijn32tab", laid_math_bits_deBruijn32tab), ("math/bits.deBruijn64tab", laid_math_bits_deBruijn64tab), ("internal/strconv.uint64pow10", laid_internal_strconv_uint64pow10)], narrowed := true }
def FnExactNormOrUptoSaid : Prop := fnExactNormOrUptoRow.holds Tryz.pinned (OpenSpec.upto fnExactNormOrSpec)

/-- 'laws.FnExactNormAnd', WHERE WHAT IT READS IS OF BULK AT MOST 1048576: true; the input reads as it did. -/
def fnExactNormAndUptoRow : OpenClaim := { program := "ytfeidjjabjejiaagreatdoor", sum := "76d6fc15152d5c51fd0ac6c289cfc5602af9f8b4c1785d816ab24d8a9ecee935", func := "loop.example/carding/laws.FnExactNormAnd", spec := "fnExactNormAnd", inPlace := ["internal/abi.NoEscape", "internal/bytealg.MakeNoZero"], recurses := true, named := ["internal/strconv.uint64pow10", "math/bits.deBruijn32tab", "math/bits.deBruijn64tab"], loops := true, apart := false, laid := [("math/bits.deBruijn32tab", laid_math_bits_deBruijn32tab), ("math/bits.deBruijn64tab", laid_math_bits_deBruijn64tab), ("internal/strconv.uint64pow10", laid_internal_strconv_uint64pow10)], narrowed := true }
def FnExactNormAndUptoSaid : Prop := fnExactNormAndUptoRow.holds Tryz.pinned (OpenSpec.upto fnExactNormAndSpec)

/-- 'laws.FnNormUnit', WHERE WHAT IT READS IS OF BULK AT MOST 1048576: true; the input reads as it did. -/
def fnNormUnitUptoRow : OpenClaim := { program := "ytfeidjjabjejiaagreatdoor", sum := "76d6fc15152d5c51fd0ac6c289cfc5602af9f8b4c1785d816ab24d8a9ecee935", func := "loop.example/carding/laws.FnNormUnit", spec := "fnNormUnit", inPlace := ["internal/abi.NoEscape", "internal/bytealg.MakeNoZero"], recurses := true, named := ["internal/strconv.uint64pow10", "math/bits.deBruijn32tab", "math/bits.deBruijn64tab"], apart := false, laid := [("math/bits.deBruijn32tab", laid_math_bits_deBruijn32tab), ("math/bits.deBruijn64tab", laid_math_bits_deBruijn64tab), ("internal/strconv.uint64pow10", laid_internal_strconv_uint64pow10)], narrowed := true }
def FnNormUnitUptoSaid : Prop := fnNormUnitUptoRow.holds Tryz.pinned (OpenSpec.upto fnNormUnitSpec)

/-- 'laws.FnNormAssoc', WHERE WHAT IT READS IS OF BULK AT MOST 1048576: true; the input reads as it did. -/
def fnNormAssocUptoRow : OpenClaim := { program := "ytfeidjjabjejiaagreatdoor", sum := "76d6fc15152d5c51fd0ac6c289cfc5602af9f8b4c1785d816ab24d8a9ecee935", func := "loop.example/carding/laws.FnNormAssoc", spec := "fnNormAssoc", inPlace := ["internal/abi.NoEscape", "internal/bytealg.MakeNoZero"], recurses := true, named := ["internal/strconv.uint64pow10", "math/bits.deBruijn32tab", "math/bits.deBruijn64tab"], apart := false, laid := [("math/bits.deBruijn32tab", laid_math_bits_deBruijn32tab), ("math/bits.deBruijn64tab", laid_math_bits_deBruijn64tab), ("internal/strconv.uint64pow10", laid_internal_strconv_uint64pow10)], narrowed := true }
def FnNormAssocUptoSaid : Prop := fnNormAssocUptoRow.holds Tryz.pinned (OpenSpec.upto fnNormAssocSpec)

/-- 'laws.FnExactNorm', WHERE WHAT IT READS IS OF BULK AT MOST 1048576: true; the input reads as it did. -/
def fnExactNormUptoRow : OpenClaim := { program := "ytfeidjjabjejiaagreatdoor", sum := "76d6fc15152d5c51fd0ac6c289cfc5602af9f8b4c1785d816ab24d8a9ecee935", func := "loop.example/carding/laws.FnExactNorm", spec := "fnExactNorm", inPlace := ["internal/abi.NoEscape", "internal/bytealg.MakeNoZero"], recurses := true, named := ["internal/strconv.uint64pow10", "math/bits.deBruijn32tab", "math/bits.deBruijn64tab"], loops := true, apart := false, laid := [("math/bits.deBruijn32tab", laid_math_bits_deBruijn32tab), ("math/bits.deBruijn64tab", laid_math_bits_deBruijn64tab), ("internal/strconv.uint64pow10", laid_internal_strconv_uint64pow10)], narrowed := true }
def FnExactNormUptoSaid : Prop := fnExactNormUptoRow.holds Tryz.pinned (OpenSpec.upto fnExactNormSpec)

/-- 'laws.FnNormTwo', WHERE WHAT IT READS IS OF BULK AT MOST 1048576: true; the input reads as it did. -/
def fnNormTwoUptoRow : OpenClaim := { program := "ytfeidjjabjejiaagreatdoor", sum := "76d6fc15152d5c51fd0ac6c289cfc5602af9f8b4c1785d816ab24d8a9ecee935", func := "loop.example/carding/laws.FnNormTwo", spec := "fnNormTwo", inPlace := ["internal/abi.NoEscape", "internal/bytealg.MakeNoZero"], recurses := true, named := ["internal/strconv.uint64pow10", "math/bits.deBruijn32tab", "math/bits.deBruijn64tab"], apart := false, laid := [("math/bits.deBruijn32tab", laid_math_bits_deBruijn32tab), ("math/bits.deBruijn64tab", laid_math_bits_deBruijn64tab), ("internal/strconv.uint64pow10", laid_internal_strconv_uint64pow10)], narrowed := true }
def FnNormTwoUptoSaid : Prop := fnNormTwoUptoRow.holds Tryz.pinned (OpenSpec.upto fnNormTwoSpec)

/-- 'laws.FnNorm', WHERE WHAT IT READS IS OF BULK AT MOST 1048576: true; the input reads as it did. -/
def fnNormUptoRow : OpenClaim := { program := "ytfeidjjabjejiaagreatdoor", sum := "76d6fc15152d5c51fd0ac6c289cfc5602af9f8b4c1785d816ab24d8a9ecee935", func := "loop.example/carding/laws.FnNorm", spec := "fnNorm", inPlace := ["internal/abi.NoEscape", "internal/bytealg.MakeNoZero"], recurses := true, named := ["internal/strconv.uint64pow10", "math/bits.deBruijn32tab", "math/bits.deBruijn64tab"], apart := false, laid := [("math/bits.deBruijn32tab", laid_math_bits_deBruijn32tab), ("math/bits.deBruijn64tab", laid_math_bits_deBruijn64tab), ("internal/strconv.uint64pow10", laid_internal_strconv_uint64pow10)], narrowed := true }
def FnNormUptoSaid : Prop := fnNormUptoRow.holds Tryz.pinned (OpenSpec.upto fnNormSpec)

end Rows
end Go.Proofs.YtfeidjjabjejiaaGreatDoor
