/-
  NARROWER THAN 'FOR EVERY INPUT', by the rows' own cells (each row's printed sentence says how): SpringCheckSpec: laid · SpringHeightSpec: laid · SpringGapSpec: laid · SpringReleaseSpec: laid · SpringWhenSpec: laid · SpringGaps: laid · SpringBounded: laid · SpringBalance: laid · SpringMore: laid · SpringParts: laid · SpringHeights: laid · SpringWhen: laid · SpringChangeSpec: laid · SpringCarried: laid · SpringVolumeSpec: laid · SpringLeftSpec: laid · SpringVolumes: laid · SpringTexts: laid · SpringNarrower: laid.
  DERIVED. THE GIVEN ROWS OF THIS SEAT. 19 by the template 'for every input the law returns true; each argument reads behind the call as it read before'; 0 by the template 'total and deterministic' (their statements: YtmjfdobjnnfafaaGreatDoorTotals.lean).
  GIVEN WITH THE SEED: the statements are not yours to turn. If you find one false, say at which input.
  Laid BY PROGRAM, IN A SANDBOX (cutbox-rows.mjs): the forced cells as the released guide's own fill.sh prints them over the translation c57f115e721ffc37… (all of the seat's roots in one cut). By AI agents, Wed Nov 11 2026. No macro, syntax, notation, axiom, sorry.
-/
import Derived.Test.YtmjfdobjnnfafaaGreatDoorChecked
import GoSem.PinnedTables
import GoSem.Claim
import GoSem.ClaimJoined
import GoSem.ClaimMapViews
import Derived.JoinedTies
import Derived.KernelRfl
namespace Go.Proofs.YtmjfdobjnnfafaaGreatDoor
/- THE CELL 'sum', in the pinned program and in every row, IS THE sha256 OF THE DUMP (.gsa) THAT YtmjfdobjnnfafaaGreatDoorProg.lean LOADS. Nothing in Lean hashes anything: it is a label: what it is worth is what the hold of that sum in a sandbox is worth. -/
noncomputable def Tryz.pinned : Pinned := { name := "ytmjfdobjnnfafaagreatdoor", sum := "c57f115e721ffc37fdc9af9f6272073fba86d1111362763f1aea3c6e62bb91b0", checked := Tryz.checked }
namespace Rows
def none {H : Type} : Left H := { results := [], args := [] }

/- WHAT THE LISTED PACKAGE-LEVEL VARIABLES READ AS WHEN THE CALL BEGINS. Each datum BY PROGRAM (the guide's laid-datum.mjs) off the statement by which the dump's own 'gosem.cut.vars' lays the variable. In a bare row this is a premise. The card (YtmjfdobjnnfafaaGreatDoorCards.lean) ties it to the program's text. -/
def laid_math_bits_deBruijn32tab {H : Type} : DataW H := .agg [.lit (.int .u8 0), .lit (.int .u8 1), .lit (.int .u8 28), .lit (.int .u8 2), .lit (.int .u8 29), .lit (.int .u8 14), .lit (.int .u8 24), .lit (.int .u8 3), .lit (.int .u8 30), .lit (.int .u8 22), .lit (.int .u8 20), .lit (.int .u8 15), .lit (.int .u8 25), .lit (.int .u8 17), .lit (.int .u8 4), .lit (.int .u8 8), .lit (.int .u8 31), .lit (.int .u8 27), .lit (.int .u8 13), .lit (.int .u8 23), .lit (.int .u8 21), .lit (.int .u8 19), .lit (.int .u8 16), .lit (.int .u8 7), .lit (.int .u8 26), .lit (.int .u8 12), .lit (.int .u8 18), .lit (.int .u8 6), .lit (.int .u8 11), .lit (.int .u8 5), .lit (.int .u8 10), .lit (.int .u8 9)]
def laid_math_bits_deBruijn64tab {H : Type} : DataW H := .agg [.lit (.int .u8 0), .lit (.int .u8 1), .lit (.int .u8 56), .lit (.int .u8 2), .lit (.int .u8 57), .lit (.int .u8 49), .lit (.int .u8 28), .lit (.int .u8 3), .lit (.int .u8 61), .lit (.int .u8 58), .lit (.int .u8 42), .lit (.int .u8 50), .lit (.int .u8 38), .lit (.int .u8 29), .lit (.int .u8 17), .lit (.int .u8 4), .lit (.int .u8 62), .lit (.int .u8 47), .lit (.int .u8 59), .lit (.int .u8 36), .lit (.int .u8 45), .lit (.int .u8 43), .lit (.int .u8 51), .lit (.int .u8 22), .lit (.int .u8 53), .lit (.int .u8 39), .lit (.int .u8 33), .lit (.int .u8 30), .lit (.int .u8 24), .lit (.int .u8 18), .lit (.int .u8 12), .lit (.int .u8 5), .lit (.int .u8 63), .lit (.int .u8 55), .lit (.int .u8 48), .lit (.int .u8 27), .lit (.int .u8 60), .lit (.int .u8 41), .lit (.int .u8 37), .lit (.int .u8 16), .lit (.int .u8 46), .lit (.int .u8 35), .lit (.int .u8 44), .lit (.int .u8 21), .lit (.int .u8 52), .lit (.int .u8 32), .lit (.int .u8 23), .lit (.int .u8 11), .lit (.int .u8 54), .lit (.int .u8 26), .lit (.int .u8 40), .lit (.int .u8 15), .lit (.int .u8 34), .lit (.int .u8 20), .lit (.int .u8 31), .lit (.int .u8 10), .lit (.int .u8 25), .lit (.int .u8 14), .lit (.int .u8 19), .lit (.int .u8 9), .lit (.int .u8 13), .lit (.int .u8 8), .lit (.int .u8 7), .lit (.int .u8 6)]
def laid_internal_strconv_uint64pow10 {H : Type} : DataW H := .agg [.lit (.int .u64 1), .lit (.int .u64 10), .lit (.int .u64 100), .lit (.int .u64 1000), .lit (.int .u64 10000), .lit (.int .u64 100000), .lit (.int .u64 1000000), .lit (.int .u64 10000000), .lit (.int .u64 100000000), .lit (.int .u64 1000000000), .lit (.int .u64 10000000000), .lit (.int .u64 100000000000), .lit (.int .u64 1000000000000), .lit (.int .u64 10000000000000), .lit (.int .u64 100000000000000), .lit (.int .u64 1000000000000000), .lit (.int .u64 10000000000000000), .lit (.int .u64 100000000000000000), .lit (.int .u64 1000000000000000000), .lit (.int .u64 10000000000000000000)]
def laid_unicode_utf8_acceptRanges {H : Type} : DataW H := .agg [.agg [.lit (.int .u8 128), .lit (.int .u8 191)], .agg [.lit (.int .u8 160), .lit (.int .u8 191)], .agg [.lit (.int .u8 128), .lit (.int .u8 159)], .agg [.lit (.int .u8 144), .lit (.int .u8 191)], .agg [.lit (.int .u8 128), .lit (.int .u8 143)], .agg [.lit (.int .u8 0), .lit (.int .u8 0)], .agg [.lit (.int .u8 0), .lit (.int .u8 0)], .agg [.lit (.int .u8 0), .lit (.int .u8 0)], .agg [.lit (.int .u8 0), .lit (.int .u8 0)], .agg [.lit (.int .u8 0), .lit (.int .u8 0)], .agg [.lit (.int .u8 0), .lit (.int .u8 0)], .agg [.lit (.int .u8 0), .lit (.int .u8 0)], .agg [.lit (.int .u8 0), .lit (.int .u8 0)], .agg [.lit (.int .u8 0), .lit (.int .u8 0)], .agg [.lit (.int .u8 0), .lit (.int .u8 0)], .agg [.lit (.int .u8 0), .lit (.int .u8 0)]]
/-- One of Go's own tables, pinned by name: the form's constant. -/
def laid_unicode_utf8_first : DataW Unit := Go.Pinned.utf8First

/-- 'snowlinelaw06.SpringCheckSpec': WHATEVER THE INPUT: true; the input reads as it did. -/
def springCheckSpecSpec : ChangeSpec := { name := "springCheckSpec", fn := fun _ => fun
  | [d1, d2, d3] => { results := [.lit (.bool true)], args := [d1, d2, d3] }
  | _ => none }
def springCheckSpecRow : OpenClaim := { program := "ytmjfdobjnnfafaagreatdoor", sum := "c57f115e721ffc37fdc9af9f6272073fba86d1111362763f1aea3c6e62bb91b0", func := "snowline/snowlinelaw06.SpringCheckSpec", spec := "springCheckSpec", unfollowed := true, recurses := true, named := ["internal/strconv.uint64pow10", "math/bits.deBruijn32tab", "math/bits.deBruijn64tab"], plainKeys := false, apart := false, laid := [("math/bits.deBruijn32tab", laid_math_bits_deBruijn32tab), ("math/bits.deBruijn64tab", laid_math_bits_deBruijn64tab), ("internal/strconv.uint64pow10", laid_internal_strconv_uint64pow10)] }
def SpringCheckSpecSaid : Prop := springCheckSpecRow.holds Tryz.pinned (OpenSpec.ofChange springCheckSpecSpec)

/-- ITS FALSE NEIGHBOUR: 'it returns false'. Refute it at one input. -/
def springCheckSpecWrong : ChangeSpec := { name := "springCheckSpec", fn := fun _ => fun
  | [d1, d2, d3] => { results := [.lit (.bool false)], args := [d1, d2, d3] }
  | _ => none }
def SpringCheckSpecWrongFalsely : Prop := springCheckSpecRow.holds Tryz.pinned (OpenSpec.ofChange springCheckSpecWrong)

/-- 'snowlinelaw06.SpringHeightSpec': WHATEVER THE INPUT: true; the input reads as it did. -/
def springHeightSpecSpec : ChangeSpec := { name := "springHeightSpec", fn := fun _ => fun
  | [d1, d2, d3, d4, d5] => { results := [.lit (.bool true)], args := [d1, d2, d3, d4, d5] }
  | _ => none }
def springHeightSpecRow : OpenClaim := { program := "ytmjfdobjnnfafaagreatdoor", sum := "c57f115e721ffc37fdc9af9f6272073fba86d1111362763f1aea3c6e62bb91b0", func := "snowline/snowlinelaw06.SpringHeightSpec", spec := "springHeightSpec", unfollowed := true, recurses := true, named := ["internal/strconv.uint64pow10", "math/bits.deBruijn32tab", "math/bits.deBruijn64tab"], plainKeys := false, apart := false, laid := [("math/bits.deBruijn32tab", laid_math_bits_deBruijn32tab), ("math/bits.deBruijn64tab", laid_math_bits_deBruijn64tab), ("internal/strconv.uint64pow10", laid_internal_strconv_uint64pow10)] }
def SpringHeightSpecSaid : Prop := springHeightSpecRow.holds Tryz.pinned (OpenSpec.ofChange springHeightSpecSpec)

/-- ITS FALSE NEIGHBOUR: 'it returns false'. Refute it at one input. -/
def springHeightSpecWrong : ChangeSpec := { name := "springHeightSpec", fn := fun _ => fun
  | [d1, d2, d3, d4, d5] => { results := [.lit (.bool false)], args := [d1, d2, d3, d4, d5] }
  | _ => none }
def SpringHeightSpecWrongFalsely : Prop := springHeightSpecRow.holds Tryz.pinned (OpenSpec.ofChange springHeightSpecWrong)

/-- 'snowlinelaw06.SpringGapSpec': WHATEVER THE INPUT: true; the input reads as it did. -/
def springGapSpecSpec : ChangeSpec := { name := "springGapSpec", fn := fun _ => fun
  | [d1, d2, d3, d4, d5, d6] => { results := [.lit (.bool true)], args := [d1, d2, d3, d4, d5, d6] }
  | _ => none }
def springGapSpecRow : OpenClaim := { program := "ytmjfdobjnnfafaagreatdoor", sum := "c57f115e721ffc37fdc9af9f6272073fba86d1111362763f1aea3c6e62bb91b0", func := "snowline/snowlinelaw06.SpringGapSpec", spec := "springGapSpec", unfollowed := true, recurses := true, named := ["internal/strconv.uint64pow10", "math/bits.deBruijn32tab", "math/bits.deBruijn64tab"], plainKeys := false, apart := false, laid := [("math/bits.deBruijn32tab", laid_math_bits_deBruijn32tab), ("math/bits.deBruijn64tab", laid_math_bits_deBruijn64tab), ("internal/strconv.uint64pow10", laid_internal_strconv_uint64pow10)] }
def SpringGapSpecSaid : Prop := springGapSpecRow.holds Tryz.pinned (OpenSpec.ofChange springGapSpecSpec)

/-- ITS FALSE NEIGHBOUR: 'it returns false'. Refute it at one input. -/
def springGapSpecWrong : ChangeSpec := { name := "springGapSpec", fn := fun _ => fun
  | [d1, d2, d3, d4, d5, d6] => { results := [.lit (.bool false)], args := [d1, d2, d3, d4, d5, d6] }
  | _ => none }
def SpringGapSpecWrongFalsely : Prop := springGapSpecRow.holds Tryz.pinned (OpenSpec.ofChange springGapSpecWrong)

/-- 'snowlinelaw06.SpringReleaseSpec': WHATEVER THE INPUT: true; the input reads as it did. -/
def springReleaseSpecSpec : ChangeSpec := { name := "springReleaseSpec", fn := fun _ => fun
  | [d1, d2, d3, d4, d5, d6] => { results := [.lit (.bool true)], args := [d1, d2, d3, d4, d5, d6] }
  | _ => none }
def springReleaseSpecRow : OpenClaim := { program := "ytmjfdobjnnfafaagreatdoor", sum := "c57f115e721ffc37fdc9af9f6272073fba86d1111362763f1aea3c6e62bb91b0", func := "snowline/snowlinelaw06.SpringReleaseSpec", spec := "springReleaseSpec", unfollowed := true, recurses := true, named := ["internal/strconv.uint64pow10", "math/bits.deBruijn32tab", "math/bits.deBruijn64tab"], plainKeys := false, apart := false, laid := [("math/bits.deBruijn32tab", laid_math_bits_deBruijn32tab), ("math/bits.deBruijn64tab", laid_math_bits_deBruijn64tab), ("internal/strconv.uint64pow10", laid_internal_strconv_uint64pow10)] }
def SpringReleaseSpecSaid : Prop := springReleaseSpecRow.holds Tryz.pinned (OpenSpec.ofChange springReleaseSpecSpec)

/-- ITS FALSE NEIGHBOUR: 'it returns false'. Refute it at one input. -/
def springReleaseSpecWrong : ChangeSpec := { name := "springReleaseSpec", fn := fun _ => fun
  | [d1, d2, d3, d4, d5, d6] => { results := [.lit (.bool false)], args := [d1, d2, d3, d4, d5, d6] }
  | _ => none }
def SpringReleaseSpecWrongFalsely : Prop := springReleaseSpecRow.holds Tryz.pinned (OpenSpec.ofChange springReleaseSpecWrong)

/-- 'snowlinelaw06.SpringWhenSpec': WHATEVER THE INPUT: true; the input reads as it did. -/
def springWhenSpecSpec : ChangeSpec := { name := "springWhenSpec", fn := fun _ => fun
  | [d1, d2, d3, d4, d5] => { results := [.lit (.bool true)], args := [d1, d2, d3, d4, d5] }
  | _ => none }
def springWhenSpecRow : OpenClaim := { program := "ytmjfdobjnnfafaagreatdoor", sum := "c57f115e721ffc37fdc9af9f6272073fba86d1111362763f1aea3c6e62bb91b0", func := "snowline/snowlinelaw06.SpringWhenSpec", spec := "springWhenSpec", unfollowed := true, recurses := true, named := ["internal/strconv.uint64pow10", "math/bits.deBruijn32tab", "math/bits.deBruijn64tab"], plainKeys := false, apart := false, laid := [("math/bits.deBruijn32tab", laid_math_bits_deBruijn32tab), ("math/bits.deBruijn64tab", laid_math_bits_deBruijn64tab), ("internal/strconv.uint64pow10", laid_internal_strconv_uint64pow10)] }
def SpringWhenSpecSaid : Prop := springWhenSpecRow.holds Tryz.pinned (OpenSpec.ofChange springWhenSpecSpec)

/-- ITS FALSE NEIGHBOUR: 'it returns false'. Refute it at one input. -/
def springWhenSpecWrong : ChangeSpec := { name := "springWhenSpec", fn := fun _ => fun
  | [d1, d2, d3, d4, d5] => { results := [.lit (.bool false)], args := [d1, d2, d3, d4, d5] }
  | _ => none }
def SpringWhenSpecWrongFalsely : Prop := springWhenSpecRow.holds Tryz.pinned (OpenSpec.ofChange springWhenSpecWrong)

/-- 'snowlinelaw06.SpringGaps': WHATEVER THE INPUT: true; the input reads as it did. -/
def springGapsSpec : ChangeSpec := { name := "springGaps", fn := fun _ => fun
  | [d1, d2, d3, d4, d5] => { results := [.lit (.bool true)], args := [d1, d2, d3, d4, d5] }
  | _ => none }
def springGapsRow : OpenClaim := { program := "ytmjfdobjnnfafaagreatdoor", sum := "c57f115e721ffc37fdc9af9f6272073fba86d1111362763f1aea3c6e62bb91b0", func := "snowline/snowlinelaw06.SpringGaps", spec := "springGaps", unfollowed := true, recurses := true, named := ["internal/strconv.uint64pow10", "math/bits.deBruijn32tab", "math/bits.deBruijn64tab"], plainKeys := false, apart := false, laid := [("math/bits.deBruijn32tab", laid_math_bits_deBruijn32tab), ("math/bits.deBruijn64tab", laid_math_bits_deBruijn64tab), ("internal/strconv.uint64pow10", laid_internal_strconv_uint64pow10)] }
def SpringGapsSaid : Prop := springGapsRow.holds Tryz.pinned (OpenSpec.ofChange springGapsSpec)

/-- ITS FALSE NEIGHBOUR: 'it returns false'. Refute it at one input. -/
def springGapsWrong : ChangeSpec := { name := "springGaps", fn := fun _ => fun
  | [d1, d2, d3, d4, d5] => { results := [.lit (.bool false)], args := [d1, d2, d3, d4, d5] }
  | _ => none }
def SpringGapsWrongFalsely : Prop := springGapsRow.holds Tryz.pinned (OpenSpec.ofChange springGapsWrong)

/-- 'snowlinelaw06.SpringBounded': WHATEVER THE INPUT: true; the input reads as it did. -/
def springBoundedSpec : ChangeSpec := { name := "springBounded", fn := fun _ => fun
  | [d1, d2, d3, d4, d5, d6] => { results := [.lit (.bool true)], args := [d1, d2, d3, d4, d5, d6] }
  | _ => none }
def springBoundedRow : OpenClaim := { program := "ytmjfdobjnnfafaagreatdoor", sum := "c57f115e721ffc37fdc9af9f6272073fba86d1111362763f1aea3c6e62bb91b0", func := "snowline/snowlinelaw06.SpringBounded", spec := "springBounded", unfollowed := true, recurses := true, named := ["internal/strconv.uint64pow10", "math/bits.deBruijn32tab", "math/bits.deBruijn64tab"], plainKeys := false, apart := false, laid := [("math/bits.deBruijn32tab", laid_math_bits_deBruijn32tab), ("math/bits.deBruijn64tab", laid_math_bits_deBruijn64tab), ("internal/strconv.uint64pow10", laid_internal_strconv_uint64pow10)] }
def SpringBoundedSaid : Prop := springBoundedRow.holds Tryz.pinned (OpenSpec.ofChange springBoundedSpec)

/-- ITS FALSE NEIGHBOUR: 'it returns false'. Refute it at one input. -/
def springBoundedWrong : ChangeSpec := { name := "springBounded", fn := fun _ => fun
  | [d1, d2, d3, d4, d5, d6] => { results := [.lit (.bool false)], args := [d1, d2, d3, d4, d5, d6] }
  | _ => none }
def SpringBoundedWrongFalsely : Prop := springBoundedRow.holds Tryz.pinned (OpenSpec.ofChange springBoundedWrong)

/-- 'snowlinelaw06.SpringBalance': WHATEVER THE INPUT: true; the input reads as it did. -/
def springBalanceSpec : ChangeSpec := { name := "springBalance", fn := fun _ => fun
  | [d1, d2, d3, d4, d5] => { results := [.lit (.bool true)], args := [d1, d2, d3, d4, d5] }
  | _ => none }
def springBalanceRow : OpenClaim := { program := "ytmjfdobjnnfafaagreatdoor", sum := "c57f115e721ffc37fdc9af9f6272073fba86d1111362763f1aea3c6e62bb91b0", func := "snowline/snowlinelaw06.SpringBalance", spec := "springBalance", unfollowed := true, recurses := true, named := ["internal/strconv.uint64pow10", "math/bits.deBruijn32tab", "math/bits.deBruijn64tab"], plainKeys := false, apart := false, laid := [("math/bits.deBruijn32tab", laid_math_bits_deBruijn32tab), ("math/bits.deBruijn64tab", laid_math_bits_deBruijn64tab), ("internal/strconv.uint64pow10", laid_internal_strconv_uint64pow10)] }
def SpringBalanceSaid : Prop := springBalanceRow.holds Tryz.pinned (OpenSpec.ofChange springBalanceSpec)

/-- ITS FALSE NEIGHBOUR: 'it returns false'. Refute it at one input. -/
def springBalanceWrong : ChangeSpec := { name := "springBalance", fn := fun _ => fun
  | [d1, d2, d3, d4, d5] => { results := [.lit (.bool false)], args := [d1, d2, d3, d4, d5] }
  | _ => none }
def SpringBalanceWrongFalsely : Prop := springBalanceRow.holds Tryz.pinned (OpenSpec.ofChange springBalanceWrong)

/-- 'snowlinelaw06.SpringMore': WHATEVER THE INPUT: true; the input reads as it did. -/
def springMoreSpec : ChangeSpec := { name := "springMore", fn := fun _ => fun
  | [d1, d2, d3, d4, d5, d6] => { results := [.lit (.bool true)], args := [d1, d2, d3, d4, d5, d6] }
  | _ => none }
def springMoreRow : OpenClaim := { program := "ytmjfdobjnnfafaagreatdoor", sum := "c57f115e721ffc37fdc9af9f6272073fba86d1111362763f1aea3c6e62bb91b0", func := "snowline/snowlinelaw06.SpringMore", spec := "springMore", unfollowed := true, recurses := true, named := ["internal/strconv.uint64pow10", "math/bits.deBruijn32tab", "math/bits.deBruijn64tab"], plainKeys := false, apart := false, laid := [("math/bits.deBruijn32tab", laid_math_bits_deBruijn32tab), ("math/bits.deBruijn64tab", laid_math_bits_deBruijn64tab), ("internal/strconv.uint64pow10", laid_internal_strconv_uint64pow10)] }
def SpringMoreSaid : Prop := springMoreRow.holds Tryz.pinned (OpenSpec.ofChange springMoreSpec)

/-- ITS FALSE NEIGHBOUR: 'it returns false'. Refute it at one input. -/
def springMoreWrong : ChangeSpec := { name := "springMore", fn := fun _ => fun
  | [d1, d2, d3, d4, d5, d6] => { results := [.lit (.bool false)], args := [d1, d2, d3, d4, d5, d6] }
  | _ => none }
def SpringMoreWrongFalsely : Prop := springMoreRow.holds Tryz.pinned (OpenSpec.ofChange springMoreWrong)

/-- 'snowlinelaw06.SpringParts': WHATEVER THE INPUT: true; the input reads as it did. -/
def springPartsSpec : ChangeSpec := { name := "springParts", fn := fun _ => fun
  | [d1, d2, d3, d4, d5, d6, d7] => { results := [.lit (.bool true)], args := [d1, d2, d3, d4, d5, d6, d7] }
  | _ => none }
def springPartsRow : OpenClaim := { program := "ytmjfdobjnnfafaagreatdoor", sum := "c57f115e721ffc37fdc9af9f6272073fba86d1111362763f1aea3c6e62bb91b0", func := "snowline/snowlinelaw06.SpringParts", spec := "springParts", unfollowed := true, recurses := true, named := ["internal/strconv.uint64pow10", "math/bits.deBruijn32tab", "math/bits.deBruijn64tab"], plainKeys := false, apart := false, laid := [("math/bits.deBruijn32tab", laid_math_bits_deBruijn32tab), ("math/bits.deBruijn64tab", laid_math_bits_deBruijn64tab), ("internal/strconv.uint64pow10", laid_internal_strconv_uint64pow10)] }
def SpringPartsSaid : Prop := springPartsRow.holds Tryz.pinned (OpenSpec.ofChange springPartsSpec)

/-- ITS FALSE NEIGHBOUR: 'it returns false'. Refute it at one input. -/
def springPartsWrong : ChangeSpec := { name := "springParts", fn := fun _ => fun
  | [d1, d2, d3, d4, d5, d6, d7] => { results := [.lit (.bool false)], args := [d1, d2, d3, d4, d5, d6, d7] }
  | _ => none }
def SpringPartsWrongFalsely : Prop := springPartsRow.holds Tryz.pinned (OpenSpec.ofChange springPartsWrong)

/-- 'snowlinelaw06.SpringHeights': WHATEVER THE INPUT: true; the input reads as it did. -/
def springHeightsSpec : ChangeSpec := { name := "springHeights", fn := fun _ => fun
  | [d1, d2, d3, d4, d5, d6] => { results := [.lit (.bool true)], args := [d1, d2, d3, d4, d5, d6] }
  | _ => none }
def springHeightsRow : OpenClaim := { program := "ytmjfdobjnnfafaagreatdoor", sum := "c57f115e721ffc37fdc9af9f6272073fba86d1111362763f1aea3c6e62bb91b0", func := "snowline/snowlinelaw06.SpringHeights", spec := "springHeights", unfollowed := true, recurses := true, named := ["internal/strconv.uint64pow10", "math/bits.deBruijn32tab", "math/bits.deBruijn64tab"], plainKeys := false, apart := false, laid := [("math/bits.deBruijn32tab", laid_math_bits_deBruijn32tab), ("math/bits.deBruijn64tab", laid_math_bits_deBruijn64tab), ("internal/strconv.uint64pow10", laid_internal_strconv_uint64pow10)] }
def SpringHeightsSaid : Prop := springHeightsRow.holds Tryz.pinned (OpenSpec.ofChange springHeightsSpec)

/-- ITS FALSE NEIGHBOUR: 'it returns false'. Refute it at one input. -/
def springHeightsWrong : ChangeSpec := { name := "springHeights", fn := fun _ => fun
  | [d1, d2, d3, d4, d5, d6] => { results := [.lit (.bool false)], args := [d1, d2, d3, d4, d5, d6] }
  | _ => none }
def SpringHeightsWrongFalsely : Prop := springHeightsRow.holds Tryz.pinned (OpenSpec.ofChange springHeightsWrong)

/-- 'snowlinelaw06.SpringWhen': WHATEVER THE INPUT: true; the input reads as it did. -/
def springWhenSpec : ChangeSpec := { name := "springWhen", fn := fun _ => fun
  | [d1, d2, d3, d4, d5] => { results := [.lit (.bool true)], args := [d1, d2, d3, d4, d5] }
  | _ => none }
def springWhenRow : OpenClaim := { program := "ytmjfdobjnnfafaagreatdoor", sum := "c57f115e721ffc37fdc9af9f6272073fba86d1111362763f1aea3c6e62bb91b0", func := "snowline/snowlinelaw06.SpringWhen", spec := "springWhen", unfollowed := true, recurses := true, named := ["internal/strconv.uint64pow10", "math/bits.deBruijn32tab", "math/bits.deBruijn64tab"], plainKeys := false, apart := false, laid := [("math/bits.deBruijn32tab", laid_math_bits_deBruijn32tab), ("math/bits.deBruijn64tab", laid_math_bits_deBruijn64tab), ("internal/strconv.uint64pow10", laid_internal_strconv_uint64pow10)] }
def SpringWhenSaid : Prop := springWhenRow.holds Tryz.pinned (OpenSpec.ofChange springWhenSpec)

/-- ITS FALSE NEIGHBOUR: 'it returns false'. Refute it at one input. -/
def springWhenWrong : ChangeSpec := { name := "springWhen", fn := fun _ => fun
  | [d1, d2, d3, d4, d5] => { results := [.lit (.bool false)], args := [d1, d2, d3, d4, d5] }
  | _ => none }
def SpringWhenWrongFalsely : Prop := springWhenRow.holds Tryz.pinned (OpenSpec.ofChange springWhenWrong)

/-- 'snowlinelaw06.SpringChangeSpec': WHATEVER THE INPUT: true; the input reads as it did. -/
def springChangeSpecSpec : ChangeSpec := { name := "springChangeSpec", fn := fun _ => fun
  | [d1, d2, d3, d4, d5, d6, d7] => { results := [.lit (.bool true)], args := [d1, d2, d3, d4, d5, d6, d7] }
  | _ => none }
def springChangeSpecRow : OpenClaim := { program := "ytmjfdobjnnfafaagreatdoor", sum := "c57f115e721ffc37fdc9af9f6272073fba86d1111362763f1aea3c6e62bb91b0", func := "snowline/snowlinelaw06.SpringChangeSpec", spec := "springChangeSpec", unfollowed := true, recurses := true, named := ["internal/strconv.uint64pow10", "math/bits.deBruijn32tab", "math/bits.deBruijn64tab"], plainKeys := false, apart := false, laid := [("math/bits.deBruijn32tab", laid_math_bits_deBruijn32tab), ("math/bits.deBruijn64tab", laid_math_bits_deBruijn64tab), ("internal/strconv.uint64pow10", laid_internal_strconv_uint64pow10)] }
def SpringChangeSpecSaid : Prop := springChangeSpecRow.holds Tryz.pinned (OpenSpec.ofChange springChangeSpecSpec)

/-- ITS FALSE NEIGHBOUR: 'it returns false'. Refute it at one input. -/
def springChangeSpecWrong : ChangeSpec := { name := "springChangeSpec", fn := fun _ => fun
  | [d1, d2, d3, d4, d5, d6, d7] => { results := [.lit (.bool false)], args := [d1, d2, d3, d4, d5, d6, d7] }
  | _ => none }
def SpringChangeSpecWrongFalsely : Prop := springChangeSpecRow.holds Tryz.pinned (OpenSpec.ofChange springChangeSpecWrong)

/-- 'snowlinelaw06.SpringCarried': WHATEVER THE INPUT: true; the input reads as it did. -/
def springCarriedSpec : ChangeSpec := { name := "springCarried", fn := fun _ => fun
  | [d1, d2, d3, d4, d5, d6, d7] => { results := [.lit (.bool true)], args := [d1, d2, d3, d4, d5, d6, d7] }
  | _ => none }
def springCarriedRow : OpenClaim := { program := "ytmjfdobjnnfafaagreatdoor", sum := "c57f115e721ffc37fdc9af9f6272073fba86d1111362763f1aea3c6e62bb91b0", func := "snowline/snowlinelaw06.SpringCarried", spec := "springCarried", unfollowed := true, recurses := true, named := ["internal/strconv.uint64pow10", "math/bits.deBruijn32tab", "math/bits.deBruijn64tab"], plainKeys := false, apart := false, laid := [("math/bits.deBruijn32tab", laid_math_bits_deBruijn32tab), ("math/bits.deBruijn64tab", laid_math_bits_deBruijn64tab), ("internal/strconv.uint64pow10", laid_internal_strconv_uint64pow10)] }
def SpringCarriedSaid : Prop := springCarriedRow.holds Tryz.pinned (OpenSpec.ofChange springCarriedSpec)

/-- ITS FALSE NEIGHBOUR: 'it returns false'. Refute it at one input. -/
def springCarriedWrong : ChangeSpec := { name := "springCarried", fn := fun _ => fun
  | [d1, d2, d3, d4, d5, d6, d7] => { results := [.lit (.bool false)], args := [d1, d2, d3, d4, d5, d6, d7] }
  | _ => none }
def SpringCarriedWrongFalsely : Prop := springCarriedRow.holds Tryz.pinned (OpenSpec.ofChange springCarriedWrong)

/-- 'snowlinelaw06.SpringVolumeSpec': WHATEVER THE INPUT: true; the input reads as it did. -/
def springVolumeSpecSpec : ChangeSpec := { name := "springVolumeSpec", fn := fun _ => fun
  | [d1, d2, d3, d4, d5, d6, d7] => { results := [.lit (.bool true)], args := [d1, d2, d3, d4, d5, d6, d7] }
  | _ => none }
def springVolumeSpecRow : OpenClaim := { program := "ytmjfdobjnnfafaagreatdoor", sum := "c57f115e721ffc37fdc9af9f6272073fba86d1111362763f1aea3c6e62bb91b0", func := "snowline/snowlinelaw06.SpringVolumeSpec", spec := "springVolumeSpec", unfollowed := true, recurses := true, named := ["internal/strconv.uint64pow10", "math/bits.deBruijn32tab", "math/bits.deBruijn64tab"], plainKeys := false, apart := false, laid := [("math/bits.deBruijn32tab", laid_math_bits_deBruijn32tab), ("math/bits.deBruijn64tab", laid_math_bits_deBruijn64tab), ("internal/strconv.uint64pow10", laid_internal_strconv_uint64pow10)] }
def SpringVolumeSpecSaid : Prop := springVolumeSpecRow.holds Tryz.pinned (OpenSpec.ofChange springVolumeSpecSpec)

/-- ITS FALSE NEIGHBOUR: 'it returns false'. Refute it at one input. -/
def springVolumeSpecWrong : ChangeSpec := { name := "springVolumeSpec", fn := fun _ => fun
  | [d1, d2, d3, d4, d5, d6, d7] => { results := [.lit (.bool false)], args := [d1, d2, d3, d4, d5, d6, d7] }
  | _ => none }
def SpringVolumeSpecWrongFalsely : Prop := springVolumeSpecRow.holds Tryz.pinned (OpenSpec.ofChange springVolumeSpecWrong)

/-- 'snowlinelaw06.SpringLeftSpec': WHATEVER THE INPUT: true; the input reads as it did. -/
def springLeftSpecSpec : ChangeSpec := { name := "springLeftSpec", fn := fun _ => fun
  | [d1, d2, d3, d4] => { results := [.lit (.bool true)], args := [d1, d2, d3, d4] }
  | _ => none }
def springLeftSpecRow : OpenClaim := { program := "ytmjfdobjnnfafaagreatdoor", sum := "c57f115e721ffc37fdc9af9f6272073fba86d1111362763f1aea3c6e62bb91b0", func := "snowline/snowlinelaw06.SpringLeftSpec", spec := "springLeftSpec", unfollowed := true, recurses := true, named := ["internal/strconv.uint64pow10", "math/bits.deBruijn32tab", "math/bits.deBruijn64tab"], plainKeys := false, apart := false, laid := [("math/bits.deBruijn32tab", laid_math_bits_deBruijn32tab), ("math/bits.deBruijn64tab", laid_math_bits_deBruijn64tab), ("internal/strconv.uint64pow10", laid_internal_strconv_uint64pow10)] }
def SpringLeftSpecSaid : Prop := springLeftSpecRow.holds Tryz.pinned (OpenSpec.ofChange springLeftSpecSpec)

/-- ITS FALSE NEIGHBOUR: 'it returns false'. Refute it at one input. -/
def springLeftSpecWrong : ChangeSpec := { name := "springLeftSpec", fn := fun _ => fun
  | [d1, d2, d3, d4] => { results := [.lit (.bool false)], args := [d1, d2, d3, d4] }
  | _ => none }
def SpringLeftSpecWrongFalsely : Prop := springLeftSpecRow.holds Tryz.pinned (OpenSpec.ofChange springLeftSpecWrong)

/-- 'snowlinelaw06.SpringVolumes': WHATEVER THE INPUT: true; the input reads as it did. -/
def springVolumesSpec : ChangeSpec := { name := "springVolumes", fn := fun _ => fun
  | [d1, d2, d3, d4, d5, d6, d7, d8] => { results := [.lit (.bool true)], args := [d1, d2, d3, d4, d5, d6, d7, d8] }
  | _ => none }
def springVolumesRow : OpenClaim := { program := "ytmjfdobjnnfafaagreatdoor", sum := "c57f115e721ffc37fdc9af9f6272073fba86d1111362763f1aea3c6e62bb91b0", func := "snowline/snowlinelaw06.SpringVolumes", spec := "springVolumes", unfollowed := true, recurses := true, named := ["internal/strconv.uint64pow10", "math/bits.deBruijn32tab", "math/bits.deBruijn64tab"], plainKeys := false, apart := false, laid := [("math/bits.deBruijn32tab", laid_math_bits_deBruijn32tab), ("math/bits.deBruijn64tab", laid_math_bits_deBruijn64tab), ("internal/strconv.uint64pow10", laid_internal_strconv_uint64pow10)] }
def SpringVolumesSaid : Prop := springVolumesRow.holds Tryz.pinned (OpenSpec.ofChange springVolumesSpec)

/-- ITS FALSE NEIGHBOUR: 'it returns false'. Refute it at one input. -/
def springVolumesWrong : ChangeSpec := { name := "springVolumes", fn := fun _ => fun
  | [d1, d2, d3, d4, d5, d6, d7, d8] => { results := [.lit (.bool false)], args := [d1, d2, d3, d4, d5, d6, d7, d8] }
  | _ => none }
def SpringVolumesWrongFalsely : Prop := springVolumesRow.holds Tryz.pinned (OpenSpec.ofChange springVolumesWrong)

/-- 'snowlinelaw06.SpringTexts': WHATEVER THE INPUT: true; the input reads as it did. -/
def springTextsSpec : ChangeSpec := { name := "springTexts", fn := fun _ => fun
  | [d1, d2] => { results := [.lit (.bool true)], args := [d1, d2] }
  | _ => none }
def springTextsRow : OpenClaim := { program := "ytmjfdobjnnfafaagreatdoor", sum := "c57f115e721ffc37fdc9af9f6272073fba86d1111362763f1aea3c6e62bb91b0", func := "snowline/snowlinelaw06.SpringTexts", spec := "springTexts", inPlace := ["internal/bytealg.CountString", "internal/bytealg.IndexByteString", "internal/bytealg.IndexString"], unfollowed := true, recurses := true, named := ["internal/strconv.uint64pow10", "math/bits.deBruijn32tab", "math/bits.deBruijn64tab", "unicode/utf8.first", "unicode/utf8.acceptRanges", "internal/bytealg.MaxLen"], plainKeys := false, apart := false, laid := [("math/bits.deBruijn32tab", laid_math_bits_deBruijn32tab), ("math/bits.deBruijn64tab", laid_math_bits_deBruijn64tab), ("internal/strconv.uint64pow10", laid_internal_strconv_uint64pow10), ("unicode/utf8.acceptRanges", laid_unicode_utf8_acceptRanges), ("unicode/utf8.first", laid_unicode_utf8_first)] }
def SpringTextsSaid : Prop := springTextsRow.holds Tryz.pinned (OpenSpec.ofChange springTextsSpec)

/-- ITS FALSE NEIGHBOUR: 'it returns false'. Refute it at one input. -/
def springTextsWrong : ChangeSpec := { name := "springTexts", fn := fun _ => fun
  | [d1, d2] => { results := [.lit (.bool false)], args := [d1, d2] }
  | _ => none }
def SpringTextsWrongFalsely : Prop := springTextsRow.holds Tryz.pinned (OpenSpec.ofChange springTextsWrong)

/-- 'snowlinelaw06.SpringNarrower': WHATEVER THE INPUT: true; the input reads as it did. -/
def springNarrowerSpec : ChangeSpec := { name := "springNarrower", fn := fun _ => fun
  | [d1, d2, d3, d4, d5, d6, d7] => { results := [.lit (.bool true)], args := [d1, d2, d3, d4, d5, d6, d7] }
  | _ => none }
def springNarrowerRow : OpenClaim := { program := "ytmjfdobjnnfafaagreatdoor", sum := "c57f115e721ffc37fdc9af9f6272073fba86d1111362763f1aea3c6e62bb91b0", func := "snowline/snowlinelaw06.SpringNarrower", spec := "springNarrower", unfollowed := true, recurses := true, named := ["internal/strconv.uint64pow10", "math/bits.deBruijn32tab", "math/bits.deBruijn64tab"], plainKeys := false, apart := false, laid := [("math/bits.deBruijn32tab", laid_math_bits_deBruijn32tab), ("math/bits.deBruijn64tab", laid_math_bits_deBruijn64tab), ("internal/strconv.uint64pow10", laid_internal_strconv_uint64pow10)] }
def SpringNarrowerSaid : Prop := springNarrowerRow.holds Tryz.pinned (OpenSpec.ofChange springNarrowerSpec)

/-- ITS FALSE NEIGHBOUR: 'it returns false'. Refute it at one input. -/
def springNarrowerWrong : ChangeSpec := { name := "springNarrower", fn := fun _ => fun
  | [d1, d2, d3, d4, d5, d6, d7] => { results := [.lit (.bool false)], args := [d1, d2, d3, d4, d5, d6, d7] }
  | _ => none }
def SpringNarrowerWrongFalsely : Prop := springNarrowerRow.holds Tryz.pinned (OpenSpec.ofChange springNarrowerWrong)

/- THE SECOND FORM. 'bulk': how many values and letters a reading holds, each counted each time it is reached (what is shared counts as often as it is met; a slice's spare places count too). A statement '..UptoSaid' is the law's where the arguments, and the package variables that the reading takes, are together of bulk at most 1048576: NARROWER than '..Said'. Prove '..Said' where nothing that the law and all that it calls make is longer than what came in: it says more and counts as full. Else prove '..UptoSaid'. A law counts once. -/
mutual
def uptoBulk {H : Type} : DataW H → Nat
  | .lit (.string bytes) => bytes.length + 1
  | .lit _ => 1
  | .nil => 1
  | .ptr d => uptoBulk d + 1
  | .slice elems spare => uptoBulkAll elems + uptoBulkAll spare + 1
  | .agg parts => uptoBulkAll parts + 1
  | .iface _ d => uptoBulk d + 1
  | .map entries => uptoBulkEntries entries + 1
  | .held _ => 1
def uptoBulkAll {H : Type} : List (DataW H) → Nat
  | [] => 0
  | d :: r => uptoBulk d + uptoBulkAll r
def uptoBulkEntries {H : Type} : List (Lit × DataW H) → Nat
  | [] => 0
  | x :: r => uptoBulkEntry x + uptoBulkEntries r
def uptoBulkEntry {H : Type} : Lit × DataW H → Nat
  | (.string bytes, d) => bytes.length + uptoBulk d + 1
  | (_, d) => uptoBulk d + 1
 end
def uptoSmall : (H : Type) → List (DataW H) → Bool := fun _ ds => decide (uptoBulkAll ds ≤ 1048576)
def OpenSpec.upto (s : _root_.Go.ChangeSpec) : _root_.Go.OpenSpec := { _root_.Go.OpenSpec.ofChange s with cond := some uptoSmall }

/-- 'snowlinelaw06.SpringCheckSpec', WHERE WHAT IT READS IS OF BULK AT MOST 1048576: true; the input reads as it did. -/
def springCheckSpecUptoRow : OpenClaim := { program := "ytmjfdobjnnfafaagreatdoor", sum := "c57f115e721ffc37fdc9af9f6272073fba86d1111362763f1aea3c6e62bb91b0", func := "snowline/snowlinelaw06.SpringCheckSpec", spec := "springCheckSpec", unfollowed := true, recurses := true, named := ["internal/strconv.uint64pow10", "math/bits.deBruijn32tab", "math/bits.deBruijn64tab"], plainKeys := false, apart := false, laid := [("math/bits.deBruijn32tab", laid_math_bits_deBruijn32tab), ("math/bits.deBruijn64tab", laid_math_bits_deBruijn64tab), ("internal/strconv.uint64pow10", laid_internal_strconv_uint64pow10)], narrowed := true }
def SpringCheckSpecUptoSaid : Prop := springCheckSpecUptoRow.holds Tryz.pinned (OpenSpec.upto springCheckSpecSpec)

/-- 'snowlinelaw06.SpringHeightSpec', WHERE WHAT IT READS IS OF BULK AT MOST 1048576: true; the input reads as it did. -/
def springHeightSpecUptoRow : OpenClaim := { program := "ytmjfdobjnnfafaagreatdoor", sum := "c57f115e721ffc37fdc9af9f6272073fba86d1111362763f1aea3c6e62bb91b0", func := "snowline/snowlinelaw06.SpringHeightSpec", spec := "springHeightSpec", unfollowed := true, recurses := true, named := ["internal/strconv.uint64pow10", "math/bits.deBruijn32tab", "math/bits.deBruijn64tab"], plainKeys := false, apart := false, laid := [("math/bits.deBruijn32tab", laid_math_bits_deBruijn32tab), ("math/bits.deBruijn64tab", laid_math_bits_deBruijn64tab), ("internal/strconv.uint64pow10", laid_internal_strconv_uint64pow10)], narrowed := true }
def SpringHeightSpecUptoSaid : Prop := springHeightSpecUptoRow.holds Tryz.pinned (OpenSpec.upto springHeightSpecSpec)

/-- 'snowlinelaw06.SpringGapSpec', WHERE WHAT IT READS IS OF BULK AT MOST 1048576: true; the input reads as it did. -/
def springGapSpecUptoRow : OpenClaim := { program := "ytmjfdobjnnfafaagreatdoor", sum := "c57f115e721ffc37fdc9af9f6272073fba86d1111362763f1aea3c6e62bb91b0", func := "snowline/snowlinelaw06.SpringGapSpec", spec := "springGapSpec", unfollowed := true, recurses := true, named := ["internal/strconv.uint64pow10", "math/bits.deBruijn32tab", "math/bits.deBruijn64tab"], plainKeys := false, apart := false, laid := [("math/bits.deBruijn32tab", laid_math_bits_deBruijn32tab), ("math/bits.deBruijn64tab", laid_math_bits_deBruijn64tab), ("internal/strconv.uint64pow10", laid_internal_strconv_uint64pow10)], narrowed := true }
def SpringGapSpecUptoSaid : Prop := springGapSpecUptoRow.holds Tryz.pinned (OpenSpec.upto springGapSpecSpec)

/-- 'snowlinelaw06.SpringReleaseSpec', WHERE WHAT IT READS IS OF BULK AT MOST 1048576: true; the input reads as it did. -/
def springReleaseSpecUptoRow : OpenClaim := { program := "ytmjfdobjnnfafaagreatdoor", sum := "c57f115e721ffc37fdc9af9f6272073fba86d1111362763f1aea3c6e62bb91b0", func := "snowline/snowlinelaw06.SpringReleaseSpec", spec := "springReleaseSpec", unfollowed := true, recurses := true, named := ["internal/strconv.uint64pow10", "math/bits.deBruijn32tab", "math/bits.deBruijn64tab"], plainKeys := false, apart := false, laid := [("math/bits.deBruijn32tab", laid_math_bits_deBruijn32tab), ("math/bits.deBruijn64tab", laid_math_bits_deBruijn64tab), ("internal/strconv.uint64pow10", laid_internal_strconv_uint64pow10)], narrowed := true }
def SpringReleaseSpecUptoSaid : Prop := springReleaseSpecUptoRow.holds Tryz.pinned (OpenSpec.upto springReleaseSpecSpec)

/-- 'snowlinelaw06.SpringWhenSpec', WHERE WHAT IT READS IS OF BULK AT MOST 1048576: true; the input reads as it did. -/
def springWhenSpecUptoRow : OpenClaim := { program := "ytmjfdobjnnfafaagreatdoor", sum := "c57f115e721ffc37fdc9af9f6272073fba86d1111362763f1aea3c6e62bb91b0", func := "snowline/snowlinelaw06.SpringWhenSpec", spec := "springWhenSpec", unfollowed := true, recurses := true, named := ["internal/strconv.uint64pow10", "math/bits.deBruijn32tab", "math/bits.deBruijn64tab"], plainKeys := false, apart := false, laid := [("math/bits.deBruijn32tab", laid_math_bits_deBruijn32tab), ("math/bits.deBruijn64tab", laid_math_bits_deBruijn64tab), ("internal/strconv.uint64pow10", laid_internal_strconv_uint64pow10)], narrowed := true }
def SpringWhenSpecUptoSaid : Prop := springWhenSpecUptoRow.holds Tryz.pinned (OpenSpec.upto springWhenSpecSpec)

/-- 'snowlinelaw06.SpringGaps', WHERE WHAT IT READS IS OF BULK AT MOST 1048576: true; the input reads as it did. -/
def springGapsUptoRow : OpenClaim := { program := "ytmjfdobjnnfafaagreatdoor", sum := "c57f115e721ffc37fdc9af9f6272073fba86d1111362763f1aea3c6e62bb91b0", func := "snowline/snowlinelaw06.SpringGaps", spec := "springGaps", unfollowed := true, recurses := true, named := ["internal/strconv.uint64pow10", "math/bits.deBruijn32tab", "math/bits.deBruijn64tab"], plainKeys := false, apart := false, laid := [("math/bits.deBruijn32tab", laid_math_bits_deBruijn32tab), ("math/bits.deBruijn64tab", laid_math_bits_deBruijn64tab), ("internal/strconv.uint64pow10", laid_internal_strconv_uint64pow10)], narrowed := true }
def SpringGapsUptoSaid : Prop := springGapsUptoRow.holds Tryz.pinned (OpenSpec.upto springGapsSpec)

/-- 'snowlinelaw06.SpringBounded', WHERE WHAT IT READS IS OF BULK AT MOST 1048576: true; the input reads as it did. -/
def springBoundedUptoRow : OpenClaim := { program := "ytmjfdobjnnfafaagreatdoor", sum := "c57f115e721ffc37fdc9af9f6272073fba86d1111362763f1aea3c6e62bb91b0", func := "snowline/snowlinelaw06.SpringBounded", spec := "springBounded", unfollowed := true, recurses := true, named := ["internal/strconv.uint64pow10", "math/bits.deBruijn32tab", "math/bits.deBruijn64tab"], plainKeys := false, apart := false, laid := [("math/bits.deBruijn32tab", laid_math_bits_deBruijn32tab), ("math/bits.deBruijn64tab", laid_math_bits_deBruijn64tab), ("internal/strconv.uint64pow10", laid_internal_strconv_uint64pow10)], narrowed := true }
def SpringBoundedUptoSaid : Prop := springBoundedUptoRow.holds Tryz.pinned (OpenSpec.upto springBoundedSpec)

/-- 'snowlinelaw06.SpringBalance', WHERE WHAT IT READS IS OF BULK AT MOST 1048576: true; the input reads as it did. -/
def springBalanceUptoRow : OpenClaim := { program := "ytmjfdobjnnfafaagreatdoor", sum := "c57f115e721ffc37fdc9af9f6272073fba86d1111362763f1aea3c6e62bb91b0", func := "snowline/snowlinelaw06.SpringBalance", spec := "springBalance", unfollowed := true, recurses := true, named := ["internal/strconv.uint64pow10", "math/bits.deBruijn32tab", "math/bits.deBruijn64tab"], plainKeys := false, apart := false, laid := [("math/bits.deBruijn32tab", laid_math_bits_deBruijn32tab), ("math/bits.deBruijn64tab", laid_math_bits_deBruijn64tab), ("internal/strconv.uint64pow10", laid_internal_strconv_uint64pow10)], narrowed := true }
def SpringBalanceUptoSaid : Prop := springBalanceUptoRow.holds Tryz.pinned (OpenSpec.upto springBalanceSpec)

/-- 'snowlinelaw06.SpringMore', WHERE WHAT IT READS IS OF BULK AT MOST 1048576: true; the input reads as it did. -/
def springMoreUptoRow : OpenClaim := { program := "ytmjfdobjnnfafaagreatdoor", sum := "c57f115e721ffc37fdc9af9f6272073fba86d1111362763f1aea3c6e62bb91b0", func := "snowline/snowlinelaw06.SpringMore", spec := "springMore", unfollowed := true, recurses := true, named := ["internal/strconv.uint64pow10", "math/bits.deBruijn32tab", "math/bits.deBruijn64tab"], plainKeys := false, apart := false, laid := [("math/bits.deBruijn32tab", laid_math_bits_deBruijn32tab), ("math/bits.deBruijn64tab", laid_math_bits_deBruijn64tab), ("internal/strconv.uint64pow10", laid_internal_strconv_uint64pow10)], narrowed := true }
def SpringMoreUptoSaid : Prop := springMoreUptoRow.holds Tryz.pinned (OpenSpec.upto springMoreSpec)

/-- 'snowlinelaw06.SpringParts', WHERE WHAT IT READS IS OF BULK AT MOST 1048576: true; the input reads as it did. -/
def springPartsUptoRow : OpenClaim := { program := "ytmjfdobjnnfafaagreatdoor", sum := "c57f115e721ffc37fdc9af9f6272073fba86d1111362763f1aea3c6e62bb91b0", func := "snowline/snowlinelaw06.SpringParts", spec := "springParts", unfollowed := true, recurses := true, named := ["internal/strconv.uint64pow10", "math/bits.deBruijn32tab", "math/bits.deBruijn64tab"], plainKeys := false, apart := false, laid := [("math/bits.deBruijn32tab", laid_math_bits_deBruijn32tab), ("math/bits.deBruijn64tab", laid_math_bits_deBruijn64tab), ("internal/strconv.uint64pow10", laid_internal_strconv_uint64pow10)], narrowed := true }
def SpringPartsUptoSaid : Prop := springPartsUptoRow.holds Tryz.pinned (OpenSpec.upto springPartsSpec)

/-- 'snowlinelaw06.SpringHeights', WHERE WHAT IT READS IS OF BULK AT MOST 1048576: true; the input reads as it did. -/
def springHeightsUptoRow : OpenClaim := { program := "ytmjfdobjnnfafaagreatdoor", sum := "c57f115e721ffc37fdc9af9f6272073fba86d1111362763f1aea3c6e62bb91b0", func := "snowline/snowlinelaw06.SpringHeights", spec := "springHeights", unfollowed := true, recurses := true, named := ["internal/strconv.uint64pow10", "math/bits.deBruijn32tab", "math/bits.deBruijn64tab"], plainKeys := false, apart := false, laid := [("math/bits.deBruijn32tab", laid_math_bits_deBruijn32tab), ("math/bits.deBruijn64tab", laid_math_bits_deBruijn64tab), ("internal/strconv.uint64pow10", laid_internal_strconv_uint64pow10)], narrowed := true }
def SpringHeightsUptoSaid : Prop := springHeightsUptoRow.holds Tryz.pinned (OpenSpec.upto springHeightsSpec)

/-- 'snowlinelaw06.SpringWhen', WHERE WHAT IT READS IS OF BULK AT MOST 1048576: true; the input reads as it did. -/
def springWhenUptoRow : OpenClaim := { program := "ytmjfdobjnnfafaagreatdoor", sum := "c57f115e721ffc37fdc9af9f6272073fba86d1111362763f1aea3c6e62bb91b0", func := "snowline/snowlinelaw06.SpringWhen", spec := "springWhen", unfollowed := true, recurses := true, named := ["internal/strconv.uint64pow10", "math/bits.deBruijn32tab", "math/bits.deBruijn64tab"], plainKeys := false, apart := false, laid := [("math/bits.deBruijn32tab", laid_math_bits_deBruijn32tab), ("math/bits.deBruijn64tab", laid_math_bits_deBruijn64tab), ("internal/strconv.uint64pow10", laid_internal_strconv_uint64pow10)], narrowed := true }
def SpringWhenUptoSaid : Prop := springWhenUptoRow.holds Tryz.pinned (OpenSpec.upto springWhenSpec)

/-- 'snowlinelaw06.SpringChangeSpec', WHERE WHAT IT READS IS OF BULK AT MOST 1048576: true; the input reads as it did. -/
def springChangeSpecUptoRow : OpenClaim := { program := "ytmjfdobjnnfafaagreatdoor", sum := "c57f115e721ffc37fdc9af9f6272073fba86d1111362763f1aea3c6e62bb91b0", func := "snowline/snowlinelaw06.SpringChangeSpec", spec := "springChangeSpec", unfollowed := true, recurses := true, named := ["internal/strconv.uint64pow10", "math/bits.deBruijn32tab", "math/bits.deBruijn64tab"], plainKeys := false, apart := false, laid := [("math/bits.deBruijn32tab", laid_math_bits_deBruijn32tab), ("math/bits.deBruijn64tab", laid_math_bits_deBruijn64tab), ("internal/strconv.uint64pow10", laid_internal_strconv_uint64pow10)], narrowed := true }
def SpringChangeSpecUptoSaid : Prop := springChangeSpecUptoRow.holds Tryz.pinned (OpenSpec.upto springChangeSpecSpec)

/-- 'snowlinelaw06.SpringCarried', WHERE WHAT IT READS IS OF BULK AT MOST 1048576: true; the input reads as it did. -/
def springCarriedUptoRow : OpenClaim := { program := "ytmjfdobjnnfafaagreatdoor", sum := "c57f115e721ffc37fdc9af9f6272073fba86d1111362763f1aea3c6e62bb91b0", func := "snowline/snowlinelaw06.SpringCarried", spec := "springCarried", unfollowed := true, recurses := true, named := ["internal/strconv.uint64pow10", "math/bits.deBruijn32tab", "math/bits.deBruijn64tab"], plainKeys := false, apart := false, laid := [("math/bits.deBruijn32tab", laid_math_bits_deBruijn32tab), ("math/bits.deBruijn64tab", laid_math_bits_deBruijn64tab), ("internal/strconv.uint64pow10", laid_internal_strconv_uint64pow10)], narrowed := true }
def SpringCarriedUptoSaid : Prop := springCarriedUptoRow.holds Tryz.pinned (OpenSpec.upto springCarriedSpec)

/-- 'snowlinelaw06.SpringVolumeSpec', WHERE WHAT IT READS IS OF BULK AT MOST 1048576: true; the input reads as it did. -/
def springVolumeSpecUptoRow : OpenClaim := { program := "ytmjfdobjnnfafaagreatdoor", sum := "c57f115e721ffc37fdc9af9f6272073fba86d1111362763f1aea3c6e62bb91b0", func := "snowline/snowlinelaw06.SpringVolumeSpec", spec := "springVolumeSpec", unfollowed := true, recurses := true, named := ["internal/strconv.uint64pow10", "math/bits.deBruijn32tab", "math/bits.deBruijn64tab"], plainKeys := false, apart := false, laid := [("math/bits.deBruijn32tab", laid_math_bits_deBruijn32tab), ("math/bits.deBruijn64tab", laid_math_bits_deBruijn64tab), ("internal/strconv.uint64pow10", laid_internal_strconv_uint64pow10)], narrowed := true }
def SpringVolumeSpecUptoSaid : Prop := springVolumeSpecUptoRow.holds Tryz.pinned (OpenSpec.upto springVolumeSpecSpec)

/-- 'snowlinelaw06.SpringLeftSpec', WHERE WHAT IT READS IS OF BULK AT MOST 1048576: true; the input reads as it did. -/
def springLeftSpecUptoRow : OpenClaim := { program := "ytmjfdobjnnfafaagreatdoor", sum := "c57f115e721ffc37fdc9af9f6272073fba86d1111362763f1aea3c6e62bb91b0", func := "snowline/snowlinelaw06.SpringLeftSpec", spec := "springLeftSpec", unfollowed := true, recurses := true, named := ["internal/strconv.uint64pow10", "math/bits.deBruijn32tab", "math/bits.deBruijn64tab"], plainKeys := false, apart := false, laid := [("math/bits.deBruijn32tab", laid_math_bits_deBruijn32tab), ("math/bits.deBruijn64tab", laid_math_bits_deBruijn64tab), ("internal/strconv.uint64pow10", laid_internal_strconv_uint64pow10)], narrowed := true }
def SpringLeftSpecUptoSaid : Prop := springLeftSpecUptoRow.holds Tryz.pinned (OpenSpec.upto springLeftSpecSpec)

/-- 'snowlinelaw06.SpringVolumes', WHERE WHAT IT READS IS OF BULK AT MOST 1048576: true; the input reads as it did. -/
def springVolumesUptoRow : OpenClaim := { program := "ytmjfdobjnnfafaagreatdoor", sum := "c57f115e721ffc37fdc9af9f6272073fba86d1111362763f1aea3c6e62bb91b0", func := "snowline/snowlinelaw06.SpringVolumes", spec := "springVolumes", unfollowed := true, recurses := true, named := ["internal/strconv.uint64pow10", "math/bits.deBruijn32tab", "math/bits.deBruijn64tab"], plainKeys := false, apart := false, laid := [("math/bits.deBruijn32tab", laid_math_bits_deBruijn32tab), ("math/bits.deBruijn64tab", laid_math_bits_deBruijn64tab), ("internal/strconv.uint64pow10", laid_internal_strconv_uint64pow10)], narrowed := true }
def SpringVolumesUptoSaid : Prop := springVolumesUptoRow.holds Tryz.pinned (OpenSpec.upto springVolumesSpec)

/-- 'snowlinelaw06.SpringTexts', WHERE WHAT IT READS IS OF BULK AT MOST 1048576: true; the input reads as it did. -/
def springTextsUptoRow : OpenClaim := { program := "ytmjfdobjnnfafaagreatdoor", sum := "c57f115e721ffc37fdc9af9f6272073fba86d1111362763f1aea3c6e62bb91b0", func := "snowline/snowlinelaw06.SpringTexts", spec := "springTexts", inPlace := ["internal/bytealg.CountString", "internal/bytealg.IndexByteString", "internal/bytealg.IndexString"], unfollowed := true, recurses := true, named := ["internal/strconv.uint64pow10", "math/bits.deBruijn32tab", "math/bits.deBruijn64tab", "unicode/utf8.first", "unicode/utf8.acceptRanges", "internal/bytealg.MaxLen"], plainKeys := false, apart := false, laid := [("math/bits.deBruijn32tab", laid_math_bits_deBruijn32tab), ("math/bits.deBruijn64tab", laid_math_bits_deBruijn64tab), ("internal/strconv.uint64pow10", laid_internal_strconv_uint64pow10), ("unicode/utf8.acceptRanges", laid_unicode_utf8_acceptRanges), ("unicode/utf8.first", laid_unicode_utf8_first)], narrowed := true }
def SpringTextsUptoSaid : Prop := springTextsUptoRow.holds Tryz.pinned (OpenSpec.upto springTextsSpec)

/-- 'snowlinelaw06.SpringNarrower', WHERE WHAT IT READS IS OF BULK AT MOST 1048576: true; the input reads as it did. -/
def springNarrowerUptoRow : OpenClaim := { program := "ytmjfdobjnnfafaagreatdoor", sum := "c57f115e721ffc37fdc9af9f6272073fba86d1111362763f1aea3c6e62bb91b0", func := "snowline/snowlinelaw06.SpringNarrower", spec := "springNarrower", unfollowed := true, recurses := true, named := ["internal/strconv.uint64pow10", "math/bits.deBruijn32tab", "math/bits.deBruijn64tab"], plainKeys := false, apart := false, laid := [("math/bits.deBruijn32tab", laid_math_bits_deBruijn32tab), ("math/bits.deBruijn64tab", laid_math_bits_deBruijn64tab), ("internal/strconv.uint64pow10", laid_internal_strconv_uint64pow10)], narrowed := true }
def SpringNarrowerUptoSaid : Prop := springNarrowerUptoRow.holds Tryz.pinned (OpenSpec.upto springNarrowerSpec)

end Rows
end Go.Proofs.YtmjfdobjnnfafaaGreatDoor
