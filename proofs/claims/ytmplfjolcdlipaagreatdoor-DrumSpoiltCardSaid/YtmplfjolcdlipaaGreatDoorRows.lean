/-
  NARROWER THAN 'FOR EVERY INPUT', by the rows' own cells (each row's printed sentence says how): DrumStrengths: laid · DrumHours: laid · DrumTops: laid · DrumPrints: laid · DrumReads: laid · DrumSpoilt: laid · DrumSorts: laid · DrumWindows: laid · DrumNamed: laid · DrumMore: laid · DrumTurned: laid · DrumDual: laid · DrumTrue: laid · DrumTells: laid · DrumRuns: laid · DrumBounds: laid · DrumSure: laid · DrumCoulds: laid · DrumEmptied: laid · DrumPut: laid.
  DERIVED. THE GIVEN ROWS OF THIS SEAT. 20 by the template 'for every input the law returns true; each argument reads behind the call as it read before'; 0 by the template 'total and deterministic' (their statements: YtmplfjolcdlipaaGreatDoorTotals.lean).
  GIVEN WITH THE SEED: the statements are not yours to turn. If you find one false, say at which input.
  Laid BY PROGRAM, IN A SANDBOX (cutbox-rows.mjs): the forced cells as the released guide's own fill.sh prints them over the translation 77a572c3472fa162… (all of the seat's roots in one cut). By AI agents, Wed Nov 11 2026. No macro, syntax, notation, axiom, sorry.
-/
import Derived.Test.YtmplfjolcdlipaaGreatDoorChecked
import GoSem.PinnedTables
import GoSem.Claim
import GoSem.ClaimJoined
import GoSem.ClaimMapViews
import Derived.JoinedTies
import Derived.KernelRfl
namespace Go.Proofs.YtmplfjolcdlipaaGreatDoor
/- THE CELL 'sum', in the pinned program and in every row, IS THE sha256 OF THE DUMP (.gsa) THAT YtmplfjolcdlipaaGreatDoorProg.lean LOADS. Nothing in Lean hashes anything: it is a label: what it is worth is what the hold of that sum in a sandbox is worth. -/
noncomputable def Tryz.pinned : Pinned := { name := "ytmplfjolcdlipaagreatdoor", sum := "77a572c3472fa162aeec1ae3f2b7261385b453ab5b26e7a3774aae03fe385b48", checked := Tryz.checked }
namespace Rows
def none {H : Type} : Left H := { results := [], args := [] }

/- WHAT THE LISTED PACKAGE-LEVEL VARIABLES READ AS WHEN THE CALL BEGINS. Each datum BY PROGRAM (the guide's laid-datum.mjs) off the statement by which the dump's own 'gosem.cut.vars' lays the variable. In a bare row this is a premise. The card (YtmplfjolcdlipaaGreatDoorCards.lean) ties it to the program's text. -/
def laid_math_bits_deBruijn32tab {H : Type} : DataW H := .agg [.lit (.int .u8 0), .lit (.int .u8 1), .lit (.int .u8 28), .lit (.int .u8 2), .lit (.int .u8 29), .lit (.int .u8 14), .lit (.int .u8 24), .lit (.int .u8 3), .lit (.int .u8 30), .lit (.int .u8 22), .lit (.int .u8 20), .lit (.int .u8 15), .lit (.int .u8 25), .lit (.int .u8 17), .lit (.int .u8 4), .lit (.int .u8 8), .lit (.int .u8 31), .lit (.int .u8 27), .lit (.int .u8 13), .lit (.int .u8 23), .lit (.int .u8 21), .lit (.int .u8 19), .lit (.int .u8 16), .lit (.int .u8 7), .lit (.int .u8 26), .lit (.int .u8 12), .lit (.int .u8 18), .lit (.int .u8 6), .lit (.int .u8 11), .lit (.int .u8 5), .lit (.int .u8 10), .lit (.int .u8 9)]
def laid_math_bits_deBruijn64tab {H : Type} : DataW H := .agg [.lit (.int .u8 0), .lit (.int .u8 1), .lit (.int .u8 56), .lit (.int .u8 2), .lit (.int .u8 57), .lit (.int .u8 49), .lit (.int .u8 28), .lit (.int .u8 3), .lit (.int .u8 61), .lit (.int .u8 58), .lit (.int .u8 42), .lit (.int .u8 50), .lit (.int .u8 38), .lit (.int .u8 29), .lit (.int .u8 17), .lit (.int .u8 4), .lit (.int .u8 62), .lit (.int .u8 47), .lit (.int .u8 59), .lit (.int .u8 36), .lit (.int .u8 45), .lit (.int .u8 43), .lit (.int .u8 51), .lit (.int .u8 22), .lit (.int .u8 53), .lit (.int .u8 39), .lit (.int .u8 33), .lit (.int .u8 30), .lit (.int .u8 24), .lit (.int .u8 18), .lit (.int .u8 12), .lit (.int .u8 5), .lit (.int .u8 63), .lit (.int .u8 55), .lit (.int .u8 48), .lit (.int .u8 27), .lit (.int .u8 60), .lit (.int .u8 41), .lit (.int .u8 37), .lit (.int .u8 16), .lit (.int .u8 46), .lit (.int .u8 35), .lit (.int .u8 44), .lit (.int .u8 21), .lit (.int .u8 52), .lit (.int .u8 32), .lit (.int .u8 23), .lit (.int .u8 11), .lit (.int .u8 54), .lit (.int .u8 26), .lit (.int .u8 40), .lit (.int .u8 15), .lit (.int .u8 34), .lit (.int .u8 20), .lit (.int .u8 31), .lit (.int .u8 10), .lit (.int .u8 25), .lit (.int .u8 14), .lit (.int .u8 19), .lit (.int .u8 9), .lit (.int .u8 13), .lit (.int .u8 8), .lit (.int .u8 7), .lit (.int .u8 6)]
def laid_internal_strconv_uint64pow10 {H : Type} : DataW H := .agg [.lit (.int .u64 1), .lit (.int .u64 10), .lit (.int .u64 100), .lit (.int .u64 1000), .lit (.int .u64 10000), .lit (.int .u64 100000), .lit (.int .u64 1000000), .lit (.int .u64 10000000), .lit (.int .u64 100000000), .lit (.int .u64 1000000000), .lit (.int .u64 10000000000), .lit (.int .u64 100000000000), .lit (.int .u64 1000000000000), .lit (.int .u64 10000000000000), .lit (.int .u64 100000000000000), .lit (.int .u64 1000000000000000), .lit (.int .u64 10000000000000000), .lit (.int .u64 100000000000000000), .lit (.int .u64 1000000000000000000), .lit (.int .u64 10000000000000000000)]
def laid_unicode_utf8_acceptRanges {H : Type} : DataW H := .agg [.agg [.lit (.int .u8 128), .lit (.int .u8 191)], .agg [.lit (.int .u8 160), .lit (.int .u8 191)], .agg [.lit (.int .u8 128), .lit (.int .u8 159)], .agg [.lit (.int .u8 144), .lit (.int .u8 191)], .agg [.lit (.int .u8 128), .lit (.int .u8 143)], .agg [.lit (.int .u8 0), .lit (.int .u8 0)], .agg [.lit (.int .u8 0), .lit (.int .u8 0)], .agg [.lit (.int .u8 0), .lit (.int .u8 0)], .agg [.lit (.int .u8 0), .lit (.int .u8 0)], .agg [.lit (.int .u8 0), .lit (.int .u8 0)], .agg [.lit (.int .u8 0), .lit (.int .u8 0)], .agg [.lit (.int .u8 0), .lit (.int .u8 0)], .agg [.lit (.int .u8 0), .lit (.int .u8 0)], .agg [.lit (.int .u8 0), .lit (.int .u8 0)], .agg [.lit (.int .u8 0), .lit (.int .u8 0)], .agg [.lit (.int .u8 0), .lit (.int .u8 0)]]
/-- One of Go's own tables, pinned by name: the form's constant. -/
def laid_unicode_utf8_first : DataW Unit := Go.Pinned.utf8First

/-- 'nacrelaw03.DrumStrengths': WHATEVER THE INPUT: true; the input reads as it did. -/
def drumStrengthsSpec : ChangeSpec := { name := "drumStrengths", fn := fun _ => fun
  | [d1, d2] => { results := [.lit (.bool true)], args := [d1, d2] }
  | _ => none }
def drumStrengthsRow : OpenClaim := { program := "ytmplfjolcdlipaagreatdoor", sum := "77a572c3472fa162aeec1ae3f2b7261385b453ab5b26e7a3774aae03fe385b48", func := "nacre/nacrelaw03.DrumStrengths", spec := "drumStrengths", inPlace := ["internal/bytealg.CountString", "internal/bytealg.IndexByteString", "internal/bytealg.IndexString", "internal/abi.NoEscape", "internal/bytealg.MakeNoZero"], unfollowed := true, recurses := true, named := ["unicode/utf8.first", "unicode/utf8.acceptRanges", "internal/bytealg.MaxLen", "internal/strconv.uint64pow10", "math/bits.deBruijn32tab", "math/bits.deBruijn64tab"], apart := false, laid := [("math/bits.deBruijn32tab", laid_math_bits_deBruijn32tab), ("math/bits.deBruijn64tab", laid_math_bits_deBruijn64tab), ("internal/strconv.uint64pow10", laid_internal_strconv_uint64pow10), ("unicode/utf8.acceptRanges", laid_unicode_utf8_acceptRanges), ("unicode/utf8.first", laid_unicode_utf8_first)] }
def DrumStrengthsSaid : Prop := drumStrengthsRow.holds Tryz.pinned (OpenSpec.ofChange drumStrengthsSpec)

/-- ITS FALSE NEIGHBOUR: 'it returns false'. Refute it at one input. -/
def drumStrengthsWrong : ChangeSpec := { name := "drumStrengths", fn := fun _ => fun
  | [d1, d2] => { results := [.lit (.bool false)], args := [d1, d2] }
  | _ => none }
def DrumStrengthsWrongFalsely : Prop := drumStrengthsRow.holds Tryz.pinned (OpenSpec.ofChange drumStrengthsWrong)

/-- 'nacrelaw03.DrumHours': WHATEVER THE INPUT: true; the input reads as it did. -/
def drumHoursSpec : ChangeSpec := { name := "drumHours", fn := fun _ => fun
  | [d1, d2] => { results := [.lit (.bool true)], args := [d1, d2] }
  | _ => none }
def drumHoursRow : OpenClaim := { program := "ytmplfjolcdlipaagreatdoor", sum := "77a572c3472fa162aeec1ae3f2b7261385b453ab5b26e7a3774aae03fe385b48", func := "nacre/nacrelaw03.DrumHours", spec := "drumHours", inPlace := ["internal/bytealg.CountString", "internal/bytealg.IndexByteString", "internal/bytealg.IndexString", "internal/abi.NoEscape", "internal/bytealg.MakeNoZero"], unfollowed := true, recurses := true, named := ["unicode/utf8.first", "unicode/utf8.acceptRanges", "internal/bytealg.MaxLen", "internal/strconv.uint64pow10", "math/bits.deBruijn32tab", "math/bits.deBruijn64tab"], apart := false, laid := [("math/bits.deBruijn32tab", laid_math_bits_deBruijn32tab), ("math/bits.deBruijn64tab", laid_math_bits_deBruijn64tab), ("internal/strconv.uint64pow10", laid_internal_strconv_uint64pow10), ("unicode/utf8.acceptRanges", laid_unicode_utf8_acceptRanges), ("unicode/utf8.first", laid_unicode_utf8_first)] }
def DrumHoursSaid : Prop := drumHoursRow.holds Tryz.pinned (OpenSpec.ofChange drumHoursSpec)

/-- ITS FALSE NEIGHBOUR: 'it returns false'. Refute it at one input. -/
def drumHoursWrong : ChangeSpec := { name := "drumHours", fn := fun _ => fun
  | [d1, d2] => { results := [.lit (.bool false)], args := [d1, d2] }
  | _ => none }
def DrumHoursWrongFalsely : Prop := drumHoursRow.holds Tryz.pinned (OpenSpec.ofChange drumHoursWrong)

/-- 'nacrelaw03.DrumTops': WHATEVER THE INPUT: true; the input reads as it did. -/
def drumTopsSpec : ChangeSpec := { name := "drumTops", fn := fun _ => fun
  | [d1, d2, d3] => { results := [.lit (.bool true)], args := [d1, d2, d3] }
  | _ => none }
def drumTopsRow : OpenClaim := { program := "ytmplfjolcdlipaagreatdoor", sum := "77a572c3472fa162aeec1ae3f2b7261385b453ab5b26e7a3774aae03fe385b48", func := "nacre/nacrelaw03.DrumTops", spec := "drumTops", inPlace := ["internal/bytealg.CountString", "internal/bytealg.IndexByteString", "internal/bytealg.IndexString", "internal/abi.NoEscape", "internal/bytealg.MakeNoZero"], unfollowed := true, recurses := true, named := ["unicode/utf8.first", "unicode/utf8.acceptRanges", "internal/bytealg.MaxLen", "internal/strconv.uint64pow10", "math/bits.deBruijn32tab", "math/bits.deBruijn64tab"], apart := false, laid := [("math/bits.deBruijn32tab", laid_math_bits_deBruijn32tab), ("math/bits.deBruijn64tab", laid_math_bits_deBruijn64tab), ("internal/strconv.uint64pow10", laid_internal_strconv_uint64pow10), ("unicode/utf8.acceptRanges", laid_unicode_utf8_acceptRanges), ("unicode/utf8.first", laid_unicode_utf8_first)] }
def DrumTopsSaid : Prop := drumTopsRow.holds Tryz.pinned (OpenSpec.ofChange drumTopsSpec)

/-- ITS FALSE NEIGHBOUR: 'it returns false'. Refute it at one input. -/
def drumTopsWrong : ChangeSpec := { name := "drumTops", fn := fun _ => fun
  | [d1, d2, d3] => { results := [.lit (.bool false)], args := [d1, d2, d3] }
  | _ => none }
def DrumTopsWrongFalsely : Prop := drumTopsRow.holds Tryz.pinned (OpenSpec.ofChange drumTopsWrong)

/-- 'nacrelaw03.DrumPrints': WHATEVER THE INPUT: true; the input reads as it did. -/
def drumPrintsSpec : ChangeSpec := { name := "drumPrints", fn := fun _ => fun
  | [d] => { results := [.lit (.bool true)], args := [d] }
  | _ => none }
def drumPrintsRow : OpenClaim := { program := "ytmplfjolcdlipaagreatdoor", sum := "77a572c3472fa162aeec1ae3f2b7261385b453ab5b26e7a3774aae03fe385b48", func := "nacre/nacrelaw03.DrumPrints", spec := "drumPrints", inPlace := ["internal/bytealg.CountString", "internal/bytealg.IndexByteString", "internal/bytealg.IndexString", "internal/abi.NoEscape", "internal/bytealg.MakeNoZero"], unfollowed := true, recurses := true, named := ["unicode/utf8.first", "unicode/utf8.acceptRanges", "internal/bytealg.MaxLen", "internal/strconv.uint64pow10", "math/bits.deBruijn32tab", "math/bits.deBruijn64tab"], apart := false, laid := [("math/bits.deBruijn32tab", laid_math_bits_deBruijn32tab), ("math/bits.deBruijn64tab", laid_math_bits_deBruijn64tab), ("internal/strconv.uint64pow10", laid_internal_strconv_uint64pow10), ("unicode/utf8.acceptRanges", laid_unicode_utf8_acceptRanges), ("unicode/utf8.first", laid_unicode_utf8_first)] }
def DrumPrintsSaid : Prop := drumPrintsRow.holds Tryz.pinned (OpenSpec.ofChange drumPrintsSpec)

/-- ITS FALSE NEIGHBOUR: 'it returns false'. Refute it at one input. -/
def drumPrintsWrong : ChangeSpec := { name := "drumPrints", fn := fun _ => fun
  | [d] => { results := [.lit (.bool false)], args := [d] }
  | _ => none }
def DrumPrintsWrongFalsely : Prop := drumPrintsRow.holds Tryz.pinned (OpenSpec.ofChange drumPrintsWrong)

/-- 'nacrelaw03.DrumReads': WHATEVER THE INPUT: true; the input reads as it did. -/
def drumReadsSpec : ChangeSpec := { name := "drumReads", fn := fun _ => fun
  | [d] => { results := [.lit (.bool true)], args := [d] }
  | _ => none }
def drumReadsRow : OpenClaim := { program := "ytmplfjolcdlipaagreatdoor", sum := "77a572c3472fa162aeec1ae3f2b7261385b453ab5b26e7a3774aae03fe385b48", func := "nacre/nacrelaw03.DrumReads", spec := "drumReads", inPlace := ["internal/bytealg.CountString", "internal/bytealg.IndexByteString", "internal/bytealg.IndexString", "internal/abi.NoEscape", "internal/bytealg.MakeNoZero"], unfollowed := true, recurses := true, named := ["unicode/utf8.first", "unicode/utf8.acceptRanges", "internal/bytealg.MaxLen", "internal/strconv.uint64pow10", "math/bits.deBruijn32tab", "math/bits.deBruijn64tab"], apart := false, laid := [("math/bits.deBruijn32tab", laid_math_bits_deBruijn32tab), ("math/bits.deBruijn64tab", laid_math_bits_deBruijn64tab), ("internal/strconv.uint64pow10", laid_internal_strconv_uint64pow10), ("unicode/utf8.acceptRanges", laid_unicode_utf8_acceptRanges), ("unicode/utf8.first", laid_unicode_utf8_first)] }
def DrumReadsSaid : Prop := drumReadsRow.holds Tryz.pinned (OpenSpec.ofChange drumReadsSpec)

/-- ITS FALSE NEIGHBOUR: 'it returns false'. Refute it at one input. -/
def drumReadsWrong : ChangeSpec := { name := "drumReads", fn := fun _ => fun
  | [d] => { results := [.lit (.bool false)], args := [d] }
  | _ => none }
def DrumReadsWrongFalsely : Prop := drumReadsRow.holds Tryz.pinned (OpenSpec.ofChange drumReadsWrong)

/-- 'nacrelaw03.DrumSpoilt': WHATEVER THE INPUT: true; the input reads as it did. -/
def drumSpoiltSpec : ChangeSpec := { name := "drumSpoilt", fn := fun _ => fun
  | [d1, d2, d3] => { results := [.lit (.bool true)], args := [d1, d2, d3] }
  | _ => none }
def drumSpoiltRow : OpenClaim := { program := "ytmplfjolcdlipaagreatdoor", sum := "77a572c3472fa162aeec1ae3f2b7261385b453ab5b26e7a3774aae03fe385b48", func := "nacre/nacrelaw03.DrumSpoilt", spec := "drumSpoilt", inPlace := ["internal/bytealg.CountString", "internal/bytealg.IndexByteString", "internal/bytealg.IndexString", "internal/abi.NoEscape", "internal/bytealg.MakeNoZero"], unfollowed := true, recurses := true, named := ["unicode/utf8.first", "unicode/utf8.acceptRanges", "internal/bytealg.MaxLen", "internal/strconv.uint64pow10", "math/bits.deBruijn32tab", "math/bits.deBruijn64tab"], apart := false, laid := [("math/bits.deBruijn32tab", laid_math_bits_deBruijn32tab), ("math/bits.deBruijn64tab", laid_math_bits_deBruijn64tab), ("internal/strconv.uint64pow10", laid_internal_strconv_uint64pow10), ("unicode/utf8.acceptRanges", laid_unicode_utf8_acceptRanges), ("unicode/utf8.first", laid_unicode_utf8_first)] }
def DrumSpoiltSaid : Prop := drumSpoiltRow.holds Tryz.pinned (OpenSpec.ofChange drumSpoiltSpec)

/-- ITS FALSE NEIGHBOUR: 'it returns false'. Refute it at one input. -/
def drumSpoiltWrong : ChangeSpec := { name := "drumSpoilt", fn := fun _ => fun
  | [d1, d2, d3] => { results := [.lit (.bool false)], args := [d1, d2, d3] }
  | _ => none }
def DrumSpoiltWrongFalsely : Prop := drumSpoiltRow.holds Tryz.pinned (OpenSpec.ofChange drumSpoiltWrong)

/-- 'nacrelaw03.DrumSorts': WHATEVER THE INPUT: true; the input reads as it did. -/
def drumSortsSpec : ChangeSpec := { name := "drumSorts", fn := fun _ => fun
  | [d1, d2] => { results := [.lit (.bool true)], args := [d1, d2] }
  | _ => none }
def drumSortsRow : OpenClaim := { program := "ytmplfjolcdlipaagreatdoor", sum := "77a572c3472fa162aeec1ae3f2b7261385b453ab5b26e7a3774aae03fe385b48", func := "nacre/nacrelaw03.DrumSorts", spec := "drumSorts", inPlace := ["internal/bytealg.CountString", "internal/bytealg.IndexByteString", "internal/bytealg.IndexString", "internal/abi.NoEscape", "internal/bytealg.MakeNoZero"], unfollowed := true, recurses := true, named := ["unicode/utf8.first", "unicode/utf8.acceptRanges", "internal/bytealg.MaxLen", "internal/strconv.uint64pow10", "math/bits.deBruijn32tab", "math/bits.deBruijn64tab"], apart := false, laid := [("math/bits.deBruijn32tab", laid_math_bits_deBruijn32tab), ("math/bits.deBruijn64tab", laid_math_bits_deBruijn64tab), ("internal/strconv.uint64pow10", laid_internal_strconv_uint64pow10), ("unicode/utf8.acceptRanges", laid_unicode_utf8_acceptRanges), ("unicode/utf8.first", laid_unicode_utf8_first)] }
def DrumSortsSaid : Prop := drumSortsRow.holds Tryz.pinned (OpenSpec.ofChange drumSortsSpec)

/-- ITS FALSE NEIGHBOUR: 'it returns false'. Refute it at one input. -/
def drumSortsWrong : ChangeSpec := { name := "drumSorts", fn := fun _ => fun
  | [d1, d2] => { results := [.lit (.bool false)], args := [d1, d2] }
  | _ => none }
def DrumSortsWrongFalsely : Prop := drumSortsRow.holds Tryz.pinned (OpenSpec.ofChange drumSortsWrong)

/-- 'nacrelaw03.DrumWindows': WHATEVER THE INPUT: true; the input reads as it did. -/
def drumWindowsSpec : ChangeSpec := { name := "drumWindows", fn := fun _ => fun
  | [d] => { results := [.lit (.bool true)], args := [d] }
  | _ => none }
def drumWindowsRow : OpenClaim := { program := "ytmplfjolcdlipaagreatdoor", sum := "77a572c3472fa162aeec1ae3f2b7261385b453ab5b26e7a3774aae03fe385b48", func := "nacre/nacrelaw03.DrumWindows", spec := "drumWindows", inPlace := ["internal/bytealg.CountString", "internal/bytealg.IndexByteString", "internal/bytealg.IndexString", "internal/abi.NoEscape", "internal/bytealg.MakeNoZero"], unfollowed := true, recurses := true, named := ["unicode/utf8.first", "unicode/utf8.acceptRanges", "internal/bytealg.MaxLen", "internal/strconv.uint64pow10", "math/bits.deBruijn32tab", "math/bits.deBruijn64tab"], apart := false, laid := [("math/bits.deBruijn32tab", laid_math_bits_deBruijn32tab), ("math/bits.deBruijn64tab", laid_math_bits_deBruijn64tab), ("internal/strconv.uint64pow10", laid_internal_strconv_uint64pow10), ("unicode/utf8.acceptRanges", laid_unicode_utf8_acceptRanges), ("unicode/utf8.first", laid_unicode_utf8_first)] }
def DrumWindowsSaid : Prop := drumWindowsRow.holds Tryz.pinned (OpenSpec.ofChange drumWindowsSpec)

/-- ITS FALSE NEIGHBOUR: 'it returns false'. Refute it at one input. -/
def drumWindowsWrong : ChangeSpec := { name := "drumWindows", fn := fun _ => fun
  | [d] => { results := [.lit (.bool false)], args := [d] }
  | _ => none }
def DrumWindowsWrongFalsely : Prop := drumWindowsRow.holds Tryz.pinned (OpenSpec.ofChange drumWindowsWrong)

/-- 'nacrelaw03.DrumNamed': WHATEVER THE INPUT: true; the input reads as it did. -/
def drumNamedSpec : ChangeSpec := { name := "drumNamed", fn := fun _ => fun
  | [d1, d2] => { results := [.lit (.bool true)], args := [d1, d2] }
  | _ => none }
def drumNamedRow : OpenClaim := { program := "ytmplfjolcdlipaagreatdoor", sum := "77a572c3472fa162aeec1ae3f2b7261385b453ab5b26e7a3774aae03fe385b48", func := "nacre/nacrelaw03.DrumNamed", spec := "drumNamed", inPlace := ["internal/bytealg.CountString", "internal/bytealg.IndexByteString", "internal/bytealg.IndexString", "internal/abi.NoEscape", "internal/bytealg.MakeNoZero"], unfollowed := true, recurses := true, named := ["unicode/utf8.first", "unicode/utf8.acceptRanges", "internal/bytealg.MaxLen", "internal/strconv.uint64pow10", "math/bits.deBruijn32tab", "math/bits.deBruijn64tab"], apart := false, laid := [("math/bits.deBruijn32tab", laid_math_bits_deBruijn32tab), ("math/bits.deBruijn64tab", laid_math_bits_deBruijn64tab), ("internal/strconv.uint64pow10", laid_internal_strconv_uint64pow10), ("unicode/utf8.acceptRanges", laid_unicode_utf8_acceptRanges), ("unicode/utf8.first", laid_unicode_utf8_first)] }
def DrumNamedSaid : Prop := drumNamedRow.holds Tryz.pinned (OpenSpec.ofChange drumNamedSpec)

/-- ITS FALSE NEIGHBOUR: 'it returns false'. Refute it at one input. -/
def drumNamedWrong : ChangeSpec := { name := "drumNamed", fn := fun _ => fun
  | [d1, d2] => { results := [.lit (.bool false)], args := [d1, d2] }
  | _ => none }
def DrumNamedWrongFalsely : Prop := drumNamedRow.holds Tryz.pinned (OpenSpec.ofChange drumNamedWrong)

/-- 'nacrelaw03.DrumMore': WHATEVER THE INPUT: true; the input reads as it did. -/
def drumMoreSpec : ChangeSpec := { name := "drumMore", fn := fun _ => fun
  | [d1, d2, d3] => { results := [.lit (.bool true)], args := [d1, d2, d3] }
  | _ => none }
def drumMoreRow : OpenClaim := { program := "ytmplfjolcdlipaagreatdoor", sum := "77a572c3472fa162aeec1ae3f2b7261385b453ab5b26e7a3774aae03fe385b48", func := "nacre/nacrelaw03.DrumMore", spec := "drumMore", inPlace := ["internal/bytealg.CountString", "internal/bytealg.IndexByteString", "internal/bytealg.IndexString", "internal/abi.NoEscape", "internal/bytealg.MakeNoZero"], unfollowed := true, recurses := true, named := ["unicode/utf8.first", "unicode/utf8.acceptRanges", "internal/bytealg.MaxLen", "internal/strconv.uint64pow10", "math/bits.deBruijn32tab", "math/bits.deBruijn64tab"], apart := false, laid := [("math/bits.deBruijn32tab", laid_math_bits_deBruijn32tab), ("math/bits.deBruijn64tab", laid_math_bits_deBruijn64tab), ("internal/strconv.uint64pow10", laid_internal_strconv_uint64pow10), ("unicode/utf8.acceptRanges", laid_unicode_utf8_acceptRanges), ("unicode/utf8.first", laid_unicode_utf8_first)] }
def DrumMoreSaid : Prop := drumMoreRow.holds Tryz.pinned (OpenSpec.ofChange drumMoreSpec)

/-- ITS FALSE NEIGHBOUR: 'it returns false'. Refute it at one input. -/
def drumMoreWrong : ChangeSpec := { name := "drumMore", fn := fun _ => fun
  | [d1, d2, d3] => { results := [.lit (.bool false)], args := [d1, d2, d3] }
  | _ => none }
def DrumMoreWrongFalsely : Prop := drumMoreRow.holds Tryz.pinned (OpenSpec.ofChange drumMoreWrong)

/-- 'nacrelaw03.DrumTurned': WHATEVER THE INPUT: true; the input reads as it did. -/
def drumTurnedSpec : ChangeSpec := { name := "drumTurned", fn := fun _ => fun
  | [d1, d2] => { results := [.lit (.bool true)], args := [d1, d2] }
  | _ => none }
def drumTurnedRow : OpenClaim := { program := "ytmplfjolcdlipaagreatdoor", sum := "77a572c3472fa162aeec1ae3f2b7261385b453ab5b26e7a3774aae03fe385b48", func := "nacre/nacrelaw03.DrumTurned", spec := "drumTurned", inPlace := ["internal/bytealg.CountString", "internal/bytealg.IndexByteString", "internal/bytealg.IndexString", "internal/abi.NoEscape", "internal/bytealg.MakeNoZero"], unfollowed := true, recurses := true, named := ["unicode/utf8.first", "unicode/utf8.acceptRanges", "internal/bytealg.MaxLen", "internal/strconv.uint64pow10", "math/bits.deBruijn32tab", "math/bits.deBruijn64tab"], apart := false, laid := [("math/bits.deBruijn32tab", laid_math_bits_deBruijn32tab), ("math/bits.deBruijn64tab", laid_math_bits_deBruijn64tab), ("internal/strconv.uint64pow10", laid_internal_strconv_uint64pow10), ("unicode/utf8.acceptRanges", laid_unicode_utf8_acceptRanges), ("unicode/utf8.first", laid_unicode_utf8_first)] }
def DrumTurnedSaid : Prop := drumTurnedRow.holds Tryz.pinned (OpenSpec.ofChange drumTurnedSpec)

/-- ITS FALSE NEIGHBOUR: 'it returns false'. Refute it at one input. -/
def drumTurnedWrong : ChangeSpec := { name := "drumTurned", fn := fun _ => fun
  | [d1, d2] => { results := [.lit (.bool false)], args := [d1, d2] }
  | _ => none }
def DrumTurnedWrongFalsely : Prop := drumTurnedRow.holds Tryz.pinned (OpenSpec.ofChange drumTurnedWrong)

/-- 'nacrelaw03.DrumDual': WHATEVER THE INPUT: true; the input reads as it did. -/
def drumDualSpec : ChangeSpec := { name := "drumDual", fn := fun _ => fun
  | [d1, d2, d3] => { results := [.lit (.bool true)], args := [d1, d2, d3] }
  | _ => none }
def drumDualRow : OpenClaim := { program := "ytmplfjolcdlipaagreatdoor", sum := "77a572c3472fa162aeec1ae3f2b7261385b453ab5b26e7a3774aae03fe385b48", func := "nacre/nacrelaw03.DrumDual", spec := "drumDual", inPlace := ["internal/bytealg.CountString", "internal/bytealg.IndexByteString", "internal/bytealg.IndexString", "internal/abi.NoEscape", "internal/bytealg.MakeNoZero"], unfollowed := true, recurses := true, named := ["unicode/utf8.first", "unicode/utf8.acceptRanges", "internal/bytealg.MaxLen", "internal/strconv.uint64pow10", "math/bits.deBruijn32tab", "math/bits.deBruijn64tab"], apart := false, laid := [("math/bits.deBruijn32tab", laid_math_bits_deBruijn32tab), ("math/bits.deBruijn64tab", laid_math_bits_deBruijn64tab), ("internal/strconv.uint64pow10", laid_internal_strconv_uint64pow10), ("unicode/utf8.acceptRanges", laid_unicode_utf8_acceptRanges), ("unicode/utf8.first", laid_unicode_utf8_first)] }
def DrumDualSaid : Prop := drumDualRow.holds Tryz.pinned (OpenSpec.ofChange drumDualSpec)

/-- ITS FALSE NEIGHBOUR: 'it returns false'. Refute it at one input. -/
def drumDualWrong : ChangeSpec := { name := "drumDual", fn := fun _ => fun
  | [d1, d2, d3] => { results := [.lit (.bool false)], args := [d1, d2, d3] }
  | _ => none }
def DrumDualWrongFalsely : Prop := drumDualRow.holds Tryz.pinned (OpenSpec.ofChange drumDualWrong)

/-- 'nacrelaw03.DrumTrue': WHATEVER THE INPUT: true; the input reads as it did. -/
def drumTrueSpec : ChangeSpec := { name := "drumTrue", fn := fun _ => fun
  | [d1, d2, d3] => { results := [.lit (.bool true)], args := [d1, d2, d3] }
  | _ => none }
def drumTrueRow : OpenClaim := { program := "ytmplfjolcdlipaagreatdoor", sum := "77a572c3472fa162aeec1ae3f2b7261385b453ab5b26e7a3774aae03fe385b48", func := "nacre/nacrelaw03.DrumTrue", spec := "drumTrue", inPlace := ["internal/bytealg.CountString", "internal/bytealg.IndexByteString", "internal/bytealg.IndexString", "internal/abi.NoEscape", "internal/bytealg.MakeNoZero"], unfollowed := true, recurses := true, named := ["unicode/utf8.first", "unicode/utf8.acceptRanges", "internal/bytealg.MaxLen", "internal/strconv.uint64pow10", "math/bits.deBruijn32tab", "math/bits.deBruijn64tab"], apart := false, laid := [("math/bits.deBruijn32tab", laid_math_bits_deBruijn32tab), ("math/bits.deBruijn64tab", laid_math_bits_deBruijn64tab), ("internal/strconv.uint64pow10", laid_internal_strconv_uint64pow10), ("unicode/utf8.acceptRanges", laid_unicode_utf8_acceptRanges), ("unicode/utf8.first", laid_unicode_utf8_first)] }
def DrumTrueSaid : Prop := drumTrueRow.holds Tryz.pinned (OpenSpec.ofChange drumTrueSpec)

/-- ITS FALSE NEIGHBOUR: 'it returns false'. Refute it at one input. -/
def drumTrueWrong : ChangeSpec := { name := "drumTrue", fn := fun _ => fun
  | [d1, d2, d3] => { results := [.lit (.bool false)], args := [d1, d2, d3] }
  | _ => none }
def DrumTrueWrongFalsely : Prop := drumTrueRow.holds Tryz.pinned (OpenSpec.ofChange drumTrueWrong)

/-- 'nacrelaw03.DrumTells': WHATEVER THE INPUT: true; the input reads as it did. -/
def drumTellsSpec : ChangeSpec := { name := "drumTells", fn := fun _ => fun
  | [d1, d2, d3, d4] => { results := [.lit (.bool true)], args := [d1, d2, d3, d4] }
  | _ => none }
def drumTellsRow : OpenClaim := { program := "ytmplfjolcdlipaagreatdoor", sum := "77a572c3472fa162aeec1ae3f2b7261385b453ab5b26e7a3774aae03fe385b48", func := "nacre/nacrelaw03.DrumTells", spec := "drumTells", inPlace := ["internal/bytealg.CountString", "internal/bytealg.IndexByteString", "internal/bytealg.IndexString", "internal/abi.NoEscape", "internal/bytealg.MakeNoZero"], unfollowed := true, recurses := true, named := ["unicode/utf8.first", "unicode/utf8.acceptRanges", "internal/bytealg.MaxLen", "internal/strconv.uint64pow10", "math/bits.deBruijn32tab", "math/bits.deBruijn64tab"], apart := false, laid := [("math/bits.deBruijn32tab", laid_math_bits_deBruijn32tab), ("math/bits.deBruijn64tab", laid_math_bits_deBruijn64tab), ("internal/strconv.uint64pow10", laid_internal_strconv_uint64pow10), ("unicode/utf8.acceptRanges", laid_unicode_utf8_acceptRanges), ("unicode/utf8.first", laid_unicode_utf8_first)] }
def DrumTellsSaid : Prop := drumTellsRow.holds Tryz.pinned (OpenSpec.ofChange drumTellsSpec)

/-- ITS FALSE NEIGHBOUR: 'it returns false'. Refute it at one input. -/
def drumTellsWrong : ChangeSpec := { name := "drumTells", fn := fun _ => fun
  | [d1, d2, d3, d4] => { results := [.lit (.bool false)], args := [d1, d2, d3, d4] }
  | _ => none }
def DrumTellsWrongFalsely : Prop := drumTellsRow.holds Tryz.pinned (OpenSpec.ofChange drumTellsWrong)

/-- 'nacrelaw03.DrumRuns': WHATEVER THE INPUT: true; the input reads as it did. -/
def drumRunsSpec : ChangeSpec := { name := "drumRuns", fn := fun _ => fun
  | [d1, d2, d3] => { results := [.lit (.bool true)], args := [d1, d2, d3] }
  | _ => none }
def drumRunsRow : OpenClaim := { program := "ytmplfjolcdlipaagreatdoor", sum := "77a572c3472fa162aeec1ae3f2b7261385b453ab5b26e7a3774aae03fe385b48", func := "nacre/nacrelaw03.DrumRuns", spec := "drumRuns", inPlace := ["internal/bytealg.CountString", "internal/bytealg.IndexByteString", "internal/bytealg.IndexString", "internal/abi.NoEscape", "internal/bytealg.MakeNoZero"], unfollowed := true, recurses := true, named := ["unicode/utf8.first", "unicode/utf8.acceptRanges", "internal/bytealg.MaxLen", "internal/strconv.uint64pow10", "math/bits.deBruijn32tab", "math/bits.deBruijn64tab"], apart := false, laid := [("math/bits.deBruijn32tab", laid_math_bits_deBruijn32tab), ("math/bits.deBruijn64tab", laid_math_bits_deBruijn64tab), ("internal/strconv.uint64pow10", laid_internal_strconv_uint64pow10), ("unicode/utf8.acceptRanges", laid_unicode_utf8_acceptRanges), ("unicode/utf8.first", laid_unicode_utf8_first)] }
def DrumRunsSaid : Prop := drumRunsRow.holds Tryz.pinned (OpenSpec.ofChange drumRunsSpec)

/-- ITS FALSE NEIGHBOUR: 'it returns false'. Refute it at one input. -/
def drumRunsWrong : ChangeSpec := { name := "drumRuns", fn := fun _ => fun
  | [d1, d2, d3] => { results := [.lit (.bool false)], args := [d1, d2, d3] }
  | _ => none }
def DrumRunsWrongFalsely : Prop := drumRunsRow.holds Tryz.pinned (OpenSpec.ofChange drumRunsWrong)

/-- 'nacrelaw03.DrumBounds': WHATEVER THE INPUT: true; the input reads as it did. -/
def drumBoundsSpec : ChangeSpec := { name := "drumBounds", fn := fun _ => fun
  | [d1, d2, d3] => { results := [.lit (.bool true)], args := [d1, d2, d3] }
  | _ => none }
def drumBoundsRow : OpenClaim := { program := "ytmplfjolcdlipaagreatdoor", sum := "77a572c3472fa162aeec1ae3f2b7261385b453ab5b26e7a3774aae03fe385b48", func := "nacre/nacrelaw03.DrumBounds", spec := "drumBounds", inPlace := ["internal/bytealg.CountString", "internal/bytealg.IndexByteString", "internal/bytealg.IndexString", "internal/abi.NoEscape", "internal/bytealg.MakeNoZero"], unfollowed := true, recurses := true, named := ["unicode/utf8.first", "unicode/utf8.acceptRanges", "internal/bytealg.MaxLen", "internal/strconv.uint64pow10", "math/bits.deBruijn32tab", "math/bits.deBruijn64tab"], apart := false, laid := [("math/bits.deBruijn32tab", laid_math_bits_deBruijn32tab), ("math/bits.deBruijn64tab", laid_math_bits_deBruijn64tab), ("internal/strconv.uint64pow10", laid_internal_strconv_uint64pow10), ("unicode/utf8.acceptRanges", laid_unicode_utf8_acceptRanges), ("unicode/utf8.first", laid_unicode_utf8_first)] }
def DrumBoundsSaid : Prop := drumBoundsRow.holds Tryz.pinned (OpenSpec.ofChange drumBoundsSpec)

/-- ITS FALSE NEIGHBOUR: 'it returns false'. Refute it at one input. -/
def drumBoundsWrong : ChangeSpec := { name := "drumBounds", fn := fun _ => fun
  | [d1, d2, d3] => { results := [.lit (.bool false)], args := [d1, d2, d3] }
  | _ => none }
def DrumBoundsWrongFalsely : Prop := drumBoundsRow.holds Tryz.pinned (OpenSpec.ofChange drumBoundsWrong)

/-- 'nacrelaw03.DrumSure': WHATEVER THE INPUT: true; the input reads as it did. -/
def drumSureSpec : ChangeSpec := { name := "drumSure", fn := fun _ => fun
  | [d1, d2, d3, d4] => { results := [.lit (.bool true)], args := [d1, d2, d3, d4] }
  | _ => none }
def drumSureRow : OpenClaim := { program := "ytmplfjolcdlipaagreatdoor", sum := "77a572c3472fa162aeec1ae3f2b7261385b453ab5b26e7a3774aae03fe385b48", func := "nacre/nacrelaw03.DrumSure", spec := "drumSure", inPlace := ["internal/bytealg.CountString", "internal/bytealg.IndexByteString", "internal/bytealg.IndexString", "internal/abi.NoEscape", "internal/bytealg.MakeNoZero"], unfollowed := true, recurses := true, named := ["unicode/utf8.first", "unicode/utf8.acceptRanges", "internal/bytealg.MaxLen", "internal/strconv.uint64pow10", "math/bits.deBruijn32tab", "math/bits.deBruijn64tab"], apart := false, laid := [("math/bits.deBruijn32tab", laid_math_bits_deBruijn32tab), ("math/bits.deBruijn64tab", laid_math_bits_deBruijn64tab), ("internal/strconv.uint64pow10", laid_internal_strconv_uint64pow10), ("unicode/utf8.acceptRanges", laid_unicode_utf8_acceptRanges), ("unicode/utf8.first", laid_unicode_utf8_first)] }
def DrumSureSaid : Prop := drumSureRow.holds Tryz.pinned (OpenSpec.ofChange drumSureSpec)

/-- ITS FALSE NEIGHBOUR: 'it returns false'. Refute it at one input. -/
def drumSureWrong : ChangeSpec := { name := "drumSure", fn := fun _ => fun
  | [d1, d2, d3, d4] => { results := [.lit (.bool false)], args := [d1, d2, d3, d4] }
  | _ => none }
def DrumSureWrongFalsely : Prop := drumSureRow.holds Tryz.pinned (OpenSpec.ofChange drumSureWrong)

/-- 'nacrelaw03.DrumCoulds': WHATEVER THE INPUT: true; the input reads as it did. -/
def drumCouldsSpec : ChangeSpec := { name := "drumCoulds", fn := fun _ => fun
  | [d1, d2] => { results := [.lit (.bool true)], args := [d1, d2] }
  | _ => none }
def drumCouldsRow : OpenClaim := { program := "ytmplfjolcdlipaagreatdoor", sum := "77a572c3472fa162aeec1ae3f2b7261385b453ab5b26e7a3774aae03fe385b48", func := "nacre/nacrelaw03.DrumCoulds", spec := "drumCoulds", inPlace := ["internal/bytealg.CountString", "internal/bytealg.IndexByteString", "internal/bytealg.IndexString", "internal/abi.NoEscape", "internal/bytealg.MakeNoZero"], unfollowed := true, recurses := true, named := ["unicode/utf8.first", "unicode/utf8.acceptRanges", "internal/bytealg.MaxLen", "internal/strconv.uint64pow10", "math/bits.deBruijn32tab", "math/bits.deBruijn64tab"], apart := false, laid := [("math/bits.deBruijn32tab", laid_math_bits_deBruijn32tab), ("math/bits.deBruijn64tab", laid_math_bits_deBruijn64tab), ("internal/strconv.uint64pow10", laid_internal_strconv_uint64pow10), ("unicode/utf8.acceptRanges", laid_unicode_utf8_acceptRanges), ("unicode/utf8.first", laid_unicode_utf8_first)] }
def DrumCouldsSaid : Prop := drumCouldsRow.holds Tryz.pinned (OpenSpec.ofChange drumCouldsSpec)

/-- ITS FALSE NEIGHBOUR: 'it returns false'. Refute it at one input. -/
def drumCouldsWrong : ChangeSpec := { name := "drumCoulds", fn := fun _ => fun
  | [d1, d2] => { results := [.lit (.bool false)], args := [d1, d2] }
  | _ => none }
def DrumCouldsWrongFalsely : Prop := drumCouldsRow.holds Tryz.pinned (OpenSpec.ofChange drumCouldsWrong)

/-- 'nacrelaw03.DrumEmptied': WHATEVER THE INPUT: true; the input reads as it did. -/
def drumEmptiedSpec : ChangeSpec := { name := "drumEmptied", fn := fun _ => fun
  | [d1, d2, d3] => { results := [.lit (.bool true)], args := [d1, d2, d3] }
  | _ => none }
def drumEmptiedRow : OpenClaim := { program := "ytmplfjolcdlipaagreatdoor", sum := "77a572c3472fa162aeec1ae3f2b7261385b453ab5b26e7a3774aae03fe385b48", func := "nacre/nacrelaw03.DrumEmptied", spec := "drumEmptied", inPlace := ["internal/bytealg.CountString", "internal/bytealg.IndexByteString", "internal/bytealg.IndexString", "internal/abi.NoEscape", "internal/bytealg.MakeNoZero"], unfollowed := true, recurses := true, named := ["unicode/utf8.first", "unicode/utf8.acceptRanges", "internal/bytealg.MaxLen", "internal/strconv.uint64pow10", "math/bits.deBruijn32tab", "math/bits.deBruijn64tab"], apart := false, laid := [("math/bits.deBruijn32tab", laid_math_bits_deBruijn32tab), ("math/bits.deBruijn64tab", laid_math_bits_deBruijn64tab), ("internal/strconv.uint64pow10", laid_internal_strconv_uint64pow10), ("unicode/utf8.acceptRanges", laid_unicode_utf8_acceptRanges), ("unicode/utf8.first", laid_unicode_utf8_first)] }
def DrumEmptiedSaid : Prop := drumEmptiedRow.holds Tryz.pinned (OpenSpec.ofChange drumEmptiedSpec)

/-- ITS FALSE NEIGHBOUR: 'it returns false'. Refute it at one input. -/
def drumEmptiedWrong : ChangeSpec := { name := "drumEmptied", fn := fun _ => fun
  | [d1, d2, d3] => { results := [.lit (.bool false)], args := [d1, d2, d3] }
  | _ => none }
def DrumEmptiedWrongFalsely : Prop := drumEmptiedRow.holds Tryz.pinned (OpenSpec.ofChange drumEmptiedWrong)

/-- 'nacrelaw03.DrumPut': WHATEVER THE INPUT: true; the input reads as it did. -/
def drumPutSpec : ChangeSpec := { name := "drumPut", fn := fun _ => fun
  | [d1, d2, d3, d4, d5] => { results := [.lit (.bool true)], args := [d1, d2, d3, d4, d5] }
  | _ => none }
def drumPutRow : OpenClaim := { program := "ytmplfjolcdlipaagreatdoor", sum := "77a572c3472fa162aeec1ae3f2b7261385b453ab5b26e7a3774aae03fe385b48", func := "nacre/nacrelaw03.DrumPut", spec := "drumPut", inPlace := ["internal/bytealg.CountString", "internal/bytealg.IndexByteString", "internal/bytealg.IndexString", "internal/abi.NoEscape", "internal/bytealg.MakeNoZero"], unfollowed := true, recurses := true, named := ["unicode/utf8.first", "unicode/utf8.acceptRanges", "internal/bytealg.MaxLen", "internal/strconv.uint64pow10", "math/bits.deBruijn32tab", "math/bits.deBruijn64tab"], apart := false, laid := [("math/bits.deBruijn32tab", laid_math_bits_deBruijn32tab), ("math/bits.deBruijn64tab", laid_math_bits_deBruijn64tab), ("internal/strconv.uint64pow10", laid_internal_strconv_uint64pow10), ("unicode/utf8.acceptRanges", laid_unicode_utf8_acceptRanges), ("unicode/utf8.first", laid_unicode_utf8_first)] }
def DrumPutSaid : Prop := drumPutRow.holds Tryz.pinned (OpenSpec.ofChange drumPutSpec)

/-- ITS FALSE NEIGHBOUR: 'it returns false'. Refute it at one input. -/
def drumPutWrong : ChangeSpec := { name := "drumPut", fn := fun _ => fun
  | [d1, d2, d3, d4, d5] => { results := [.lit (.bool false)], args := [d1, d2, d3, d4, d5] }
  | _ => none }
def DrumPutWrongFalsely : Prop := drumPutRow.holds Tryz.pinned (OpenSpec.ofChange drumPutWrong)

/- THE SECOND FORM. 'bulk': how many values and letters a reading holds, each counted each time it is reached (what is shared counts as often as it is met; a slice's spare places count too). A statement '..UptoSaid' is the law's where the arguments, and the package variables that the reading takes, are together of bulk at most 1048576: NARROWER than '..Said'. Prove '..Said' where nothing that the law and all that it calls make is longer than what came in: it says more and counts as full. Else prove '..UptoSaid'. A law counts once. -/
mutual
def uptoBulk {H : Type} : DataW H → Nat
  | .lit (.string bytes) => bytes.length + 1
  | .lit _ => 1
  | .nil => 1
  | .ptr d => uptoBulk d + 1
  | .slice elems spare => uptoBulkAll elems + uptoBulkAll spare + 1
  | .agg parts => uptoBulkAll parts + 1
  | .iface _ d => uptoBulk d + 1
  | .map entries => uptoBulkEntries entries + 1
  | .held _ => 1
def uptoBulkAll {H : Type} : List (DataW H) → Nat
  | [] => 0
  | d :: r => uptoBulk d + uptoBulkAll r
def uptoBulkEntries {H : Type} : List (Lit × DataW H) → Nat
  | [] => 0
  | x :: r => uptoBulkEntry x + uptoBulkEntries r
def uptoBulkEntry {H : Type} : Lit × DataW H → Nat
  | (.string bytes, d) => bytes.length + uptoBulk d + 1
  | (_, d) => uptoBulk d + 1
 end
def uptoSmall : (H : Type) → List (DataW H) → Bool := fun _ ds => decide (uptoBulkAll ds ≤ 1048576)
def OpenSpec.upto (s : _root_.Go.ChangeSpec) : _root_.Go.OpenSpec := { _root_.Go.OpenSpec.ofChange s with cond := some uptoSmall }

/-- 'nacrelaw03.DrumStrengths', WHERE WHAT IT READS IS OF BULK AT MOST 1048576: true; the input reads as it did. -/
def drumStrengthsUptoRow : OpenClaim := { program := "ytmplfjolcdlipaagreatdoor", sum := "77a572c3472fa162aeec1ae3f2b7261385b453ab5b26e7a3774aae03fe385b48", func := "nacre/nacrelaw03.DrumStrengths", spec := "drumStrengths", inPlace := ["internal/bytealg.CountString", "internal/bytealg.IndexByteString", "internal/bytealg.IndexString", "internal/abi.NoEscape", "internal/bytealg.MakeNoZero"], unfollowed := true, recurses := true, named := ["unicode/utf8.first", "unicode/utf8.acceptRanges", "internal/bytealg.MaxLen", "internal/strconv.uint64pow10", "math/bits.deBruijn32tab", "math/bits.deBruijn64tab"], apart := false, laid := [("math/bits.deBruijn32tab", laid_math_bits_deBruijn32tab), ("math/bits.deBruijn64tab", laid_math_bits_deBruijn64tab), ("internal/strconv.uint64pow10", laid_internal_strconv_uint64pow10), ("unicode/utf8.acceptRanges", laid_unicode_utf8_acceptRanges), ("unicode/utf8.first", laid_unicode_utf8_first)], narrowed := true }
def DrumStrengthsUptoSaid : Prop := drumStrengthsUptoRow.holds Tryz.pinned (OpenSpec.upto drumStrengthsSpec)

/-- 'nacrelaw03.DrumHours', WHERE WHAT IT READS IS OF BULK AT MOST 1048576: true; the input reads as it did. -/
def drumHoursUptoRow : OpenClaim := { program := "ytmplfjolcdlipaagreatdoor", sum := "77a572c3472fa162aeec1ae3f2b7261385b453ab5b26e7a3774aae03fe385b48", func := "nacre/nacrelaw03.DrumHours", spec := "drumHours", inPlace := ["internal/bytealg.CountString", "internal/bytealg.IndexByteString", "internal/bytealg.IndexString", "internal/abi.NoEscape", "internal/bytealg.MakeNoZero"], unfollowed := true, recurses := true, named := ["unicode/utf8.first", "unicode/utf8.acceptRanges", "internal/bytealg.MaxLen", "internal/strconv.uint64pow10", "math/bits.deBruijn32tab", "math/bits.deBruijn64tab"], apart := false, laid := [("math/bits.deBruijn32tab", laid_math_bits_deBruijn32tab), ("math/bits.deBruijn64tab", laid_math_bits_deBruijn64tab), ("internal/strconv.uint64pow10", laid_internal_strconv_uint64pow10), ("unicode/utf8.acceptRanges", laid_unicode_utf8_acceptRanges), ("unicode/utf8.first", laid_unicode_utf8_first)], narrowed := true }
def DrumHoursUptoSaid : Prop := drumHoursUptoRow.holds Tryz.pinned (OpenSpec.upto drumHoursSpec)

/-- 'nacrelaw03.DrumTops', WHERE WHAT IT READS IS OF BULK AT MOST 1048576: true; the input reads as it did. -/
def drumTopsUptoRow : OpenClaim := { program := "ytmplfjolcdlipaagreatdoor", sum := "77a572c3472fa162aeec1ae3f2b7261385b453ab5b26e7a3774aae03fe385b48", func := "nacre/nacrelaw03.DrumTops", spec := "drumTops", inPlace := ["internal/bytealg.CountString", "internal/bytealg.IndexByteString", "internal/bytealg.IndexString", "internal/abi.NoEscape", "internal/bytealg.MakeNoZero"], unfollowed := true, recurses := true, named := ["unicode/utf8.first", "unicode/utf8.acceptRanges", "internal/bytealg.MaxLen", "internal/strconv.uint64pow10", "math/bits.deBruijn32tab", "math/bits.deBruijn64tab"], apart := false, laid := [("math/bits.deBruijn32tab", laid_math_bits_deBruijn32tab), ("math/bits.deBruijn64tab", laid_math_bits_deBruijn64tab), ("internal/strconv.uint64pow10", laid_internal_strconv_uint64pow10), ("unicode/utf8.acceptRanges", laid_unicode_utf8_acceptRanges), ("unicode/utf8.first", laid_unicode_utf8_first)], narrowed := true }
def DrumTopsUptoSaid : Prop := drumTopsUptoRow.holds Tryz.pinned (OpenSpec.upto drumTopsSpec)

/-- 'nacrelaw03.DrumPrints', WHERE WHAT IT READS IS OF BULK AT MOST 1048576: true; the input reads as it did. -/
def drumPrintsUptoRow : OpenClaim := { program := "ytmplfjolcdlipaagreatdoor", sum := "77a572c3472fa162aeec1ae3f2b7261385b453ab5b26e7a3774aae03fe385b48", func := "nacre/nacrelaw03.DrumPrints", spec := "drumPrints", inPlace := ["internal/bytealg.CountString", "internal/bytealg.IndexByteString", "internal/bytealg.IndexString", "internal/abi.NoEscape", "internal/bytealg.MakeNoZero"], unfollowed := true, recurses := true, named := ["unicode/utf8.first", "unicode/utf8.acceptRanges", "internal/bytealg.MaxLen", "internal/strconv.uint64pow10", "math/bits.deBruijn32tab", "math/bits.deBruijn64tab"], apart := false, laid := [("math/bits.deBruijn32tab", laid_math_bits_deBruijn32tab), ("math/bits.deBruijn64tab", laid_math_bits_deBruijn64tab), ("internal/strconv.uint64pow10", laid_internal_strconv_uint64pow10), ("unicode/utf8.acceptRanges", laid_unicode_utf8_acceptRanges), ("unicode/utf8.first", laid_unicode_utf8_first)], narrowed := true }
def DrumPrintsUptoSaid : Prop := drumPrintsUptoRow.holds Tryz.pinned (OpenSpec.upto drumPrintsSpec)

/-- 'nacrelaw03.DrumReads', WHERE WHAT IT READS IS OF BULK AT MOST 1048576: true; the input reads as it did. -/
def drumReadsUptoRow : OpenClaim := { program := "ytmplfjolcdlipaagreatdoor", sum := "77a572c3472fa162aeec1ae3f2b7261385b453ab5b26e7a3774aae03fe385b48", func := "nacre/nacrelaw03.DrumReads", spec := "drumReads", inPlace := ["internal/bytealg.CountString", "internal/bytealg.IndexByteString", "internal/bytealg.IndexString", "internal/abi.NoEscape", "internal/bytealg.MakeNoZero"], unfollowed := true, recurses := true, named := ["unicode/utf8.first", "unicode/utf8.acceptRanges", "internal/bytealg.MaxLen", "internal/strconv.uint64pow10", "math/bits.deBruijn32tab", "math/bits.deBruijn64tab"], apart := false, laid := [("math/bits.deBruijn32tab", laid_math_bits_deBruijn32tab), ("math/bits.deBruijn64tab", laid_math_bits_deBruijn64tab), ("internal/strconv.uint64pow10", laid_internal_strconv_uint64pow10), ("unicode/utf8.acceptRanges", laid_unicode_utf8_acceptRanges), ("unicode/utf8.first", laid_unicode_utf8_first)], narrowed := true }
def DrumReadsUptoSaid : Prop := drumReadsUptoRow.holds Tryz.pinned (OpenSpec.upto drumReadsSpec)

/-- 'nacrelaw03.DrumSpoilt', WHERE WHAT IT READS IS OF BULK AT MOST 1048576: true; the input reads as it did. -/
def drumSpoiltUptoRow : OpenClaim := { program := "ytmplfjolcdlipaagreatdoor", sum := "77a572c3472fa162aeec1ae3f2b7261385b453ab5b26e7a3774aae03fe385b48", func := "nacre/nacrelaw03.DrumSpoilt", spec := "drumSpoilt", inPlace := ["internal/bytealg.CountString", "internal/bytealg.IndexByteString", "internal/bytealg.IndexString", "internal/abi.NoEscape", "internal/bytealg.MakeNoZero"], unfollowed := true, recurses := true, named := ["unicode/utf8.first", "unicode/utf8.acceptRanges", "internal/bytealg.MaxLen", "internal/strconv.uint64pow10", "math/bits.deBruijn32tab", "math/bits.deBruijn64tab"], apart := false, laid := [("math/bits.deBruijn32tab", laid_math_bits_deBruijn32tab), ("math/bits.deBruijn64tab", laid_math_bits_deBruijn64tab), ("internal/strconv.uint64pow10", laid_internal_strconv_uint64pow10), ("unicode/utf8.acceptRanges", laid_unicode_utf8_acceptRanges), ("unicode/utf8.first", laid_unicode_utf8_first)], narrowed := true }
def DrumSpoiltUptoSaid : Prop := drumSpoiltUptoRow.holds Tryz.pinned (OpenSpec.upto drumSpoiltSpec)

/-- 'nacrelaw03.DrumSorts', WHERE WHAT IT READS IS OF BULK AT MOST 1048576: true; the input reads as it did. -/
def drumSortsUptoRow : OpenClaim := { program := "ytmplfjolcdlipaagreatdoor", sum := "77a572c3472fa162aeec1ae3f2b7261385b453ab5b26e7a3774aae03fe385b48", func := "nacre/nacrelaw03.DrumSorts", spec := "drumSorts", inPlace := ["internal/bytealg.CountString", "internal/bytealg.IndexByteString", "internal/bytealg.IndexString", "internal/abi.NoEscape", "internal/bytealg.MakeNoZero"], unfollowed := true, recurses := true, named := ["unicode/utf8.first", "unicode/utf8.acceptRanges", "internal/bytealg.MaxLen", "internal/strconv.uint64pow10", "math/bits.deBruijn32tab", "math/bits.deBruijn64tab"], apart := false, laid := [("math/bits.deBruijn32tab", laid_math_bits_deBruijn32tab), ("math/bits.deBruijn64tab", laid_math_bits_deBruijn64tab), ("internal/strconv.uint64pow10", laid_internal_strconv_uint64pow10), ("unicode/utf8.acceptRanges", laid_unicode_utf8_acceptRanges), ("unicode/utf8.first", laid_unicode_utf8_first)], narrowed := true }
def DrumSortsUptoSaid : Prop := drumSortsUptoRow.holds Tryz.pinned (OpenSpec.upto drumSortsSpec)

/-- 'nacrelaw03.DrumWindows', WHERE WHAT IT READS IS OF BULK AT MOST 1048576: true; the input reads as it did. -/
def drumWindowsUptoRow : OpenClaim := { program := "ytmplfjolcdlipaagreatdoor", sum := "77a572c3472fa162aeec1ae3f2b7261385b453ab5b26e7a3774aae03fe385b48", func := "nacre/nacrelaw03.DrumWindows", spec := "drumWindows", inPlace := ["internal/bytealg.CountString", "internal/bytealg.IndexByteString", "internal/bytealg.IndexString", "internal/abi.NoEscape", "internal/bytealg.MakeNoZero"], unfollowed := true, recurses := true, named := ["unicode/utf8.first", "unicode/utf8.acceptRanges", "internal/bytealg.MaxLen", "internal/strconv.uint64pow10", "math/bits.deBruijn32tab", "math/bits.deBruijn64tab"], apart := false, laid := [("math/bits.deBruijn32tab", laid_math_bits_deBruijn32tab), ("math/bits.deBruijn64tab", laid_math_bits_deBruijn64tab), ("internal/strconv.uint64pow10", laid_internal_strconv_uint64pow10), ("unicode/utf8.acceptRanges", laid_unicode_utf8_acceptRanges), ("unicode/utf8.first", laid_unicode_utf8_first)], narrowed := true }
def DrumWindowsUptoSaid : Prop := drumWindowsUptoRow.holds Tryz.pinned (OpenSpec.upto drumWindowsSpec)

/-- 'nacrelaw03.DrumNamed', WHERE WHAT IT READS IS OF BULK AT MOST 1048576: true; the input reads as it did. -/
def drumNamedUptoRow : OpenClaim := { program := "ytmplfjolcdlipaagreatdoor", sum := "77a572c3472fa162aeec1ae3f2b7261385b453ab5b26e7a3774aae03fe385b48", func := "nacre/nacrelaw03.DrumNamed", spec := "drumNamed", inPlace := ["internal/bytealg.CountString", "internal/bytealg.IndexByteString", "internal/bytealg.IndexString", "internal/abi.NoEscape", "internal/bytealg.MakeNoZero"], unfollowed := true, recurses := true, named := ["unicode/utf8.first", "unicode/utf8.acceptRanges", "internal/bytealg.MaxLen", "internal/strconv.uint64pow10", "math/bits.deBruijn32tab", "math/bits.deBruijn64tab"], apart := false, laid := [("math/bits.deBruijn32tab", laid_math_bits_deBruijn32tab), ("math/bits.deBruijn64tab", laid_math_bits_deBruijn64tab), ("internal/strconv.uint64pow10", laid_internal_strconv_uint64pow10), ("unicode/utf8.acceptRanges", laid_unicode_utf8_acceptRanges), ("unicode/utf8.first", laid_unicode_utf8_first)], narrowed := true }
def DrumNamedUptoSaid : Prop := drumNamedUptoRow.holds Tryz.pinned (OpenSpec.upto drumNamedSpec)

/-- 'nacrelaw03.DrumMore', WHERE WHAT IT READS IS OF BULK AT MOST 1048576: true; the input reads as it did. -/
def drumMoreUptoRow : OpenClaim := { program := "ytmplfjolcdlipaagreatdoor", sum := "77a572c3472fa162aeec1ae3f2b7261385b453ab5b26e7a3774aae03fe385b48", func := "nacre/nacrelaw03.DrumMore", spec := "drumMore", inPlace := ["internal/bytealg.CountString", "internal/bytealg.IndexByteString", "internal/bytealg.IndexString", "internal/abi.NoEscape", "internal/bytealg.MakeNoZero"], unfollowed := true, recurses := true, named := ["unicode/utf8.first", "unicode/utf8.acceptRanges", "internal/bytealg.MaxLen", "internal/strconv.uint64pow10", "math/bits.deBruijn32tab", "math/bits.deBruijn64tab"], apart := false, laid := [("math/bits.deBruijn32tab", laid_math_bits_deBruijn32tab), ("math/bits.deBruijn64tab", laid_math_bits_deBruijn64tab), ("internal/strconv.uint64pow10", laid_internal_strconv_uint64pow10), ("unicode/utf8.acceptRanges", laid_unicode_utf8_acceptRanges), ("unicode/utf8.first", laid_unicode_utf8_first)], narrowed := true }
def DrumMoreUptoSaid : Prop := drumMoreUptoRow.holds Tryz.pinned (OpenSpec.upto drumMoreSpec)

/-- 'nacrelaw03.DrumTurned', WHERE WHAT IT READS IS OF BULK AT MOST 1048576: true; the input reads as it did. -/
def drumTurnedUptoRow : OpenClaim := { program := "ytmplfjolcdlipaagreatdoor", sum := "77a572c3472fa162aeec1ae3f2b7261385b453ab5b26e7a3774aae03fe385b48", func := "nacre/nacrelaw03.DrumTurned", spec := "drumTurned", inPlace := ["internal/bytealg.CountString", "internal/bytealg.IndexByteString", "internal/bytealg.IndexString", "internal/abi.NoEscape", "internal/bytealg.MakeNoZero"], unfollowed := true, recurses := true, named := ["unicode/utf8.first", "unicode/utf8.acceptRanges", "internal/bytealg.MaxLen", "internal/strconv.uint64pow10", "math/bits.deBruijn32tab", "math/bits.deBruijn64tab"], apart := false, laid := [("math/bits.deBruijn32tab", laid_math_bits_deBruijn32tab), ("math/bits.deBruijn64tab", laid_math_bits_deBruijn64tab), ("internal/strconv.uint64pow10", laid_internal_strconv_uint64pow10), ("unicode/utf8.acceptRanges", laid_unicode_utf8_acceptRanges), ("unicode/utf8.first", laid_unicode_utf8_first)], narrowed := true }
def DrumTurnedUptoSaid : Prop := drumTurnedUptoRow.holds Tryz.pinned (OpenSpec.upto drumTurnedSpec)

/-- 'nacrelaw03.DrumDual', WHERE WHAT IT READS IS OF BULK AT MOST 1048576: true; the input reads as it did. -/
def drumDualUptoRow : OpenClaim := { program := "ytmplfjolcdlipaagreatdoor", sum := "77a572c3472fa162aeec1ae3f2b7261385b453ab5b26e7a3774aae03fe385b48", func := "nacre/nacrelaw03.DrumDual", spec := "drumDual", inPlace := ["internal/bytealg.CountString", "internal/bytealg.IndexByteString", "internal/bytealg.IndexString", "internal/abi.NoEscape", "internal/bytealg.MakeNoZero"], unfollowed := true, recurses := true, named := ["unicode/utf8.first", "unicode/utf8.acceptRanges", "internal/bytealg.MaxLen", "internal/strconv.uint64pow10", "math/bits.deBruijn32tab", "math/bits.deBruijn64tab"], apart := false, laid := [("math/bits.deBruijn32tab", laid_math_bits_deBruijn32tab), ("math/bits.deBruijn64tab", laid_math_bits_deBruijn64tab), ("internal/strconv.uint64pow10", laid_internal_strconv_uint64pow10), ("unicode/utf8.acceptRanges", laid_unicode_utf8_acceptRanges), ("unicode/utf8.first", laid_unicode_utf8_first)], narrowed := true }
def DrumDualUptoSaid : Prop := drumDualUptoRow.holds Tryz.pinned (OpenSpec.upto drumDualSpec)

/-- 'nacrelaw03.DrumTrue', WHERE WHAT IT READS IS OF BULK AT MOST 1048576: true; the input reads as it did. -/
def drumTrueUptoRow : OpenClaim := { program := "ytmplfjolcdlipaagreatdoor", sum := "77a572c3472fa162aeec1ae3f2b7261385b453ab5b26e7a3774aae03fe385b48", func := "nacre/nacrelaw03.DrumTrue", spec := "drumTrue", inPlace := ["internal/bytealg.CountString", "internal/bytealg.IndexByteString", "internal/bytealg.IndexString", "internal/abi.NoEscape", "internal/bytealg.MakeNoZero"], unfollowed := true, recurses := true, named := ["unicode/utf8.first", "unicode/utf8.acceptRanges", "internal/bytealg.MaxLen", "internal/strconv.uint64pow10", "math/bits.deBruijn32tab", "math/bits.deBruijn64tab"], apart := false, laid := [("math/bits.deBruijn32tab", laid_math_bits_deBruijn32tab), ("math/bits.deBruijn64tab", laid_math_bits_deBruijn64tab), ("internal/strconv.uint64pow10", laid_internal_strconv_uint64pow10), ("unicode/utf8.acceptRanges", laid_unicode_utf8_acceptRanges), ("unicode/utf8.first", laid_unicode_utf8_first)], narrowed := true }
def DrumTrueUptoSaid : Prop := drumTrueUptoRow.holds Tryz.pinned (OpenSpec.upto drumTrueSpec)

/-- 'nacrelaw03.DrumTells', WHERE WHAT IT READS IS OF BULK AT MOST 1048576: true; the input reads as it did. -/
def drumTellsUptoRow : OpenClaim := { program := "ytmplfjolcdlipaagreatdoor", sum := "77a572c3472fa162aeec1ae3f2b7261385b453ab5b26e7a3774aae03fe385b48", func := "nacre/nacrelaw03.DrumTells", spec := "drumTells", inPlace := ["internal/bytealg.CountString", "internal/bytealg.IndexByteString", "internal/bytealg.IndexString", "internal/abi.NoEscape", "internal/bytealg.MakeNoZero"], unfollowed := true, recurses := true, named := ["unicode/utf8.first", "unicode/utf8.acceptRanges", "internal/bytealg.MaxLen", "internal/strconv.uint64pow10", "math/bits.deBruijn32tab", "math/bits.deBruijn64tab"], apart := false, laid := [("math/bits.deBruijn32tab", laid_math_bits_deBruijn32tab), ("math/bits.deBruijn64tab", laid_math_bits_deBruijn64tab), ("internal/strconv.uint64pow10", laid_internal_strconv_uint64pow10), ("unicode/utf8.acceptRanges", laid_unicode_utf8_acceptRanges), ("unicode/utf8.first", laid_unicode_utf8_first)], narrowed := true }
def DrumTellsUptoSaid : Prop := drumTellsUptoRow.holds Tryz.pinned (OpenSpec.upto drumTellsSpec)

/-- 'nacrelaw03.DrumRuns', WHERE WHAT IT READS IS OF BULK AT MOST 1048576: true; the input reads as it did. -/
def drumRunsUptoRow : OpenClaim := { program := "ytmplfjolcdlipaagreatdoor", sum := "77a572c3472fa162aeec1ae3f2b7261385b453ab5b26e7a3774aae03fe385b48", func := "nacre/nacrelaw03.DrumRuns", spec := "drumRuns", inPlace := ["internal/bytealg.CountString", "internal/bytealg.IndexByteString", "internal/bytealg.IndexString", "internal/abi.NoEscape", "internal/bytealg.MakeNoZero"], unfollowed := true, recurses := true, named := ["unicode/utf8.first", "unicode/utf8.acceptRanges", "internal/bytealg.MaxLen", "internal/strconv.uint64pow10", "math/bits.deBruijn32tab", "math/bits.deBruijn64tab"], apart := false, laid := [("math/bits.deBruijn32tab", laid_math_bits_deBruijn32tab), ("math/bits.deBruijn64tab", laid_math_bits_deBruijn64tab), ("internal/strconv.uint64pow10", laid_internal_strconv_uint64pow10), ("unicode/utf8.acceptRanges", laid_unicode_utf8_acceptRanges), ("unicode/utf8.first", laid_unicode_utf8_first)], narrowed := true }
def DrumRunsUptoSaid : Prop := drumRunsUptoRow.holds Tryz.pinned (OpenSpec.upto drumRunsSpec)

/-- 'nacrelaw03.DrumBounds', WHERE WHAT IT READS IS OF BULK AT MOST 1048576: true; the input reads as it did. -/
def drumBoundsUptoRow : OpenClaim := { program := "ytmplfjolcdlipaagreatdoor", sum := "77a572c3472fa162aeec1ae3f2b7261385b453ab5b26e7a3774aae03fe385b48", func := "nacre/nacrelaw03.DrumBounds", spec := "drumBounds", inPlace := ["internal/bytealg.CountString", "internal/bytealg.IndexByteString", "internal/bytealg.IndexString", "internal/abi.NoEscape", "internal/bytealg.MakeNoZero"], unfollowed := true, recurses := true, named := ["unicode/utf8.first", "unicode/utf8.acceptRanges", "internal/bytealg.MaxLen", "internal/strconv.uint64pow10", "math/bits.deBruijn32tab", "math/bits.deBruijn64tab"], apart := false, laid := [("math/bits.deBruijn32tab", laid_math_bits_deBruijn32tab), ("math/bits.deBruijn64tab", laid_math_bits_deBruijn64tab), ("internal/strconv.uint64pow10", laid_internal_strconv_uint64pow10), ("unicode/utf8.acceptRanges", laid_unicode_utf8_acceptRanges), ("unicode/utf8.first", laid_unicode_utf8_first)], narrowed := true }
def DrumBoundsUptoSaid : Prop := drumBoundsUptoRow.holds Tryz.pinned (OpenSpec.upto drumBoundsSpec)

/-- 'nacrelaw03.DrumSure', WHERE WHAT IT READS IS OF BULK AT MOST 1048576: true; the input reads as it did. -/
def drumSureUptoRow : OpenClaim := { program := "ytmplfjolcdlipaagreatdoor", sum := "77a572c3472fa162aeec1ae3f2b7261385b453ab5b26e7a3774aae03fe385b48", func := "nacre/nacrelaw03.DrumSure", spec := "drumSure", inPlace := ["internal/bytealg.CountString", "internal/bytealg.IndexByteString", "internal/bytealg.IndexString", "internal/abi.NoEscape", "internal/bytealg.MakeNoZero"], unfollowed := true, recurses := true, named := ["unicode/utf8.first", "unicode/utf8.acceptRanges", "internal/bytealg.MaxLen", "internal/strconv.uint64pow10", "math/bits.deBruijn32tab", "math/bits.deBruijn64tab"], apart := false, laid := [("math/bits.deBruijn32tab", laid_math_bits_deBruijn32tab), ("math/bits.deBruijn64tab", laid_math_bits_deBruijn64tab), ("internal/strconv.uint64pow10", laid_internal_strconv_uint64pow10), ("unicode/utf8.acceptRanges", laid_unicode_utf8_acceptRanges), ("unicode/utf8.first", laid_unicode_utf8_first)], narrowed := true }
def DrumSureUptoSaid : Prop := drumSureUptoRow.holds Tryz.pinned (OpenSpec.upto drumSureSpec)

/-- 'nacrelaw03.DrumCoulds', WHERE WHAT IT READS IS OF BULK AT MOST 1048576: true; the input reads as it did. -/
def drumCouldsUptoRow : OpenClaim := { program := "ytmplfjolcdlipaagreatdoor", sum := "77a572c3472fa162aeec1ae3f2b7261385b453ab5b26e7a3774aae03fe385b48", func := "nacre/nacrelaw03.DrumCoulds", spec := "drumCoulds", inPlace := ["internal/bytealg.CountString", "internal/bytealg.IndexByteString", "internal/bytealg.IndexString", "internal/abi.NoEscape", "internal/bytealg.MakeNoZero"], unfollowed := true, recurses := true, named := ["unicode/utf8.first", "unicode/utf8.acceptRanges", "internal/bytealg.MaxLen", "internal/strconv.uint64pow10", "math/bits.deBruijn32tab", "math/bits.deBruijn64tab"], apart := false, laid := [("math/bits.deBruijn32tab", laid_math_bits_deBruijn32tab), ("math/bits.deBruijn64tab", laid_math_bits_deBruijn64tab), ("internal/strconv.uint64pow10", laid_internal_strconv_uint64pow10), ("unicode/utf8.acceptRanges", laid_unicode_utf8_acceptRanges), ("unicode/utf8.first", laid_unicode_utf8_first)], narrowed := true }
def DrumCouldsUptoSaid : Prop := drumCouldsUptoRow.holds Tryz.pinned (OpenSpec.upto drumCouldsSpec)

/-- 'nacrelaw03.DrumEmptied', WHERE WHAT IT READS IS OF BULK AT MOST 1048576: true; the input reads as it did. -/
def drumEmptiedUptoRow : OpenClaim := { program := "ytmplfjolcdlipaagreatdoor", sum := "77a572c3472fa162aeec1ae3f2b7261385b453ab5b26e7a3774aae03fe385b48", func := "nacre/nacrelaw03.DrumEmptied", spec := "drumEmptied", inPlace := ["internal/bytealg.CountString", "internal/bytealg.IndexByteString", "internal/bytealg.IndexString", "internal/abi.NoEscape", "internal/bytealg.MakeNoZero"], unfollowed := true, recurses := true, named := ["unicode/utf8.first", "unicode/utf8.acceptRanges", "internal/bytealg.MaxLen", "internal/strconv.uint64pow10", "math/bits.deBruijn32tab", "math/bits.deBruijn64tab"], apart := false, laid := [("math/bits.deBruijn32tab", laid_math_bits_deBruijn32tab), ("math/bits.deBruijn64tab", laid_math_bits_deBruijn64tab), ("internal/strconv.uint64pow10", laid_internal_strconv_uint64pow10), ("unicode/utf8.acceptRanges", laid_unicode_utf8_acceptRanges), ("unicode/utf8.first", laid_unicode_utf8_first)], narrowed := true }
def DrumEmptiedUptoSaid : Prop := drumEmptiedUptoRow.holds Tryz.pinned (OpenSpec.upto drumEmptiedSpec)

/-- 'nacrelaw03.DrumPut', WHERE WHAT IT READS IS OF BULK AT MOST 1048576: true; the input reads as it did. -/
def drumPutUptoRow : OpenClaim := { program := "ytmplfjolcdlipaagreatdoor", sum := "77a572c3472fa162aeec1ae3f2b7261385b453ab5b26e7a3774aae03fe385b48", func := "nacre/nacrelaw03.DrumPut", spec := "drumPut", inPlace := ["internal/bytealg.CountString", "internal/bytealg.IndexByteString", "internal/bytealg.IndexString", "internal/abi.NoEscape", "internal/bytealg.MakeNoZero"], unfollowed := true, recurses := true, named := ["unicode/utf8.first", "unicode/utf8.acceptRanges", "internal/bytealg.MaxLen", "internal/strconv.uint64pow10", "math/bits.deBruijn32tab", "math/bits.deBruijn64tab"], apart := false, laid := [("math/bits.deBruijn32tab", laid_math_bits_deBruijn32tab), ("math/bits.deBruijn64tab", laid_math_bits_deBruijn64tab), ("internal/strconv.uint64pow10", laid_internal_strconv_uint64pow10), ("unicode/utf8.acceptRanges", laid_unicode_utf8_acceptRanges), ("unicode/utf8.first", laid_unicode_utf8_first)], narrowed := true }
def DrumPutUptoSaid : Prop := drumPutUptoRow.holds Tryz.pinned (OpenSpec.upto drumPutSpec)

end Rows
end Go.Proofs.YtmplfjolcdlipaaGreatDoor
