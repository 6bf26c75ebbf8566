/-
  NARROWER THAN 'FOR EVERY INPUT', by the rows' own cells (each row's printed sentence says how): TimeParses: laid · TimeBack: laid · TimeTexts: laid · TimeMonths: laid · TimeAdjusts: laid · TimeZones: laid · TimeAdds: laid · TimeDays: laid · TimeOrder: laid · TimeKnown: laid · TimeSums: laid.
  DERIVED. THE GIVEN ROWS OF THIS SEAT. 11 by the template 'for every input the law returns true; each argument reads behind the call as it read before'; 0 by the template 'total and deterministic' (their statements: YtgobpoeccdgeiaaGreatDoorTotals.lean).
  GIVEN WITH THE SEED: the statements are not yours to turn. If you find one false, say at which input.
  Laid BY PROGRAM, IN A SANDBOX (cutbox-rows.mjs): the forced cells as the released guide's own fill.sh prints them over the translation e53fe6c3ae86e91e… (all of the seat's roots in one cut). By AI agents, Wed Nov 11 2026. No macro, syntax, notation, axiom, sorry.
-/
import Derived.Test.YtgobpoeccdgeiaaGreatDoorChecked
import GoSem.PinnedTables
import GoSem.Claim
import GoSem.ClaimJoined
import GoSem.ClaimMapViews
import Derived.JoinedTies
import Derived.KernelRfl
namespace Go.Proofs.YtgobpoeccdgeiaaGreatDoor
/- THE CELL 'sum', in the pinned program and in every row, IS THE sha256 OF THE DUMP (.gsa) THAT YtgobpoeccdgeiaaGreatDoorProg.lean LOADS. Nothing in Lean hashes anything: it is a label: what it is worth is what the hold of that sum in a sandbox is worth. -/
noncomputable def Tryz.pinned : Pinned := { name := "ytgobpoeccdgeiaagreatdoor", sum := "e53fe6c3ae86e91e04b02ec020f0a656197b57c85e9972074eb6a6d79e2de349", checked := Tryz.checked }
namespace Rows
def none {H : Type} : Left H := { results := [], args := [] }

/- WHAT THE LISTED PACKAGE-LEVEL VARIABLES READ AS WHEN THE CALL BEGINS. Each datum BY PROGRAM (the guide's laid-datum.mjs) off the statement by which the dump's own 'gosem.cut.vars' lays the variable. In a bare row this is a premise. The card (YtgobpoeccdgeiaaGreatDoorCards.lean) ties it to the program's text. -/
def laid_math_bits_deBruijn32tab {H : Type} : DataW H := .agg [.lit (.int .u8 0), .lit (.int .u8 1), .lit (.int .u8 28), .lit (.int .u8 2), .lit (.int .u8 29), .lit (.int .u8 14), .lit (.int .u8 24), .lit (.int .u8 3), .lit (.int .u8 30), .lit (.int .u8 22), .lit (.int .u8 20), .lit (.int .u8 15), .lit (.int .u8 25), .lit (.int .u8 17), .lit (.int .u8 4), .lit (.int .u8 8), .lit (.int .u8 31), .lit (.int .u8 27), .lit (.int .u8 13), .lit (.int .u8 23), .lit (.int .u8 21), .lit (.int .u8 19), .lit (.int .u8 16), .lit (.int .u8 7), .lit (.int .u8 26), .lit (.int .u8 12), .lit (.int .u8 18), .lit (.int .u8 6), .lit (.int .u8 11), .lit (.int .u8 5), .lit (.int .u8 10), .lit (.int .u8 9)]
def laid_math_bits_deBruijn64tab {H : Type} : DataW H := .agg [.lit (.int .u8 0), .lit (.int .u8 1), .lit (.int .u8 56), .lit (.int .u8 2), .lit (.int .u8 57), .lit (.int .u8 49), .lit (.int .u8 28), .lit (.int .u8 3), .lit (.int .u8 61), .lit (.int .u8 58), .lit (.int .u8 42), .lit (.int .u8 50), .lit (.int .u8 38), .lit (.int .u8 29), .lit (.int .u8 17), .lit (.int .u8 4), .lit (.int .u8 62), .lit (.int .u8 47), .lit (.int .u8 59), .lit (.int .u8 36), .lit (.int .u8 45), .lit (.int .u8 43), .lit (.int .u8 51), .lit (.int .u8 22), .lit (.int .u8 53), .lit (.int .u8 39), .lit (.int .u8 33), .lit (.int .u8 30), .lit (.int .u8 24), .lit (.int .u8 18), .lit (.int .u8 12), .lit (.int .u8 5), .lit (.int .u8 63), .lit (.int .u8 55), .lit (.int .u8 48), .lit (.int .u8 27), .lit (.int .u8 60), .lit (.int .u8 41), .lit (.int .u8 37), .lit (.int .u8 16), .lit (.int .u8 46), .lit (.int .u8 35), .lit (.int .u8 44), .lit (.int .u8 21), .lit (.int .u8 52), .lit (.int .u8 32), .lit (.int .u8 23), .lit (.int .u8 11), .lit (.int .u8 54), .lit (.int .u8 26), .lit (.int .u8 40), .lit (.int .u8 15), .lit (.int .u8 34), .lit (.int .u8 20), .lit (.int .u8 31), .lit (.int .u8 10), .lit (.int .u8 25), .lit (.int .u8 14), .lit (.int .u8 19), .lit (.int .u8 9), .lit (.int .u8 13), .lit (.int .u8 8), .lit (.int .u8 7), .lit (.int .u8 6)]
def laid_internal_strconv_uint64pow10 {H : Type} : DataW H := .agg [.lit (.int .u64 1), .lit (.int .u64 10), .lit (.int .u64 100), .lit (.int .u64 1000), .lit (.int .u64 10000), .lit (.int .u64 100000), .lit (.int .u64 1000000), .lit (.int .u64 10000000), .lit (.int .u64 100000000), .lit (.int .u64 1000000000), .lit (.int .u64 10000000000), .lit (.int .u64 100000000000), .lit (.int .u64 1000000000000), .lit (.int .u64 10000000000000), .lit (.int .u64 100000000000000), .lit (.int .u64 1000000000000000), .lit (.int .u64 10000000000000000), .lit (.int .u64 100000000000000000), .lit (.int .u64 1000000000000000000), .lit (.int .u64 10000000000000000000)]
def laid_unicode_utf8_acceptRanges {H : Type} : DataW H := .agg [.agg [.lit (.int .u8 128), .lit (.int .u8 191)], .agg [.lit (.int .u8 160), .lit (.int .u8 191)], .agg [.lit (.int .u8 128), .lit (.int .u8 159)], .agg [.lit (.int .u8 144), .lit (.int .u8 191)], .agg [.lit (.int .u8 128), .lit (.int .u8 143)], .agg [.lit (.int .u8 0), .lit (.int .u8 0)], .agg [.lit (.int .u8 0), .lit (.int .u8 0)], .agg [.lit (.int .u8 0), .lit (.int .u8 0)], .agg [.lit (.int .u8 0), .lit (.int .u8 0)], .agg [.lit (.int .u8 0), .lit (.int .u8 0)], .agg [.lit (.int .u8 0), .lit (.int .u8 0)], .agg [.lit (.int .u8 0), .lit (.int .u8 0)], .agg [.lit (.int .u8 0), .lit (.int .u8 0)], .agg [.lit (.int .u8 0), .lit (.int .u8 0)], .agg [.lit (.int .u8 0), .lit (.int .u8 0)], .agg [.lit (.int .u8 0), .lit (.int .u8 0)]]
def laid_strconv_ErrRange {H : Type} : DataW H := .iface "*errors.errorString" (.ptr (.agg [.lit (.string [118, 97, 108, 117, 101, 32, 111, 117, 116, 32, 111, 102, 32, 114, 97, 110, 103, 101])]))
def laid_strconv_ErrSyntax {H : Type} : DataW H := .iface "*errors.errorString" (.ptr (.agg [.lit (.string [105, 110, 118, 97, 108, 105, 100, 32, 115, 121, 110, 116, 97, 120])]))
def laid_chisel_time_lengths {H : Type} : DataW H := .agg [.lit (.int .i64 31), .lit (.int .i64 28), .lit (.int .i64 31), .lit (.int .i64 30), .lit (.int .i64 31), .lit (.int .i64 30), .lit (.int .i64 31), .lit (.int .i64 31), .lit (.int .i64 30), .lit (.int .i64 31), .lit (.int .i64 30), .lit (.int .i64 31)]
/-- One of Go's own tables, pinned by name: the form's constant. -/
def laid_unicode_utf8_first : DataW Unit := Go.Pinned.utf8First

/-- 'chisellaw07.TimeParses': WHATEVER THE INPUT: true; the input reads as it did. -/
def timeParsesSpec : ChangeSpec := { name := "timeParses", fn := fun _ => fun
  | [d1, d2] => { results := [.lit (.bool true)], args := [d1, d2] }
  | _ => none }
def timeParsesRow : OpenClaim := { program := "ytgobpoeccdgeiaagreatdoor", sum := "e53fe6c3ae86e91e04b02ec020f0a656197b57c85e9972074eb6a6d79e2de349", func := "chisel/chisellaw07.TimeParses", spec := "timeParses", inPlace := ["internal/bytealg.IndexByteString", "internal/bytealg.IndexString", "internal/abi.NoEscape", "internal/bytealg.MakeNoZero"], unfollowed := true, recurses := true, named := ["internal/strconv.uint64pow10", "math/bits.deBruijn32tab", "math/bits.deBruijn64tab", "internal/bytealg.MaxLen", "unicode/utf8.first", "unicode/utf8.acceptRanges", "chisel/time.lengths", "strconv.ErrSyntax", "strconv.ErrRange"], apart := false, laid := [("math/bits.deBruijn32tab", laid_math_bits_deBruijn32tab), ("math/bits.deBruijn64tab", laid_math_bits_deBruijn64tab), ("internal/strconv.uint64pow10", laid_internal_strconv_uint64pow10), ("unicode/utf8.acceptRanges", laid_unicode_utf8_acceptRanges), ("strconv.ErrRange", laid_strconv_ErrRange), ("strconv.ErrSyntax", laid_strconv_ErrSyntax), ("chisel/time.lengths", laid_chisel_time_lengths), ("unicode/utf8.first", laid_unicode_utf8_first)] }
def TimeParsesSaid : Prop := timeParsesRow.holds Tryz.pinned (OpenSpec.ofChange timeParsesSpec)

/-- ITS FALSE NEIGHBOUR: 'it returns false'. Refute it at one input. -/
def timeParsesWrong : ChangeSpec := { name := "timeParses", fn := fun _ => fun
  | [d1, d2] => { results := [.lit (.bool false)], args := [d1, d2] }
  | _ => none }
def TimeParsesWrongFalsely : Prop := timeParsesRow.holds Tryz.pinned (OpenSpec.ofChange timeParsesWrong)

/-- 'chisellaw07.TimeBack': WHATEVER THE INPUT: true; the input reads as it did. -/
def timeBackSpec : ChangeSpec := { name := "timeBack", fn := fun _ => fun
  | [d1, d2, d3] => { results := [.lit (.bool true)], args := [d1, d2, d3] }
  | _ => none }
def timeBackRow : OpenClaim := { program := "ytgobpoeccdgeiaagreatdoor", sum := "e53fe6c3ae86e91e04b02ec020f0a656197b57c85e9972074eb6a6d79e2de349", func := "chisel/chisellaw07.TimeBack", spec := "timeBack", inPlace := ["internal/bytealg.IndexByteString", "internal/bytealg.IndexString", "internal/abi.NoEscape", "internal/bytealg.MakeNoZero"], unfollowed := true, recurses := true, named := ["internal/strconv.uint64pow10", "math/bits.deBruijn32tab", "math/bits.deBruijn64tab", "internal/bytealg.MaxLen", "unicode/utf8.first", "unicode/utf8.acceptRanges", "chisel/time.lengths", "strconv.ErrSyntax", "strconv.ErrRange"], apart := false, laid := [("math/bits.deBruijn32tab", laid_math_bits_deBruijn32tab), ("math/bits.deBruijn64tab", laid_math_bits_deBruijn64tab), ("internal/strconv.uint64pow10", laid_internal_strconv_uint64pow10), ("unicode/utf8.acceptRanges", laid_unicode_utf8_acceptRanges), ("strconv.ErrRange", laid_strconv_ErrRange), ("strconv.ErrSyntax", laid_strconv_ErrSyntax), ("chisel/time.lengths", laid_chisel_time_lengths), ("unicode/utf8.first", laid_unicode_utf8_first)] }
def TimeBackSaid : Prop := timeBackRow.holds Tryz.pinned (OpenSpec.ofChange timeBackSpec)

/-- ITS FALSE NEIGHBOUR: 'it returns false'. Refute it at one input. -/
def timeBackWrong : ChangeSpec := { name := "timeBack", fn := fun _ => fun
  | [d1, d2, d3] => { results := [.lit (.bool false)], args := [d1, d2, d3] }
  | _ => none }
def TimeBackWrongFalsely : Prop := timeBackRow.holds Tryz.pinned (OpenSpec.ofChange timeBackWrong)

/-- 'chisellaw07.TimeTexts': WHATEVER THE INPUT: true; the input reads as it did. -/
def timeTextsSpec : ChangeSpec := { name := "timeTexts", fn := fun _ => fun
  | [d1, d2] => { results := [.lit (.bool true)], args := [d1, d2] }
  | _ => none }
def timeTextsRow : OpenClaim := { program := "ytgobpoeccdgeiaagreatdoor", sum := "e53fe6c3ae86e91e04b02ec020f0a656197b57c85e9972074eb6a6d79e2de349", func := "chisel/chisellaw07.TimeTexts", spec := "timeTexts", inPlace := ["internal/bytealg.IndexByteString", "internal/bytealg.IndexString", "internal/abi.NoEscape", "internal/bytealg.MakeNoZero"], unfollowed := true, recurses := true, named := ["internal/strconv.uint64pow10", "math/bits.deBruijn32tab", "math/bits.deBruijn64tab", "internal/bytealg.MaxLen", "unicode/utf8.first", "unicode/utf8.acceptRanges", "chisel/time.lengths", "strconv.ErrSyntax", "strconv.ErrRange"], apart := false, laid := [("math/bits.deBruijn32tab", laid_math_bits_deBruijn32tab), ("math/bits.deBruijn64tab", laid_math_bits_deBruijn64tab), ("internal/strconv.uint64pow10", laid_internal_strconv_uint64pow10), ("unicode/utf8.acceptRanges", laid_unicode_utf8_acceptRanges), ("strconv.ErrRange", laid_strconv_ErrRange), ("strconv.ErrSyntax", laid_strconv_ErrSyntax), ("chisel/time.lengths", laid_chisel_time_lengths), ("unicode/utf8.first", laid_unicode_utf8_first)] }
def TimeTextsSaid : Prop := timeTextsRow.holds Tryz.pinned (OpenSpec.ofChange timeTextsSpec)

/-- ITS FALSE NEIGHBOUR: 'it returns false'. Refute it at one input. -/
def timeTextsWrong : ChangeSpec := { name := "timeTexts", fn := fun _ => fun
  | [d1, d2] => { results := [.lit (.bool false)], args := [d1, d2] }
  | _ => none }
def TimeTextsWrongFalsely : Prop := timeTextsRow.holds Tryz.pinned (OpenSpec.ofChange timeTextsWrong)

/-- 'chisellaw07.TimeMonths': WHATEVER THE INPUT: true; the input reads as it did. -/
def timeMonthsSpec : ChangeSpec := { name := "timeMonths", fn := fun _ => fun
  | [d1, d2] => { results := [.lit (.bool true)], args := [d1, d2] }
  | _ => none }
def timeMonthsRow : OpenClaim := { program := "ytgobpoeccdgeiaagreatdoor", sum := "e53fe6c3ae86e91e04b02ec020f0a656197b57c85e9972074eb6a6d79e2de349", func := "chisel/chisellaw07.TimeMonths", spec := "timeMonths", inPlace := ["internal/bytealg.IndexByteString", "internal/bytealg.IndexString", "internal/abi.NoEscape", "internal/bytealg.MakeNoZero"], unfollowed := true, recurses := true, named := ["internal/strconv.uint64pow10", "math/bits.deBruijn32tab", "math/bits.deBruijn64tab", "internal/bytealg.MaxLen", "unicode/utf8.first", "unicode/utf8.acceptRanges", "chisel/time.lengths", "strconv.ErrSyntax", "strconv.ErrRange"], apart := false, laid := [("math/bits.deBruijn32tab", laid_math_bits_deBruijn32tab), ("math/bits.deBruijn64tab", laid_math_bits_deBruijn64tab), ("internal/strconv.uint64pow10", laid_internal_strconv_uint64pow10), ("unicode/utf8.acceptRanges", laid_unicode_utf8_acceptRanges), ("strconv.ErrRange", laid_strconv_ErrRange), ("strconv.ErrSyntax", laid_strconv_ErrSyntax), ("chisel/time.lengths", laid_chisel_time_lengths), ("unicode/utf8.first", laid_unicode_utf8_first)] }
def TimeMonthsSaid : Prop := timeMonthsRow.holds Tryz.pinned (OpenSpec.ofChange timeMonthsSpec)

/-- ITS FALSE NEIGHBOUR: 'it returns false'. Refute it at one input. -/
def timeMonthsWrong : ChangeSpec := { name := "timeMonths", fn := fun _ => fun
  | [d1, d2] => { results := [.lit (.bool false)], args := [d1, d2] }
  | _ => none }
def TimeMonthsWrongFalsely : Prop := timeMonthsRow.holds Tryz.pinned (OpenSpec.ofChange timeMonthsWrong)

/-- 'chisellaw07.TimeAdjusts': WHATEVER THE INPUT: true; the input reads as it did. -/
def timeAdjustsSpec : ChangeSpec := { name := "timeAdjusts", fn := fun _ => fun
  | [d1, d2, d3] => { results := [.lit (.bool true)], args := [d1, d2, d3] }
  | _ => none }
def timeAdjustsRow : OpenClaim := { program := "ytgobpoeccdgeiaagreatdoor", sum := "e53fe6c3ae86e91e04b02ec020f0a656197b57c85e9972074eb6a6d79e2de349", func := "chisel/chisellaw07.TimeAdjusts", spec := "timeAdjusts", inPlace := ["internal/bytealg.IndexByteString", "internal/bytealg.IndexString", "internal/abi.NoEscape", "internal/bytealg.MakeNoZero"], unfollowed := true, recurses := true, named := ["internal/strconv.uint64pow10", "math/bits.deBruijn32tab", "math/bits.deBruijn64tab", "internal/bytealg.MaxLen", "unicode/utf8.first", "unicode/utf8.acceptRanges", "chisel/time.lengths", "strconv.ErrSyntax", "strconv.ErrRange"], apart := false, laid := [("math/bits.deBruijn32tab", laid_math_bits_deBruijn32tab), ("math/bits.deBruijn64tab", laid_math_bits_deBruijn64tab), ("internal/strconv.uint64pow10", laid_internal_strconv_uint64pow10), ("unicode/utf8.acceptRanges", laid_unicode_utf8_acceptRanges), ("strconv.ErrRange", laid_strconv_ErrRange), ("strconv.ErrSyntax", laid_strconv_ErrSyntax), ("chisel/time.lengths", laid_chisel_time_lengths), ("unicode/utf8.first", laid_unicode_utf8_first)] }
def TimeAdjustsSaid : Prop := timeAdjustsRow.holds Tryz.pinned (OpenSpec.ofChange timeAdjustsSpec)

/-- ITS FALSE NEIGHBOUR: 'it returns false'. Refute it at one input. -/
def timeAdjustsWrong : ChangeSpec := { name := "timeAdjusts", fn := fun _ => fun
  | [d1, d2, d3] => { results := [.lit (.bool false)], args := [d1, d2, d3] }
  | _ => none }
def TimeAdjustsWrongFalsely : Prop := timeAdjustsRow.holds Tryz.pinned (OpenSpec.ofChange timeAdjustsWrong)

/-- 'chisellaw07.TimeZones': WHATEVER THE INPUT: true; the input reads as it did. -/
def timeZonesSpec : ChangeSpec := { name := "timeZones", fn := fun _ => fun
  | [d1, d2] => { results := [.lit (.bool true)], args := [d1, d2] }
  | _ => none }
def timeZonesRow : OpenClaim := { program := "ytgobpoeccdgeiaagreatdoor", sum := "e53fe6c3ae86e91e04b02ec020f0a656197b57c85e9972074eb6a6d79e2de349", func := "chisel/chisellaw07.TimeZones", spec := "timeZones", inPlace := ["internal/bytealg.IndexByteString", "internal/bytealg.IndexString", "internal/abi.NoEscape", "internal/bytealg.MakeNoZero"], unfollowed := true, recurses := true, named := ["internal/strconv.uint64pow10", "math/bits.deBruijn32tab", "math/bits.deBruijn64tab", "internal/bytealg.MaxLen", "unicode/utf8.first", "unicode/utf8.acceptRanges", "chisel/time.lengths", "strconv.ErrSyntax", "strconv.ErrRange"], apart := false, laid := [("math/bits.deBruijn32tab", laid_math_bits_deBruijn32tab), ("math/bits.deBruijn64tab", laid_math_bits_deBruijn64tab), ("internal/strconv.uint64pow10", laid_internal_strconv_uint64pow10), ("unicode/utf8.acceptRanges", laid_unicode_utf8_acceptRanges), ("strconv.ErrRange", laid_strconv_ErrRange), ("strconv.ErrSyntax", laid_strconv_ErrSyntax), ("chisel/time.lengths", laid_chisel_time_lengths), ("unicode/utf8.first", laid_unicode_utf8_first)] }
def TimeZonesSaid : Prop := timeZonesRow.holds Tryz.pinned (OpenSpec.ofChange timeZonesSpec)

/-- ITS FALSE NEIGHBOUR: 'it returns false'. Refute it at one input. -/
def timeZonesWrong : ChangeSpec := { name := "timeZones", fn := fun _ => fun
  | [d1, d2] => { results := [.lit (.bool false)], args := [d1, d2] }
  | _ => none }
def TimeZonesWrongFalsely : Prop := timeZonesRow.holds Tryz.pinned (OpenSpec.ofChange timeZonesWrong)

/-- 'chisellaw07.TimeAdds': WHATEVER THE INPUT: true; the input reads as it did. -/
def timeAddsSpec : ChangeSpec := { name := "timeAdds", fn := fun _ => fun
  | [d1, d2, d3] => { results := [.lit (.bool true)], args := [d1, d2, d3] }
  | _ => none }
def timeAddsRow : OpenClaim := { program := "ytgobpoeccdgeiaagreatdoor", sum := "e53fe6c3ae86e91e04b02ec020f0a656197b57c85e9972074eb6a6d79e2de349", func := "chisel/chisellaw07.TimeAdds", spec := "timeAdds", inPlace := ["internal/bytealg.IndexByteString", "internal/bytealg.IndexString", "internal/abi.NoEscape", "internal/bytealg.MakeNoZero"], unfollowed := true, recurses := true, named := ["internal/strconv.uint64pow10", "math/bits.deBruijn32tab", "math/bits.deBruijn64tab", "internal/bytealg.MaxLen", "unicode/utf8.first", "unicode/utf8.acceptRanges", "chisel/time.lengths", "strconv.ErrSyntax", "strconv.ErrRange"], apart := false, laid := [("math/bits.deBruijn32tab", laid_math_bits_deBruijn32tab), ("math/bits.deBruijn64tab", laid_math_bits_deBruijn64tab), ("internal/strconv.uint64pow10", laid_internal_strconv_uint64pow10), ("unicode/utf8.acceptRanges", laid_unicode_utf8_acceptRanges), ("strconv.ErrRange", laid_strconv_ErrRange), ("strconv.ErrSyntax", laid_strconv_ErrSyntax), ("chisel/time.lengths", laid_chisel_time_lengths), ("unicode/utf8.first", laid_unicode_utf8_first)] }
def TimeAddsSaid : Prop := timeAddsRow.holds Tryz.pinned (OpenSpec.ofChange timeAddsSpec)

/-- ITS FALSE NEIGHBOUR: 'it returns false'. Refute it at one input. -/
def timeAddsWrong : ChangeSpec := { name := "timeAdds", fn := fun _ => fun
  | [d1, d2, d3] => { results := [.lit (.bool false)], args := [d1, d2, d3] }
  | _ => none }
def TimeAddsWrongFalsely : Prop := timeAddsRow.holds Tryz.pinned (OpenSpec.ofChange timeAddsWrong)

/-- 'chisellaw07.TimeDays': WHATEVER THE INPUT: true; the input reads as it did. -/
def timeDaysSpec : ChangeSpec := { name := "timeDays", fn := fun _ => fun
  | [d] => { results := [.lit (.bool true)], args := [d] }
  | _ => none }
def timeDaysRow : OpenClaim := { program := "ytgobpoeccdgeiaagreatdoor", sum := "e53fe6c3ae86e91e04b02ec020f0a656197b57c85e9972074eb6a6d79e2de349", func := "chisel/chisellaw07.TimeDays", spec := "timeDays", inPlace := ["internal/bytealg.IndexByteString", "internal/bytealg.IndexString", "internal/abi.NoEscape", "internal/bytealg.MakeNoZero"], unfollowed := true, recurses := true, named := ["internal/strconv.uint64pow10", "math/bits.deBruijn32tab", "math/bits.deBruijn64tab", "internal/bytealg.MaxLen", "unicode/utf8.first", "unicode/utf8.acceptRanges", "chisel/time.lengths", "strconv.ErrSyntax", "strconv.ErrRange"], apart := false, laid := [("math/bits.deBruijn32tab", laid_math_bits_deBruijn32tab), ("math/bits.deBruijn64tab", laid_math_bits_deBruijn64tab), ("internal/strconv.uint64pow10", laid_internal_strconv_uint64pow10), ("unicode/utf8.acceptRanges", laid_unicode_utf8_acceptRanges), ("strconv.ErrRange", laid_strconv_ErrRange), ("strconv.ErrSyntax", laid_strconv_ErrSyntax), ("chisel/time.lengths", laid_chisel_time_lengths), ("unicode/utf8.first", laid_unicode_utf8_first)] }
def TimeDaysSaid : Prop := timeDaysRow.holds Tryz.pinned (OpenSpec.ofChange timeDaysSpec)

/-- ITS FALSE NEIGHBOUR: 'it returns false'. Refute it at one input. -/
def timeDaysWrong : ChangeSpec := { name := "timeDays", fn := fun _ => fun
  | [d] => { results := [.lit (.bool false)], args := [d] }
  | _ => none }
def TimeDaysWrongFalsely : Prop := timeDaysRow.holds Tryz.pinned (OpenSpec.ofChange timeDaysWrong)

/-- 'chisellaw07.TimeOrder': WHATEVER THE INPUT: true; the input reads as it did. -/
def timeOrderSpec : ChangeSpec := { name := "timeOrder", fn := fun _ => fun
  | [d1, d2] => { results := [.lit (.bool true)], args := [d1, d2] }
  | _ => none }
def timeOrderRow : OpenClaim := { program := "ytgobpoeccdgeiaagreatdoor", sum := "e53fe6c3ae86e91e04b02ec020f0a656197b57c85e9972074eb6a6d79e2de349", func := "chisel/chisellaw07.TimeOrder", spec := "timeOrder", inPlace := ["internal/bytealg.IndexByteString", "internal/bytealg.IndexString", "internal/abi.NoEscape", "internal/bytealg.MakeNoZero"], unfollowed := true, recurses := true, named := ["internal/strconv.uint64pow10", "math/bits.deBruijn32tab", "math/bits.deBruijn64tab", "internal/bytealg.MaxLen", "unicode/utf8.first", "unicode/utf8.acceptRanges", "chisel/time.lengths", "strconv.ErrSyntax", "strconv.ErrRange"], apart := false, laid := [("math/bits.deBruijn32tab", laid_math_bits_deBruijn32tab), ("math/bits.deBruijn64tab", laid_math_bits_deBruijn64tab), ("internal/strconv.uint64pow10", laid_internal_strconv_uint64pow10), ("unicode/utf8.acceptRanges", laid_unicode_utf8_acceptRanges), ("strconv.ErrRange", laid_strconv_ErrRange), ("strconv.ErrSyntax", laid_strconv_ErrSyntax), ("chisel/time.lengths", laid_chisel_time_lengths), ("unicode/utf8.first", laid_unicode_utf8_first)] }
def TimeOrderSaid : Prop := timeOrderRow.holds Tryz.pinned (OpenSpec.ofChange timeOrderSpec)

/-- ITS FALSE NEIGHBOUR: 'it returns false'. Refute it at one input. -/
def timeOrderWrong : ChangeSpec := { name := "timeOrder", fn := fun _ => fun
  | [d1, d2] => { results := [.lit (.bool false)], args := [d1, d2] }
  | _ => none }
def TimeOrderWrongFalsely : Prop := timeOrderRow.holds Tryz.pinned (OpenSpec.ofChange timeOrderWrong)

/-- 'chisellaw07.TimeKnown': WHATEVER THE INPUT: true; the input reads as it did. -/
def timeKnownSpec : ChangeSpec := { name := "timeKnown", fn := fun _ => fun
  | [] => { results := [.lit (.bool true)], args := [] }
  | _ => none }
def timeKnownRow : OpenClaim := { program := "ytgobpoeccdgeiaagreatdoor", sum := "e53fe6c3ae86e91e04b02ec020f0a656197b57c85e9972074eb6a6d79e2de349", func := "chisel/chisellaw07.TimeKnown", spec := "timeKnown", inPlace := ["internal/bytealg.IndexByteString", "internal/bytealg.IndexString", "internal/abi.NoEscape", "internal/bytealg.MakeNoZero"], unfollowed := true, recurses := true, named := ["internal/strconv.uint64pow10", "math/bits.deBruijn32tab", "math/bits.deBruijn64tab", "internal/bytealg.MaxLen", "unicode/utf8.first", "unicode/utf8.acceptRanges", "chisel/time.lengths", "strconv.ErrSyntax", "strconv.ErrRange"], apart := false, laid := [("math/bits.deBruijn32tab", laid_math_bits_deBruijn32tab), ("math/bits.deBruijn64tab", laid_math_bits_deBruijn64tab), ("internal/strconv.uint64pow10", laid_internal_strconv_uint64pow10), ("unicode/utf8.acceptRanges", laid_unicode_utf8_acceptRanges), ("strconv.ErrRange", laid_strconv_ErrRange), ("strconv.ErrSyntax", laid_strconv_ErrSyntax), ("chisel/time.lengths", laid_chisel_time_lengths), ("unicode/utf8.first", laid_unicode_utf8_first)] }
def TimeKnownSaid : Prop := timeKnownRow.holds Tryz.pinned (OpenSpec.ofChange timeKnownSpec)

/-- ITS FALSE NEIGHBOUR: 'it returns false'. Refute it at one input. -/
def timeKnownWrong : ChangeSpec := { name := "timeKnown", fn := fun _ => fun
  | [] => { results := [.lit (.bool false)], args := [] }
  | _ => none }
def TimeKnownWrongFalsely : Prop := timeKnownRow.holds Tryz.pinned (OpenSpec.ofChange timeKnownWrong)

/-- 'chisellaw07.TimeSums': WHATEVER THE INPUT: true; the input reads as it did. -/
def timeSumsSpec : ChangeSpec := { name := "timeSums", fn := fun _ => fun
  | [d1, d2] => { results := [.lit (.bool true)], args := [d1, d2] }
  | _ => none }
def timeSumsRow : OpenClaim := { program := "ytgobpoeccdgeiaagreatdoor", sum := "e53fe6c3ae86e91e04b02ec020f0a656197b57c85e9972074eb6a6d79e2de349", func := "chisel/chisellaw07.TimeSums", spec := "timeSums", inPlace := ["internal/bytealg.IndexByteString", "internal/bytealg.IndexString", "internal/abi.NoEscape", "internal/bytealg.MakeNoZero"], unfollowed := true, recurses := true, named := ["internal/strconv.uint64pow10", "math/bits.deBruijn32tab", "math/bits.deBruijn64tab", "internal/bytealg.MaxLen", "unicode/utf8.first", "unicode/utf8.acceptRanges", "chisel/time.lengths", "strconv.ErrSyntax", "strconv.ErrRange"], apart := false, laid := [("math/bits.deBruijn32tab", laid_math_bits_deBruijn32tab), ("math/bits.deBruijn64tab", laid_math_bits_deBruijn64tab), ("internal/strconv.uint64pow10", laid_internal_strconv_uint64pow10), ("unicode/utf8.acceptRanges", laid_unicode_utf8_acceptRanges), ("strconv.ErrRange", laid_strconv_ErrRange), ("strconv.ErrSyntax", laid_strconv_ErrSyntax), ("chisel/time.lengths", laid_chisel_time_lengths), ("unicode/utf8.first", laid_unicode_utf8_first)] }
def TimeSumsSaid : Prop := timeSumsRow.holds Tryz.pinned (OpenSpec.ofChange timeSumsSpec)

/-- ITS FALSE NEIGHBOUR: 'it returns false'. Refute it at one input. -/
def timeSumsWrong : ChangeSpec := { name := "timeSums", fn := fun _ => fun
  | [d1, d2] => { results := [.lit (.bool false)], args := [d1, d2] }
  | _ => none }
def TimeSumsWrongFalsely : Prop := timeSumsRow.holds Tryz.pinned (OpenSpec.ofChange timeSumsWrong)

/- THE SECOND FORM. 'bulk': how many values and letters a reading holds, each counted each time it is reached (what is shared counts as often as it is met; a slice's spare places count too). A statement '..UptoSaid' is the law's where the arguments, and the package variables that the reading takes, are together of bulk at most 1048576: NARROWER than '..Said'. Prove '..Said' where nothing that the law and all that it calls make is longer than what came in: it says more and counts as full. Else prove '..UptoSaid'. A law counts once. -/
mutual
def uptoBulk {H : Type} : DataW H → Nat
  | .lit (.string bytes) => bytes.length + 1
  | .lit _ => 1
  | .nil => 1
  | .ptr d => uptoBulk d + 1
  | .slice elems spare => uptoBulkAll elems + uptoBulkAll spare + 1
  | .agg parts => uptoBulkAll parts + 1
  | .iface _ d => uptoBulk d + 1
  | .map entries => uptoBulkEntries entries + 1
  | .held _ => 1
def uptoBulkAll {H : Type} : List (DataW H) → Nat
  | [] => 0
  | d :: r => uptoBulk d + uptoBulkAll r
def uptoBulkEntries {H : Type} : List (Lit × DataW H) → Nat
  | [] => 0
  | x :: r => uptoBulkEntry x + uptoBulkEntries r
def uptoBulkEntry {H : Type} : Lit × DataW H → Nat
  | (.string bytes, d) => bytes.length + uptoBulk d + 1
  | (_, d) => uptoBulk d + 1
 end
def uptoSmall : (H : Type) → List (DataW H) → Bool := fun _ ds => decide (uptoBulkAll ds ≤ 1048576)
def OpenSpec.upto (s : _root_.Go.ChangeSpec) : _root_.Go.OpenSpec := { _root_.Go.OpenSpec.ofChange s with cond := some uptoSmall }

/-- 'chisellaw07.TimeParses', WHERE WHAT IT READS IS OF BULK AT MOST 1048576: true; the input reads as it did. -/
def timeParsesUptoRow : OpenClaim := { program := "ytgobpoeccdgeiaagreatdoor", sum := "e53fe6c3ae86e91e04b02ec020f0a656197b57c85e9972074eb6a6d79e2de349", func := "chisel/chisellaw07.TimeParses", spec := "timeParses", inPlace := ["internal/bytealg.IndexByteString", "internal/bytealg.IndexString", "internal/abi.NoEscape", "internal/bytealg.MakeNoZero"], unfollowed := true, recurses := true, named := ["internal/strconv.uint64pow10", "math/bits.deBruijn32tab", "math/bits.deBruijn64tab", "internal/bytealg.MaxLen", "unicode/utf8.first", "unicode/utf8.acceptRanges", "chisel/time.lengths", "strconv.ErrSyntax", "strconv.ErrRange"], apart := false, laid := [("math/bits.deBruijn32tab", laid_math_bits_deBruijn32tab), ("math/bits.deBruijn64tab", laid_math_bits_deBruijn64tab), ("internal/strconv.uint64pow10", laid_internal_strconv_uint64pow10), ("unicode/utf8.acceptRanges", laid_unicode_utf8_acceptRanges), ("strconv.ErrRange", laid_strconv_ErrRange), ("strconv.ErrSyntax", laid_strconv_ErrSyntax), ("chisel/time.lengths", laid_chisel_time_lengths), ("unicode/utf8.first", laid_unicode_utf8_first)], narrowed := true }
def TimeParsesUptoSaid : Prop := timeParsesUptoRow.holds Tryz.pinned (OpenSpec.upto timeParsesSpec)

/-- 'chisellaw07.TimeBack', WHERE WHAT IT READS IS OF BULK AT MOST 1048576: true; the input reads as it did. -/
def timeBackUptoRow : OpenClaim := { program := "ytgobpoeccdgeiaagreatdoor", sum := "e53fe6c3ae86e91e04b02ec020f0a656197b57c85e9972074eb6a6d79e2de349", func := "chisel/chisellaw07.TimeBack", spec := "timeBack", inPlace := ["internal/bytealg.IndexByteString", "internal/bytealg.IndexString", "internal/abi.NoEscape", "internal/bytealg.MakeNoZero"], unfollowed := true, recurses := true, named := ["internal/strconv.uint64pow10", "math/bits.deBruijn32tab", "math/bits.deBruijn64tab", "internal/bytealg.MaxLen", "unicode/utf8.first", "unicode/utf8.acceptRanges", "chisel/time.lengths", "strconv.ErrSyntax", "strconv.ErrRange"], apart := false, laid := [("math/bits.deBruijn32tab", laid_math_bits_deBruijn32tab), ("math/bits.deBruijn64tab", laid_math_bits_deBruijn64tab), ("internal/strconv.uint64pow10", laid_internal_strconv_uint64pow10), ("unicode/utf8.acceptRanges", laid_unicode_utf8_acceptRanges), ("strconv.ErrRange", laid_strconv_ErrRange), ("strconv.ErrSyntax", laid_strconv_ErrSyntax), ("chisel/time.lengths", laid_chisel_time_lengths), ("unicode/utf8.first", laid_unicode_utf8_first)], narrowed := true }
def TimeBackUptoSaid : Prop := timeBackUptoRow.holds Tryz.pinned (OpenSpec.upto timeBackSpec)

/-- 'chisellaw07.TimeTexts', WHERE WHAT IT READS IS OF BULK AT MOST 1048576: true; the input reads as it did. -/
def timeTextsUptoRow : OpenClaim := { program := "ytgobpoeccdgeiaagreatdoor", sum := "e53fe6c3ae86e91e04b02ec020f0a656197b57c85e9972074eb6a6d79e2de349", func := "chisel/chisellaw07.TimeTexts", spec := "timeTexts", inPlace := ["internal/bytealg.IndexByteString", "internal/bytealg.IndexString", "internal/abi.NoEscape", "internal/bytealg.MakeNoZero"], unfollowed := true, recurses := true, named := ["internal/strconv.uint64pow10", "math/bits.deBruijn32tab", "math/bits.deBruijn64tab", "internal/bytealg.MaxLen", "unicode/utf8.first", "unicode/utf8.acceptRanges", "chisel/time.lengths", "strconv.ErrSyntax", "strconv.ErrRange"], apart := false, laid := [("math/bits.deBruijn32tab", laid_math_bits_deBruijn32tab), ("math/bits.deBruijn64tab", laid_math_bits_deBruijn64tab), ("internal/strconv.uint64pow10", laid_internal_strconv_uint64pow10), ("unicode/utf8.acceptRanges", laid_unicode_utf8_acceptRanges), ("strconv.ErrRange", laid_strconv_ErrRange), ("strconv.ErrSyntax", laid_strconv_ErrSyntax), ("chisel/time.lengths", laid_chisel_time_lengths), ("unicode/utf8.first", laid_unicode_utf8_first)], narrowed := true }
def TimeTextsUptoSaid : Prop := timeTextsUptoRow.holds Tryz.pinned (OpenSpec.upto timeTextsSpec)

/-- 'chisellaw07.TimeMonths', WHERE WHAT IT READS IS OF BULK AT MOST 1048576: true; the input reads as it did. -/
def timeMonthsUptoRow : OpenClaim := { program := "ytgobpoeccdgeiaagreatdoor", sum := "e53fe6c3ae86e91e04b02ec020f0a656197b57c85e9972074eb6a6d79e2de349", func := "chisel/chisellaw07.TimeMonths", spec := "timeMonths", inPlace := ["internal/bytealg.IndexByteString", "internal/bytealg.IndexString", "internal/abi.NoEscape", "internal/bytealg.MakeNoZero"], unfollowed := true, recurses := true, named := ["internal/strconv.uint64pow10", "math/bits.deBruijn32tab", "math/bits.deBruijn64tab", "internal/bytealg.MaxLen", "unicode/utf8.first", "unicode/utf8.acceptRanges", "chisel/time.lengths", "strconv.ErrSyntax", "strconv.ErrRange"], apart := false, laid := [("math/bits.deBruijn32tab", laid_math_bits_deBruijn32tab), ("math/bits.deBruijn64tab", laid_math_bits_deBruijn64tab), ("internal/strconv.uint64pow10", laid_internal_strconv_uint64pow10), ("unicode/utf8.acceptRanges", laid_unicode_utf8_acceptRanges), ("strconv.ErrRange", laid_strconv_ErrRange), ("strconv.ErrSyntax", laid_strconv_ErrSyntax), ("chisel/time.lengths", laid_chisel_time_lengths), ("unicode/utf8.first", laid_unicode_utf8_first)], narrowed := true }
def TimeMonthsUptoSaid : Prop := timeMonthsUptoRow.holds Tryz.pinned (OpenSpec.upto timeMonthsSpec)

/-- 'chisellaw07.TimeAdjusts', WHERE WHAT IT READS IS OF BULK AT MOST 1048576: true; the input reads as it did. -/
def timeAdjustsUptoRow : OpenClaim := { program := "ytgobpoeccdgeiaagreatdoor", sum := "e53fe6c3ae86e91e04b02ec020f0a656197b57c85e9972074eb6a6d79e2de349", func := "chisel/chisellaw07.TimeAdjusts", spec := "timeAdjusts", inPlace := ["internal/bytealg.IndexByteString", "internal/bytealg.IndexString", "internal/abi.NoEscape", "internal/bytealg.MakeNoZero"], unfollowed := true, recurses := true, named := ["internal/strconv.uint64pow10", "math/bits.deBruijn32tab", "math/bits.deBruijn64tab", "internal/bytealg.MaxLen", "unicode/utf8.first", "unicode/utf8.acceptRanges", "chisel/time.lengths", "strconv.ErrSyntax", "strconv.ErrRange"], apart := false, laid := [("math/bits.deBruijn32tab", laid_math_bits_deBruijn32tab), ("math/bits.deBruijn64tab", laid_math_bits_deBruijn64tab), ("internal/strconv.uint64pow10", laid_internal_strconv_uint64pow10), ("unicode/utf8.acceptRanges", laid_unicode_utf8_acceptRanges), ("strconv.ErrRange", laid_strconv_ErrRange), ("strconv.ErrSyntax", laid_strconv_ErrSyntax), ("chisel/time.lengths", laid_chisel_time_lengths), ("unicode/utf8.first", laid_unicode_utf8_first)], narrowed := true }
def TimeAdjustsUptoSaid : Prop := timeAdjustsUptoRow.holds Tryz.pinned (OpenSpec.upto timeAdjustsSpec)

/-- 'chisellaw07.TimeZones', WHERE WHAT IT READS IS OF BULK AT MOST 1048576: true; the input reads as it did. -/
def timeZonesUptoRow : OpenClaim := { program := "ytgobpoeccdgeiaagreatdoor", sum := "e53fe6c3ae86e91e04b02ec020f0a656197b57c85e9972074eb6a6d79e2de349", func := "chisel/chisellaw07.TimeZones", spec := "timeZones", inPlace := ["internal/bytealg.IndexByteString", "internal/bytealg.IndexString", "internal/abi.NoEscape", "internal/bytealg.MakeNoZero"], unfollowed := true, recurses := true, named := ["internal/strconv.uint64pow10", "math/bits.deBruijn32tab", "math/bits.deBruijn64tab", "internal/bytealg.MaxLen", "unicode/utf8.first", "unicode/utf8.acceptRanges", "chisel/time.lengths", "strconv.ErrSyntax", "strconv.ErrRange"], apart := false, laid := [("math/bits.deBruijn32tab", laid_math_bits_deBruijn32tab), ("math/bits.deBruijn64tab", laid_math_bits_deBruijn64tab), ("internal/strconv.uint64pow10", laid_internal_strconv_uint64pow10), ("unicode/utf8.acceptRanges", laid_unicode_utf8_acceptRanges), ("strconv.ErrRange", laid_strconv_ErrRange), ("strconv.ErrSyntax", laid_strconv_ErrSyntax), ("chisel/time.lengths", laid_chisel_time_lengths), ("unicode/utf8.first", laid_unicode_utf8_first)], narrowed := true }
def TimeZonesUptoSaid : Prop := timeZonesUptoRow.holds Tryz.pinned (OpenSpec.upto timeZonesSpec)

/-- 'chisellaw07.TimeAdds', WHERE WHAT IT READS IS OF BULK AT MOST 1048576: true; the input reads as it did. -/
def timeAddsUptoRow : OpenClaim := { program := "ytgobpoeccdgeiaagreatdoor", sum := "e53fe6c3ae86e91e04b02ec020f0a656197b57c85e9972074eb6a6d79e2de349", func := "chisel/chisellaw07.TimeAdds", spec := "timeAdds", inPlace := ["internal/bytealg.IndexByteString", "internal/bytealg.IndexString", "internal/abi.NoEscape", "internal/bytealg.MakeNoZero"], unfollowed := true, recurses := true, named := ["internal/strconv.uint64pow10", "math/bits.deBruijn32tab", "math/bits.deBruijn64tab", "internal/bytealg.MaxLen", "unicode/utf8.first", "unicode/utf8.acceptRanges", "chisel/time.lengths", "strconv.ErrSyntax", "strconv.ErrRange"], apart := false, laid := [("math/bits.deBruijn32tab", laid_math_bits_deBruijn32tab), ("math/bits.deBruijn64tab", laid_math_bits_deBruijn64tab), ("internal/strconv.uint64pow10", laid_internal_strconv_uint64pow10), ("unicode/utf8.acceptRanges", laid_unicode_utf8_acceptRanges), ("strconv.ErrRange", laid_strconv_ErrRange), ("strconv.ErrSyntax", laid_strconv_ErrSyntax), ("chisel/time.lengths", laid_chisel_time_lengths), ("unicode/utf8.first", laid_unicode_utf8_first)], narrowed := true }
def TimeAddsUptoSaid : Prop := timeAddsUptoRow.holds Tryz.pinned (OpenSpec.upto timeAddsSpec)

/-- 'chisellaw07.TimeDays', WHERE WHAT IT READS IS OF BULK AT MOST 1048576: true; the input reads as it did. -/
def timeDaysUptoRow : OpenClaim := { program := "ytgobpoeccdgeiaagreatdoor", sum := "e53fe6c3ae86e91e04b02ec020f0a656197b57c85e9972074eb6a6d79e2de349", func := "chisel/chisellaw07.TimeDays", spec := "timeDays", inPlace := ["internal/bytealg.IndexByteString", "internal/bytealg.IndexString", "internal/abi.NoEscape", "internal/bytealg.MakeNoZero"], unfollowed := true, recurses := true, named := ["internal/strconv.uint64pow10", "math/bits.deBruijn32tab", "math/bits.deBruijn64tab", "internal/bytealg.MaxLen", "unicode/utf8.first", "unicode/utf8.acceptRanges", "chisel/time.lengths", "strconv.ErrSyntax", "strconv.ErrRange"], apart := false, laid := [("math/bits.deBruijn32tab", laid_math_bits_deBruijn32tab), ("math/bits.deBruijn64tab", laid_math_bits_deBruijn64tab), ("internal/strconv.uint64pow10", laid_internal_strconv_uint64pow10), ("unicode/utf8.acceptRanges", laid_unicode_utf8_acceptRanges), ("strconv.ErrRange", laid_strconv_ErrRange), ("strconv.ErrSyntax", laid_strconv_ErrSyntax), ("chisel/time.lengths", laid_chisel_time_lengths), ("unicode/utf8.first", laid_unicode_utf8_first)], narrowed := true }
def TimeDaysUptoSaid : Prop := timeDaysUptoRow.holds Tryz.pinned (OpenSpec.upto timeDaysSpec)

/-- 'chisellaw07.TimeOrder', WHERE WHAT IT READS IS OF BULK AT MOST 1048576: true; the input reads as it did. -/
def timeOrderUptoRow : OpenClaim := { program := "ytgobpoeccdgeiaagreatdoor", sum := "e53fe6c3ae86e91e04b02ec020f0a656197b57c85e9972074eb6a6d79e2de349", func := "chisel/chisellaw07.TimeOrder", spec := "timeOrder", inPlace := ["internal/bytealg.IndexByteString", "internal/bytealg.IndexString", "internal/abi.NoEscape", "internal/bytealg.MakeNoZero"], unfollowed := true, recurses := true, named := ["internal/strconv.uint64pow10", "math/bits.deBruijn32tab", "math/bits.deBruijn64tab", "internal/bytealg.MaxLen", "unicode/utf8.first", "unicode/utf8.acceptRanges", "chisel/time.lengths", "strconv.ErrSyntax", "strconv.ErrRange"], apart := false, laid := [("math/bits.deBruijn32tab", laid_math_bits_deBruijn32tab), ("math/bits.deBruijn64tab", laid_math_bits_deBruijn64tab), ("internal/strconv.uint64pow10", laid_internal_strconv_uint64pow10), ("unicode/utf8.acceptRanges", laid_unicode_utf8_acceptRanges), ("strconv.ErrRange", laid_strconv_ErrRange), ("strconv.ErrSyntax", laid_strconv_ErrSyntax), ("chisel/time.lengths", laid_chisel_time_lengths), ("unicode/utf8.first", laid_unicode_utf8_first)], narrowed := true }
def TimeOrderUptoSaid : Prop := timeOrderUptoRow.holds Tryz.pinned (OpenSpec.upto timeOrderSpec)

/-- 'chisellaw07.TimeKnown', WHERE WHAT IT READS IS OF BULK AT MOST 1048576: true; the input reads as it did. -/
def timeKnownUptoRow : OpenClaim := { program := "ytgobpoeccdgeiaagreatdoor", sum := "e53fe6c3ae86e91e04b02ec020f0a656197b57c85e9972074eb6a6d79e2de349", func := "chisel/chisellaw07.TimeKnown", spec := "timeKnown", inPlace := ["internal/bytealg.IndexByteString", "internal/bytealg.IndexString", "internal/abi.NoEscape", "internal/bytealg.MakeNoZero"], unfollowed := true, recurses := true, named := ["internal/strconv.uint64pow10", "math/bits.deBruijn32tab", "math/bits.deBruijn64tab", "internal/bytealg.MaxLen", "unicode/utf8.first", "unicode/utf8.acceptRanges", "chisel/time.lengths", "strconv.ErrSyntax", "strconv.ErrRange"], apart := false, laid := [("math/bits.deBruijn32tab", laid_math_bits_deBruijn32tab), ("math/bits.deBruijn64tab", laid_math_bits_deBruijn64tab), ("internal/strconv.uint64pow10", laid_internal_strconv_uint64pow10), ("unicode/utf8.acceptRanges", laid_unicode_utf8_acceptRanges), ("strconv.ErrRange", laid_strconv_ErrRange), ("strconv.ErrSyntax", laid_strconv_ErrSyntax), ("chisel/time.lengths", laid_chisel_time_lengths), ("unicode/utf8.first", laid_unicode_utf8_first)], narrowed := true }
def TimeKnownUptoSaid : Prop := timeKnownUptoRow.holds Tryz.pinned (OpenSpec.upto timeKnownSpec)

/-- 'chisellaw07.TimeSums', WHERE WHAT IT READS IS OF BULK AT MOST 1048576: true; the input reads as it did. -/
def timeSumsUptoRow : OpenClaim := { program := "ytgobpoeccdgeiaagreatdoor", sum := "e53fe6c3ae86e91e04b02ec020f0a656197b57c85e9972074eb6a6d79e2de349", func := "chisel/chisellaw07.TimeSums", spec := "timeSums", inPlace := ["internal/bytealg.IndexByteString", "internal/bytealg.IndexString", "internal/abi.NoEscape", "internal/bytealg.MakeNoZero"], unfollowed := true, recurses := true, named := ["internal/strconv.uint64pow10", "math/bits.deBruijn32tab", "math/bits.deBruijn64tab", "internal/bytealg.MaxLen", "unicode/utf8.first", "unicode/utf8.acceptRanges", "chisel/time.lengths", "strconv.ErrSyntax", "strconv.ErrRange"], apart := false, laid := [("math/bits.deBruijn32tab", laid_math_bits_deBruijn32tab), ("math/bits.deBruijn64tab", laid_math_bits_deBruijn64tab), ("internal/strconv.uint64pow10", laid_internal_strconv_uint64pow10), ("unicode/utf8.acceptRanges", laid_unicode_utf8_acceptRanges), ("strconv.ErrRange", laid_strconv_ErrRange), ("strconv.ErrSyntax", laid_strconv_ErrSyntax), ("chisel/time.lengths", laid_chisel_time_lengths), ("unicode/utf8.first", laid_unicode_utf8_first)], narrowed := true }
def TimeSumsUptoSaid : Prop := timeSumsUptoRow.holds Tryz.pinned (OpenSpec.upto timeSumsSpec)

end Rows
end Go.Proofs.YtgobpoeccdgeiaaGreatDoor
