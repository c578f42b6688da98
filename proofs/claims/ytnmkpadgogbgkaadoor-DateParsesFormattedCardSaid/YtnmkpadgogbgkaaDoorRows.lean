/-
  NARROWER THAN 'FOR EVERY INPUT', by the rows' own cells (each row's printed sentence says how): DateFormatMatchesSpec: laid · DateNumberMatchesSpec: laid · DateAddMonthsMatchesSpec: laid · DateMonthsAdd: laid · DateAtMatchesSpec: laid · DateBetweenMatchesSpec: laid · DateDaysFollow: laid · DateFromWeekMatchesSpec: laid · DateWeeksInverse: laid · DateSpansAddUp: laid · DateParseMatchesSpec: laid · DateParsesFormatted: laid.
  DERIVED. THE GIVEN ROWS OF THIS SEAT. 12 by the template 'for every input the law returns true; each argument reads behind the call as it read before'; 0 by the template 'total and deterministic' (their statements: YtnmkpadgogbgkaaDoorTotals.lean).
  GIVEN WITH THE SEED: the statements are not yours to turn. If you find one false, say at which input.
  Laid BY PROGRAM, IN A SANDBOX (cutbox-rows.mjs): the forced cells as the released guide's own fill.sh prints them over the translation 422a5dd2220329c3… (all of the seat's roots in one cut). By AI agents, Wed Nov 11 2026. No macro, syntax, notation, axiom, sorry.
-/
import Derived.Test.YtnmkpadgogbgkaaDoorChecked
import GoSem.Claim
import GoSem.ClaimJoined
import GoSem.ClaimMapViews
import Derived.JoinedTies
import Derived.KernelRfl
namespace Go.Proofs.YtnmkpadgogbgkaaDoor
/- THE CELL 'sum', in the pinned program and in every row, IS THE sha256 OF THE DUMP (.gsa) THAT YtnmkpadgogbgkaaDoorProg.lean LOADS. Nothing in Lean hashes anything: it is a label: what it is worth is what the hold of that sum in a sandbox is worth. -/
noncomputable def Tryd.pinned : Pinned := { name := "ytnmkpadgogbgkaadoor", sum := "422a5dd2220329c324fae4f8bf1f3eadc8903d929a0a1090d649e84b03aacf3c", checked := Tryd.checked }
namespace Rows
def none {H : Type} : Left H := { results := [], args := [] }

/- WHAT THE LISTED PACKAGE-LEVEL VARIABLES READ AS WHEN THE CALL BEGINS. Each datum BY PROGRAM (the guide's laid-datum.mjs) off the statement by which the dump's own 'gosem.cut.vars' lays the variable. In a bare row this is a premise. The card (YtnmkpadgogbgkaaDoorCards.lean) ties it to the program's text. -/
def laid_math_bits_deBruijn32tab {H : Type} : DataW H := .agg [.lit (.int .u8 0), .lit (.int .u8 1), .lit (.int .u8 28), .lit (.int .u8 2), .lit (.int .u8 29), .lit (.int .u8 14), .lit (.int .u8 24), .lit (.int .u8 3), .lit (.int .u8 30), .lit (.int .u8 22), .lit (.int .u8 20), .lit (.int .u8 15), .lit (.int .u8 25), .lit (.int .u8 17), .lit (.int .u8 4), .lit (.int .u8 8), .lit (.int .u8 31), .lit (.int .u8 27), .lit (.int .u8 13), .lit (.int .u8 23), .lit (.int .u8 21), .lit (.int .u8 19), .lit (.int .u8 16), .lit (.int .u8 7), .lit (.int .u8 26), .lit (.int .u8 12), .lit (.int .u8 18), .lit (.int .u8 6), .lit (.int .u8 11), .lit (.int .u8 5), .lit (.int .u8 10), .lit (.int .u8 9)]
def laid_math_bits_deBruijn64tab {H : Type} : DataW H := .agg [.lit (.int .u8 0), .lit (.int .u8 1), .lit (.int .u8 56), .lit (.int .u8 2), .lit (.int .u8 57), .lit (.int .u8 49), .lit (.int .u8 28), .lit (.int .u8 3), .lit (.int .u8 61), .lit (.int .u8 58), .lit (.int .u8 42), .lit (.int .u8 50), .lit (.int .u8 38), .lit (.int .u8 29), .lit (.int .u8 17), .lit (.int .u8 4), .lit (.int .u8 62), .lit (.int .u8 47), .lit (.int .u8 59), .lit (.int .u8 36), .lit (.int .u8 45), .lit (.int .u8 43), .lit (.int .u8 51), .lit (.int .u8 22), .lit (.int .u8 53), .lit (.int .u8 39), .lit (.int .u8 33), .lit (.int .u8 30), .lit (.int .u8 24), .lit (.int .u8 18), .lit (.int .u8 12), .lit (.int .u8 5), .lit (.int .u8 63), .lit (.int .u8 55), .lit (.int .u8 48), .lit (.int .u8 27), .lit (.int .u8 60), .lit (.int .u8 41), .lit (.int .u8 37), .lit (.int .u8 16), .lit (.int .u8 46), .lit (.int .u8 35), .lit (.int .u8 44), .lit (.int .u8 21), .lit (.int .u8 52), .lit (.int .u8 32), .lit (.int .u8 23), .lit (.int .u8 11), .lit (.int .u8 54), .lit (.int .u8 26), .lit (.int .u8 40), .lit (.int .u8 15), .lit (.int .u8 34), .lit (.int .u8 20), .lit (.int .u8 31), .lit (.int .u8 10), .lit (.int .u8 25), .lit (.int .u8 14), .lit (.int .u8 19), .lit (.int .u8 9), .lit (.int .u8 13), .lit (.int .u8 8), .lit (.int .u8 7), .lit (.int .u8 6)]
def laid_internal_strconv_uint64pow10 {H : Type} : DataW H := .agg [.lit (.int .u64 1), .lit (.int .u64 10), .lit (.int .u64 100), .lit (.int .u64 1000), .lit (.int .u64 10000), .lit (.int .u64 100000), .lit (.int .u64 1000000), .lit (.int .u64 10000000), .lit (.int .u64 100000000), .lit (.int .u64 1000000000), .lit (.int .u64 10000000000), .lit (.int .u64 100000000000), .lit (.int .u64 1000000000000), .lit (.int .u64 10000000000000), .lit (.int .u64 100000000000000), .lit (.int .u64 1000000000000000), .lit (.int .u64 10000000000000000), .lit (.int .u64 100000000000000000), .lit (.int .u64 1000000000000000000), .lit (.int .u64 10000000000000000000)]
def laid_unicode_White_Space {H : Type} : DataW H := .ptr (.agg [.slice [.agg [.lit (.int .u16 9), .lit (.int .u16 13), .lit (.int .u16 1)], .agg [.lit (.int .u16 32), .lit (.int .u16 133), .lit (.int .u16 101)], .agg [.lit (.int .u16 160), .lit (.int .u16 5760), .lit (.int .u16 5600)], .agg [.lit (.int .u16 8192), .lit (.int .u16 8202), .lit (.int .u16 1)], .agg [.lit (.int .u16 8232), .lit (.int .u16 8233), .lit (.int .u16 1)], .agg [.lit (.int .u16 8239), .lit (.int .u16 8287), .lit (.int .u16 48)], .agg [.lit (.int .u16 12288), .lit (.int .u16 12288), .lit (.int .u16 1)]] [], .nil, .lit (.int .i64 2)])
def laid_strings_asciiSpace {H : Type} : DataW H := .agg [.lit (.int .u8 0), .lit (.int .u8 0), .lit (.int .u8 0), .lit (.int .u8 0), .lit (.int .u8 0), .lit (.int .u8 0), .lit (.int .u8 0), .lit (.int .u8 0), .lit (.int .u8 0), .lit (.int .u8 1), .lit (.int .u8 1), .lit (.int .u8 1), .lit (.int .u8 1), .lit (.int .u8 1), .lit (.int .u8 0), .lit (.int .u8 0), .lit (.int .u8 0), .lit (.int .u8 0), .lit (.int .u8 0), .lit (.int .u8 0), .lit (.int .u8 0), .lit (.int .u8 0), .lit (.int .u8 0), .lit (.int .u8 0), .lit (.int .u8 0), .lit (.int .u8 0), .lit (.int .u8 0), .lit (.int .u8 0), .lit (.int .u8 0), .lit (.int .u8 0), .lit (.int .u8 0), .lit (.int .u8 0), .lit (.int .u8 1), .lit (.int .u8 0), .lit (.int .u8 0), .lit (.int .u8 0), .lit (.int .u8 0), .lit (.int .u8 0), .lit (.int .u8 0), .lit (.int .u8 0), .lit (.int .u8 0), .lit (.int .u8 0), .lit (.int .u8 0), .lit (.int .u8 0), .lit (.int .u8 0), .lit (.int .u8 0), .lit (.int .u8 0), .lit (.int .u8 0), .lit (.int .u8 0), .lit (.int .u8 0), .lit (.int .u8 0), .lit (.int .u8 0), .lit (.int .u8 0), .lit (.int .u8 0), .lit (.int .u8 0), .lit (.int .u8 0), .lit (.int .u8 0), .lit (.int .u8 0), .lit (.int .u8 0), .lit (.int .u8 0), .lit (.int .u8 0), .lit (.int .u8 0), .lit (.int .u8 0), .lit (.int .u8 0), .lit (.int .u8 0), .lit (.int .u8 0), .lit (.int .u8 0), .lit (.int .u8 0), .lit (.int .u8 0), .lit (.int .u8 0), .lit (.int .u8 0), .lit (.int .u8 0), .lit (.int .u8 0), .lit (.int .u8 0), .lit (.int .u8 0), .lit (.int .u8 0), .lit (.int .u8 0), .lit (.int .u8 0), .lit (.int .u8 0), .lit (.int .u8 0), .lit (.int .u8 0), .lit (.int .u8 0), .lit (.int .u8 0), .lit (.int .u8 0), .lit (.int .u8 0), .lit (.int .u8 0), .lit (.int .u8 0), .lit (.int .u8 0), .lit (.int .u8 0), .lit (.int .u8 0), .lit (.int .u8 0), .lit (.int .u8 0), .lit (.int .u8 0), .lit (.int .u8 0), .lit (.int .u8 0), .lit (.int .u8 0), .lit (.int .u8 0), .lit (.int .u8 0), .lit (.int .u8 0), .lit (.int .u8 0), .lit (.int .u8 0), .lit (.int .u8 0), .lit (.int .u8 0), .lit (.int .u8 0), .lit (.int .u8 0), .lit (.int .u8 0), .lit (.int .u8 0), .lit (.int .u8 0), .lit (.int .u8 0), .lit (.int .u8 0), .lit (.int .u8 0), .lit (.int .u8 0), .lit (.int .u8 0), .lit (.int .u8 0), .lit (.int .u8 0), .lit (.int .u8 0), .lit (.int .u8 0), .lit (.int .u8 0), .lit (.int .u8 0), .lit (.int .u8 0), .lit (.int .u8 0), .lit (.int .u8 0), .lit (.int .u8 0), .lit (.int .u8 0), .lit (.int .u8 0), .lit (.int .u8 0), .lit (.int .u8 0), .lit (.int .u8 0), .lit (.int .u8 0), .lit (.int .u8 0), .lit (.int .u8 0), .lit (.int .u8 0), .lit (.int .u8 0), .lit (.int .u8 0), .lit (.int .u8 0), .lit (.int .u8 0), .lit (.int .u8 0), .lit (.int .u8 0), .lit (.int .u8 0), .lit (.int .u8 0), .lit (.int .u8 0), .lit (.int .u8 0), .lit (.int .u8 0), .lit (.int .u8 0), .lit (.int .u8 0), .lit (.int .u8 0), .lit (.int .u8 0), .lit (.int .u8 0), .lit (.int .u8 0), .lit (.int .u8 0), .lit (.int .u8 0), .lit (.int .u8 0), .lit (.int .u8 0), .lit (.int .u8 0), .lit (.int .u8 0), .lit (.int .u8 0), .lit (.int .u8 0), .lit (.int .u8 0), .lit (.int .u8 0), .lit (.int .u8 0), .lit (.int .u8 0), .lit (.int .u8 0), .lit (.int .u8 0), .lit (.int .u8 0), .lit (.int .u8 0), .lit (.int .u8 0), .lit (.int .u8 0), .lit (.int .u8 0), .lit (.int .u8 0), .lit (.int .u8 0), .lit (.int .u8 0), .lit (.int .u8 0), .lit (.int .u8 0), .lit (.int .u8 0), .lit (.int .u8 0), .lit (.int .u8 0), .lit (.int .u8 0), .lit (.int .u8 0), .lit (.int .u8 0), .lit (.int .u8 0), .lit (.int .u8 0), .lit (.int .u8 0), .lit (.int .u8 0), .lit (.int .u8 0), .lit (.int .u8 0), .lit (.int .u8 0), .lit (.int .u8 0), .lit (.int .u8 0), .lit (.int .u8 0), .lit (.int .u8 0), .lit (.int .u8 0), .lit (.int .u8 0), .lit (.int .u8 0), .lit (.int .u8 0), .lit (.int .u8 0), .lit (.int .u8 0), .lit (.int .u8 0), .lit (.int .u8 0), .lit (.int .u8 0), .lit (.int .u8 0), .lit (.int .u8 0), .lit (.int .u8 0), .lit (.int .u8 0), .lit (.int .u8 0), .lit (.int .u8 0), .lit (.int .u8 0), .lit (.int .u8 0), .lit (.int .u8 0), .lit (.int .u8 0), .lit (.int .u8 0), .lit (.int .u8 0), .lit (.int .u8 0), .lit (.int .u8 0), .lit (.int .u8 0), .lit (.int .u8 0), .lit (.int .u8 0), .lit (.int .u8 0), .lit (.int .u8 0), .lit (.int .u8 0), .lit (.int .u8 0), .lit (.int .u8 0), .lit (.int .u8 0), .lit (.int .u8 0), .lit (.int .u8 0), .lit (.int .u8 0), .lit (.int .u8 0), .lit (.int .u8 0), .lit (.int .u8 0), .lit (.int .u8 0), .lit (.int .u8 0), .lit (.int .u8 0), .lit (.int .u8 0), .lit (.int .u8 0), .lit (.int .u8 0), .lit (.int .u8 0), .lit (.int .u8 0), .lit (.int .u8 0), .lit (.int .u8 0), .lit (.int .u8 0), .lit (.int .u8 0), .lit (.int .u8 0), .lit (.int .u8 0), .lit (.int .u8 0), .lit (.int .u8 0), .lit (.int .u8 0), .lit (.int .u8 0), .lit (.int .u8 0), .lit (.int .u8 0), .lit (.int .u8 0), .lit (.int .u8 0), .lit (.int .u8 0), .lit (.int .u8 0), .lit (.int .u8 0), .lit (.int .u8 0), .lit (.int .u8 0), .lit (.int .u8 0)]

/-- 'brindlewoodlaw5.DateFormatMatchesSpec': WHATEVER THE INPUT: true; the input reads as it did. -/
def dateFormatMatchesSpecSpec : ChangeSpec := { name := "dateFormatMatchesSpec", fn := fun _ => fun
  | [d1, d2] => { results := [.lit (.bool true)], args := [d1, d2] }
  | _ => none }
def dateFormatMatchesSpecRow : OpenClaim := { program := "ytnmkpadgogbgkaadoor", sum := "422a5dd2220329c324fae4f8bf1f3eadc8903d929a0a1090d649e84b03aacf3c", func := "brindlewood/brindlewoodlaw5.DateFormatMatchesSpec", spec := "dateFormatMatchesSpec", inPlace := ["internal/bytealg.IndexByteString", "internal/bytealg.IndexString", "internal/abi.NoEscape", "internal/bytealg.MakeNoZero"], unfollowed := true, recurses := true, named := ["internal/bytealg.MaxLen", "strings.asciiSpace", "unicode.White_Space", "internal/strconv.uint64pow10", "math/bits.deBruijn32tab", "math/bits.deBruijn64tab"], apart := false, laid := [("math/bits.deBruijn32tab", laid_math_bits_deBruijn32tab), ("math/bits.deBruijn64tab", laid_math_bits_deBruijn64tab), ("internal/strconv.uint64pow10", laid_internal_strconv_uint64pow10), ("unicode.White_Space", laid_unicode_White_Space), ("strings.asciiSpace", laid_strings_asciiSpace)] }
def DateFormatMatchesSpecSaid : Prop := dateFormatMatchesSpecRow.holds Tryd.pinned (OpenSpec.ofChange dateFormatMatchesSpecSpec)

/-- ITS FALSE NEIGHBOUR: 'it returns false'. Refute it at one input. -/
def dateFormatMatchesSpecWrong : ChangeSpec := { name := "dateFormatMatchesSpec", fn := fun _ => fun
  | [d1, d2] => { results := [.lit (.bool false)], args := [d1, d2] }
  | _ => none }
def DateFormatMatchesSpecWrongFalsely : Prop := dateFormatMatchesSpecRow.holds Tryd.pinned (OpenSpec.ofChange dateFormatMatchesSpecWrong)

/-- 'brindlewoodlaw5.DateNumberMatchesSpec': WHATEVER THE INPUT: true; the input reads as it did. -/
def dateNumberMatchesSpecSpec : ChangeSpec := { name := "dateNumberMatchesSpec", fn := fun _ => fun
  | [d] => { results := [.lit (.bool true)], args := [d] }
  | _ => none }
def dateNumberMatchesSpecRow : OpenClaim := { program := "ytnmkpadgogbgkaadoor", sum := "422a5dd2220329c324fae4f8bf1f3eadc8903d929a0a1090d649e84b03aacf3c", func := "brindlewood/brindlewoodlaw5.DateNumberMatchesSpec", spec := "dateNumberMatchesSpec", inPlace := ["internal/bytealg.IndexByteString", "internal/bytealg.IndexString", "internal/abi.NoEscape", "internal/bytealg.MakeNoZero"], unfollowed := true, recurses := true, named := ["internal/bytealg.MaxLen", "strings.asciiSpace", "unicode.White_Space", "internal/strconv.uint64pow10", "math/bits.deBruijn32tab", "math/bits.deBruijn64tab"], apart := false, laid := [("math/bits.deBruijn32tab", laid_math_bits_deBruijn32tab), ("math/bits.deBruijn64tab", laid_math_bits_deBruijn64tab), ("internal/strconv.uint64pow10", laid_internal_strconv_uint64pow10), ("unicode.White_Space", laid_unicode_White_Space), ("strings.asciiSpace", laid_strings_asciiSpace)] }
def DateNumberMatchesSpecSaid : Prop := dateNumberMatchesSpecRow.holds Tryd.pinned (OpenSpec.ofChange dateNumberMatchesSpecSpec)

/-- ITS FALSE NEIGHBOUR: 'it returns false'. Refute it at one input. -/
def dateNumberMatchesSpecWrong : ChangeSpec := { name := "dateNumberMatchesSpec", fn := fun _ => fun
  | [d] => { results := [.lit (.bool false)], args := [d] }
  | _ => none }
def DateNumberMatchesSpecWrongFalsely : Prop := dateNumberMatchesSpecRow.holds Tryd.pinned (OpenSpec.ofChange dateNumberMatchesSpecWrong)

/-- 'brindlewoodlaw5.DateAddMonthsMatchesSpec': WHATEVER THE INPUT: true; the input reads as it did. -/
def dateAddMonthsMatchesSpecSpec : ChangeSpec := { name := "dateAddMonthsMatchesSpec", fn := fun _ => fun
  | [d1, d2] => { results := [.lit (.bool true)], args := [d1, d2] }
  | _ => none }
def dateAddMonthsMatchesSpecRow : OpenClaim := { program := "ytnmkpadgogbgkaadoor", sum := "422a5dd2220329c324fae4f8bf1f3eadc8903d929a0a1090d649e84b03aacf3c", func := "brindlewood/brindlewoodlaw5.DateAddMonthsMatchesSpec", spec := "dateAddMonthsMatchesSpec", inPlace := ["internal/bytealg.IndexByteString", "internal/bytealg.IndexString", "internal/abi.NoEscape", "internal/bytealg.MakeNoZero"], unfollowed := true, recurses := true, named := ["internal/bytealg.MaxLen", "strings.asciiSpace", "unicode.White_Space", "internal/strconv.uint64pow10", "math/bits.deBruijn32tab", "math/bits.deBruijn64tab"], apart := false, laid := [("math/bits.deBruijn32tab", laid_math_bits_deBruijn32tab), ("math/bits.deBruijn64tab", laid_math_bits_deBruijn64tab), ("internal/strconv.uint64pow10", laid_internal_strconv_uint64pow10), ("unicode.White_Space", laid_unicode_White_Space), ("strings.asciiSpace", laid_strings_asciiSpace)] }
def DateAddMonthsMatchesSpecSaid : Prop := dateAddMonthsMatchesSpecRow.holds Tryd.pinned (OpenSpec.ofChange dateAddMonthsMatchesSpecSpec)

/-- ITS FALSE NEIGHBOUR: 'it returns false'. Refute it at one input. -/
def dateAddMonthsMatchesSpecWrong : ChangeSpec := { name := "dateAddMonthsMatchesSpec", fn := fun _ => fun
  | [d1, d2] => { results := [.lit (.bool false)], args := [d1, d2] }
  | _ => none }
def DateAddMonthsMatchesSpecWrongFalsely : Prop := dateAddMonthsMatchesSpecRow.holds Tryd.pinned (OpenSpec.ofChange dateAddMonthsMatchesSpecWrong)

/-- 'brindlewoodlaw5.DateMonthsAdd': WHATEVER THE INPUT: true; the input reads as it did. -/
def dateMonthsAddSpec : ChangeSpec := { name := "dateMonthsAdd", fn := fun _ => fun
  | [d1, d2, d3] => { results := [.lit (.bool true)], args := [d1, d2, d3] }
  | _ => none }
def dateMonthsAddRow : OpenClaim := { program := "ytnmkpadgogbgkaadoor", sum := "422a5dd2220329c324fae4f8bf1f3eadc8903d929a0a1090d649e84b03aacf3c", func := "brindlewood/brindlewoodlaw5.DateMonthsAdd", spec := "dateMonthsAdd", inPlace := ["internal/bytealg.IndexByteString", "internal/bytealg.IndexString", "internal/abi.NoEscape", "internal/bytealg.MakeNoZero"], unfollowed := true, recurses := true, named := ["internal/bytealg.MaxLen", "strings.asciiSpace", "unicode.White_Space", "internal/strconv.uint64pow10", "math/bits.deBruijn32tab", "math/bits.deBruijn64tab"], apart := false, laid := [("math/bits.deBruijn32tab", laid_math_bits_deBruijn32tab), ("math/bits.deBruijn64tab", laid_math_bits_deBruijn64tab), ("internal/strconv.uint64pow10", laid_internal_strconv_uint64pow10), ("unicode.White_Space", laid_unicode_White_Space), ("strings.asciiSpace", laid_strings_asciiSpace)] }
def DateMonthsAddSaid : Prop := dateMonthsAddRow.holds Tryd.pinned (OpenSpec.ofChange dateMonthsAddSpec)

/-- ITS FALSE NEIGHBOUR: 'it returns false'. Refute it at one input. -/
def dateMonthsAddWrong : ChangeSpec := { name := "dateMonthsAdd", fn := fun _ => fun
  | [d1, d2, d3] => { results := [.lit (.bool false)], args := [d1, d2, d3] }
  | _ => none }
def DateMonthsAddWrongFalsely : Prop := dateMonthsAddRow.holds Tryd.pinned (OpenSpec.ofChange dateMonthsAddWrong)

/-- 'brindlewoodlaw5.DateAtMatchesSpec': WHATEVER THE INPUT: true; the input reads as it did. -/
def dateAtMatchesSpecSpec : ChangeSpec := { name := "dateAtMatchesSpec", fn := fun _ => fun
  | [d] => { results := [.lit (.bool true)], args := [d] }
  | _ => none }
def dateAtMatchesSpecRow : OpenClaim := { program := "ytnmkpadgogbgkaadoor", sum := "422a5dd2220329c324fae4f8bf1f3eadc8903d929a0a1090d649e84b03aacf3c", func := "brindlewood/brindlewoodlaw5.DateAtMatchesSpec", spec := "dateAtMatchesSpec", inPlace := ["internal/bytealg.IndexByteString", "internal/bytealg.IndexString", "internal/abi.NoEscape", "internal/bytealg.MakeNoZero"], unfollowed := true, recurses := true, named := ["internal/bytealg.MaxLen", "strings.asciiSpace", "unicode.White_Space", "internal/strconv.uint64pow10", "math/bits.deBruijn32tab", "math/bits.deBruijn64tab"], apart := false, laid := [("math/bits.deBruijn32tab", laid_math_bits_deBruijn32tab), ("math/bits.deBruijn64tab", laid_math_bits_deBruijn64tab), ("internal/strconv.uint64pow10", laid_internal_strconv_uint64pow10), ("unicode.White_Space", laid_unicode_White_Space), ("strings.asciiSpace", laid_strings_asciiSpace)] }
def DateAtMatchesSpecSaid : Prop := dateAtMatchesSpecRow.holds Tryd.pinned (OpenSpec.ofChange dateAtMatchesSpecSpec)

/-- ITS FALSE NEIGHBOUR: 'it returns false'. Refute it at one input. -/
def dateAtMatchesSpecWrong : ChangeSpec := { name := "dateAtMatchesSpec", fn := fun _ => fun
  | [d] => { results := [.lit (.bool false)], args := [d] }
  | _ => none }
def DateAtMatchesSpecWrongFalsely : Prop := dateAtMatchesSpecRow.holds Tryd.pinned (OpenSpec.ofChange dateAtMatchesSpecWrong)

/-- 'brindlewoodlaw5.DateBetweenMatchesSpec': WHATEVER THE INPUT: true; the input reads as it did. -/
def dateBetweenMatchesSpecSpec : ChangeSpec := { name := "dateBetweenMatchesSpec", fn := fun _ => fun
  | [d1, d2] => { results := [.lit (.bool true)], args := [d1, d2] }
  | _ => none }
def dateBetweenMatchesSpecRow : OpenClaim := { program := "ytnmkpadgogbgkaadoor", sum := "422a5dd2220329c324fae4f8bf1f3eadc8903d929a0a1090d649e84b03aacf3c", func := "brindlewood/brindlewoodlaw5.DateBetweenMatchesSpec", spec := "dateBetweenMatchesSpec", inPlace := ["internal/bytealg.IndexByteString", "internal/bytealg.IndexString", "internal/abi.NoEscape", "internal/bytealg.MakeNoZero"], unfollowed := true, recurses := true, named := ["internal/bytealg.MaxLen", "strings.asciiSpace", "unicode.White_Space", "internal/strconv.uint64pow10", "math/bits.deBruijn32tab", "math/bits.deBruijn64tab"], apart := false, laid := [("math/bits.deBruijn32tab", laid_math_bits_deBruijn32tab), ("math/bits.deBruijn64tab", laid_math_bits_deBruijn64tab), ("internal/strconv.uint64pow10", laid_internal_strconv_uint64pow10), ("unicode.White_Space", laid_unicode_White_Space), ("strings.asciiSpace", laid_strings_asciiSpace)] }
def DateBetweenMatchesSpecSaid : Prop := dateBetweenMatchesSpecRow.holds Tryd.pinned (OpenSpec.ofChange dateBetweenMatchesSpecSpec)

/-- ITS FALSE NEIGHBOUR: 'it returns false'. Refute it at one input. -/
def dateBetweenMatchesSpecWrong : ChangeSpec := { name := "dateBetweenMatchesSpec", fn := fun _ => fun
  | [d1, d2] => { results := [.lit (.bool false)], args := [d1, d2] }
  | _ => none }
def DateBetweenMatchesSpecWrongFalsely : Prop := dateBetweenMatchesSpecRow.holds Tryd.pinned (OpenSpec.ofChange dateBetweenMatchesSpecWrong)

/-- 'brindlewoodlaw5.DateDaysFollow': WHATEVER THE INPUT: true; the input reads as it did. -/
def dateDaysFollowSpec : ChangeSpec := { name := "dateDaysFollow", fn := fun _ => fun
  | [d] => { results := [.lit (.bool true)], args := [d] }
  | _ => none }
def dateDaysFollowRow : OpenClaim := { program := "ytnmkpadgogbgkaadoor", sum := "422a5dd2220329c324fae4f8bf1f3eadc8903d929a0a1090d649e84b03aacf3c", func := "brindlewood/brindlewoodlaw5.DateDaysFollow", spec := "dateDaysFollow", inPlace := ["internal/bytealg.IndexByteString", "internal/bytealg.IndexString", "internal/abi.NoEscape", "internal/bytealg.MakeNoZero"], unfollowed := true, recurses := true, named := ["internal/bytealg.MaxLen", "strings.asciiSpace", "unicode.White_Space", "internal/strconv.uint64pow10", "math/bits.deBruijn32tab", "math/bits.deBruijn64tab"], apart := false, laid := [("math/bits.deBruijn32tab", laid_math_bits_deBruijn32tab), ("math/bits.deBruijn64tab", laid_math_bits_deBruijn64tab), ("internal/strconv.uint64pow10", laid_internal_strconv_uint64pow10), ("unicode.White_Space", laid_unicode_White_Space), ("strings.asciiSpace", laid_strings_asciiSpace)] }
def DateDaysFollowSaid : Prop := dateDaysFollowRow.holds Tryd.pinned (OpenSpec.ofChange dateDaysFollowSpec)

/-- ITS FALSE NEIGHBOUR: 'it returns false'. Refute it at one input. -/
def dateDaysFollowWrong : ChangeSpec := { name := "dateDaysFollow", fn := fun _ => fun
  | [d] => { results := [.lit (.bool false)], args := [d] }
  | _ => none }
def DateDaysFollowWrongFalsely : Prop := dateDaysFollowRow.holds Tryd.pinned (OpenSpec.ofChange dateDaysFollowWrong)

/-- 'brindlewoodlaw5.DateFromWeekMatchesSpec': WHATEVER THE INPUT: true; the input reads as it did. -/
def dateFromWeekMatchesSpecSpec : ChangeSpec := { name := "dateFromWeekMatchesSpec", fn := fun _ => fun
  | [d1, d2, d3] => { results := [.lit (.bool true)], args := [d1, d2, d3] }
  | _ => none }
def dateFromWeekMatchesSpecRow : OpenClaim := { program := "ytnmkpadgogbgkaadoor", sum := "422a5dd2220329c324fae4f8bf1f3eadc8903d929a0a1090d649e84b03aacf3c", func := "brindlewood/brindlewoodlaw5.DateFromWeekMatchesSpec", spec := "dateFromWeekMatchesSpec", inPlace := ["internal/bytealg.IndexByteString", "internal/bytealg.IndexString", "internal/abi.NoEscape", "internal/bytealg.MakeNoZero"], unfollowed := true, recurses := true, named := ["internal/bytealg.MaxLen", "strings.asciiSpace", "unicode.White_Space", "internal/strconv.uint64pow10", "math/bits.deBruijn32tab", "math/bits.deBruijn64tab"], apart := false, laid := [("math/bits.deBruijn32tab", laid_math_bits_deBruijn32tab), ("math/bits.deBruijn64tab", laid_math_bits_deBruijn64tab), ("internal/strconv.uint64pow10", laid_internal_strconv_uint64pow10), ("unicode.White_Space", laid_unicode_White_Space), ("strings.asciiSpace", laid_strings_asciiSpace)] }
def DateFromWeekMatchesSpecSaid : Prop := dateFromWeekMatchesSpecRow.holds Tryd.pinned (OpenSpec.ofChange dateFromWeekMatchesSpecSpec)

/-- ITS FALSE NEIGHBOUR: 'it returns false'. Refute it at one input. -/
def dateFromWeekMatchesSpecWrong : ChangeSpec := { name := "dateFromWeekMatchesSpec", fn := fun _ => fun
  | [d1, d2, d3] => { results := [.lit (.bool false)], args := [d1, d2, d3] }
  | _ => none }
def DateFromWeekMatchesSpecWrongFalsely : Prop := dateFromWeekMatchesSpecRow.holds Tryd.pinned (OpenSpec.ofChange dateFromWeekMatchesSpecWrong)

/-- 'brindlewoodlaw5.DateWeeksInverse': WHATEVER THE INPUT: true; the input reads as it did. -/
def dateWeeksInverseSpec : ChangeSpec := { name := "dateWeeksInverse", fn := fun _ => fun
  | [d] => { results := [.lit (.bool true)], args := [d] }
  | _ => none }
def dateWeeksInverseRow : OpenClaim := { program := "ytnmkpadgogbgkaadoor", sum := "422a5dd2220329c324fae4f8bf1f3eadc8903d929a0a1090d649e84b03aacf3c", func := "brindlewood/brindlewoodlaw5.DateWeeksInverse", spec := "dateWeeksInverse", inPlace := ["internal/bytealg.IndexByteString", "internal/bytealg.IndexString", "internal/abi.NoEscape", "internal/bytealg.MakeNoZero"], unfollowed := true, recurses := true, named := ["internal/bytealg.MaxLen", "strings.asciiSpace", "unicode.White_Space", "internal/strconv.uint64pow10", "math/bits.deBruijn32tab", "math/bits.deBruijn64tab"], apart := false, laid := [("math/bits.deBruijn32tab", laid_math_bits_deBruijn32tab), ("math/bits.deBruijn64tab", laid_math_bits_deBruijn64tab), ("internal/strconv.uint64pow10", laid_internal_strconv_uint64pow10), ("unicode.White_Space", laid_unicode_White_Space), ("strings.asciiSpace", laid_strings_asciiSpace)] }
def DateWeeksInverseSaid : Prop := dateWeeksInverseRow.holds Tryd.pinned (OpenSpec.ofChange dateWeeksInverseSpec)

/-- ITS FALSE NEIGHBOUR: 'it returns false'. Refute it at one input. -/
def dateWeeksInverseWrong : ChangeSpec := { name := "dateWeeksInverse", fn := fun _ => fun
  | [d] => { results := [.lit (.bool false)], args := [d] }
  | _ => none }
def DateWeeksInverseWrongFalsely : Prop := dateWeeksInverseRow.holds Tryd.pinned (OpenSpec.ofChange dateWeeksInverseWrong)

/-- 'brindlewoodlaw5.DateSpansAddUp': WHATEVER THE INPUT: true; the input reads as it did. -/
def dateSpansAddUpSpec : ChangeSpec := { name := "dateSpansAddUp", fn := fun _ => fun
  | [d1, d2] => { results := [.lit (.bool true)], args := [d1, d2] }
  | _ => none }
def dateSpansAddUpRow : OpenClaim := { program := "ytnmkpadgogbgkaadoor", sum := "422a5dd2220329c324fae4f8bf1f3eadc8903d929a0a1090d649e84b03aacf3c", func := "brindlewood/brindlewoodlaw5.DateSpansAddUp", spec := "dateSpansAddUp", inPlace := ["internal/bytealg.IndexByteString", "internal/bytealg.IndexString", "internal/abi.NoEscape", "internal/bytealg.MakeNoZero"], unfollowed := true, recurses := true, named := ["internal/bytealg.MaxLen", "strings.asciiSpace", "unicode.White_Space", "internal/strconv.uint64pow10", "math/bits.deBruijn32tab", "math/bits.deBruijn64tab"], apart := false, laid := [("math/bits.deBruijn32tab", laid_math_bits_deBruijn32tab), ("math/bits.deBruijn64tab", laid_math_bits_deBruijn64tab), ("internal/strconv.uint64pow10", laid_internal_strconv_uint64pow10), ("unicode.White_Space", laid_unicode_White_Space), ("strings.asciiSpace", laid_strings_asciiSpace)] }
def DateSpansAddUpSaid : Prop := dateSpansAddUpRow.holds Tryd.pinned (OpenSpec.ofChange dateSpansAddUpSpec)

/-- ITS FALSE NEIGHBOUR: 'it returns false'. Refute it at one input. -/
def dateSpansAddUpWrong : ChangeSpec := { name := "dateSpansAddUp", fn := fun _ => fun
  | [d1, d2] => { results := [.lit (.bool false)], args := [d1, d2] }
  | _ => none }
def DateSpansAddUpWrongFalsely : Prop := dateSpansAddUpRow.holds Tryd.pinned (OpenSpec.ofChange dateSpansAddUpWrong)

/-- 'brindlewoodlaw5.DateParseMatchesSpec': WHATEVER THE INPUT: true; the input reads as it did. -/
def dateParseMatchesSpecSpec : ChangeSpec := { name := "dateParseMatchesSpec", fn := fun _ => fun
  | [d1, d2] => { results := [.lit (.bool true)], args := [d1, d2] }
  | _ => none }
def dateParseMatchesSpecRow : OpenClaim := { program := "ytnmkpadgogbgkaadoor", sum := "422a5dd2220329c324fae4f8bf1f3eadc8903d929a0a1090d649e84b03aacf3c", func := "brindlewood/brindlewoodlaw5.DateParseMatchesSpec", spec := "dateParseMatchesSpec", inPlace := ["internal/bytealg.IndexByteString", "internal/bytealg.IndexString", "internal/abi.NoEscape", "internal/bytealg.MakeNoZero"], unfollowed := true, recurses := true, named := ["internal/bytealg.MaxLen", "strings.asciiSpace", "unicode.White_Space", "internal/strconv.uint64pow10", "math/bits.deBruijn32tab", "math/bits.deBruijn64tab"], apart := false, laid := [("math/bits.deBruijn32tab", laid_math_bits_deBruijn32tab), ("math/bits.deBruijn64tab", laid_math_bits_deBruijn64tab), ("internal/strconv.uint64pow10", laid_internal_strconv_uint64pow10), ("unicode.White_Space", laid_unicode_White_Space), ("strings.asciiSpace", laid_strings_asciiSpace)] }
def DateParseMatchesSpecSaid : Prop := dateParseMatchesSpecRow.holds Tryd.pinned (OpenSpec.ofChange dateParseMatchesSpecSpec)

/-- ITS FALSE NEIGHBOUR: 'it returns false'. Refute it at one input. -/
def dateParseMatchesSpecWrong : ChangeSpec := { name := "dateParseMatchesSpec", fn := fun _ => fun
  | [d1, d2] => { results := [.lit (.bool false)], args := [d1, d2] }
  | _ => none }
def DateParseMatchesSpecWrongFalsely : Prop := dateParseMatchesSpecRow.holds Tryd.pinned (OpenSpec.ofChange dateParseMatchesSpecWrong)

/-- 'brindlewoodlaw5.DateParsesFormatted': WHATEVER THE INPUT: true; the input reads as it did. -/
def dateParsesFormattedSpec : ChangeSpec := { name := "dateParsesFormatted", fn := fun _ => fun
  | [d1, d2] => { results := [.lit (.bool true)], args := [d1, d2] }
  | _ => none }
def dateParsesFormattedRow : OpenClaim := { program := "ytnmkpadgogbgkaadoor", sum := "422a5dd2220329c324fae4f8bf1f3eadc8903d929a0a1090d649e84b03aacf3c", func := "brindlewood/brindlewoodlaw5.DateParsesFormatted", spec := "dateParsesFormatted", inPlace := ["internal/bytealg.IndexByteString", "internal/bytealg.IndexString", "internal/abi.NoEscape", "internal/bytealg.MakeNoZero"], unfollowed := true, recurses := true, named := ["internal/bytealg.MaxLen", "strings.asciiSpace", "unicode.White_Space", "internal/strconv.uint64pow10", "math/bits.deBruijn32tab", "math/bits.deBruijn64tab"], apart := false, laid := [("math/bits.deBruijn32tab", laid_math_bits_deBruijn32tab), ("math/bits.deBruijn64tab", laid_math_bits_deBruijn64tab), ("internal/strconv.uint64pow10", laid_internal_strconv_uint64pow10), ("unicode.White_Space", laid_unicode_White_Space), ("strings.asciiSpace", laid_strings_asciiSpace)] }
def DateParsesFormattedSaid : Prop := dateParsesFormattedRow.holds Tryd.pinned (OpenSpec.ofChange dateParsesFormattedSpec)

/-- ITS FALSE NEIGHBOUR: 'it returns false'. Refute it at one input. -/
def dateParsesFormattedWrong : ChangeSpec := { name := "dateParsesFormatted", fn := fun _ => fun
  | [d1, d2] => { results := [.lit (.bool false)], args := [d1, d2] }
  | _ => none }
def DateParsesFormattedWrongFalsely : Prop := dateParsesFormattedRow.holds Tryd.pinned (OpenSpec.ofChange dateParsesFormattedWrong)

/- THE SECOND FORM. 'bulk': how many values and letters a reading holds, each counted each time it is reached (what is shared counts as often as it is met; a slice's spare places count too). A statement '..UptoSaid' is the law's where the arguments, and the package variables that the reading takes, are together of bulk at most 1048576: NARROWER than '..Said'. Prove '..Said' where nothing that the law and all that it calls make is longer than what came in: it says more and counts as full. Else prove '..UptoSaid'. A law counts once. -/
mutual
def uptoBulk {H : Type} : DataW H → Nat
  | .lit (.string bytes) => bytes.length + 1
  | .lit _ => 1
  | .nil => 1
  | .ptr d => uptoBulk d + 1
  | .slice elems spare => uptoBulkAll elems + uptoBulkAll spare + 1
  | .agg parts => uptoBulkAll parts + 1
  | .iface _ d => uptoBulk d + 1
  | .map entries => uptoBulkEntries entries + 1
  | .held _ => 1
def uptoBulkAll {H : Type} : List (DataW H) → Nat
  | [] => 0
  | d :: r => uptoBulk d + uptoBulkAll r
def uptoBulkEntries {H : Type} : List (Lit × DataW H) → Nat
  | [] => 0
  | x :: r => uptoBulkEntry x + uptoBulkEntries r
def uptoBulkEntry {H : Type} : Lit × DataW H → Nat
  | (.string bytes, d) => bytes.length + uptoBulk d + 1
  | (_, d) => uptoBulk d + 1
 end
def uptoSmall : (H : Type) → List (DataW H) → Bool := fun _ ds => decide (uptoBulkAll ds ≤ 1048576)
def OpenSpec.upto (s : _root_.Go.ChangeSpec) : _root_.Go.OpenSpec := { _root_.Go.OpenSpec.ofChange s with cond := some uptoSmall }

/-- 'brindlewoodlaw5.DateFormatMatchesSpec', WHERE WHAT IT READS IS OF BULK AT MOST 1048576: true; the input reads as it did. -/
def dateFormatMatchesSpecUptoRow : OpenClaim := { program := "ytnmkpadgogbgkaadoor", sum := "422a5dd2220329c324fae4f8bf1f3eadc8903d929a0a1090d649e84b03aacf3c", func := "brindlewood/brindlewoodlaw5.DateFormatMatchesSpec", spec := "dateFormatMatchesSpec", inPlace := ["internal/bytealg.IndexByteString", "internal/bytealg.IndexString", "internal/abi.NoEscape", "internal/bytealg.MakeNoZero"], unfollowed := true, recurses := true, named := ["internal/bytealg.MaxLen", "strings.asciiSpace", "unicode.White_Space", "internal/strconv.uint64pow10", "math/bits.deBruijn32tab", "math/bits.deBruijn64tab"], apart := false, laid := [("math/bits.deBruijn32tab", laid_math_bits_deBruijn32tab), ("math/bits.deBruijn64tab", laid_math_bits_deBruijn64tab), ("internal/strconv.uint64pow10", laid_internal_strconv_uint64pow10), ("unicode.White_Space", laid_unicode_White_Space), ("strings.asciiSpace", laid_strings_asciiSpace)], narrowed := true }
def DateFormatMatchesSpecUptoSaid : Prop := dateFormatMatchesSpecUptoRow.holds Tryd.pinned (OpenSpec.upto dateFormatMatchesSpecSpec)

/-- 'brindlewoodlaw5.DateNumberMatchesSpec', WHERE WHAT IT READS IS OF BULK AT MOST 1048576: true; the input reads as it did. -/
def dateNumberMatchesSpecUptoRow : OpenClaim := { program := "ytnmkpadgogbgkaadoor", sum := "422a5dd2220329c324fae4f8bf1f3eadc8903d929a0a1090d649e84b03aacf3c", func := "brindlewood/brindlewoodlaw5.DateNumberMatchesSpec", spec := "dateNumberMatchesSpec", inPlace := ["internal/bytealg.IndexByteString", "internal/bytealg.IndexString", "internal/abi.NoEscape", "internal/bytealg.MakeNoZero"], unfollowed := true, recurses := true, named := ["internal/bytealg.MaxLen", "strings.asciiSpace", "unicode.White_Space", "internal/strconv.uint64pow10", "math/bits.deBruijn32tab", "math/bits.deBruijn64tab"], apart := false, laid := [("math/bits.deBruijn32tab", laid_math_bits_deBruijn32tab), ("math/bits.deBruijn64tab", laid_math_bits_deBruijn64tab), ("internal/strconv.uint64pow10", laid_internal_strconv_uint64pow10), ("unicode.White_Space", laid_unicode_White_Space), ("strings.asciiSpace", laid_strings_asciiSpace)], narrowed := true }
def DateNumberMatchesSpecUptoSaid : Prop := dateNumberMatchesSpecUptoRow.holds Tryd.pinned (OpenSpec.upto dateNumberMatchesSpecSpec)

/-- 'brindlewoodlaw5.DateAddMonthsMatchesSpec', WHERE WHAT IT READS IS OF BULK AT MOST 1048576: true; the input reads as it did. -/
def dateAddMonthsMatchesSpecUptoRow : OpenClaim := { program := "ytnmkpadgogbgkaadoor", sum := "422a5dd2220329c324fae4f8bf1f3eadc8903d929a0a1090d649e84b03aacf3c", func := "brindlewood/brindlewoodlaw5.DateAddMonthsMatchesSpec", spec := "dateAddMonthsMatchesSpec", inPlace := ["internal/bytealg.IndexByteString", "internal/bytealg.IndexString", "internal/abi.NoEscape", "internal/bytealg.MakeNoZero"], unfollowed := true, recurses := true, named := ["internal/bytealg.MaxLen", "strings.asciiSpace", "unicode.White_Space", "internal/strconv.uint64pow10", "math/bits.deBruijn32tab", "math/bits.deBruijn64tab"], apart := false, laid := [("math/bits.deBruijn32tab", laid_math_bits_deBruijn32tab), ("math/bits.deBruijn64tab", laid_math_bits_deBruijn64tab), ("internal/strconv.uint64pow10", laid_internal_strconv_uint64pow10), ("unicode.White_Space", laid_unicode_White_Space), ("strings.asciiSpace", laid_strings_asciiSpace)], narrowed := true }
def DateAddMonthsMatchesSpecUptoSaid : Prop := dateAddMonthsMatchesSpecUptoRow.holds Tryd.pinned (OpenSpec.upto dateAddMonthsMatchesSpecSpec)

/-- 'brindlewoodlaw5.DateMonthsAdd', WHERE WHAT IT READS IS OF BULK AT MOST 1048576: true; the input reads as it did. -/
def dateMonthsAddUptoRow : OpenClaim := { program := "ytnmkpadgogbgkaadoor", sum := "422a5dd2220329c324fae4f8bf1f3eadc8903d929a0a1090d649e84b03aacf3c", func := "brindlewood/brindlewoodlaw5.DateMonthsAdd", spec := "dateMonthsAdd", inPlace := ["internal/bytealg.IndexByteString", "internal/bytealg.IndexString", "internal/abi.NoEscape", "internal/bytealg.MakeNoZero"], unfollowed := true, recurses := true, named := ["internal/bytealg.MaxLen", "strings.asciiSpace", "unicode.White_Space", "internal/strconv.uint64pow10", "math/bits.deBruijn32tab", "math/bits.deBruijn64tab"], apart := false, laid := [("math/bits.deBruijn32tab", laid_math_bits_deBruijn32tab), ("math/bits.deBruijn64tab", laid_math_bits_deBruijn64tab), ("internal/strconv.uint64pow10", laid_internal_strconv_uint64pow10), ("unicode.White_Space", laid_unicode_White_Space), ("strings.asciiSpace", laid_strings_asciiSpace)], narrowed := true }
def DateMonthsAddUptoSaid : Prop := dateMonthsAddUptoRow.holds Tryd.pinned (OpenSpec.upto dateMonthsAddSpec)

/-- 'brindlewoodlaw5.DateAtMatchesSpec', WHERE WHAT IT READS IS OF BULK AT MOST 1048576: true; the input reads as it did. -/
def dateAtMatchesSpecUptoRow : OpenClaim := { program := "ytnmkpadgogbgkaadoor", sum := "422a5dd2220329c324fae4f8bf1f3eadc8903d929a0a1090d649e84b03aacf3c", func := "brindlewood/brindlewoodlaw5.DateAtMatchesSpec", spec := "dateAtMatchesSpec", inPlace := ["internal/bytealg.IndexByteString", "internal/bytealg.IndexString", "internal/abi.NoEscape", "internal/bytealg.MakeNoZero"], unfollowed := true, recurses := true, named := ["internal/bytealg.MaxLen", "strings.asciiSpace", "unicode.White_Space", "internal/strconv.uint64pow10", "math/bits.deBruijn32tab", "math/bits.deBruijn64tab"], apart := false, laid := [("math/bits.deBruijn32tab", laid_math_bits_deBruijn32tab), ("math/bits.deBruijn64tab", laid_math_bits_deBruijn64tab), ("internal/strconv.uint64pow10", laid_internal_strconv_uint64pow10), ("unicode.White_Space", laid_unicode_White_Space), ("strings.asciiSpace", laid_strings_asciiSpace)], narrowed := true }
def DateAtMatchesSpecUptoSaid : Prop := dateAtMatchesSpecUptoRow.holds Tryd.pinned (OpenSpec.upto dateAtMatchesSpecSpec)

/-- 'brindlewoodlaw5.DateBetweenMatchesSpec', WHERE WHAT IT READS IS OF BULK AT MOST 1048576: true; the input reads as it did. -/
def dateBetweenMatchesSpecUptoRow : OpenClaim := { program := "ytnmkpadgogbgkaadoor", sum := "422a5dd2220329c324fae4f8bf1f3eadc8903d929a0a1090d649e84b03aacf3c", func := "brindlewood/brindlewoodlaw5.DateBetweenMatchesSpec", spec := "dateBetweenMatchesSpec", inPlace := ["internal/bytealg.IndexByteString", "internal/bytealg.IndexString", "internal/abi.NoEscape", "internal/bytealg.MakeNoZero"], unfollowed := true, recurses := true, named := ["internal/bytealg.MaxLen", "strings.asciiSpace", "unicode.White_Space", "internal/strconv.uint64pow10", "math/bits.deBruijn32tab", "math/bits.deBruijn64tab"], apart := false, laid := [("math/bits.deBruijn32tab", laid_math_bits_deBruijn32tab), ("math/bits.deBruijn64tab", laid_math_bits_deBruijn64tab), ("internal/strconv.uint64pow10", laid_internal_strconv_uint64pow10), ("unicode.White_Space", laid_unicode_White_Space), ("strings.asciiSpace", laid_strings_asciiSpace)], narrowed := true }
def DateBetweenMatchesSpecUptoSaid : Prop := dateBetweenMatchesSpecUptoRow.holds Tryd.pinned (OpenSpec.upto dateBetweenMatchesSpecSpec)

/-- 'brindlewoodlaw5.DateDaysFollow', WHERE WHAT IT READS IS OF BULK AT MOST 1048576: true; the input reads as it did. -/
def dateDaysFollowUptoRow : OpenClaim := { program := "ytnmkpadgogbgkaadoor", sum := "422a5dd2220329c324fae4f8bf1f3eadc8903d929a0a1090d649e84b03aacf3c", func := "brindlewood/brindlewoodlaw5.DateDaysFollow", spec := "dateDaysFollow", inPlace := ["internal/bytealg.IndexByteString", "internal/bytealg.IndexString", "internal/abi.NoEscape", "internal/bytealg.MakeNoZero"], unfollowed := true, recurses := true, named := ["internal/bytealg.MaxLen", "strings.asciiSpace", "unicode.White_Space", "internal/strconv.uint64pow10", "math/bits.deBruijn32tab", "math/bits.deBruijn64tab"], apart := false, laid := [("math/bits.deBruijn32tab", laid_math_bits_deBruijn32tab), ("math/bits.deBruijn64tab", laid_math_bits_deBruijn64tab), ("internal/strconv.uint64pow10", laid_internal_strconv_uint64pow10), ("unicode.White_Space", laid_unicode_White_Space), ("strings.asciiSpace", laid_strings_asciiSpace)], narrowed := true }
def DateDaysFollowUptoSaid : Prop := dateDaysFollowUptoRow.holds Tryd.pinned (OpenSpec.upto dateDaysFollowSpec)

/-- 'brindlewoodlaw5.DateFromWeekMatchesSpec', WHERE WHAT IT READS IS OF BULK AT MOST 1048576: true; the input reads as it did. -/
def dateFromWeekMatchesSpecUptoRow : OpenClaim := { program := "ytnmkpadgogbgkaadoor", sum := "422a5dd2220329c324fae4f8bf1f3eadc8903d929a0a1090d649e84b03aacf3c", func := "brindlewood/brindlewoodlaw5.DateFromWeekMatchesSpec", spec := "dateFromWeekMatchesSpec", inPlace := ["internal/bytealg.IndexByteString", "internal/bytealg.IndexString", "internal/abi.NoEscape", "internal/bytealg.MakeNoZero"], unfollowed := true, recurses := true, named := ["internal/bytealg.MaxLen", "strings.asciiSpace", "unicode.White_Space", "internal/strconv.uint64pow10", "math/bits.deBruijn32tab", "math/bits.deBruijn64tab"], apart := false, laid := [("math/bits.deBruijn32tab", laid_math_bits_deBruijn32tab), ("math/bits.deBruijn64tab", laid_math_bits_deBruijn64tab), ("internal/strconv.uint64pow10", laid_internal_strconv_uint64pow10), ("unicode.White_Space", laid_unicode_White_Space), ("strings.asciiSpace", laid_strings_asciiSpace)], narrowed := true }
def DateFromWeekMatchesSpecUptoSaid : Prop := dateFromWeekMatchesSpecUptoRow.holds Tryd.pinned (OpenSpec.upto dateFromWeekMatchesSpecSpec)

/-- 'brindlewoodlaw5.DateWeeksInverse', WHERE WHAT IT READS IS OF BULK AT MOST 1048576: true; the input reads as it did. -/
def dateWeeksInverseUptoRow : OpenClaim := { program := "ytnmkpadgogbgkaadoor", sum := "422a5dd2220329c324fae4f8bf1f3eadc8903d929a0a1090d649e84b03aacf3c", func := "brindlewood/brindlewoodlaw5.DateWeeksInverse", spec := "dateWeeksInverse", inPlace := ["internal/bytealg.IndexByteString", "internal/bytealg.IndexString", "internal/abi.NoEscape", "internal/bytealg.MakeNoZero"], unfollowed := true, recurses := true, named := ["internal/bytealg.MaxLen", "strings.asciiSpace", "unicode.White_Space", "internal/strconv.uint64pow10", "math/bits.deBruijn32tab", "math/bits.deBruijn64tab"], apart := false, laid := [("math/bits.deBruijn32tab", laid_math_bits_deBruijn32tab), ("math/bits.deBruijn64tab", laid_math_bits_deBruijn64tab), ("internal/strconv.uint64pow10", laid_internal_strconv_uint64pow10), ("unicode.White_Space", laid_unicode_White_Space), ("strings.asciiSpace", laid_strings_asciiSpace)], narrowed := true }
def DateWeeksInverseUptoSaid : Prop := dateWeeksInverseUptoRow.holds Tryd.pinned (OpenSpec.upto dateWeeksInverseSpec)

/-- 'brindlewoodlaw5.DateSpansAddUp', WHERE WHAT IT READS IS OF BULK AT MOST 1048576: true; the input reads as it did. -/
def dateSpansAddUpUptoRow : OpenClaim := { program := "ytnmkpadgogbgkaadoor", sum := "422a5dd2220329c324fae4f8bf1f3eadc8903d929a0a1090d649e84b03aacf3c", func := "brindlewood/brindlewoodlaw5.DateSpansAddUp", spec := "dateSpansAddUp", inPlace := ["internal/bytealg.IndexByteString", "internal/bytealg.IndexString", "internal/abi.NoEscape", "internal/bytealg.MakeNoZero"], unfollowed := true, recurses := true, named := ["internal/bytealg.MaxLen", "strings.asciiSpace", "unicode.White_Space", "internal/strconv.uint64pow10", "math/bits.deBruijn32tab", "math/bits.deBruijn64tab"], apart := false, laid := [("math/bits.deBruijn32tab", laid_math_bits_deBruijn32tab), ("math/bits.deBruijn64tab", laid_math_bits_deBruijn64tab), ("internal/strconv.uint64pow10", laid_internal_strconv_uint64pow10), ("unicode.White_Space", laid_unicode_White_Space), ("strings.asciiSpace", laid_strings_asciiSpace)], narrowed := true }
def DateSpansAddUpUptoSaid : Prop := dateSpansAddUpUptoRow.holds Tryd.pinned (OpenSpec.upto dateSpansAddUpSpec)

/-- 'brindlewoodlaw5.DateParseMatchesSpec', WHERE WHAT IT READS IS OF BULK AT MOST 1048576: true; the input reads as it did. -/
def dateParseMatchesSpecUptoRow : OpenClaim := { program := "ytnmkpadgogbgkaadoor", sum := "422a5dd2220329c324fae4f8bf1f3eadc8903d929a0a1090d649e84b03aacf3c", func := "brindlewood/brindlewoodlaw5.DateParseMatchesSpec", spec := "dateParseMatchesSpec", inPlace := ["internal/bytealg.IndexByteString", "internal/bytealg.IndexString", "internal/abi.NoEscape", "internal/bytealg.MakeNoZero"], unfollowed := true, recurses := true, named := ["internal/bytealg.MaxLen", "strings.asciiSpace", "unicode.White_Space", "internal/strconv.uint64pow10", "math/bits.deBruijn32tab", "math/bits.deBruijn64tab"], apart := false, laid := [("math/bits.deBruijn32tab", laid_math_bits_deBruijn32tab), ("math/bits.deBruijn64tab", laid_math_bits_deBruijn64tab), ("internal/strconv.uint64pow10", laid_internal_strconv_uint64pow10), ("unicode.White_Space", laid_unicode_White_Space), ("strings.asciiSpace", laid_strings_asciiSpace)], narrowed := true }
def DateParseMatchesSpecUptoSaid : Prop := dateParseMatchesSpecUptoRow.holds Tryd.pinned (OpenSpec.upto dateParseMatchesSpecSpec)

/-- 'brindlewoodlaw5.DateParsesFormatted', WHERE WHAT IT READS IS OF BULK AT MOST 1048576: true; the input reads as it did. -/
def dateParsesFormattedUptoRow : OpenClaim := { program := "ytnmkpadgogbgkaadoor", sum := "422a5dd2220329c324fae4f8bf1f3eadc8903d929a0a1090d649e84b03aacf3c", func := "brindlewood/brindlewoodlaw5.DateParsesFormatted", spec := "dateParsesFormatted", inPlace := ["internal/bytealg.IndexByteString", "internal/bytealg.IndexString", "internal/abi.NoEscape", "internal/bytealg.MakeNoZero"], unfollowed := true, recurses := true, named := ["internal/bytealg.MaxLen", "strings.asciiSpace", "unicode.White_Space", "internal/strconv.uint64pow10", "math/bits.deBruijn32tab", "math/bits.deBruijn64tab"], apart := false, laid := [("math/bits.deBruijn32tab", laid_math_bits_deBruijn32tab), ("math/bits.deBruijn64tab", laid_math_bits_deBruijn64tab), ("internal/strconv.uint64pow10", laid_internal_strconv_uint64pow10), ("unicode.White_Space", laid_unicode_White_Space), ("strings.asciiSpace", laid_strings_asciiSpace)], narrowed := true }
def DateParsesFormattedUptoSaid : Prop := dateParsesFormattedUptoRow.holds Tryd.pinned (OpenSpec.upto dateParsesFormattedSpec)

end Rows
end Go.Proofs.YtnmkpadgogbgkaaDoor
