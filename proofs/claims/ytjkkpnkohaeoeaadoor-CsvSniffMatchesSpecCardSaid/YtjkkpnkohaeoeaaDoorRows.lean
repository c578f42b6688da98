/-
  NARROWER THAN 'FOR EVERY INPUT', by the rows' own cells (each row's printed sentence says how): CsvPrintMatchesSpec: laid · CsvParseMatchesSpec: laid · CsvSelectMatchesSpec: laid · CsvRoundTrip: laid · CsvTextsJoin: laid · CsvSelectsTwice: laid · CsvSniffMatchesSpec: laid · CsvSniffedFits: laid.
  DERIVED. THE GIVEN ROWS OF THIS SEAT. 8 by the template 'for every input the law returns true; each argument reads behind the call as it read before'; 0 by the template 'total and deterministic' (their statements: YtjkkpnkohaeoeaaDoorTotals.lean).
  GIVEN WITH THE SEED: the statements are not yours to turn. If you find one false, say at which input.
  Laid BY PROGRAM, IN A SANDBOX (cutbox-rows.mjs): the forced cells as the released guide's own fill.sh prints them over the translation eeee4880387260ab… (all of the seat's roots in one cut). By AI agents, Wed Nov 11 2026. No macro, syntax, notation, axiom, sorry.
-/
import Derived.Test.YtjkkpnkohaeoeaaDoorChecked
import GoSem.PinnedTables
import GoSem.Claim
import GoSem.ClaimJoined
import GoSem.ClaimMapViews
import Derived.JoinedTies
import Derived.KernelRfl
namespace Go.Proofs.YtjkkpnkohaeoeaaDoor
/- THE CELL 'sum', in the pinned program and in every row, IS THE sha256 OF THE DUMP (.gsa) THAT YtjkkpnkohaeoeaaDoorProg.lean LOADS. Nothing in Lean hashes anything: it is a label: what it is worth is what the hold of that sum in a sandbox is worth. -/
noncomputable def Tryd.pinned : Pinned := { name := "ytjkkpnkohaeoeaadoor", sum := "eeee4880387260abbca582ce39c29c4d3b43f19e4472c9e7ca384a44ef60507d", checked := Tryd.checked }
namespace Rows
def none {H : Type} : Left H := { results := [], args := [] }

/- WHAT THE LISTED PACKAGE-LEVEL VARIABLES READ AS WHEN THE CALL BEGINS. Each datum BY PROGRAM (the guide's laid-datum.mjs) off the statement by which the dump's own 'gosem.cut.vars' lays the variable. In a bare row this is a premise. The card (YtjkkpnkohaeoeaaDoorCards.lean) ties it to the program's text. -/
def laid_unicode_utf8_acceptRanges {H : Type} : DataW H := .agg [.agg [.lit (.int .u8 128), .lit (.int .u8 191)], .agg [.lit (.int .u8 160), .lit (.int .u8 191)], .agg [.lit (.int .u8 128), .lit (.int .u8 159)], .agg [.lit (.int .u8 144), .lit (.int .u8 191)], .agg [.lit (.int .u8 128), .lit (.int .u8 143)], .agg [.lit (.int .u8 0), .lit (.int .u8 0)], .agg [.lit (.int .u8 0), .lit (.int .u8 0)], .agg [.lit (.int .u8 0), .lit (.int .u8 0)], .agg [.lit (.int .u8 0), .lit (.int .u8 0)], .agg [.lit (.int .u8 0), .lit (.int .u8 0)], .agg [.lit (.int .u8 0), .lit (.int .u8 0)], .agg [.lit (.int .u8 0), .lit (.int .u8 0)], .agg [.lit (.int .u8 0), .lit (.int .u8 0)], .agg [.lit (.int .u8 0), .lit (.int .u8 0)], .agg [.lit (.int .u8 0), .lit (.int .u8 0)], .agg [.lit (.int .u8 0), .lit (.int .u8 0)]]
/-- One of Go's own tables, pinned by name: the form's constant. -/
def laid_unicode_utf8_first : DataW Unit := Go.Pinned.utf8First

/-- 'brindlewoodlaw5.CsvPrintMatchesSpec': WHATEVER THE INPUT: true; the input reads as it did. -/
def csvPrintMatchesSpecSpec : ChangeSpec := { name := "csvPrintMatchesSpec", fn := fun _ => fun
  | [d1, d2] => { results := [.lit (.bool true)], args := [d1, d2] }
  | _ => none }
def csvPrintMatchesSpecRow : OpenClaim := { program := "ytjkkpnkohaeoeaadoor", sum := "eeee4880387260abbca582ce39c29c4d3b43f19e4472c9e7ca384a44ef60507d", func := "brindlewood/brindlewoodlaw5.CsvPrintMatchesSpec", spec := "csvPrintMatchesSpec", inPlace := ["internal/abi.NoEscape", "internal/bytealg.IndexByteString", "internal/bytealg.CountString", "internal/bytealg.IndexString", "internal/bytealg.MakeNoZero"], unfollowed := true, recurses := true, named := ["internal/bytealg.MaxLen", "unicode/utf8.first", "unicode/utf8.acceptRanges"], apart := false, laid := [("unicode/utf8.acceptRanges", laid_unicode_utf8_acceptRanges), ("unicode/utf8.first", laid_unicode_utf8_first)] }
def CsvPrintMatchesSpecSaid : Prop := csvPrintMatchesSpecRow.holds Tryd.pinned (OpenSpec.ofChange csvPrintMatchesSpecSpec)

/-- ITS FALSE NEIGHBOUR: 'it returns false'. Refute it at one input. -/
def csvPrintMatchesSpecWrong : ChangeSpec := { name := "csvPrintMatchesSpec", fn := fun _ => fun
  | [d1, d2] => { results := [.lit (.bool false)], args := [d1, d2] }
  | _ => none }
def CsvPrintMatchesSpecWrongFalsely : Prop := csvPrintMatchesSpecRow.holds Tryd.pinned (OpenSpec.ofChange csvPrintMatchesSpecWrong)

/-- 'brindlewoodlaw5.CsvParseMatchesSpec': WHATEVER THE INPUT: true; the input reads as it did. -/
def csvParseMatchesSpecSpec : ChangeSpec := { name := "csvParseMatchesSpec", fn := fun _ => fun
  | [d1, d2] => { results := [.lit (.bool true)], args := [d1, d2] }
  | _ => none }
def csvParseMatchesSpecRow : OpenClaim := { program := "ytjkkpnkohaeoeaadoor", sum := "eeee4880387260abbca582ce39c29c4d3b43f19e4472c9e7ca384a44ef60507d", func := "brindlewood/brindlewoodlaw5.CsvParseMatchesSpec", spec := "csvParseMatchesSpec", inPlace := ["internal/abi.NoEscape", "internal/bytealg.IndexByteString", "internal/bytealg.CountString", "internal/bytealg.IndexString", "internal/bytealg.MakeNoZero"], unfollowed := true, recurses := true, named := ["internal/bytealg.MaxLen", "unicode/utf8.first", "unicode/utf8.acceptRanges"], apart := false, laid := [("unicode/utf8.acceptRanges", laid_unicode_utf8_acceptRanges), ("unicode/utf8.first", laid_unicode_utf8_first)] }
def CsvParseMatchesSpecSaid : Prop := csvParseMatchesSpecRow.holds Tryd.pinned (OpenSpec.ofChange csvParseMatchesSpecSpec)

/-- ITS FALSE NEIGHBOUR: 'it returns false'. Refute it at one input. -/
def csvParseMatchesSpecWrong : ChangeSpec := { name := "csvParseMatchesSpec", fn := fun _ => fun
  | [d1, d2] => { results := [.lit (.bool false)], args := [d1, d2] }
  | _ => none }
def CsvParseMatchesSpecWrongFalsely : Prop := csvParseMatchesSpecRow.holds Tryd.pinned (OpenSpec.ofChange csvParseMatchesSpecWrong)

/-- 'brindlewoodlaw5.CsvSelectMatchesSpec': WHATEVER THE INPUT: true; the input reads as it did. -/
def csvSelectMatchesSpecSpec : ChangeSpec := { name := "csvSelectMatchesSpec", fn := fun _ => fun
  | [d1, d2] => { results := [.lit (.bool true)], args := [d1, d2] }
  | _ => none }
def csvSelectMatchesSpecRow : OpenClaim := { program := "ytjkkpnkohaeoeaadoor", sum := "eeee4880387260abbca582ce39c29c4d3b43f19e4472c9e7ca384a44ef60507d", func := "brindlewood/brindlewoodlaw5.CsvSelectMatchesSpec", spec := "csvSelectMatchesSpec", inPlace := ["internal/abi.NoEscape", "internal/bytealg.IndexByteString", "internal/bytealg.CountString", "internal/bytealg.IndexString", "internal/bytealg.MakeNoZero"], unfollowed := true, recurses := true, named := ["internal/bytealg.MaxLen", "unicode/utf8.first", "unicode/utf8.acceptRanges"], apart := false, laid := [("unicode/utf8.acceptRanges", laid_unicode_utf8_acceptRanges), ("unicode/utf8.first", laid_unicode_utf8_first)] }
def CsvSelectMatchesSpecSaid : Prop := csvSelectMatchesSpecRow.holds Tryd.pinned (OpenSpec.ofChange csvSelectMatchesSpecSpec)

/-- ITS FALSE NEIGHBOUR: 'it returns false'. Refute it at one input. -/
def csvSelectMatchesSpecWrong : ChangeSpec := { name := "csvSelectMatchesSpec", fn := fun _ => fun
  | [d1, d2] => { results := [.lit (.bool false)], args := [d1, d2] }
  | _ => none }
def CsvSelectMatchesSpecWrongFalsely : Prop := csvSelectMatchesSpecRow.holds Tryd.pinned (OpenSpec.ofChange csvSelectMatchesSpecWrong)

/-- 'brindlewoodlaw5.CsvRoundTrip': WHATEVER THE INPUT: true; the input reads as it did. -/
def csvRoundTripSpec : ChangeSpec := { name := "csvRoundTrip", fn := fun _ => fun
  | [d1, d2, d3, d4] => { results := [.lit (.bool true)], args := [d1, d2, d3, d4] }
  | _ => none }
def csvRoundTripRow : OpenClaim := { program := "ytjkkpnkohaeoeaadoor", sum := "eeee4880387260abbca582ce39c29c4d3b43f19e4472c9e7ca384a44ef60507d", func := "brindlewood/brindlewoodlaw5.CsvRoundTrip", spec := "csvRoundTrip", inPlace := ["internal/abi.NoEscape", "internal/bytealg.IndexByteString", "internal/bytealg.CountString", "internal/bytealg.IndexString", "internal/bytealg.MakeNoZero"], unfollowed := true, recurses := true, named := ["internal/bytealg.MaxLen", "unicode/utf8.first", "unicode/utf8.acceptRanges"], apart := false, laid := [("unicode/utf8.acceptRanges", laid_unicode_utf8_acceptRanges), ("unicode/utf8.first", laid_unicode_utf8_first)] }
def CsvRoundTripSaid : Prop := csvRoundTripRow.holds Tryd.pinned (OpenSpec.ofChange csvRoundTripSpec)

/-- ITS FALSE NEIGHBOUR: 'it returns false'. Refute it at one input. -/
def csvRoundTripWrong : ChangeSpec := { name := "csvRoundTrip", fn := fun _ => fun
  | [d1, d2, d3, d4] => { results := [.lit (.bool false)], args := [d1, d2, d3, d4] }
  | _ => none }
def CsvRoundTripWrongFalsely : Prop := csvRoundTripRow.holds Tryd.pinned (OpenSpec.ofChange csvRoundTripWrong)

/-- 'brindlewoodlaw5.CsvTextsJoin': WHATEVER THE INPUT: true; the input reads as it did. -/
def csvTextsJoinSpec : ChangeSpec := { name := "csvTextsJoin", fn := fun _ => fun
  | [d1, d2, d3] => { results := [.lit (.bool true)], args := [d1, d2, d3] }
  | _ => none }
def csvTextsJoinRow : OpenClaim := { program := "ytjkkpnkohaeoeaadoor", sum := "eeee4880387260abbca582ce39c29c4d3b43f19e4472c9e7ca384a44ef60507d", func := "brindlewood/brindlewoodlaw5.CsvTextsJoin", spec := "csvTextsJoin", inPlace := ["internal/abi.NoEscape", "internal/bytealg.IndexByteString", "internal/bytealg.CountString", "internal/bytealg.IndexString", "internal/bytealg.MakeNoZero"], unfollowed := true, recurses := true, named := ["internal/bytealg.MaxLen", "unicode/utf8.first", "unicode/utf8.acceptRanges"], apart := false, laid := [("unicode/utf8.acceptRanges", laid_unicode_utf8_acceptRanges), ("unicode/utf8.first", laid_unicode_utf8_first)] }
def CsvTextsJoinSaid : Prop := csvTextsJoinRow.holds Tryd.pinned (OpenSpec.ofChange csvTextsJoinSpec)

/-- ITS FALSE NEIGHBOUR: 'it returns false'. Refute it at one input. -/
def csvTextsJoinWrong : ChangeSpec := { name := "csvTextsJoin", fn := fun _ => fun
  | [d1, d2, d3] => { results := [.lit (.bool false)], args := [d1, d2, d3] }
  | _ => none }
def CsvTextsJoinWrongFalsely : Prop := csvTextsJoinRow.holds Tryd.pinned (OpenSpec.ofChange csvTextsJoinWrong)

/-- 'brindlewoodlaw5.CsvSelectsTwice': WHATEVER THE INPUT: true; the input reads as it did. -/
def csvSelectsTwiceSpec : ChangeSpec := { name := "csvSelectsTwice", fn := fun _ => fun
  | [d1, d2, d3] => { results := [.lit (.bool true)], args := [d1, d2, d3] }
  | _ => none }
def csvSelectsTwiceRow : OpenClaim := { program := "ytjkkpnkohaeoeaadoor", sum := "eeee4880387260abbca582ce39c29c4d3b43f19e4472c9e7ca384a44ef60507d", func := "brindlewood/brindlewoodlaw5.CsvSelectsTwice", spec := "csvSelectsTwice", inPlace := ["internal/abi.NoEscape", "internal/bytealg.IndexByteString", "internal/bytealg.CountString", "internal/bytealg.IndexString", "internal/bytealg.MakeNoZero"], unfollowed := true, recurses := true, named := ["internal/bytealg.MaxLen", "unicode/utf8.first", "unicode/utf8.acceptRanges"], apart := false, laid := [("unicode/utf8.acceptRanges", laid_unicode_utf8_acceptRanges), ("unicode/utf8.first", laid_unicode_utf8_first)] }
def CsvSelectsTwiceSaid : Prop := csvSelectsTwiceRow.holds Tryd.pinned (OpenSpec.ofChange csvSelectsTwiceSpec)

/-- ITS FALSE NEIGHBOUR: 'it returns false'. Refute it at one input. -/
def csvSelectsTwiceWrong : ChangeSpec := { name := "csvSelectsTwice", fn := fun _ => fun
  | [d1, d2, d3] => { results := [.lit (.bool false)], args := [d1, d2, d3] }
  | _ => none }
def CsvSelectsTwiceWrongFalsely : Prop := csvSelectsTwiceRow.holds Tryd.pinned (OpenSpec.ofChange csvSelectsTwiceWrong)

/-- 'brindlewoodlaw5.CsvSniffMatchesSpec': WHATEVER THE INPUT: true; the input reads as it did. -/
def csvSniffMatchesSpecSpec : ChangeSpec := { name := "csvSniffMatchesSpec", fn := fun _ => fun
  | [d] => { results := [.lit (.bool true)], args := [d] }
  | _ => none }
def csvSniffMatchesSpecRow : OpenClaim := { program := "ytjkkpnkohaeoeaadoor", sum := "eeee4880387260abbca582ce39c29c4d3b43f19e4472c9e7ca384a44ef60507d", func := "brindlewood/brindlewoodlaw5.CsvSniffMatchesSpec", spec := "csvSniffMatchesSpec", inPlace := ["internal/abi.NoEscape", "internal/bytealg.IndexByteString", "internal/bytealg.CountString", "internal/bytealg.IndexString", "internal/bytealg.MakeNoZero"], unfollowed := true, recurses := true, named := ["internal/bytealg.MaxLen", "unicode/utf8.first", "unicode/utf8.acceptRanges"], apart := false, laid := [("unicode/utf8.acceptRanges", laid_unicode_utf8_acceptRanges), ("unicode/utf8.first", laid_unicode_utf8_first)] }
def CsvSniffMatchesSpecSaid : Prop := csvSniffMatchesSpecRow.holds Tryd.pinned (OpenSpec.ofChange csvSniffMatchesSpecSpec)

/-- ITS FALSE NEIGHBOUR: 'it returns false'. Refute it at one input. -/
def csvSniffMatchesSpecWrong : ChangeSpec := { name := "csvSniffMatchesSpec", fn := fun _ => fun
  | [d] => { results := [.lit (.bool false)], args := [d] }
  | _ => none }
def CsvSniffMatchesSpecWrongFalsely : Prop := csvSniffMatchesSpecRow.holds Tryd.pinned (OpenSpec.ofChange csvSniffMatchesSpecWrong)

/-- 'brindlewoodlaw5.CsvSniffedFits': WHATEVER THE INPUT: true; the input reads as it did. -/
def csvSniffedFitsSpec : ChangeSpec := { name := "csvSniffedFits", fn := fun _ => fun
  | [d1, d2] => { results := [.lit (.bool true)], args := [d1, d2] }
  | _ => none }
def csvSniffedFitsRow : OpenClaim := { program := "ytjkkpnkohaeoeaadoor", sum := "eeee4880387260abbca582ce39c29c4d3b43f19e4472c9e7ca384a44ef60507d", func := "brindlewood/brindlewoodlaw5.CsvSniffedFits", spec := "csvSniffedFits", inPlace := ["internal/abi.NoEscape", "internal/bytealg.IndexByteString", "internal/bytealg.CountString", "internal/bytealg.IndexString", "internal/bytealg.MakeNoZero"], unfollowed := true, recurses := true, named := ["internal/bytealg.MaxLen", "unicode/utf8.first", "unicode/utf8.acceptRanges"], apart := false, laid := [("unicode/utf8.acceptRanges", laid_unicode_utf8_acceptRanges), ("unicode/utf8.first", laid_unicode_utf8_first)] }
def CsvSniffedFitsSaid : Prop := csvSniffedFitsRow.holds Tryd.pinned (OpenSpec.ofChange csvSniffedFitsSpec)

/-- ITS FALSE NEIGHBOUR: 'it returns false'. Refute it at one input. -/
def csvSniffedFitsWrong : ChangeSpec := { name := "csvSniffedFits", fn := fun _ => fun
  | [d1, d2] => { results := [.lit (.bool false)], args := [d1, d2] }
  | _ => none }
def CsvSniffedFitsWrongFalsely : Prop := csvSniffedFitsRow.holds Tryd.pinned (OpenSpec.ofChange csvSniffedFitsWrong)

/- THE SECOND FORM. 'bulk': how many values and letters a reading holds, each counted each time it is reached (what is shared counts as often as it is met; a slice's spare places count too). A statement '..UptoSaid' is the law's where the arguments, and the package variables that the reading takes, are together of bulk at most 1048576: NARROWER than '..Said'. Prove '..Said' where nothing that the law and all that it calls make is longer than what came in: it says more and counts as full. Else prove '..UptoSaid'. A law counts once. -/
mutual
def uptoBulk {H : Type} : DataW H → Nat
  | .lit (.string bytes) => bytes.length + 1
  | .lit _ => 1
  | .nil => 1
  | .ptr d => uptoBulk d + 1
  | .slice elems spare => uptoBulkAll elems + uptoBulkAll spare + 1
  | .agg parts => uptoBulkAll parts + 1
  | .iface _ d => uptoBulk d + 1
  | .map entries => uptoBulkEntries entries + 1
  | .held _ => 1
def uptoBulkAll {H : Type} : List (DataW H) → Nat
  | [] => 0
  | d :: r => uptoBulk d + uptoBulkAll r
def uptoBulkEntries {H : Type} : List (Lit × DataW H) → Nat
  | [] => 0
  | x :: r => uptoBulkEntry x + uptoBulkEntries r
def uptoBulkEntry {H : Type} : Lit × DataW H → Nat
  | (.string bytes, d) => bytes.length + uptoBulk d + 1
  | (_, d) => uptoBulk d + 1
 end
def uptoSmall : (H : Type) → List (DataW H) → Bool := fun _ ds => decide (uptoBulkAll ds ≤ 1048576)
def OpenSpec.upto (s : _root_.Go.ChangeSpec) : _root_.Go.OpenSpec := { _root_.Go.OpenSpec.ofChange s with cond := some uptoSmall }

/-- 'brindlewoodlaw5.CsvPrintMatchesSpec', WHERE WHAT IT READS IS OF BULK AT MOST 1048576: true; the input reads as it did. -/
def csvPrintMatchesSpecUptoRow : OpenClaim := { program := "ytjkkpnkohaeoeaadoor", sum := "eeee4880387260abbca582ce39c29c4d3b43f19e4472c9e7ca384a44ef60507d", func := "brindlewood/brindlewoodlaw5.CsvPrintMatchesSpec", spec := "csvPrintMatchesSpec", inPlace := ["internal/abi.NoEscape", "internal/bytealg.IndexByteString", "internal/bytealg.CountString", "internal/bytealg.IndexString", "internal/bytealg.MakeNoZero"], unfollowed := true, recurses := true, named := ["internal/bytealg.MaxLen", "unicode/utf8.first", "unicode/utf8.acceptRanges"], apart := false, laid := [("unicode/utf8.acceptRanges", laid_unicode_utf8_acceptRanges), ("unicode/utf8.first", laid_unicode_utf8_first)], narrowed := true }
def CsvPrintMatchesSpecUptoSaid : Prop := csvPrintMatchesSpecUptoRow.holds Tryd.pinned (OpenSpec.upto csvPrintMatchesSpecSpec)

/-- 'brindlewoodlaw5.CsvParseMatchesSpec', WHERE WHAT IT READS IS OF BULK AT MOST 1048576: true; the input reads as it did. -/
def csvParseMatchesSpecUptoRow : OpenClaim := { program := "ytjkkpnkohaeoeaadoor", sum := "eeee4880387260abbca582ce39c29c4d3b43f19e4472c9e7ca384a44ef60507d", func := "brindlewood/brindlewoodlaw5.CsvParseMatchesSpec", spec := "csvParseMatchesSpec", inPlace := ["internal/abi.NoEscape", "internal/bytealg.IndexByteString", "internal/bytealg.CountString", "internal/bytealg.IndexString", "internal/bytealg.MakeNoZero"], unfollowed := true, recurses := true, named := ["internal/bytealg.MaxLen", "unicode/utf8.first", "unicode/utf8.acceptRanges"], apart := false, laid := [("unicode/utf8.acceptRanges", laid_unicode_utf8_acceptRanges), ("unicode/utf8.first", laid_unicode_utf8_first)], narrowed := true }
def CsvParseMatchesSpecUptoSaid : Prop := csvParseMatchesSpecUptoRow.holds Tryd.pinned (OpenSpec.upto csvParseMatchesSpecSpec)

/-- 'brindlewoodlaw5.CsvSelectMatchesSpec', WHERE WHAT IT READS IS OF BULK AT MOST 1048576: true; the input reads as it did. -/
def csvSelectMatchesSpecUptoRow : OpenClaim := { program := "ytjkkpnkohaeoeaadoor", sum := "eeee4880387260abbca582ce39c29c4d3b43f19e4472c9e7ca384a44ef60507d", func := "brindlewood/brindlewoodlaw5.CsvSelectMatchesSpec", spec := "csvSelectMatchesSpec", inPlace := ["internal/abi.NoEscape", "internal/bytealg.IndexByteString", "internal/bytealg.CountString", "internal/bytealg.IndexString", "internal/bytealg.MakeNoZero"], unfollowed := true, recurses := true, named := ["internal/bytealg.MaxLen", "unicode/utf8.first", "unicode/utf8.acceptRanges"], apart := false, laid := [("unicode/utf8.acceptRanges", laid_unicode_utf8_acceptRanges), ("unicode/utf8.first", laid_unicode_utf8_first)], narrowed := true }
def CsvSelectMatchesSpecUptoSaid : Prop := csvSelectMatchesSpecUptoRow.holds Tryd.pinned (OpenSpec.upto csvSelectMatchesSpecSpec)

/-- 'brindlewoodlaw5.CsvRoundTrip', WHERE WHAT IT READS IS OF BULK AT MOST 1048576: true; the input reads as it did. -/
def csvRoundTripUptoRow : OpenClaim := { program := "ytjkkpnkohaeoeaadoor", sum := "eeee4880387260abbca582ce39c29c4d3b43f19e4472c9e7ca384a44ef60507d", func := "brindlewood/brindlewoodlaw5.CsvRoundTrip", spec := "csvRoundTrip", inPlace := ["internal/abi.NoEscape", "internal/bytealg.IndexByteString", "internal/bytealg.CountString", "internal/bytealg.IndexString", "internal/bytealg.MakeNoZero"], unfollowed := true, recurses := true, named := ["internal/bytealg.MaxLen", "unicode/utf8.first", "unicode/utf8.acceptRanges"], apart := false, laid := [("unicode/utf8.acceptRanges", laid_unicode_utf8_acceptRanges), ("unicode/utf8.first", laid_unicode_utf8_first)], narrowed := true }
def CsvRoundTripUptoSaid : Prop := csvRoundTripUptoRow.holds Tryd.pinned (OpenSpec.upto csvRoundTripSpec)

/-- 'brindlewoodlaw5.CsvTextsJoin', WHERE WHAT IT READS IS OF BULK AT MOST 1048576: true; the input reads as it did. -/
def csvTextsJoinUptoRow : OpenClaim := { program := "ytjkkpnkohaeoeaadoor", sum := "eeee4880387260abbca582ce39c29c4d3b43f19e4472c9e7ca384a44ef60507d", func := "brindlewood/brindlewoodlaw5.CsvTextsJoin", spec := "csvTextsJoin", inPlace := ["internal/abi.NoEscape", "internal/bytealg.IndexByteString", "internal/bytealg.CountString", "internal/bytealg.IndexString", "internal/bytealg.MakeNoZero"], unfollowed := true, recurses := true, named := ["internal/bytealg.MaxLen", "unicode/utf8.first", "unicode/utf8.acceptRanges"], apart := false, laid := [("unicode/utf8.acceptRanges", laid_unicode_utf8_acceptRanges), ("unicode/utf8.first", laid_unicode_utf8_first)], narrowed := true }
def CsvTextsJoinUptoSaid : Prop := csvTextsJoinUptoRow.holds Tryd.pinned (OpenSpec.upto csvTextsJoinSpec)

/-- 'brindlewoodlaw5.CsvSelectsTwice', WHERE WHAT IT READS IS OF BULK AT MOST 1048576: true; the input reads as it did. -/
def csvSelectsTwiceUptoRow : OpenClaim := { program := "ytjkkpnkohaeoeaadoor", sum := "eeee4880387260abbca582ce39c29c4d3b43f19e4472c9e7ca384a44ef60507d", func := "brindlewood/brindlewoodlaw5.CsvSelectsTwice", spec := "csvSelectsTwice", inPlace := ["internal/abi.NoEscape", "internal/bytealg.IndexByteString", "internal/bytealg.CountString", "internal/bytealg.IndexString", "internal/bytealg.MakeNoZero"], unfollowed := true, recurses := true, named := ["internal/bytealg.MaxLen", "unicode/utf8.first", "unicode/utf8.acceptRanges"], apart := false, laid := [("unicode/utf8.acceptRanges", laid_unicode_utf8_acceptRanges), ("unicode/utf8.first", laid_unicode_utf8_first)], narrowed := true }
def CsvSelectsTwiceUptoSaid : Prop := csvSelectsTwiceUptoRow.holds Tryd.pinned (OpenSpec.upto csvSelectsTwiceSpec)

/-- 'brindlewoodlaw5.CsvSniffMatchesSpec', WHERE WHAT IT READS IS OF BULK AT MOST 1048576: true; the input reads as it did. -/
def csvSniffMatchesSpecUptoRow : OpenClaim := { program := "ytjkkpnkohaeoeaadoor", sum := "eeee4880387260abbca582ce39c29c4d3b43f19e4472c9e7ca384a44ef60507d", func := "brindlewood/brindlewoodlaw5.CsvSniffMatchesSpec", spec := "csvSniffMatchesSpec", inPlace := ["internal/abi.NoEscape", "internal/bytealg.IndexByteString", "internal/bytealg.CountString", "internal/bytealg.IndexString", "internal/bytealg.MakeNoZero"], unfollowed := true, recurses := true, named := ["internal/bytealg.MaxLen", "unicode/utf8.first", "unicode/utf8.acceptRanges"], apart := false, laid := [("unicode/utf8.acceptRanges", laid_unicode_utf8_acceptRanges), ("unicode/utf8.first", laid_unicode_utf8_first)], narrowed := true }
def CsvSniffMatchesSpecUptoSaid : Prop := csvSniffMatchesSpecUptoRow.holds Tryd.pinned (OpenSpec.upto csvSniffMatchesSpecSpec)

/-- 'brindlewoodlaw5.CsvSniffedFits', WHERE WHAT IT READS IS OF BULK AT MOST 1048576: true; the input reads as it did. -/
def csvSniffedFitsUptoRow : OpenClaim := { program := "ytjkkpnkohaeoeaadoor", sum := "eeee4880387260abbca582ce39c29c4d3b43f19e4472c9e7ca384a44ef60507d", func := "brindlewood/brindlewoodlaw5.CsvSniffedFits", spec := "csvSniffedFits", inPlace := ["internal/abi.NoEscape", "internal/bytealg.IndexByteString", "internal/bytealg.CountString", "internal/bytealg.IndexString", "internal/bytealg.MakeNoZero"], unfollowed := true, recurses := true, named := ["internal/bytealg.MaxLen", "unicode/utf8.first", "unicode/utf8.acceptRanges"], apart := false, laid := [("unicode/utf8.acceptRanges", laid_unicode_utf8_acceptRanges), ("unicode/utf8.first", laid_unicode_utf8_first)], narrowed := true }
def CsvSniffedFitsUptoSaid : Prop := csvSniffedFitsUptoRow.holds Tryd.pinned (OpenSpec.upto csvSniffedFitsSpec)

end Rows
end Go.Proofs.YtjkkpnkohaeoeaaDoor
