/-
  DERIVED. GIVEN WITH THE SEED: THE CARDS: each row of YtjkkpnkohaeoeaaDoorRows.lean that lists a variable, with what it lists TIED to the program's text (the seventh form; the later family's looks); each row that meets fmt, with fmt's text TOLD by the authors' own Lean function (tested against real Go, not proved from fmt's source: count such statements apart). THE CARD IS WHAT COUNTS. Prove the row's statement (the work); the ties are given (YtjkkpnkohaeoeaaDoorTie.lean); close each card by the builder's one call (the guide's Derived/Test/ToyasCard.lean, 'card_holds'). Laid BY PROGRAM, IN A SANDBOX (cutbox-door.mjs). By AI agents, Wed Nov 11 2026. No macro, syntax, notation, axiom, sorry.
-/
import Derived.Test.YtjkkpnkohaeoeaaDoorRows
import GoSem.ClaimSeven
namespace Go.Proofs.YtjkkpnkohaeoeaaDoor
namespace Rows

/-- THE TIED CARD OF 'brindlewoodlaw5.CsvPrintMatchesSpec'. -/
def csvPrintMatchesSpecCard : Claim7 := { stood := { row := csvPrintMatchesSpecRow, standIns := [], harness := (true, "926b8dd85b6e043322d79892635209cc84eb3c6cb1302298998721382287ef32"), looks := false }, kinds := [], alts := [], laidByText := true, laidKinds := [.data, .pinned], laidTests := true, laidLooks := .later }
def CsvPrintMatchesSpecCardSaid : Prop := Claim7.holds Tryd.pinned (.plain (OpenSpec.ofChange csvPrintMatchesSpecSpec)) csvPrintMatchesSpecCard

/-- THE TIED CARD OF 'brindlewoodlaw5.CsvParseMatchesSpec'. -/
def csvParseMatchesSpecCard : Claim7 := { stood := { row := csvParseMatchesSpecRow, standIns := [], harness := (true, "926b8dd85b6e043322d79892635209cc84eb3c6cb1302298998721382287ef32"), looks := false }, kinds := [], alts := [], laidByText := true, laidKinds := [.data, .pinned], laidTests := true, laidLooks := .later }
def CsvParseMatchesSpecCardSaid : Prop := Claim7.holds Tryd.pinned (.plain (OpenSpec.ofChange csvParseMatchesSpecSpec)) csvParseMatchesSpecCard

/-- THE TIED CARD OF 'brindlewoodlaw5.CsvSelectMatchesSpec'. -/
def csvSelectMatchesSpecCard : Claim7 := { stood := { row := csvSelectMatchesSpecRow, standIns := [], harness := (true, "926b8dd85b6e043322d79892635209cc84eb3c6cb1302298998721382287ef32"), looks := false }, kinds := [], alts := [], laidByText := true, laidKinds := [.data, .pinned], laidTests := true, laidLooks := .later }
def CsvSelectMatchesSpecCardSaid : Prop := Claim7.holds Tryd.pinned (.plain (OpenSpec.ofChange csvSelectMatchesSpecSpec)) csvSelectMatchesSpecCard

/-- THE TIED CARD OF 'brindlewoodlaw5.CsvRoundTrip'. -/
def csvRoundTripCard : Claim7 := { stood := { row := csvRoundTripRow, standIns := [], harness := (true, "926b8dd85b6e043322d79892635209cc84eb3c6cb1302298998721382287ef32"), looks := false }, kinds := [], alts := [], laidByText := true, laidKinds := [.data, .pinned], laidTests := true, laidLooks := .later }
def CsvRoundTripCardSaid : Prop := Claim7.holds Tryd.pinned (.plain (OpenSpec.ofChange csvRoundTripSpec)) csvRoundTripCard

/-- THE TIED CARD OF 'brindlewoodlaw5.CsvTextsJoin'. -/
def csvTextsJoinCard : Claim7 := { stood := { row := csvTextsJoinRow, standIns := [], harness := (true, "926b8dd85b6e043322d79892635209cc84eb3c6cb1302298998721382287ef32"), looks := false }, kinds := [], alts := [], laidByText := true, laidKinds := [.data, .pinned], laidTests := true, laidLooks := .later }
def CsvTextsJoinCardSaid : Prop := Claim7.holds Tryd.pinned (.plain (OpenSpec.ofChange csvTextsJoinSpec)) csvTextsJoinCard

/-- THE TIED CARD OF 'brindlewoodlaw5.CsvSelectsTwice'. -/
def csvSelectsTwiceCard : Claim7 := { stood := { row := csvSelectsTwiceRow, standIns := [], harness := (true, "926b8dd85b6e043322d79892635209cc84eb3c6cb1302298998721382287ef32"), looks := false }, kinds := [], alts := [], laidByText := true, laidKinds := [.data, .pinned], laidTests := true, laidLooks := .later }
def CsvSelectsTwiceCardSaid : Prop := Claim7.holds Tryd.pinned (.plain (OpenSpec.ofChange csvSelectsTwiceSpec)) csvSelectsTwiceCard

/-- THE TIED CARD OF 'brindlewoodlaw5.CsvSniffMatchesSpec'. -/
def csvSniffMatchesSpecCard : Claim7 := { stood := { row := csvSniffMatchesSpecRow, standIns := [], harness := (true, "926b8dd85b6e043322d79892635209cc84eb3c6cb1302298998721382287ef32"), looks := false }, kinds := [], alts := [], laidByText := true, laidKinds := [.data, .pinned], laidTests := true, laidLooks := .later }
def CsvSniffMatchesSpecCardSaid : Prop := Claim7.holds Tryd.pinned (.plain (OpenSpec.ofChange csvSniffMatchesSpecSpec)) csvSniffMatchesSpecCard

/-- THE TIED CARD OF 'brindlewoodlaw5.CsvSniffedFits'. -/
def csvSniffedFitsCard : Claim7 := { stood := { row := csvSniffedFitsRow, standIns := [], harness := (true, "926b8dd85b6e043322d79892635209cc84eb3c6cb1302298998721382287ef32"), looks := false }, kinds := [], alts := [], laidByText := true, laidKinds := [.data, .pinned], laidTests := true, laidLooks := .later }
def CsvSniffedFitsCardSaid : Prop := Claim7.holds Tryd.pinned (.plain (OpenSpec.ofChange csvSniffedFitsSpec)) csvSniffedFitsCard

/-- THE SECOND FORM's CARD OF 'brindlewoodlaw5.CsvPrintMatchesSpec'. -/
def csvPrintMatchesSpecUptoCard : Claim7 := { stood := { row := csvPrintMatchesSpecUptoRow, standIns := [], harness := (true, "926b8dd85b6e043322d79892635209cc84eb3c6cb1302298998721382287ef32"), looks := false }, kinds := [], alts := [], laidByText := true, laidKinds := [.data, .pinned], laidTests := true, laidLooks := .later }
def CsvPrintMatchesSpecUptoCardSaid : Prop := Claim7.holds Tryd.pinned (.plain (OpenSpec.upto csvPrintMatchesSpecSpec)) csvPrintMatchesSpecUptoCard

/-- THE SECOND FORM's CARD OF 'brindlewoodlaw5.CsvParseMatchesSpec'. -/
def csvParseMatchesSpecUptoCard : Claim7 := { stood := { row := csvParseMatchesSpecUptoRow, standIns := [], harness := (true, "926b8dd85b6e043322d79892635209cc84eb3c6cb1302298998721382287ef32"), looks := false }, kinds := [], alts := [], laidByText := true, laidKinds := [.data, .pinned], laidTests := true, laidLooks := .later }
def CsvParseMatchesSpecUptoCardSaid : Prop := Claim7.holds Tryd.pinned (.plain (OpenSpec.upto csvParseMatchesSpecSpec)) csvParseMatchesSpecUptoCard

/-- THE SECOND FORM's CARD OF 'brindlewoodlaw5.CsvSelectMatchesSpec'. -/
def csvSelectMatchesSpecUptoCard : Claim7 := { stood := { row := csvSelectMatchesSpecUptoRow, standIns := [], harness := (true, "926b8dd85b6e043322d79892635209cc84eb3c6cb1302298998721382287ef32"), looks := false }, kinds := [], alts := [], laidByText := true, laidKinds := [.data, .pinned], laidTests := true, laidLooks := .later }
def CsvSelectMatchesSpecUptoCardSaid : Prop := Claim7.holds Tryd.pinned (.plain (OpenSpec.upto csvSelectMatchesSpecSpec)) csvSelectMatchesSpecUptoCard

/-- THE SECOND FORM's CARD OF 'brindlewoodlaw5.CsvRoundTrip'. -/
def csvRoundTripUptoCard : Claim7 := { stood := { row := csvRoundTripUptoRow, standIns := [], harness := (true, "926b8dd85b6e043322d79892635209cc84eb3c6cb1302298998721382287ef32"), looks := false }, kinds := [], alts := [], laidByText := true, laidKinds := [.data, .pinned], laidTests := true, laidLooks := .later }
def CsvRoundTripUptoCardSaid : Prop := Claim7.holds Tryd.pinned (.plain (OpenSpec.upto csvRoundTripSpec)) csvRoundTripUptoCard

/-- THE SECOND FORM's CARD OF 'brindlewoodlaw5.CsvTextsJoin'. -/
def csvTextsJoinUptoCard : Claim7 := { stood := { row := csvTextsJoinUptoRow, standIns := [], harness := (true, "926b8dd85b6e043322d79892635209cc84eb3c6cb1302298998721382287ef32"), looks := false }, kinds := [], alts := [], laidByText := true, laidKinds := [.data, .pinned], laidTests := true, laidLooks := .later }
def CsvTextsJoinUptoCardSaid : Prop := Claim7.holds Tryd.pinned (.plain (OpenSpec.upto csvTextsJoinSpec)) csvTextsJoinUptoCard

/-- THE SECOND FORM's CARD OF 'brindlewoodlaw5.CsvSelectsTwice'. -/
def csvSelectsTwiceUptoCard : Claim7 := { stood := { row := csvSelectsTwiceUptoRow, standIns := [], harness := (true, "926b8dd85b6e043322d79892635209cc84eb3c6cb1302298998721382287ef32"), looks := false }, kinds := [], alts := [], laidByText := true, laidKinds := [.data, .pinned], laidTests := true, laidLooks := .later }
def CsvSelectsTwiceUptoCardSaid : Prop := Claim7.holds Tryd.pinned (.plain (OpenSpec.upto csvSelectsTwiceSpec)) csvSelectsTwiceUptoCard

/-- THE SECOND FORM's CARD OF 'brindlewoodlaw5.CsvSniffMatchesSpec'. -/
def csvSniffMatchesSpecUptoCard : Claim7 := { stood := { row := csvSniffMatchesSpecUptoRow, standIns := [], harness := (true, "926b8dd85b6e043322d79892635209cc84eb3c6cb1302298998721382287ef32"), looks := false }, kinds := [], alts := [], laidByText := true, laidKinds := [.data, .pinned], laidTests := true, laidLooks := .later }
def CsvSniffMatchesSpecUptoCardSaid : Prop := Claim7.holds Tryd.pinned (.plain (OpenSpec.upto csvSniffMatchesSpecSpec)) csvSniffMatchesSpecUptoCard

/-- THE SECOND FORM's CARD OF 'brindlewoodlaw5.CsvSniffedFits'. -/
def csvSniffedFitsUptoCard : Claim7 := { stood := { row := csvSniffedFitsUptoRow, standIns := [], harness := (true, "926b8dd85b6e043322d79892635209cc84eb3c6cb1302298998721382287ef32"), looks := false }, kinds := [], alts := [], laidByText := true, laidKinds := [.data, .pinned], laidTests := true, laidLooks := .later }
def CsvSniffedFitsUptoCardSaid : Prop := Claim7.holds Tryd.pinned (.plain (OpenSpec.upto csvSniffedFitsSpec)) csvSniffedFitsUptoCard
end Rows
end Go.Proofs.YtjkkpnkohaeoeaaDoor
