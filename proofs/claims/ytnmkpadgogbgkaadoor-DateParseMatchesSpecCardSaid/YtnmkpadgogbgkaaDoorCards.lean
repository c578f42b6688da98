/-
  DERIVED. GIVEN WITH THE SEED: THE CARDS: each row of YtnmkpadgogbgkaaDoorRows.lean that lists a variable, with what it lists TIED to the program's text (the seventh form; the later family's looks); each row that meets fmt, with fmt's text TOLD by the authors' own Lean function (tested against real Go, not proved from fmt's source: count such statements apart). THE CARD IS WHAT COUNTS. Prove the row's statement (the work); the ties are given (YtnmkpadgogbgkaaDoorTie.lean); close each card by the builder's one call (the guide's Derived/Test/ToyasCard.lean, 'card_holds'). Laid BY PROGRAM, IN A SANDBOX (cutbox-door.mjs). By AI agents, Wed Nov 11 2026. No macro, syntax, notation, axiom, sorry.
-/
import Derived.Test.YtnmkpadgogbgkaaDoorRows
import GoSem.ClaimSeven
namespace Go.Proofs.YtnmkpadgogbgkaaDoor
namespace Rows

/-- THE TIED CARD OF 'brindlewoodlaw5.DateFormatMatchesSpec'. -/
def dateFormatMatchesSpecCard : Claim7 := { stood := { row := dateFormatMatchesSpecRow, standIns := [], harness := (true, "d84fa6d94f053ad46e73a0b2c1d8bec46d20a3a48f052993045263f3989a71e8"), looks := false }, kinds := [], alts := [], laidByText := true, laidKinds := [.data, .data, .data, .listed, .data], laidTests := true, laidLooks := .later }
def DateFormatMatchesSpecCardSaid : Prop := Claim7.holds Tryd.pinned (.plain (OpenSpec.ofChange dateFormatMatchesSpecSpec)) dateFormatMatchesSpecCard

/-- THE TIED CARD OF 'brindlewoodlaw5.DateNumberMatchesSpec'. -/
def dateNumberMatchesSpecCard : Claim7 := { stood := { row := dateNumberMatchesSpecRow, standIns := [], harness := (true, "d84fa6d94f053ad46e73a0b2c1d8bec46d20a3a48f052993045263f3989a71e8"), looks := false }, kinds := [], alts := [], laidByText := true, laidKinds := [.data, .data, .data, .listed, .data], laidTests := true, laidLooks := .later }
def DateNumberMatchesSpecCardSaid : Prop := Claim7.holds Tryd.pinned (.plain (OpenSpec.ofChange dateNumberMatchesSpecSpec)) dateNumberMatchesSpecCard

/-- THE TIED CARD OF 'brindlewoodlaw5.DateAddMonthsMatchesSpec'. -/
def dateAddMonthsMatchesSpecCard : Claim7 := { stood := { row := dateAddMonthsMatchesSpecRow, standIns := [], harness := (true, "d84fa6d94f053ad46e73a0b2c1d8bec46d20a3a48f052993045263f3989a71e8"), looks := false }, kinds := [], alts := [], laidByText := true, laidKinds := [.data, .data, .data, .listed, .data], laidTests := true, laidLooks := .later }
def DateAddMonthsMatchesSpecCardSaid : Prop := Claim7.holds Tryd.pinned (.plain (OpenSpec.ofChange dateAddMonthsMatchesSpecSpec)) dateAddMonthsMatchesSpecCard

/-- THE TIED CARD OF 'brindlewoodlaw5.DateMonthsAdd'. -/
def dateMonthsAddCard : Claim7 := { stood := { row := dateMonthsAddRow, standIns := [], harness := (true, "d84fa6d94f053ad46e73a0b2c1d8bec46d20a3a48f052993045263f3989a71e8"), looks := false }, kinds := [], alts := [], laidByText := true, laidKinds := [.data, .data, .data, .listed, .data], laidTests := true, laidLooks := .later }
def DateMonthsAddCardSaid : Prop := Claim7.holds Tryd.pinned (.plain (OpenSpec.ofChange dateMonthsAddSpec)) dateMonthsAddCard

/-- THE TIED CARD OF 'brindlewoodlaw5.DateAtMatchesSpec'. -/
def dateAtMatchesSpecCard : Claim7 := { stood := { row := dateAtMatchesSpecRow, standIns := [], harness := (true, "d84fa6d94f053ad46e73a0b2c1d8bec46d20a3a48f052993045263f3989a71e8"), looks := false }, kinds := [], alts := [], laidByText := true, laidKinds := [.data, .data, .data, .listed, .data], laidTests := true, laidLooks := .later }
def DateAtMatchesSpecCardSaid : Prop := Claim7.holds Tryd.pinned (.plain (OpenSpec.ofChange dateAtMatchesSpecSpec)) dateAtMatchesSpecCard

/-- THE TIED CARD OF 'brindlewoodlaw5.DateBetweenMatchesSpec'. -/
def dateBetweenMatchesSpecCard : Claim7 := { stood := { row := dateBetweenMatchesSpecRow, standIns := [], harness := (true, "d84fa6d94f053ad46e73a0b2c1d8bec46d20a3a48f052993045263f3989a71e8"), looks := false }, kinds := [], alts := [], laidByText := true, laidKinds := [.data, .data, .data, .listed, .data], laidTests := true, laidLooks := .later }
def DateBetweenMatchesSpecCardSaid : Prop := Claim7.holds Tryd.pinned (.plain (OpenSpec.ofChange dateBetweenMatchesSpecSpec)) dateBetweenMatchesSpecCard

/-- THE TIED CARD OF 'brindlewoodlaw5.DateDaysFollow'. -/
def dateDaysFollowCard : Claim7 := { stood := { row := dateDaysFollowRow, standIns := [], harness := (true, "d84fa6d94f053ad46e73a0b2c1d8bec46d20a3a48f052993045263f3989a71e8"), looks := false }, kinds := [], alts := [], laidByText := true, laidKinds := [.data, .data, .data, .listed, .data], laidTests := true, laidLooks := .later }
def DateDaysFollowCardSaid : Prop := Claim7.holds Tryd.pinned (.plain (OpenSpec.ofChange dateDaysFollowSpec)) dateDaysFollowCard

/-- THE TIED CARD OF 'brindlewoodlaw5.DateFromWeekMatchesSpec'. -/
def dateFromWeekMatchesSpecCard : Claim7 := { stood := { row := dateFromWeekMatchesSpecRow, standIns := [], harness := (true, "d84fa6d94f053ad46e73a0b2c1d8bec46d20a3a48f052993045263f3989a71e8"), looks := false }, kinds := [], alts := [], laidByText := true, laidKinds := [.data, .data, .data, .listed, .data], laidTests := true, laidLooks := .later }
def DateFromWeekMatchesSpecCardSaid : Prop := Claim7.holds Tryd.pinned (.plain (OpenSpec.ofChange dateFromWeekMatchesSpecSpec)) dateFromWeekMatchesSpecCard

/-- THE TIED CARD OF 'brindlewoodlaw5.DateWeeksInverse'. -/
def dateWeeksInverseCard : Claim7 := { stood := { row := dateWeeksInverseRow, standIns := [], harness := (true, "d84fa6d94f053ad46e73a0b2c1d8bec46d20a3a48f052993045263f3989a71e8"), looks := false }, kinds := [], alts := [], laidByText := true, laidKinds := [.data, .data, .data, .listed, .data], laidTests := true, laidLooks := .later }
def DateWeeksInverseCardSaid : Prop := Claim7.holds Tryd.pinned (.plain (OpenSpec.ofChange dateWeeksInverseSpec)) dateWeeksInverseCard

/-- THE TIED CARD OF 'brindlewoodlaw5.DateSpansAddUp'. -/
def dateSpansAddUpCard : Claim7 := { stood := { row := dateSpansAddUpRow, standIns := [], harness := (true, "d84fa6d94f053ad46e73a0b2c1d8bec46d20a3a48f052993045263f3989a71e8"), looks := false }, kinds := [], alts := [], laidByText := true, laidKinds := [.data, .data, .data, .listed, .data], laidTests := true, laidLooks := .later }
def DateSpansAddUpCardSaid : Prop := Claim7.holds Tryd.pinned (.plain (OpenSpec.ofChange dateSpansAddUpSpec)) dateSpansAddUpCard

/-- THE TIED CARD OF 'brindlewoodlaw5.DateParseMatchesSpec'. -/
def dateParseMatchesSpecCard : Claim7 := { stood := { row := dateParseMatchesSpecRow, standIns := [], harness := (true, "d84fa6d94f053ad46e73a0b2c1d8bec46d20a3a48f052993045263f3989a71e8"), looks := false }, kinds := [], alts := [], laidByText := true, laidKinds := [.data, .data, .data, .listed, .data], laidTests := true, laidLooks := .later }
def DateParseMatchesSpecCardSaid : Prop := Claim7.holds Tryd.pinned (.plain (OpenSpec.ofChange dateParseMatchesSpecSpec)) dateParseMatchesSpecCard

/-- THE TIED CARD OF 'brindlewoodlaw5.DateParsesFormatted'. -/
def dateParsesFormattedCard : Claim7 := { stood := { row := dateParsesFormattedRow, standIns := [], harness := (true, "d84fa6d94f053ad46e73a0b2c1d8bec46d20a3a48f052993045263f3989a71e8"), looks := false }, kinds := [], alts := [], laidByText := true, laidKinds := [.data, .data, .data, .listed, .data], laidTests := true, laidLooks := .later }
def DateParsesFormattedCardSaid : Prop := Claim7.holds Tryd.pinned (.plain (OpenSpec.ofChange dateParsesFormattedSpec)) dateParsesFormattedCard

/-- THE SECOND FORM's CARD OF 'brindlewoodlaw5.DateFormatMatchesSpec'. -/
def dateFormatMatchesSpecUptoCard : Claim7 := { stood := { row := dateFormatMatchesSpecUptoRow, standIns := [], harness := (true, "d84fa6d94f053ad46e73a0b2c1d8bec46d20a3a48f052993045263f3989a71e8"), looks := false }, kinds := [], alts := [], laidByText := true, laidKinds := [.data, .data, .data, .listed, .data], laidTests := true, laidLooks := .later }
def DateFormatMatchesSpecUptoCardSaid : Prop := Claim7.holds Tryd.pinned (.plain (OpenSpec.upto dateFormatMatchesSpecSpec)) dateFormatMatchesSpecUptoCard

/-- THE SECOND FORM's CARD OF 'brindlewoodlaw5.DateNumberMatchesSpec'. -/
def dateNumberMatchesSpecUptoCard : Claim7 := { stood := { row := dateNumberMatchesSpecUptoRow, standIns := [], harness := (true, "d84fa6d94f053ad46e73a0b2c1d8bec46d20a3a48f052993045263f3989a71e8"), looks := false }, kinds := [], alts := [], laidByText := true, laidKinds := [.data, .data, .data, .listed, .data], laidTests := true, laidLooks := .later }
def DateNumberMatchesSpecUptoCardSaid : Prop := Claim7.holds Tryd.pinned (.plain (OpenSpec.upto dateNumberMatchesSpecSpec)) dateNumberMatchesSpecUptoCard

/-- THE SECOND FORM's CARD OF 'brindlewoodlaw5.DateAddMonthsMatchesSpec'. -/
def dateAddMonthsMatchesSpecUptoCard : Claim7 := { stood := { row := dateAddMonthsMatchesSpecUptoRow, standIns := [], harness := (true, "d84fa6d94f053ad46e73a0b2c1d8bec46d20a3a48f052993045263f3989a71e8"), looks := false }, kinds := [], alts := [], laidByText := true, laidKinds := [.data, .data, .data, .listed, .data], laidTests := true, laidLooks := .later }
def DateAddMonthsMatchesSpecUptoCardSaid : Prop := Claim7.holds Tryd.pinned (.plain (OpenSpec.upto dateAddMonthsMatchesSpecSpec)) dateAddMonthsMatchesSpecUptoCard

/-- THE SECOND FORM's CARD OF 'brindlewoodlaw5.DateMonthsAdd'. -/
def dateMonthsAddUptoCard : Claim7 := { stood := { row := dateMonthsAddUptoRow, standIns := [], harness := (true, "d84fa6d94f053ad46e73a0b2c1d8bec46d20a3a48f052993045263f3989a71e8"), looks := false }, kinds := [], alts := [], laidByText := true, laidKinds := [.data, .data, .data, .listed, .data], laidTests := true, laidLooks := .later }
def DateMonthsAddUptoCardSaid : Prop := Claim7.holds Tryd.pinned (.plain (OpenSpec.upto dateMonthsAddSpec)) dateMonthsAddUptoCard

/-- THE SECOND FORM's CARD OF 'brindlewoodlaw5.DateAtMatchesSpec'. -/
def dateAtMatchesSpecUptoCard : Claim7 := { stood := { row := dateAtMatchesSpecUptoRow, standIns := [], harness := (true, "d84fa6d94f053ad46e73a0b2c1d8bec46d20a3a48f052993045263f3989a71e8"), looks := false }, kinds := [], alts := [], laidByText := true, laidKinds := [.data, .data, .data, .listed, .data], laidTests := true, laidLooks := .later }
def DateAtMatchesSpecUptoCardSaid : Prop := Claim7.holds Tryd.pinned (.plain (OpenSpec.upto dateAtMatchesSpecSpec)) dateAtMatchesSpecUptoCard

/-- THE SECOND FORM's CARD OF 'brindlewoodlaw5.DateBetweenMatchesSpec'. -/
def dateBetweenMatchesSpecUptoCard : Claim7 := { stood := { row := dateBetweenMatchesSpecUptoRow, standIns := [], harness := (true, "d84fa6d94f053ad46e73a0b2c1d8bec46d20a3a48f052993045263f3989a71e8"), looks := false }, kinds := [], alts := [], laidByText := true, laidKinds := [.data, .data, .data, .listed, .data], laidTests := true, laidLooks := .later }
def DateBetweenMatchesSpecUptoCardSaid : Prop := Claim7.holds Tryd.pinned (.plain (OpenSpec.upto dateBetweenMatchesSpecSpec)) dateBetweenMatchesSpecUptoCard

/-- THE SECOND FORM's CARD OF 'brindlewoodlaw5.DateDaysFollow'. -/
def dateDaysFollowUptoCard : Claim7 := { stood := { row := dateDaysFollowUptoRow, standIns := [], harness := (true, "d84fa6d94f053ad46e73a0b2c1d8bec46d20a3a48f052993045263f3989a71e8"), looks := false }, kinds := [], alts := [], laidByText := true, laidKinds := [.data, .data, .data, .listed, .data], laidTests := true, laidLooks := .later }
def DateDaysFollowUptoCardSaid : Prop := Claim7.holds Tryd.pinned (.plain (OpenSpec.upto dateDaysFollowSpec)) dateDaysFollowUptoCard

/-- THE SECOND FORM's CARD OF 'brindlewoodlaw5.DateFromWeekMatchesSpec'. -/
def dateFromWeekMatchesSpecUptoCard : Claim7 := { stood := { row := dateFromWeekMatchesSpecUptoRow, standIns := [], harness := (true, "d84fa6d94f053ad46e73a0b2c1d8bec46d20a3a48f052993045263f3989a71e8"), looks := false }, kinds := [], alts := [], laidByText := true, laidKinds := [.data, .data, .data, .listed, .data], laidTests := true, laidLooks := .later }
def DateFromWeekMatchesSpecUptoCardSaid : Prop := Claim7.holds Tryd.pinned (.plain (OpenSpec.upto dateFromWeekMatchesSpecSpec)) dateFromWeekMatchesSpecUptoCard

/-- THE SECOND FORM's CARD OF 'brindlewoodlaw5.DateWeeksInverse'. -/
def dateWeeksInverseUptoCard : Claim7 := { stood := { row := dateWeeksInverseUptoRow, standIns := [], harness := (true, "d84fa6d94f053ad46e73a0b2c1d8bec46d20a3a48f052993045263f3989a71e8"), looks := false }, kinds := [], alts := [], laidByText := true, laidKinds := [.data, .data, .data, .listed, .data], laidTests := true, laidLooks := .later }
def DateWeeksInverseUptoCardSaid : Prop := Claim7.holds Tryd.pinned (.plain (OpenSpec.upto dateWeeksInverseSpec)) dateWeeksInverseUptoCard

/-- THE SECOND FORM's CARD OF 'brindlewoodlaw5.DateSpansAddUp'. -/
def dateSpansAddUpUptoCard : Claim7 := { stood := { row := dateSpansAddUpUptoRow, standIns := [], harness := (true, "d84fa6d94f053ad46e73a0b2c1d8bec46d20a3a48f052993045263f3989a71e8"), looks := false }, kinds := [], alts := [], laidByText := true, laidKinds := [.data, .data, .data, .listed, .data], laidTests := true, laidLooks := .later }
def DateSpansAddUpUptoCardSaid : Prop := Claim7.holds Tryd.pinned (.plain (OpenSpec.upto dateSpansAddUpSpec)) dateSpansAddUpUptoCard

/-- THE SECOND FORM's CARD OF 'brindlewoodlaw5.DateParseMatchesSpec'. -/
def dateParseMatchesSpecUptoCard : Claim7 := { stood := { row := dateParseMatchesSpecUptoRow, standIns := [], harness := (true, "d84fa6d94f053ad46e73a0b2c1d8bec46d20a3a48f052993045263f3989a71e8"), looks := false }, kinds := [], alts := [], laidByText := true, laidKinds := [.data, .data, .data, .listed, .data], laidTests := true, laidLooks := .later }
def DateParseMatchesSpecUptoCardSaid : Prop := Claim7.holds Tryd.pinned (.plain (OpenSpec.upto dateParseMatchesSpecSpec)) dateParseMatchesSpecUptoCard

/-- THE SECOND FORM's CARD OF 'brindlewoodlaw5.DateParsesFormatted'. -/
def dateParsesFormattedUptoCard : Claim7 := { stood := { row := dateParsesFormattedUptoRow, standIns := [], harness := (true, "d84fa6d94f053ad46e73a0b2c1d8bec46d20a3a48f052993045263f3989a71e8"), looks := false }, kinds := [], alts := [], laidByText := true, laidKinds := [.data, .data, .data, .listed, .data], laidTests := true, laidLooks := .later }
def DateParsesFormattedUptoCardSaid : Prop := Claim7.holds Tryd.pinned (.plain (OpenSpec.upto dateParsesFormattedSpec)) dateParsesFormattedUptoCard
end Rows
end Go.Proofs.YtnmkpadgogbgkaaDoor
