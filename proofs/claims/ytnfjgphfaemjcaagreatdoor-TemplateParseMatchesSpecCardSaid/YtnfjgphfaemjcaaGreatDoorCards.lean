/-
  DERIVED. GIVEN WITH THE SEED: THE CARDS: each row of YtnfjgphfaemjcaaGreatDoorRows.lean that lists a variable, with what it lists TIED to the program's text (the seventh form; the later family's looks); each row that meets fmt, with fmt's text TOLD by the authors' own Lean function (tested against real Go, not proved from fmt's source: count such statements apart). THE CARD IS WHAT COUNTS. Prove the row's statement (the work); the ties are given (YtnfjgphfaemjcaaGreatDoorTie.lean); close each card by the builder's one call (the guide's Derived/Test/ToyasCard.lean, 'card_holds'). Laid BY PROGRAM, IN A SANDBOX (cutbox-door.mjs). By AI agents, Wed Nov 11 2026. No macro, syntax, notation, axiom, sorry.
-/
import Derived.Test.YtnfjgphfaemjcaaGreatDoorRows
import GoSem.ClaimSeven
namespace Go.Proofs.YtnfjgphfaemjcaaGreatDoor
namespace Rows

/-- THE TIED CARD OF 'brindlewoodlaw5.TemplatePrintMatchesSpec'. -/
def templatePrintMatchesSpecCard : Claim7 := { stood := { row := templatePrintMatchesSpecRow, standIns := [], harness := (true, "9aea77e50a130b3589c7e900a0712041f0e09c7d1094f461a9f52b67f4094c5f"), looks := true }, kinds := [], alts := [], laidByText := true, laidKinds := [.data, .data, .data, .data, .sentinel, .sentinel, .listed, .data, .pinned], laidTests := true, laidLooks := .later }
def TemplatePrintMatchesSpecCardSaid : Prop := Claim7.holds Tryz.pinned (.plain (OpenSpec.ofChange templatePrintMatchesSpecSpec)) templatePrintMatchesSpecCard

/-- THE TIED CARD OF 'brindlewoodlaw5.TemplateParseMatchesSpec'. -/
def templateParseMatchesSpecCard : Claim7 := { stood := { row := templateParseMatchesSpecRow, standIns := [], harness := (true, "9aea77e50a130b3589c7e900a0712041f0e09c7d1094f461a9f52b67f4094c5f"), looks := true }, kinds := [], alts := [], laidByText := true, laidKinds := [.data, .data, .data, .data, .sentinel, .sentinel, .listed, .data, .pinned], laidTests := true, laidLooks := .later }
def TemplateParseMatchesSpecCardSaid : Prop := Claim7.holds Tryz.pinned (.plain (OpenSpec.ofChange templateParseMatchesSpecSpec)) templateParseMatchesSpecCard

/-- THE TIED CARD OF 'brindlewoodlaw5.TemplateRenderMatchesSpec'. -/
def templateRenderMatchesSpecCard : Claim7 := { stood := { row := templateRenderMatchesSpecRow, standIns := [], harness := (true, "9aea77e50a130b3589c7e900a0712041f0e09c7d1094f461a9f52b67f4094c5f"), looks := true }, kinds := [], alts := [], laidByText := true, laidKinds := [.data, .data, .data, .data, .sentinel, .sentinel, .listed, .data, .pinned], laidTests := true, laidLooks := .later }
def TemplateRenderMatchesSpecCardSaid : Prop := Claim7.holds Tryz.pinned (.plain (OpenSpec.ofChange templateRenderMatchesSpecSpec)) templateRenderMatchesSpecCard

/-- THE TIED CARD OF 'brindlewoodlaw5.TemplatePathsMatchSpec'. -/
def templatePathsMatchSpecCard : Claim7 := { stood := { row := templatePathsMatchSpecRow, standIns := [], harness := (true, "9aea77e50a130b3589c7e900a0712041f0e09c7d1094f461a9f52b67f4094c5f"), looks := true }, kinds := [], alts := [], laidByText := true, laidKinds := [.data, .data, .data, .data, .sentinel, .sentinel, .listed, .data, .pinned], laidTests := true, laidLooks := .later }
def TemplatePathsMatchSpecCardSaid : Prop := Claim7.holds Tryz.pinned (.plain (OpenSpec.ofChange templatePathsMatchSpecSpec)) templatePathsMatchSpecCard

/-- THE TIED CARD OF 'brindlewoodlaw5.TemplateRoundTrip'. -/
def templateRoundTripCard : Claim7 := { stood := { row := templateRoundTripRow, standIns := [], harness := (true, "9aea77e50a130b3589c7e900a0712041f0e09c7d1094f461a9f52b67f4094c5f"), looks := true }, kinds := [], alts := [], laidByText := true, laidKinds := [.data, .data, .data, .data, .sentinel, .sentinel, .listed, .data, .pinned], laidTests := true, laidLooks := .later }
def TemplateRoundTripCardSaid : Prop := Claim7.holds Tryz.pinned (.plain (OpenSpec.ofChange templateRoundTripSpec)) templateRoundTripCard

/-- THE TIED CARD OF 'brindlewoodlaw5.TemplateDependsOnPaths'. -/
def templateDependsOnPathsCard : Claim7 := { stood := { row := templateDependsOnPathsRow, standIns := [], harness := (true, "9aea77e50a130b3589c7e900a0712041f0e09c7d1094f461a9f52b67f4094c5f"), looks := true }, kinds := [], alts := [], laidByText := true, laidKinds := [.data, .data, .data, .data, .sentinel, .sentinel, .listed, .data, .pinned], laidTests := true, laidLooks := .later }
def TemplateDependsOnPathsCardSaid : Prop := Claim7.holds Tryz.pinned (.plain (OpenSpec.ofChange templateDependsOnPathsSpec)) templateDependsOnPathsCard

/-- THE TIED CARD OF 'brindlewoodlaw5.TemplatePartsJoin'. -/
def templatePartsJoinCard : Claim7 := { stood := { row := templatePartsJoinRow, standIns := [], harness := (true, "9aea77e50a130b3589c7e900a0712041f0e09c7d1094f461a9f52b67f4094c5f"), looks := true }, kinds := [], alts := [], laidByText := true, laidKinds := [.data, .data, .data, .data, .sentinel, .sentinel, .listed, .data, .pinned], laidTests := true, laidLooks := .later }
def TemplatePartsJoinCardSaid : Prop := Claim7.holds Tryz.pinned (.plain (OpenSpec.ofChange templatePartsJoinSpec)) templatePartsJoinCard

/-- THE TIED CARD OF 'brindlewoodlaw5.TemplateShowsJson'. -/
def templateShowsJsonCard : Claim7 := { stood := { row := templateShowsJsonRow, standIns := [], harness := (true, "9aea77e50a130b3589c7e900a0712041f0e09c7d1094f461a9f52b67f4094c5f"), looks := true }, kinds := [], alts := [], laidByText := true, laidKinds := [.data, .data, .data, .data, .sentinel, .sentinel, .listed, .data, .pinned], laidTests := true, laidLooks := .later }
def TemplateShowsJsonCardSaid : Prop := Claim7.holds Tryz.pinned (.plain (OpenSpec.ofChange templateShowsJsonSpec)) templateShowsJsonCard

/-- THE SECOND FORM's CARD OF 'brindlewoodlaw5.TemplatePrintMatchesSpec'. -/
def templatePrintMatchesSpecUptoCard : Claim7 := { stood := { row := templatePrintMatchesSpecUptoRow, standIns := [], harness := (true, "9aea77e50a130b3589c7e900a0712041f0e09c7d1094f461a9f52b67f4094c5f"), looks := true }, kinds := [], alts := [], laidByText := true, laidKinds := [.data, .data, .data, .data, .sentinel, .sentinel, .listed, .data, .pinned], laidTests := true, laidLooks := .later }
def TemplatePrintMatchesSpecUptoCardSaid : Prop := Claim7.holds Tryz.pinned (.plain (OpenSpec.upto templatePrintMatchesSpecSpec)) templatePrintMatchesSpecUptoCard

/-- THE SECOND FORM's CARD OF 'brindlewoodlaw5.TemplateParseMatchesSpec'. -/
def templateParseMatchesSpecUptoCard : Claim7 := { stood := { row := templateParseMatchesSpecUptoRow, standIns := [], harness := (true, "9aea77e50a130b3589c7e900a0712041f0e09c7d1094f461a9f52b67f4094c5f"), looks := true }, kinds := [], alts := [], laidByText := true, laidKinds := [.data, .data, .data, .data, .sentinel, .sentinel, .listed, .data, .pinned], laidTests := true, laidLooks := .later }
def TemplateParseMatchesSpecUptoCardSaid : Prop := Claim7.holds Tryz.pinned (.plain (OpenSpec.upto templateParseMatchesSpecSpec)) templateParseMatchesSpecUptoCard

/-- THE SECOND FORM's CARD OF 'brindlewoodlaw5.TemplateRenderMatchesSpec'. -/
def templateRenderMatchesSpecUptoCard : Claim7 := { stood := { row := templateRenderMatchesSpecUptoRow, standIns := [], harness := (true, "9aea77e50a130b3589c7e900a0712041f0e09c7d1094f461a9f52b67f4094c5f"), looks := true }, kinds := [], alts := [], laidByText := true, laidKinds := [.data, .data, .data, .data, .sentinel, .sentinel, .listed, .data, .pinned], laidTests := true, laidLooks := .later }
def TemplateRenderMatchesSpecUptoCardSaid : Prop := Claim7.holds Tryz.pinned (.plain (OpenSpec.upto templateRenderMatchesSpecSpec)) templateRenderMatchesSpecUptoCard

/-- THE SECOND FORM's CARD OF 'brindlewoodlaw5.TemplatePathsMatchSpec'. -/
def templatePathsMatchSpecUptoCard : Claim7 := { stood := { row := templatePathsMatchSpecUptoRow, standIns := [], harness := (true, "9aea77e50a130b3589c7e900a0712041f0e09c7d1094f461a9f52b67f4094c5f"), looks := true }, kinds := [], alts := [], laidByText := true, laidKinds := [.data, .data, .data, .data, .sentinel, .sentinel, .listed, .data, .pinned], laidTests := true, laidLooks := .later }
def TemplatePathsMatchSpecUptoCardSaid : Prop := Claim7.holds Tryz.pinned (.plain (OpenSpec.upto templatePathsMatchSpecSpec)) templatePathsMatchSpecUptoCard

/-- THE SECOND FORM's CARD OF 'brindlewoodlaw5.TemplateRoundTrip'. -/
def templateRoundTripUptoCard : Claim7 := { stood := { row := templateRoundTripUptoRow, standIns := [], harness := (true, "9aea77e50a130b3589c7e900a0712041f0e09c7d1094f461a9f52b67f4094c5f"), looks := true }, kinds := [], alts := [], laidByText := true, laidKinds := [.data, .data, .data, .data, .sentinel, .sentinel, .listed, .data, .pinned], laidTests := true, laidLooks := .later }
def TemplateRoundTripUptoCardSaid : Prop := Claim7.holds Tryz.pinned (.plain (OpenSpec.upto templateRoundTripSpec)) templateRoundTripUptoCard

/-- THE SECOND FORM's CARD OF 'brindlewoodlaw5.TemplateDependsOnPaths'. -/
def templateDependsOnPathsUptoCard : Claim7 := { stood := { row := templateDependsOnPathsUptoRow, standIns := [], harness := (true, "9aea77e50a130b3589c7e900a0712041f0e09c7d1094f461a9f52b67f4094c5f"), looks := true }, kinds := [], alts := [], laidByText := true, laidKinds := [.data, .data, .data, .data, .sentinel, .sentinel, .listed, .data, .pinned], laidTests := true, laidLooks := .later }
def TemplateDependsOnPathsUptoCardSaid : Prop := Claim7.holds Tryz.pinned (.plain (OpenSpec.upto templateDependsOnPathsSpec)) templateDependsOnPathsUptoCard

/-- THE SECOND FORM's CARD OF 'brindlewoodlaw5.TemplatePartsJoin'. -/
def templatePartsJoinUptoCard : Claim7 := { stood := { row := templatePartsJoinUptoRow, standIns := [], harness := (true, "9aea77e50a130b3589c7e900a0712041f0e09c7d1094f461a9f52b67f4094c5f"), looks := true }, kinds := [], alts := [], laidByText := true, laidKinds := [.data, .data, .data, .data, .sentinel, .sentinel, .listed, .data, .pinned], laidTests := true, laidLooks := .later }
def TemplatePartsJoinUptoCardSaid : Prop := Claim7.holds Tryz.pinned (.plain (OpenSpec.upto templatePartsJoinSpec)) templatePartsJoinUptoCard

/-- THE SECOND FORM's CARD OF 'brindlewoodlaw5.TemplateShowsJson'. -/
def templateShowsJsonUptoCard : Claim7 := { stood := { row := templateShowsJsonUptoRow, standIns := [], harness := (true, "9aea77e50a130b3589c7e900a0712041f0e09c7d1094f461a9f52b67f4094c5f"), looks := true }, kinds := [], alts := [], laidByText := true, laidKinds := [.data, .data, .data, .data, .sentinel, .sentinel, .listed, .data, .pinned], laidTests := true, laidLooks := .later }
def TemplateShowsJsonUptoCardSaid : Prop := Claim7.holds Tryz.pinned (.plain (OpenSpec.upto templateShowsJsonSpec)) templateShowsJsonUptoCard
end Rows
end Go.Proofs.YtnfjgphfaemjcaaGreatDoor
