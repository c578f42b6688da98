/-
  DERIVED. GIVEN WITH THE SEED: THE CARDS: each row of YtecpfmhminkalaaGreatDoorRows.lean that lists a variable, with what it lists TIED to the program's text (the seventh form; the later family's looks); each row that meets fmt, with fmt's text TOLD by the authors' own Lean function (tested against real Go, not proved from fmt's source: count such statements apart). THE CARD IS WHAT COUNTS. Prove the row's statement (the work); the ties are given (YtecpfmhminkalaaGreatDoorTie.lean); close each card by the builder's one call (the guide's Derived/Test/ToyasCard.lean, 'card_holds'). Laid BY PROGRAM, IN A SANDBOX (cutbox-door.mjs). By AI agents, Wed Nov 11 2026. No macro, syntax, notation, axiom, sorry.
-/
import Derived.Test.YtecpfmhminkalaaGreatDoorRows
import GoSem.ClaimSeven
namespace Go.Proofs.YtecpfmhminkalaaGreatDoor
namespace Rows

/-- THE TIED CARD OF 'brindlewoodlaw5.RecurListMatchesSpec'. -/
def recurListMatchesSpecCard : Claim7 := { stood := { row := recurListMatchesSpecRow, standIns := [], harness := (true, "10f6957a151ba3a8b33dae6974b61a7134a91f55e16382e81ceafa36e4efb1f4"), looks := true }, kinds := [], alts := [], laidByText := true, laidKinds := [.data, .data, .data, .listed, .data], laidTests := true, laidLooks := .later }
def RecurListMatchesSpecCardSaid : Prop := Claim7.holds Tryz.pinned (.plain (OpenSpec.ofChange recurListMatchesSpecSpec)) recurListMatchesSpecCard

/-- THE TIED CARD OF 'brindlewoodlaw5.RecurNextMatchesSpec'. -/
def recurNextMatchesSpecCard : Claim7 := { stood := { row := recurNextMatchesSpecRow, standIns := [], harness := (true, "10f6957a151ba3a8b33dae6974b61a7134a91f55e16382e81ceafa36e4efb1f4"), looks := true }, kinds := [], alts := [], laidByText := true, laidKinds := [.data, .data, .data, .listed, .data], laidTests := true, laidLooks := .later }
def RecurNextMatchesSpecCardSaid : Prop := Claim7.holds Tryz.pinned (.plain (OpenSpec.ofChange recurNextMatchesSpecSpec)) recurNextMatchesSpecCard

/-- THE TIED CARD OF 'brindlewoodlaw5.RecurPrintMatchesSpec'. -/
def recurPrintMatchesSpecCard : Claim7 := { stood := { row := recurPrintMatchesSpecRow, standIns := [], harness := (true, "10f6957a151ba3a8b33dae6974b61a7134a91f55e16382e81ceafa36e4efb1f4"), looks := true }, kinds := [], alts := [], laidByText := true, laidKinds := [.data, .data, .data, .data, .sentinel, .sentinel, .listed, .data, .pinned], laidTests := true, laidLooks := .later }
def RecurPrintMatchesSpecCardSaid : Prop := Claim7.holds Tryz.pinned (.plain (OpenSpec.ofChange recurPrintMatchesSpecSpec)) recurPrintMatchesSpecCard

/-- THE TIED CARD OF 'brindlewoodlaw5.RecurParseMatchesSpec'. -/
def recurParseMatchesSpecCard : Claim7 := { stood := { row := recurParseMatchesSpecRow, standIns := [], harness := (true, "10f6957a151ba3a8b33dae6974b61a7134a91f55e16382e81ceafa36e4efb1f4"), looks := true }, kinds := [], alts := [], laidByText := true, laidKinds := [.data, .data, .data, .data, .sentinel, .sentinel, .listed, .data, .pinned], laidTests := true, laidLooks := .later }
def RecurParseMatchesSpecCardSaid : Prop := Claim7.holds Tryz.pinned (.plain (OpenSpec.ofChange recurParseMatchesSpecSpec)) recurParseMatchesSpecCard

/-- THE SECOND FORM's CARD OF 'brindlewoodlaw5.RecurListMatchesSpec'. -/
def recurListMatchesSpecUptoCard : Claim7 := { stood := { row := recurListMatchesSpecUptoRow, standIns := [], harness := (true, "10f6957a151ba3a8b33dae6974b61a7134a91f55e16382e81ceafa36e4efb1f4"), looks := true }, kinds := [], alts := [], laidByText := true, laidKinds := [.data, .data, .data, .listed, .data], laidTests := true, laidLooks := .later }
def RecurListMatchesSpecUptoCardSaid : Prop := Claim7.holds Tryz.pinned (.plain (OpenSpec.upto recurListMatchesSpecSpec)) recurListMatchesSpecUptoCard

/-- THE SECOND FORM's CARD OF 'brindlewoodlaw5.RecurNextMatchesSpec'. -/
def recurNextMatchesSpecUptoCard : Claim7 := { stood := { row := recurNextMatchesSpecUptoRow, standIns := [], harness := (true, "10f6957a151ba3a8b33dae6974b61a7134a91f55e16382e81ceafa36e4efb1f4"), looks := true }, kinds := [], alts := [], laidByText := true, laidKinds := [.data, .data, .data, .listed, .data], laidTests := true, laidLooks := .later }
def RecurNextMatchesSpecUptoCardSaid : Prop := Claim7.holds Tryz.pinned (.plain (OpenSpec.upto recurNextMatchesSpecSpec)) recurNextMatchesSpecUptoCard

/-- THE SECOND FORM's CARD OF 'brindlewoodlaw5.RecurPrintMatchesSpec'. -/
def recurPrintMatchesSpecUptoCard : Claim7 := { stood := { row := recurPrintMatchesSpecUptoRow, standIns := [], harness := (true, "10f6957a151ba3a8b33dae6974b61a7134a91f55e16382e81ceafa36e4efb1f4"), looks := true }, kinds := [], alts := [], laidByText := true, laidKinds := [.data, .data, .data, .data, .sentinel, .sentinel, .listed, .data, .pinned], laidTests := true, laidLooks := .later }
def RecurPrintMatchesSpecUptoCardSaid : Prop := Claim7.holds Tryz.pinned (.plain (OpenSpec.upto recurPrintMatchesSpecSpec)) recurPrintMatchesSpecUptoCard

/-- THE SECOND FORM's CARD OF 'brindlewoodlaw5.RecurParseMatchesSpec'. -/
def recurParseMatchesSpecUptoCard : Claim7 := { stood := { row := recurParseMatchesSpecUptoRow, standIns := [], harness := (true, "10f6957a151ba3a8b33dae6974b61a7134a91f55e16382e81ceafa36e4efb1f4"), looks := true }, kinds := [], alts := [], laidByText := true, laidKinds := [.data, .data, .data, .data, .sentinel, .sentinel, .listed, .data, .pinned], laidTests := true, laidLooks := .later }
def RecurParseMatchesSpecUptoCardSaid : Prop := Claim7.holds Tryz.pinned (.plain (OpenSpec.upto recurParseMatchesSpecSpec)) recurParseMatchesSpecUptoCard
end Rows
end Go.Proofs.YtecpfmhminkalaaGreatDoor
