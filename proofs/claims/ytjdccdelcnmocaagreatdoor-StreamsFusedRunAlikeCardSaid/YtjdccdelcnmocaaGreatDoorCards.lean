/-
  DERIVED. GIVEN WITH THE SEED: THE CARDS: each row of YtjdccdelcnmocaaGreatDoorRows.lean that lists a variable, with what it lists TIED to the program's text (the seventh form; the later family's looks); each row that meets fmt, with fmt's text TOLD by the authors' own Lean function (tested against real Go, not proved from fmt's source: count such statements apart). THE CARD IS WHAT COUNTS. Prove the row's statement (the work); the ties are given (YtjdccdelcnmocaaGreatDoorTie.lean); close each card by the builder's one call (the guide's Derived/Test/ToyasCard.lean, 'card_holds'). Laid BY PROGRAM, IN A SANDBOX (cutbox-door.mjs). By AI agents, Wed Nov 11 2026. No macro, syntax, notation, axiom, sorry.
-/
import Derived.Test.YtjdccdelcnmocaaGreatDoorRows
import GoSem.ClaimSeven
namespace Go.Proofs.YtjdccdelcnmocaaGreatDoor
namespace Rows

/-- THE TIED CARD OF 'brindlewoodlaw5.StreamsBoundMatchesSpec'. -/
def streamsBoundMatchesSpecCard : Claim7 := { stood := { row := streamsBoundMatchesSpecRow, standIns := [], harness := (true, "45fa8ef471ed12256718ff4af9b6b9a15e606491798661199c9c4c18e41a2fa4"), looks := true }, kinds := [], alts := [], laidByText := true, laidKinds := [.data, .data, .data, .sentinel, .sentinel, .listed, .data], laidTests := true, laidLooks := .later }
def StreamsBoundMatchesSpecCardSaid : Prop := Claim7.holds Tryz.pinned (.plain (OpenSpec.ofChange streamsBoundMatchesSpecSpec)) streamsBoundMatchesSpecCard

/-- THE TIED CARD OF 'brindlewoodlaw5.StreamsRunMatchesSpec'. -/
def streamsRunMatchesSpecCard : Claim7 := { stood := { row := streamsRunMatchesSpecRow, standIns := [], harness := (true, "45fa8ef471ed12256718ff4af9b6b9a15e606491798661199c9c4c18e41a2fa4"), looks := true }, kinds := [], alts := [], laidByText := true, laidKinds := [.data, .data, .data, .sentinel, .sentinel, .listed, .data], laidTests := true, laidLooks := .later }
def StreamsRunMatchesSpecCardSaid : Prop := Claim7.holds Tryz.pinned (.plain (OpenSpec.ofChange streamsRunMatchesSpecSpec)) streamsRunMatchesSpecCard

/-- THE TIED CARD OF 'brindlewoodlaw5.StreamsTextMatchesSpec'. -/
def streamsTextMatchesSpecCard : Claim7 := { stood := { row := streamsTextMatchesSpecRow, standIns := [], harness := (true, "45fa8ef471ed12256718ff4af9b6b9a15e606491798661199c9c4c18e41a2fa4"), looks := true }, kinds := [], alts := [], laidByText := true, laidKinds := [.data, .data, .data, .sentinel, .sentinel, .listed, .data], laidTests := true, laidLooks := .later }
def StreamsTextMatchesSpecCardSaid : Prop := Claim7.holds Tryz.pinned (.plain (OpenSpec.ofChange streamsTextMatchesSpecSpec)) streamsTextMatchesSpecCard

/-- THE TIED CARD OF 'brindlewoodlaw5.StreamsParseMatchesSpec'. -/
def streamsParseMatchesSpecCard : Claim7 := { stood := { row := streamsParseMatchesSpecRow, standIns := [], harness := (true, "45fa8ef471ed12256718ff4af9b6b9a15e606491798661199c9c4c18e41a2fa4"), looks := true }, kinds := [], alts := [], laidByText := true, laidKinds := [.data, .data, .data, .sentinel, .sentinel, .listed, .data], laidTests := true, laidLooks := .later }
def StreamsParseMatchesSpecCardSaid : Prop := Claim7.holds Tryz.pinned (.plain (OpenSpec.ofChange streamsParseMatchesSpecSpec)) streamsParseMatchesSpecCard

/-- THE TIED CARD OF 'brindlewoodlaw5.StreamsAreLazy'. -/
def streamsAreLazyCard : Claim7 := { stood := { row := streamsAreLazyRow, standIns := [], harness := (true, "45fa8ef471ed12256718ff4af9b6b9a15e606491798661199c9c4c18e41a2fa4"), looks := true }, kinds := [], alts := [], laidByText := true, laidKinds := [.data, .data, .data, .sentinel, .sentinel, .listed, .data], laidTests := true, laidLooks := .later }
def StreamsAreLazyCardSaid : Prop := Claim7.holds Tryz.pinned (.plain (OpenSpec.ofChange streamsAreLazySpec)) streamsAreLazyCard

/-- THE TIED CARD OF 'brindlewoodlaw5.StreamsDivide'. -/
def streamsDivideCard : Claim7 := { stood := { row := streamsDivideRow, standIns := [], harness := (true, "45fa8ef471ed12256718ff4af9b6b9a15e606491798661199c9c4c18e41a2fa4"), looks := true }, kinds := [], alts := [], laidByText := true, laidKinds := [.data, .data, .data, .sentinel, .sentinel, .listed, .data], laidTests := true, laidLooks := .later }
def StreamsDivideCardSaid : Prop := Claim7.holds Tryz.pinned (.plain (OpenSpec.ofChange streamsDivideSpec)) streamsDivideCard

/-- THE TIED CARD OF 'brindlewoodlaw5.StreamsMapParts'. -/
def streamsMapPartsCard : Claim7 := { stood := { row := streamsMapPartsRow, standIns := [], harness := (true, "45fa8ef471ed12256718ff4af9b6b9a15e606491798661199c9c4c18e41a2fa4"), looks := true }, kinds := [], alts := [], laidByText := true, laidKinds := [.data, .data, .data, .sentinel, .sentinel, .listed, .data], laidTests := true, laidLooks := .later }
def StreamsMapPartsCardSaid : Prop := Claim7.holds Tryz.pinned (.plain (OpenSpec.ofChange streamsMapPartsSpec)) streamsMapPartsCard

/-- THE TIED CARD OF 'brindlewoodlaw5.StreamsMergeOrders'. -/
def streamsMergeOrdersCard : Claim7 := { stood := { row := streamsMergeOrdersRow, standIns := [], harness := (true, "45fa8ef471ed12256718ff4af9b6b9a15e606491798661199c9c4c18e41a2fa4"), looks := true }, kinds := [], alts := [], laidByText := true, laidKinds := [.data, .data, .data, .sentinel, .sentinel, .listed, .data], laidTests := true, laidLooks := .later }
def StreamsMergeOrdersCardSaid : Prop := Claim7.holds Tryz.pinned (.plain (OpenSpec.ofChange streamsMergeOrdersSpec)) streamsMergeOrdersCard

/-- THE TIED CARD OF 'brindlewoodlaw5.StreamsFuseMatchesSpec'. -/
def streamsFuseMatchesSpecCard : Claim7 := { stood := { row := streamsFuseMatchesSpecRow, standIns := [], harness := (true, "45fa8ef471ed12256718ff4af9b6b9a15e606491798661199c9c4c18e41a2fa4"), looks := true }, kinds := [], alts := [], laidByText := true, laidKinds := [.data, .data, .data, .sentinel, .sentinel, .listed, .data], laidTests := true, laidLooks := .later }
def StreamsFuseMatchesSpecCardSaid : Prop := Claim7.holds Tryz.pinned (.plain (OpenSpec.ofChange streamsFuseMatchesSpecSpec)) streamsFuseMatchesSpecCard

/-- THE TIED CARD OF 'brindlewoodlaw5.StreamsFusedRunAlike'. -/
def streamsFusedRunAlikeCard : Claim7 := { stood := { row := streamsFusedRunAlikeRow, standIns := [], harness := (true, "45fa8ef471ed12256718ff4af9b6b9a15e606491798661199c9c4c18e41a2fa4"), looks := true }, kinds := [], alts := [], laidByText := true, laidKinds := [.data, .data, .data, .sentinel, .sentinel, .listed, .data], laidTests := true, laidLooks := .later }
def StreamsFusedRunAlikeCardSaid : Prop := Claim7.holds Tryz.pinned (.plain (OpenSpec.ofChange streamsFusedRunAlikeSpec)) streamsFusedRunAlikeCard

/-- THE SECOND FORM's CARD OF 'brindlewoodlaw5.StreamsBoundMatchesSpec'. -/
def streamsBoundMatchesSpecUptoCard : Claim7 := { stood := { row := streamsBoundMatchesSpecUptoRow, standIns := [], harness := (true, "45fa8ef471ed12256718ff4af9b6b9a15e606491798661199c9c4c18e41a2fa4"), looks := true }, kinds := [], alts := [], laidByText := true, laidKinds := [.data, .data, .data, .sentinel, .sentinel, .listed, .data], laidTests := true, laidLooks := .later }
def StreamsBoundMatchesSpecUptoCardSaid : Prop := Claim7.holds Tryz.pinned (.plain (OpenSpec.upto streamsBoundMatchesSpecSpec)) streamsBoundMatchesSpecUptoCard

/-- THE SECOND FORM's CARD OF 'brindlewoodlaw5.StreamsRunMatchesSpec'. -/
def streamsRunMatchesSpecUptoCard : Claim7 := { stood := { row := streamsRunMatchesSpecUptoRow, standIns := [], harness := (true, "45fa8ef471ed12256718ff4af9b6b9a15e606491798661199c9c4c18e41a2fa4"), looks := true }, kinds := [], alts := [], laidByText := true, laidKinds := [.data, .data, .data, .sentinel, .sentinel, .listed, .data], laidTests := true, laidLooks := .later }
def StreamsRunMatchesSpecUptoCardSaid : Prop := Claim7.holds Tryz.pinned (.plain (OpenSpec.upto streamsRunMatchesSpecSpec)) streamsRunMatchesSpecUptoCard

/-- THE SECOND FORM's CARD OF 'brindlewoodlaw5.StreamsTextMatchesSpec'. -/
def streamsTextMatchesSpecUptoCard : Claim7 := { stood := { row := streamsTextMatchesSpecUptoRow, standIns := [], harness := (true, "45fa8ef471ed12256718ff4af9b6b9a15e606491798661199c9c4c18e41a2fa4"), looks := true }, kinds := [], alts := [], laidByText := true, laidKinds := [.data, .data, .data, .sentinel, .sentinel, .listed, .data], laidTests := true, laidLooks := .later }
def StreamsTextMatchesSpecUptoCardSaid : Prop := Claim7.holds Tryz.pinned (.plain (OpenSpec.upto streamsTextMatchesSpecSpec)) streamsTextMatchesSpecUptoCard

/-- THE SECOND FORM's CARD OF 'brindlewoodlaw5.StreamsParseMatchesSpec'. -/
def streamsParseMatchesSpecUptoCard : Claim7 := { stood := { row := streamsParseMatchesSpecUptoRow, standIns := [], harness := (true, "45fa8ef471ed12256718ff4af9b6b9a15e606491798661199c9c4c18e41a2fa4"), looks := true }, kinds := [], alts := [], laidByText := true, laidKinds := [.data, .data, .data, .sentinel, .sentinel, .listed, .data], laidTests := true, laidLooks := .later }
def StreamsParseMatchesSpecUptoCardSaid : Prop := Claim7.holds Tryz.pinned (.plain (OpenSpec.upto streamsParseMatchesSpecSpec)) streamsParseMatchesSpecUptoCard

/-- THE SECOND FORM's CARD OF 'brindlewoodlaw5.StreamsAreLazy'. -/
def streamsAreLazyUptoCard : Claim7 := { stood := { row := streamsAreLazyUptoRow, standIns := [], harness := (true, "45fa8ef471ed12256718ff4af9b6b9a15e606491798661199c9c4c18e41a2fa4"), looks := true }, kinds := [], alts := [], laidByText := true, laidKinds := [.data, .data, .data, .sentinel, .sentinel, .listed, .data], laidTests := true, laidLooks := .later }
def StreamsAreLazyUptoCardSaid : Prop := Claim7.holds Tryz.pinned (.plain (OpenSpec.upto streamsAreLazySpec)) streamsAreLazyUptoCard

/-- THE SECOND FORM's CARD OF 'brindlewoodlaw5.StreamsDivide'. -/
def streamsDivideUptoCard : Claim7 := { stood := { row := streamsDivideUptoRow, standIns := [], harness := (true, "45fa8ef471ed12256718ff4af9b6b9a15e606491798661199c9c4c18e41a2fa4"), looks := true }, kinds := [], alts := [], laidByText := true, laidKinds := [.data, .data, .data, .sentinel, .sentinel, .listed, .data], laidTests := true, laidLooks := .later }
def StreamsDivideUptoCardSaid : Prop := Claim7.holds Tryz.pinned (.plain (OpenSpec.upto streamsDivideSpec)) streamsDivideUptoCard

/-- THE SECOND FORM's CARD OF 'brindlewoodlaw5.StreamsMapParts'. -/
def streamsMapPartsUptoCard : Claim7 := { stood := { row := streamsMapPartsUptoRow, standIns := [], harness := (true, "45fa8ef471ed12256718ff4af9b6b9a15e606491798661199c9c4c18e41a2fa4"), looks := true }, kinds := [], alts := [], laidByText := true, laidKinds := [.data, .data, .data, .sentinel, .sentinel, .listed, .data], laidTests := true, laidLooks := .later }
def StreamsMapPartsUptoCardSaid : Prop := Claim7.holds Tryz.pinned (.plain (OpenSpec.upto streamsMapPartsSpec)) streamsMapPartsUptoCard

/-- THE SECOND FORM's CARD OF 'brindlewoodlaw5.StreamsMergeOrders'. -/
def streamsMergeOrdersUptoCard : Claim7 := { stood := { row := streamsMergeOrdersUptoRow, standIns := [], harness := (true, "45fa8ef471ed12256718ff4af9b6b9a15e606491798661199c9c4c18e41a2fa4"), looks := true }, kinds := [], alts := [], laidByText := true, laidKinds := [.data, .data, .data, .sentinel, .sentinel, .listed, .data], laidTests := true, laidLooks := .later }
def StreamsMergeOrdersUptoCardSaid : Prop := Claim7.holds Tryz.pinned (.plain (OpenSpec.upto streamsMergeOrdersSpec)) streamsMergeOrdersUptoCard

/-- THE SECOND FORM's CARD OF 'brindlewoodlaw5.StreamsFuseMatchesSpec'. -/
def streamsFuseMatchesSpecUptoCard : Claim7 := { stood := { row := streamsFuseMatchesSpecUptoRow, standIns := [], harness := (true, "45fa8ef471ed12256718ff4af9b6b9a15e606491798661199c9c4c18e41a2fa4"), looks := true }, kinds := [], alts := [], laidByText := true, laidKinds := [.data, .data, .data, .sentinel, .sentinel, .listed, .data], laidTests := true, laidLooks := .later }
def StreamsFuseMatchesSpecUptoCardSaid : Prop := Claim7.holds Tryz.pinned (.plain (OpenSpec.upto streamsFuseMatchesSpecSpec)) streamsFuseMatchesSpecUptoCard

/-- THE SECOND FORM's CARD OF 'brindlewoodlaw5.StreamsFusedRunAlike'. -/
def streamsFusedRunAlikeUptoCard : Claim7 := { stood := { row := streamsFusedRunAlikeUptoRow, standIns := [], harness := (true, "45fa8ef471ed12256718ff4af9b6b9a15e606491798661199c9c4c18e41a2fa4"), looks := true }, kinds := [], alts := [], laidByText := true, laidKinds := [.data, .data, .data, .sentinel, .sentinel, .listed, .data], laidTests := true, laidLooks := .later }
def StreamsFusedRunAlikeUptoCardSaid : Prop := Claim7.holds Tryz.pinned (.plain (OpenSpec.upto streamsFusedRunAlikeSpec)) streamsFusedRunAlikeUptoCard
end Rows
end Go.Proofs.YtjdccdelcnmocaaGreatDoor
