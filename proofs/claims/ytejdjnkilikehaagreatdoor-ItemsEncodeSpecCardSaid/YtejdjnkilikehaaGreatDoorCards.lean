/-
  DERIVED. GIVEN WITH THE SEED: THE CARDS: each row of YtejdjnkilikehaaGreatDoorRows.lean that lists a variable, with what it lists TIED to the program's text (the seventh form; the later family's looks); each row that meets fmt, with fmt's text TOLD by the authors' own Lean function (tested against real Go, not proved from fmt's source: count such statements apart). THE CARD IS WHAT COUNTS. Prove the row's statement (the work); the ties are given (YtejdjnkilikehaaGreatDoorTie.lean); close each card by the builder's one call (the guide's Derived/Test/ToyasCard.lean, 'card_holds'). Laid BY PROGRAM, IN A SANDBOX (cutbox-door.mjs). By AI agents, Wed Nov 11 2026. No macro, syntax, notation, axiom, sorry.
-/
import Derived.Test.YtejdjnkilikehaaGreatDoorRows
import GoSem.ClaimSeven
namespace Go.Proofs.YtejdjnkilikehaaGreatDoor
namespace Rows

/-- THE TIED CARD OF 'chartroomlaw29.ItemsSealSpec'. -/
def itemsSealSpecCard : Claim7 := { stood := { row := itemsSealSpecRow, standIns := [], harness := (true, "94e03ded36e05c3f1ce72b1ad2f8c497af097728aac54644fbbe099c18637493"), looks := true }, kinds := [], alts := [], laidByText := true, laidKinds := [.data, .data, .widerDeep, .sentinel, .widerDeep], laidTests := true, laidLooks := .later }
def ItemsSealSpecCardSaid : Prop := Claim7.holds Tryz.pinned (.plain (OpenSpec.ofChange itemsSealSpecSpec)) itemsSealSpecCard

/-- THE TIED CARD OF 'chartroomlaw29.ItemsOpenSpec'. -/
def itemsOpenSpecCard : Claim7 := { stood := { row := itemsOpenSpecRow, standIns := [], harness := (true, "94e03ded36e05c3f1ce72b1ad2f8c497af097728aac54644fbbe099c18637493"), looks := true }, kinds := [], alts := [], laidByText := true, laidKinds := [.data, .data, .widerDeep, .sentinel, .widerDeep], laidTests := true, laidLooks := .later }
def ItemsOpenSpecCardSaid : Prop := Claim7.holds Tryz.pinned (.plain (OpenSpec.ofChange itemsOpenSpecSpec)) itemsOpenSpecCard

/-- THE TIED CARD OF 'chartroomlaw29.ItemsEncodeSpec'. -/
def itemsEncodeSpecCard : Claim7 := { stood := { row := itemsEncodeSpecRow, standIns := [], harness := (true, "94e03ded36e05c3f1ce72b1ad2f8c497af097728aac54644fbbe099c18637493"), looks := true }, kinds := [], alts := [], laidByText := true, laidKinds := [.data, .data, .widerDeep, .sentinel, .widerDeep], laidTests := true, laidLooks := .later }
def ItemsEncodeSpecCardSaid : Prop := Claim7.holds Tryz.pinned (.plain (OpenSpec.ofChange itemsEncodeSpecSpec)) itemsEncodeSpecCard

/-- THE TIED CARD OF 'chartroomlaw29.ItemsOpens'. -/
def itemsOpensCard : Claim7 := { stood := { row := itemsOpensRow, standIns := [], harness := (true, "94e03ded36e05c3f1ce72b1ad2f8c497af097728aac54644fbbe099c18637493"), looks := true }, kinds := [], alts := [], laidByText := true, laidKinds := [.data, .data, .widerDeep, .sentinel, .widerDeep], laidTests := true, laidLooks := .later }
def ItemsOpensCardSaid : Prop := Claim7.holds Tryz.pinned (.plain (OpenSpec.ofChange itemsOpensSpec)) itemsOpensCard

/-- THE TIED CARD OF 'chartroomlaw29.ItemsLengths'. -/
def itemsLengthsCard : Claim7 := { stood := { row := itemsLengthsRow, standIns := [], harness := (true, "94e03ded36e05c3f1ce72b1ad2f8c497af097728aac54644fbbe099c18637493"), looks := true }, kinds := [], alts := [], laidByText := true, laidKinds := [.data, .data, .widerDeep, .sentinel, .widerDeep], laidTests := true, laidLooks := .later }
def ItemsLengthsCardSaid : Prop := Claim7.holds Tryz.pinned (.plain (OpenSpec.ofChange itemsLengthsSpec)) itemsLengthsCard

/-- THE TIED CARD OF 'chartroomlaw29.ItemsSigned'. -/
def itemsSignedCard : Claim7 := { stood := { row := itemsSignedRow, standIns := [], harness := (true, "94e03ded36e05c3f1ce72b1ad2f8c497af097728aac54644fbbe099c18637493"), looks := true }, kinds := [], alts := [], laidByText := true, laidKinds := [.data, .data, .widerDeep, .sentinel, .widerDeep], laidTests := true, laidLooks := .later }
def ItemsSignedCardSaid : Prop := Claim7.holds Tryz.pinned (.plain (OpenSpec.ofChange itemsSignedSpec)) itemsSignedCard

/-- THE TIED CARD OF 'chartroomlaw29.ItemsKey'. -/
def itemsKeyCard : Claim7 := { stood := { row := itemsKeyRow, standIns := [], harness := (true, "94e03ded36e05c3f1ce72b1ad2f8c497af097728aac54644fbbe099c18637493"), looks := true }, kinds := [], alts := [], laidByText := true, laidKinds := [.data, .data, .widerDeep, .sentinel, .widerDeep], laidTests := true, laidLooks := .later }
def ItemsKeyCardSaid : Prop := Claim7.holds Tryz.pinned (.plain (OpenSpec.ofChange itemsKeySpec)) itemsKeyCard

/-- THE TIED CARD OF 'chartroomlaw29.ItemsBack'. -/
def itemsBackCard : Claim7 := { stood := { row := itemsBackRow, standIns := [], harness := (true, "94e03ded36e05c3f1ce72b1ad2f8c497af097728aac54644fbbe099c18637493"), looks := true }, kinds := [], alts := [], laidByText := true, laidKinds := [.data, .data, .widerDeep, .sentinel, .widerDeep], laidTests := true, laidLooks := .later }
def ItemsBackCardSaid : Prop := Claim7.holds Tryz.pinned (.plain (OpenSpec.ofChange itemsBackSpec)) itemsBackCard

/-- THE TIED CARD OF 'chartroomlaw29.ItemsTurned'. -/
def itemsTurnedCard : Claim7 := { stood := { row := itemsTurnedRow, standIns := [], harness := (true, "94e03ded36e05c3f1ce72b1ad2f8c497af097728aac54644fbbe099c18637493"), looks := true }, kinds := [], alts := [], laidByText := true, laidKinds := [.data, .data, .widerDeep, .sentinel, .widerDeep], laidTests := true, laidLooks := .later }
def ItemsTurnedCardSaid : Prop := Claim7.holds Tryz.pinned (.plain (OpenSpec.ofChange itemsTurnedSpec)) itemsTurnedCard

/-- THE SECOND FORM's CARD OF 'chartroomlaw29.ItemsSealSpec'. -/
def itemsSealSpecUptoCard : Claim7 := { stood := { row := itemsSealSpecUptoRow, standIns := [], harness := (true, "94e03ded36e05c3f1ce72b1ad2f8c497af097728aac54644fbbe099c18637493"), looks := true }, kinds := [], alts := [], laidByText := true, laidKinds := [.data, .data, .widerDeep, .sentinel, .widerDeep], laidTests := true, laidLooks := .later }
def ItemsSealSpecUptoCardSaid : Prop := Claim7.holds Tryz.pinned (.plain (OpenSpec.upto itemsSealSpecSpec)) itemsSealSpecUptoCard

/-- THE SECOND FORM's CARD OF 'chartroomlaw29.ItemsOpenSpec'. -/
def itemsOpenSpecUptoCard : Claim7 := { stood := { row := itemsOpenSpecUptoRow, standIns := [], harness := (true, "94e03ded36e05c3f1ce72b1ad2f8c497af097728aac54644fbbe099c18637493"), looks := true }, kinds := [], alts := [], laidByText := true, laidKinds := [.data, .data, .widerDeep, .sentinel, .widerDeep], laidTests := true, laidLooks := .later }
def ItemsOpenSpecUptoCardSaid : Prop := Claim7.holds Tryz.pinned (.plain (OpenSpec.upto itemsOpenSpecSpec)) itemsOpenSpecUptoCard

/-- THE SECOND FORM's CARD OF 'chartroomlaw29.ItemsEncodeSpec'. -/
def itemsEncodeSpecUptoCard : Claim7 := { stood := { row := itemsEncodeSpecUptoRow, standIns := [], harness := (true, "94e03ded36e05c3f1ce72b1ad2f8c497af097728aac54644fbbe099c18637493"), looks := true }, kinds := [], alts := [], laidByText := true, laidKinds := [.data, .data, .widerDeep, .sentinel, .widerDeep], laidTests := true, laidLooks := .later }
def ItemsEncodeSpecUptoCardSaid : Prop := Claim7.holds Tryz.pinned (.plain (OpenSpec.upto itemsEncodeSpecSpec)) itemsEncodeSpecUptoCard

/-- THE SECOND FORM's CARD OF 'chartroomlaw29.ItemsOpens'. -/
def itemsOpensUptoCard : Claim7 := { stood := { row := itemsOpensUptoRow, standIns := [], harness := (true, "94e03ded36e05c3f1ce72b1ad2f8c497af097728aac54644fbbe099c18637493"), looks := true }, kinds := [], alts := [], laidByText := true, laidKinds := [.data, .data, .widerDeep, .sentinel, .widerDeep], laidTests := true, laidLooks := .later }
def ItemsOpensUptoCardSaid : Prop := Claim7.holds Tryz.pinned (.plain (OpenSpec.upto itemsOpensSpec)) itemsOpensUptoCard

/-- THE SECOND FORM's CARD OF 'chartroomlaw29.ItemsLengths'. -/
def itemsLengthsUptoCard : Claim7 := { stood := { row := itemsLengthsUptoRow, standIns := [], harness := (true, "94e03ded36e05c3f1ce72b1ad2f8c497af097728aac54644fbbe099c18637493"), looks := true }, kinds := [], alts := [], laidByText := true, laidKinds := [.data, .data, .widerDeep, .sentinel, .widerDeep], laidTests := true, laidLooks := .later }
def ItemsLengthsUptoCardSaid : Prop := Claim7.holds Tryz.pinned (.plain (OpenSpec.upto itemsLengthsSpec)) itemsLengthsUptoCard

/-- THE SECOND FORM's CARD OF 'chartroomlaw29.ItemsSigned'. -/
def itemsSignedUptoCard : Claim7 := { stood := { row := itemsSignedUptoRow, standIns := [], harness := (true, "94e03ded36e05c3f1ce72b1ad2f8c497af097728aac54644fbbe099c18637493"), looks := true }, kinds := [], alts := [], laidByText := true, laidKinds := [.data, .data, .widerDeep, .sentinel, .widerDeep], laidTests := true, laidLooks := .later }
def ItemsSignedUptoCardSaid : Prop := Claim7.holds Tryz.pinned (.plain (OpenSpec.upto itemsSignedSpec)) itemsSignedUptoCard

/-- THE SECOND FORM's CARD OF 'chartroomlaw29.ItemsKey'. -/
def itemsKeyUptoCard : Claim7 := { stood := { row := itemsKeyUptoRow, standIns := [], harness := (true, "94e03ded36e05c3f1ce72b1ad2f8c497af097728aac54644fbbe099c18637493"), looks := true }, kinds := [], alts := [], laidByText := true, laidKinds := [.data, .data, .widerDeep, .sentinel, .widerDeep], laidTests := true, laidLooks := .later }
def ItemsKeyUptoCardSaid : Prop := Claim7.holds Tryz.pinned (.plain (OpenSpec.upto itemsKeySpec)) itemsKeyUptoCard

/-- THE SECOND FORM's CARD OF 'chartroomlaw29.ItemsBack'. -/
def itemsBackUptoCard : Claim7 := { stood := { row := itemsBackUptoRow, standIns := [], harness := (true, "94e03ded36e05c3f1ce72b1ad2f8c497af097728aac54644fbbe099c18637493"), looks := true }, kinds := [], alts := [], laidByText := true, laidKinds := [.data, .data, .widerDeep, .sentinel, .widerDeep], laidTests := true, laidLooks := .later }
def ItemsBackUptoCardSaid : Prop := Claim7.holds Tryz.pinned (.plain (OpenSpec.upto itemsBackSpec)) itemsBackUptoCard

/-- THE SECOND FORM's CARD OF 'chartroomlaw29.ItemsTurned'. -/
def itemsTurnedUptoCard : Claim7 := { stood := { row := itemsTurnedUptoRow, standIns := [], harness := (true, "94e03ded36e05c3f1ce72b1ad2f8c497af097728aac54644fbbe099c18637493"), looks := true }, kinds := [], alts := [], laidByText := true, laidKinds := [.data, .data, .widerDeep, .sentinel, .widerDeep], laidTests := true, laidLooks := .later }
def ItemsTurnedUptoCardSaid : Prop := Claim7.holds Tryz.pinned (.plain (OpenSpec.upto itemsTurnedSpec)) itemsTurnedUptoCard
end Rows
end Go.Proofs.YtejdjnkilikehaaGreatDoor
