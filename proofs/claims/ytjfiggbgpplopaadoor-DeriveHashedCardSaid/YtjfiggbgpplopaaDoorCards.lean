/-
  DERIVED. GIVEN WITH THE SEED: THE CARDS: each row of YtjfiggbgpplopaaDoorRows.lean that lists a variable, with what it lists TIED to the program's text (the seventh form; the later family's looks); each row that meets fmt, with fmt's text TOLD by the authors' own Lean function (tested against real Go, not proved from fmt's source: count such statements apart). THE CARD IS WHAT COUNTS. Prove the row's statement (the work); the ties are given (YtjfiggbgpplopaaDoorTie.lean); close each card by the builder's one call (the guide's Derived/Test/ToyasCard.lean, 'card_holds'). Laid BY PROGRAM, IN A SANDBOX (cutbox-door.mjs). By AI agents, Wed Nov 11 2026. No macro, syntax, notation, axiom, sorry.
-/
import Derived.Test.YtjfiggbgpplopaaDoorRows
import GoSem.ClaimSeven
namespace Go.Proofs.YtjfiggbgpplopaaDoor
namespace Rows

/-- THE TIED CARD OF 'chartroomlaw07.DeriveStepSpec'. -/
def deriveStepSpecCard : Claim7 := { stood := { row := deriveStepSpecRow, standIns := [], harness := (true, "35b1b56f9abbcf98c6f161c2a3d3007d6f24d377d128229a88244fd55a88b77d"), looks := true }, kinds := [], alts := [], laidByText := true, laidKinds := [.data, .data, .sentinel], laidTests := true, laidLooks := .later }
def DeriveStepSpecCardSaid : Prop := Claim7.holds Tryd.pinned (.plain (OpenSpec.ofChange deriveStepSpecSpec)) deriveStepSpecCard

/-- THE TIED CARD OF 'chartroomlaw07.DeriveScalarSpec'. -/
def deriveScalarSpecCard : Claim7 := { stood := { row := deriveScalarSpecRow, standIns := [], harness := (true, "35b1b56f9abbcf98c6f161c2a3d3007d6f24d377d128229a88244fd55a88b77d"), looks := true }, kinds := [], alts := [], laidByText := true, laidKinds := [.data, .data, .sentinel], laidTests := true, laidLooks := .later }
def DeriveScalarSpecCardSaid : Prop := Claim7.holds Tryd.pinned (.plain (OpenSpec.ofChange deriveScalarSpecSpec)) deriveScalarSpecCard

/-- THE TIED CARD OF 'chartroomlaw07.DeriveChain'. -/
def deriveChainCard : Claim7 := { stood := { row := deriveChainRow, standIns := [], harness := (true, "35b1b56f9abbcf98c6f161c2a3d3007d6f24d377d128229a88244fd55a88b77d"), looks := true }, kinds := [], alts := [], laidByText := true, laidKinds := [.data, .data, .sentinel], laidTests := true, laidLooks := .later }
def DeriveChainCardSaid : Prop := Claim7.holds Tryd.pinned (.plain (OpenSpec.ofChange deriveChainSpec)) deriveChainCard

/-- THE TIED CARD OF 'chartroomlaw07.DeriveKeysSpec'. -/
def deriveKeysSpecCard : Claim7 := { stood := { row := deriveKeysSpecRow, standIns := [], harness := (true, "35b1b56f9abbcf98c6f161c2a3d3007d6f24d377d128229a88244fd55a88b77d"), looks := true }, kinds := [], alts := [], laidByText := true, laidKinds := [.data, .data, .sentinel], laidTests := true, laidLooks := .later }
def DeriveKeysSpecCardSaid : Prop := Claim7.holds Tryd.pinned (.plain (OpenSpec.ofChange deriveKeysSpecSpec)) deriveKeysSpecCard

/-- THE TIED CARD OF 'chartroomlaw07.DeriveMixed'. -/
def deriveMixedCard : Claim7 := { stood := { row := deriveMixedRow, standIns := [], harness := (true, "35b1b56f9abbcf98c6f161c2a3d3007d6f24d377d128229a88244fd55a88b77d"), looks := true }, kinds := [], alts := [], laidByText := true, laidKinds := [.data, .data, .sentinel], laidTests := true, laidLooks := .later }
def DeriveMixedCardSaid : Prop := Claim7.holds Tryd.pinned (.plain (OpenSpec.ofChange deriveMixedSpec)) deriveMixedCard

/-- THE TIED CARD OF 'chartroomlaw07.DerivePrivate'. -/
def derivePrivateCard : Claim7 := { stood := { row := derivePrivateRow, standIns := [], harness := (true, "35b1b56f9abbcf98c6f161c2a3d3007d6f24d377d128229a88244fd55a88b77d"), looks := true }, kinds := [], alts := [], laidByText := true, laidKinds := [.data, .data, .sentinel], laidTests := true, laidLooks := .later }
def DerivePrivateCardSaid : Prop := Claim7.holds Tryd.pinned (.plain (OpenSpec.ofChange derivePrivateSpec)) derivePrivateCard

/-- THE TIED CARD OF 'chartroomlaw07.DeriveHashed'. -/
def deriveHashedCard : Claim7 := { stood := { row := deriveHashedRow, standIns := [], harness := (true, "35b1b56f9abbcf98c6f161c2a3d3007d6f24d377d128229a88244fd55a88b77d"), looks := true }, kinds := [], alts := [], laidByText := true, laidKinds := [.data, .data, .sentinel], laidTests := true, laidLooks := .later }
def DeriveHashedCardSaid : Prop := Claim7.holds Tryd.pinned (.plain (OpenSpec.ofChange deriveHashedSpec)) deriveHashedCard

/-- THE SECOND FORM's CARD OF 'chartroomlaw07.DeriveStepSpec'. -/
def deriveStepSpecUptoCard : Claim7 := { stood := { row := deriveStepSpecUptoRow, standIns := [], harness := (true, "35b1b56f9abbcf98c6f161c2a3d3007d6f24d377d128229a88244fd55a88b77d"), looks := true }, kinds := [], alts := [], laidByText := true, laidKinds := [.data, .data, .sentinel], laidTests := true, laidLooks := .later }
def DeriveStepSpecUptoCardSaid : Prop := Claim7.holds Tryd.pinned (.plain (OpenSpec.upto deriveStepSpecSpec)) deriveStepSpecUptoCard

/-- THE SECOND FORM's CARD OF 'chartroomlaw07.DeriveScalarSpec'. -/
def deriveScalarSpecUptoCard : Claim7 := { stood := { row := deriveScalarSpecUptoRow, standIns := [], harness := (true, "35b1b56f9abbcf98c6f161c2a3d3007d6f24d377d128229a88244fd55a88b77d"), looks := true }, kinds := [], alts := [], laidByText := true, laidKinds := [.data, .data, .sentinel], laidTests := true, laidLooks := .later }
def DeriveScalarSpecUptoCardSaid : Prop := Claim7.holds Tryd.pinned (.plain (OpenSpec.upto deriveScalarSpecSpec)) deriveScalarSpecUptoCard

/-- THE SECOND FORM's CARD OF 'chartroomlaw07.DeriveChain'. -/
def deriveChainUptoCard : Claim7 := { stood := { row := deriveChainUptoRow, standIns := [], harness := (true, "35b1b56f9abbcf98c6f161c2a3d3007d6f24d377d128229a88244fd55a88b77d"), looks := true }, kinds := [], alts := [], laidByText := true, laidKinds := [.data, .data, .sentinel], laidTests := true, laidLooks := .later }
def DeriveChainUptoCardSaid : Prop := Claim7.holds Tryd.pinned (.plain (OpenSpec.upto deriveChainSpec)) deriveChainUptoCard

/-- THE SECOND FORM's CARD OF 'chartroomlaw07.DeriveKeysSpec'. -/
def deriveKeysSpecUptoCard : Claim7 := { stood := { row := deriveKeysSpecUptoRow, standIns := [], harness := (true, "35b1b56f9abbcf98c6f161c2a3d3007d6f24d377d128229a88244fd55a88b77d"), looks := true }, kinds := [], alts := [], laidByText := true, laidKinds := [.data, .data, .sentinel], laidTests := true, laidLooks := .later }
def DeriveKeysSpecUptoCardSaid : Prop := Claim7.holds Tryd.pinned (.plain (OpenSpec.upto deriveKeysSpecSpec)) deriveKeysSpecUptoCard

/-- THE SECOND FORM's CARD OF 'chartroomlaw07.DeriveMixed'. -/
def deriveMixedUptoCard : Claim7 := { stood := { row := deriveMixedUptoRow, standIns := [], harness := (true, "35b1b56f9abbcf98c6f161c2a3d3007d6f24d377d128229a88244fd55a88b77d"), looks := true }, kinds := [], alts := [], laidByText := true, laidKinds := [.data, .data, .sentinel], laidTests := true, laidLooks := .later }
def DeriveMixedUptoCardSaid : Prop := Claim7.holds Tryd.pinned (.plain (OpenSpec.upto deriveMixedSpec)) deriveMixedUptoCard

/-- THE SECOND FORM's CARD OF 'chartroomlaw07.DerivePrivate'. -/
def derivePrivateUptoCard : Claim7 := { stood := { row := derivePrivateUptoRow, standIns := [], harness := (true, "35b1b56f9abbcf98c6f161c2a3d3007d6f24d377d128229a88244fd55a88b77d"), looks := true }, kinds := [], alts := [], laidByText := true, laidKinds := [.data, .data, .sentinel], laidTests := true, laidLooks := .later }
def DerivePrivateUptoCardSaid : Prop := Claim7.holds Tryd.pinned (.plain (OpenSpec.upto derivePrivateSpec)) derivePrivateUptoCard

/-- THE SECOND FORM's CARD OF 'chartroomlaw07.DeriveHashed'. -/
def deriveHashedUptoCard : Claim7 := { stood := { row := deriveHashedUptoRow, standIns := [], harness := (true, "35b1b56f9abbcf98c6f161c2a3d3007d6f24d377d128229a88244fd55a88b77d"), looks := true }, kinds := [], alts := [], laidByText := true, laidKinds := [.data, .data, .sentinel], laidTests := true, laidLooks := .later }
def DeriveHashedUptoCardSaid : Prop := Claim7.holds Tryd.pinned (.plain (OpenSpec.upto deriveHashedSpec)) deriveHashedUptoCard
end Rows
end Go.Proofs.YtjfiggbgpplopaaDoor
