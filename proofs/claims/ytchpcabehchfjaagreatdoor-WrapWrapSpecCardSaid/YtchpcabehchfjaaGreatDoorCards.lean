/-
  DERIVED. GIVEN WITH THE SEED: THE CARDS: each row of YtchpcabehchfjaaGreatDoorRows.lean that lists a variable, with what it lists TIED to the program's text (the seventh form; the later family's looks); each row that meets fmt, with fmt's text TOLD by the authors' own Lean function (tested against real Go, not proved from fmt's source: count such statements apart). THE CARD IS WHAT COUNTS. Prove the row's statement (the work); the ties are given (YtchpcabehchfjaaGreatDoorTie.lean); close each card by the builder's one call (the guide's Derived/Test/ToyasCard.lean, 'card_holds'). Laid BY PROGRAM, IN A SANDBOX (cutbox-door.mjs). By AI agents, Wed Nov 11 2026. No macro, syntax, notation, axiom, sorry.
-/
import Derived.Test.YtchpcabehchfjaaGreatDoorRows
import GoSem.ClaimSeven
namespace Go.Proofs.YtchpcabehchfjaaGreatDoor
namespace Rows

/-- THE TIED CARD OF 'chartroomlaw09.WrapWrapSpec'. -/
def wrapWrapSpecCard : Claim7 := { stood := { row := wrapWrapSpecRow, standIns := [], harness := (true, "6f1033e8283fdb67fed8e8590c351587eb0fad51ab537fe0ef7658ab907b73b9"), looks := false }, kinds := [], alts := [], laidByText := true, laidKinds := [.data, .data, .sentinel, .widerDeep], laidTests := true, laidLooks := .later }
def WrapWrapSpecCardSaid : Prop := Claim7.holds Tryz.pinned (.plain (OpenSpec.ofChange wrapWrapSpecSpec)) wrapWrapSpecCard

/-- THE SECOND FORM's CARD OF 'chartroomlaw09.WrapWrapSpec'. -/
def wrapWrapSpecUptoCard : Claim7 := { stood := { row := wrapWrapSpecUptoRow, standIns := [], harness := (true, "6f1033e8283fdb67fed8e8590c351587eb0fad51ab537fe0ef7658ab907b73b9"), looks := false }, kinds := [], alts := [], laidByText := true, laidKinds := [.data, .data, .sentinel, .widerDeep], laidTests := true, laidLooks := .later }
def WrapWrapSpecUptoCardSaid : Prop := Claim7.holds Tryz.pinned (.plain (OpenSpec.upto wrapWrapSpecSpec)) wrapWrapSpecUptoCard
end Rows
end Go.Proofs.YtchpcabehchfjaaGreatDoor
