/-
  DERIVED. GIVEN WITH THE SEED: THE CARDS: each row of YtegfmbefhpagmaaGreatDoorRows.lean that lists a variable, with what it lists TIED to the program's text (the seventh form; the later family's looks); each row that meets fmt, with fmt's text TOLD by the authors' own Lean function (tested against real Go, not proved from fmt's source: count such statements apart). THE CARD IS WHAT COUNTS. Prove the row's statement (the work); the ties are given (YtegfmbefhpagmaaGreatDoorTie.lean); close each card by the builder's one call (the guide's Derived/Test/ToyasCard.lean, 'card_holds'). Laid BY PROGRAM, IN A SANDBOX (cutbox-door.mjs). By AI agents, Wed Nov 11 2026. No macro, syntax, notation, axiom, sorry.
-/
import Derived.Test.YtegfmbefhpagmaaGreatDoorRows
import GoSem.ClaimSeven
namespace Go.Proofs.YtegfmbefhpagmaaGreatDoor
namespace Rows

/-- THE TIED CARD OF 'chartroomtop.TopRestore'. -/
def topRestoreCard : Claim7 := { stood := { row := topRestoreRow, standIns := [], harness := (true, "3d171bac95d5f738bdf9af893b7e59085410c2a074c2bdfd1247838dd878c9c5"), looks := true }, kinds := [], alts := [], laidByText := true, laidKinds := [.data, .data, .sentinel, .widerDeep], laidTests := true, laidLooks := .later }
def TopRestoreCardSaid : Prop := Claim7.holds Tryz.pinned (.plain (OpenSpec.ofChange topRestoreSpec)) topRestoreCard

/-- THE SECOND FORM's CARD OF 'chartroomtop.TopRestore'. -/
def topRestoreUptoCard : Claim7 := { stood := { row := topRestoreUptoRow, standIns := [], harness := (true, "3d171bac95d5f738bdf9af893b7e59085410c2a074c2bdfd1247838dd878c9c5"), looks := true }, kinds := [], alts := [], laidByText := true, laidKinds := [.data, .data, .sentinel, .widerDeep], laidTests := true, laidLooks := .later }
def TopRestoreUptoCardSaid : Prop := Claim7.holds Tryz.pinned (.plain (OpenSpec.upto topRestoreSpec)) topRestoreUptoCard
end Rows
end Go.Proofs.YtegfmbefhpagmaaGreatDoor
