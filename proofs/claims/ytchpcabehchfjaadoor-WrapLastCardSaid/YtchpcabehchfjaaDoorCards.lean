/-
  DERIVED. GIVEN WITH THE SEED: THE CARDS: each row of YtchpcabehchfjaaDoorRows.lean that lists a variable, with what it lists TIED to the program's text (the seventh form; the later family's looks); each row that meets fmt, with fmt's text TOLD by the authors' own Lean function (tested against real Go, not proved from fmt's source: count such statements apart). THE CARD IS WHAT COUNTS. Prove the row's statement (the work); the ties are given (YtchpcabehchfjaaDoorTie.lean); close each card by the builder's one call (the guide's Derived/Test/ToyasCard.lean, 'card_holds'). Laid BY PROGRAM, IN A SANDBOX (cutbox-door.mjs). By AI agents, Wed Nov 11 2026. No macro, syntax, notation, axiom, sorry.
-/
import Derived.Test.YtchpcabehchfjaaDoorRows
import GoSem.ClaimSeven
namespace Go.Proofs.YtchpcabehchfjaaDoor
namespace Rows

/-- THE TIED CARD OF 'chartroomlaw09.WrapUnwrapSpec'. -/
def wrapUnwrapSpecCard : Claim7 := { stood := { row := wrapUnwrapSpecRow, standIns := [], harness := (true, "f2a569c4421e357a642cbf867d112181d0cf8e9ab2d0a1a1c2f93246f2d8e88a"), looks := false }, kinds := [], alts := [], laidByText := true, laidKinds := [.data, .data, .sentinel, .widerDeep], laidTests := true, laidLooks := .later }
def WrapUnwrapSpecCardSaid : Prop := Claim7.holds Tryd.pinned (.plain (OpenSpec.ofChange wrapUnwrapSpecSpec)) wrapUnwrapSpecCard

/-- THE TIED CARD OF 'chartroomlaw09.WrapOpens'. -/
def wrapOpensCard : Claim7 := { stood := { row := wrapOpensRow, standIns := [], harness := (true, "f2a569c4421e357a642cbf867d112181d0cf8e9ab2d0a1a1c2f93246f2d8e88a"), looks := false }, kinds := [], alts := [], laidByText := true, laidKinds := [.data, .data, .sentinel, .widerDeep], laidTests := true, laidLooks := .later }
def WrapOpensCardSaid : Prop := Claim7.holds Tryd.pinned (.plain (OpenSpec.ofChange wrapOpensSpec)) wrapOpensCard

/-- THE TIED CARD OF 'chartroomlaw09.WrapBothSides'. -/
def wrapBothSidesCard : Claim7 := { stood := { row := wrapBothSidesRow, standIns := [], harness := (true, "f2a569c4421e357a642cbf867d112181d0cf8e9ab2d0a1a1c2f93246f2d8e88a"), looks := false }, kinds := [], alts := [], laidByText := true, laidKinds := [.data, .data, .sentinel, .widerDeep], laidTests := true, laidLooks := .later }
def WrapBothSidesCardSaid : Prop := Claim7.holds Tryd.pinned (.plain (OpenSpec.ofChange wrapBothSidesSpec)) wrapBothSidesCard

/-- THE TIED CARD OF 'chartroomlaw09.WrapTag'. -/
def wrapTagCard : Claim7 := { stood := { row := wrapTagRow, standIns := [], harness := (true, "f2a569c4421e357a642cbf867d112181d0cf8e9ab2d0a1a1c2f93246f2d8e88a"), looks := false }, kinds := [], alts := [], laidByText := true, laidKinds := [.data, .data, .sentinel, .widerDeep], laidTests := true, laidLooks := .later }
def WrapTagCardSaid : Prop := Claim7.holds Tryd.pinned (.plain (OpenSpec.ofChange wrapTagSpec)) wrapTagCard

/-- THE TIED CARD OF 'chartroomlaw09.WrapSeed'. -/
def wrapSeedCard : Claim7 := { stood := { row := wrapSeedRow, standIns := [], harness := (true, "f2a569c4421e357a642cbf867d112181d0cf8e9ab2d0a1a1c2f93246f2d8e88a"), looks := false }, kinds := [], alts := [], laidByText := true, laidKinds := [.data, .data, .sentinel, .widerDeep], laidTests := true, laidLooks := .later }
def WrapSeedCardSaid : Prop := Claim7.holds Tryd.pinned (.plain (OpenSpec.ofChange wrapSeedSpec)) wrapSeedCard

/-- THE TIED CARD OF 'chartroomlaw09.WrapLast'. -/
def wrapLastCard : Claim7 := { stood := { row := wrapLastRow, standIns := [], harness := (true, "f2a569c4421e357a642cbf867d112181d0cf8e9ab2d0a1a1c2f93246f2d8e88a"), looks := false }, kinds := [], alts := [], laidByText := true, laidKinds := [.data, .data, .sentinel, .widerDeep], laidTests := true, laidLooks := .later }
def WrapLastCardSaid : Prop := Claim7.holds Tryd.pinned (.plain (OpenSpec.ofChange wrapLastSpec)) wrapLastCard

/-- THE SECOND FORM's CARD OF 'chartroomlaw09.WrapUnwrapSpec'. -/
def wrapUnwrapSpecUptoCard : Claim7 := { stood := { row := wrapUnwrapSpecUptoRow, standIns := [], harness := (true, "f2a569c4421e357a642cbf867d112181d0cf8e9ab2d0a1a1c2f93246f2d8e88a"), looks := false }, kinds := [], alts := [], laidByText := true, laidKinds := [.data, .data, .sentinel, .widerDeep], laidTests := true, laidLooks := .later }
def WrapUnwrapSpecUptoCardSaid : Prop := Claim7.holds Tryd.pinned (.plain (OpenSpec.upto wrapUnwrapSpecSpec)) wrapUnwrapSpecUptoCard

/-- THE SECOND FORM's CARD OF 'chartroomlaw09.WrapOpens'. -/
def wrapOpensUptoCard : Claim7 := { stood := { row := wrapOpensUptoRow, standIns := [], harness := (true, "f2a569c4421e357a642cbf867d112181d0cf8e9ab2d0a1a1c2f93246f2d8e88a"), looks := false }, kinds := [], alts := [], laidByText := true, laidKinds := [.data, .data, .sentinel, .widerDeep], laidTests := true, laidLooks := .later }
def WrapOpensUptoCardSaid : Prop := Claim7.holds Tryd.pinned (.plain (OpenSpec.upto wrapOpensSpec)) wrapOpensUptoCard

/-- THE SECOND FORM's CARD OF 'chartroomlaw09.WrapBothSides'. -/
def wrapBothSidesUptoCard : Claim7 := { stood := { row := wrapBothSidesUptoRow, standIns := [], harness := (true, "f2a569c4421e357a642cbf867d112181d0cf8e9ab2d0a1a1c2f93246f2d8e88a"), looks := false }, kinds := [], alts := [], laidByText := true, laidKinds := [.data, .data, .sentinel, .widerDeep], laidTests := true, laidLooks := .later }
def WrapBothSidesUptoCardSaid : Prop := Claim7.holds Tryd.pinned (.plain (OpenSpec.upto wrapBothSidesSpec)) wrapBothSidesUptoCard

/-- THE SECOND FORM's CARD OF 'chartroomlaw09.WrapTag'. -/
def wrapTagUptoCard : Claim7 := { stood := { row := wrapTagUptoRow, standIns := [], harness := (true, "f2a569c4421e357a642cbf867d112181d0cf8e9ab2d0a1a1c2f93246f2d8e88a"), looks := false }, kinds := [], alts := [], laidByText := true, laidKinds := [.data, .data, .sentinel, .widerDeep], laidTests := true, laidLooks := .later }
def WrapTagUptoCardSaid : Prop := Claim7.holds Tryd.pinned (.plain (OpenSpec.upto wrapTagSpec)) wrapTagUptoCard

/-- THE SECOND FORM's CARD OF 'chartroomlaw09.WrapSeed'. -/
def wrapSeedUptoCard : Claim7 := { stood := { row := wrapSeedUptoRow, standIns := [], harness := (true, "f2a569c4421e357a642cbf867d112181d0cf8e9ab2d0a1a1c2f93246f2d8e88a"), looks := false }, kinds := [], alts := [], laidByText := true, laidKinds := [.data, .data, .sentinel, .widerDeep], laidTests := true, laidLooks := .later }
def WrapSeedUptoCardSaid : Prop := Claim7.holds Tryd.pinned (.plain (OpenSpec.upto wrapSeedSpec)) wrapSeedUptoCard

/-- THE SECOND FORM's CARD OF 'chartroomlaw09.WrapLast'. -/
def wrapLastUptoCard : Claim7 := { stood := { row := wrapLastUptoRow, standIns := [], harness := (true, "f2a569c4421e357a642cbf867d112181d0cf8e9ab2d0a1a1c2f93246f2d8e88a"), looks := false }, kinds := [], alts := [], laidByText := true, laidKinds := [.data, .data, .sentinel, .widerDeep], laidTests := true, laidLooks := .later }
def WrapLastUptoCardSaid : Prop := Claim7.holds Tryd.pinned (.plain (OpenSpec.upto wrapLastSpec)) wrapLastUptoCard
end Rows
end Go.Proofs.YtchpcabehchfjaaDoor
