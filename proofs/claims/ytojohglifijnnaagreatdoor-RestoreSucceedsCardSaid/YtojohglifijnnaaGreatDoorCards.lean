/-
  DERIVED. GIVEN WITH THE SEED: THE CARDS: each row of YtojohglifijnnaaGreatDoorRows.lean that lists a variable, with what it lists TIED to the program's text (the seventh form; the later family's looks); each row that meets fmt, with fmt's text TOLD by the authors' own Lean function (tested against real Go, not proved from fmt's source: count such statements apart). THE CARD IS WHAT COUNTS. Prove the row's statement (the work); the ties are given (YtojohglifijnnaaGreatDoorTie.lean); close each card by the builder's one call (the guide's Derived/Test/ToyasCard.lean, 'card_holds'). Laid BY PROGRAM, IN A SANDBOX (cutbox-door.mjs). By AI agents, Wed Nov 11 2026. No macro, syntax, notation, axiom, sorry.
-/
import Derived.Test.YtojohglifijnnaaGreatDoorRows
import GoSem.ClaimSeven
namespace Go.Proofs.YtojohglifijnnaaGreatDoor
namespace Rows

/-- THE TIED CARD OF 'chartroomlaw39.RestoreSetupSpec'. -/
def restoreSetupSpecCard : Claim7 := { stood := { row := restoreSetupSpecRow, standIns := [], harness := (true, "c5173c52556c730f0d35e313665cbab697f10c557c5ca798e47072747da33d9f"), looks := true }, kinds := [], alts := [], laidByText := true, laidKinds := [.data, .data, .sentinel, .widerDeep], laidTests := true, laidLooks := .later }
def RestoreSetupSpecCardSaid : Prop := Claim7.holds Tryz.pinned (.plain (OpenSpec.ofChange restoreSetupSpecSpec)) restoreSetupSpecCard

/-- THE TIED CARD OF 'chartroomlaw39.RestoreApproveSpec'. -/
def restoreApproveSpecCard : Claim7 := { stood := { row := restoreApproveSpecRow, standIns := [], harness := (true, "c5173c52556c730f0d35e313665cbab697f10c557c5ca798e47072747da33d9f"), looks := true }, kinds := [], alts := [], laidByText := true, laidKinds := [.data, .data, .sentinel, .widerDeep], laidTests := true, laidLooks := .later }
def RestoreApproveSpecCardSaid : Prop := Claim7.holds Tryz.pinned (.plain (OpenSpec.ofChange restoreApproveSpecSpec)) restoreApproveSpecCard

/-- THE TIED CARD OF 'chartroomlaw39.RestoreObjectSpec'. -/
def restoreObjectSpecCard : Claim7 := { stood := { row := restoreObjectSpecRow, standIns := [], harness := (true, "c5173c52556c730f0d35e313665cbab697f10c557c5ca798e47072747da33d9f"), looks := true }, kinds := [], alts := [], laidByText := true, laidKinds := [.data, .data, .sentinel, .widerDeep], laidTests := true, laidLooks := .later }
def RestoreObjectSpecCardSaid : Prop := Claim7.holds Tryz.pinned (.plain (OpenSpec.ofChange restoreObjectSpecSpec)) restoreObjectSpecCard

/-- THE TIED CARD OF 'chartroomlaw39.RestoreSucceeds'. -/
def restoreSucceedsCard : Claim7 := { stood := { row := restoreSucceedsRow, standIns := [], harness := (true, "c5173c52556c730f0d35e313665cbab697f10c557c5ca798e47072747da33d9f"), looks := true }, kinds := [], alts := [], laidByText := true, laidKinds := [.data, .data, .sentinel, .widerDeep], laidTests := true, laidLooks := .later }
def RestoreSucceedsCardSaid : Prop := Claim7.holds Tryz.pinned (.plain (OpenSpec.ofChange restoreSucceedsSpec)) restoreSucceedsCard

/-- THE TIED CARD OF 'chartroomlaw39.RestoreObjected'. -/
def restoreObjectedCard : Claim7 := { stood := { row := restoreObjectedRow, standIns := [], harness := (true, "c5173c52556c730f0d35e313665cbab697f10c557c5ca798e47072747da33d9f"), looks := true }, kinds := [], alts := [], laidByText := true, laidKinds := [.data, .data, .sentinel, .widerDeep], laidTests := true, laidLooks := .later }
def RestoreObjectedCardSaid : Prop := Claim7.holds Tryz.pinned (.plain (OpenSpec.ofChange restoreObjectedSpec)) restoreObjectedCard

/-- THE TIED CARD OF 'chartroomlaw39.RestoreSigned'. -/
def restoreSignedCard : Claim7 := { stood := { row := restoreSignedRow, standIns := [], harness := (true, "c5173c52556c730f0d35e313665cbab697f10c557c5ca798e47072747da33d9f"), looks := true }, kinds := [], alts := [], laidByText := true, laidKinds := [.data, .data, .sentinel, .widerDeep], laidTests := true, laidLooks := .later }
def RestoreSignedCardSaid : Prop := Claim7.holds Tryz.pinned (.plain (OpenSpec.ofChange restoreSignedSpec)) restoreSignedCard

/-- THE SECOND FORM's CARD OF 'chartroomlaw39.RestoreSetupSpec'. -/
def restoreSetupSpecUptoCard : Claim7 := { stood := { row := restoreSetupSpecUptoRow, standIns := [], harness := (true, "c5173c52556c730f0d35e313665cbab697f10c557c5ca798e47072747da33d9f"), looks := true }, kinds := [], alts := [], laidByText := true, laidKinds := [.data, .data, .sentinel, .widerDeep], laidTests := true, laidLooks := .later }
def RestoreSetupSpecUptoCardSaid : Prop := Claim7.holds Tryz.pinned (.plain (OpenSpec.upto restoreSetupSpecSpec)) restoreSetupSpecUptoCard

/-- THE SECOND FORM's CARD OF 'chartroomlaw39.RestoreApproveSpec'. -/
def restoreApproveSpecUptoCard : Claim7 := { stood := { row := restoreApproveSpecUptoRow, standIns := [], harness := (true, "c5173c52556c730f0d35e313665cbab697f10c557c5ca798e47072747da33d9f"), looks := true }, kinds := [], alts := [], laidByText := true, laidKinds := [.data, .data, .sentinel, .widerDeep], laidTests := true, laidLooks := .later }
def RestoreApproveSpecUptoCardSaid : Prop := Claim7.holds Tryz.pinned (.plain (OpenSpec.upto restoreApproveSpecSpec)) restoreApproveSpecUptoCard

/-- THE SECOND FORM's CARD OF 'chartroomlaw39.RestoreObjectSpec'. -/
def restoreObjectSpecUptoCard : Claim7 := { stood := { row := restoreObjectSpecUptoRow, standIns := [], harness := (true, "c5173c52556c730f0d35e313665cbab697f10c557c5ca798e47072747da33d9f"), looks := true }, kinds := [], alts := [], laidByText := true, laidKinds := [.data, .data, .sentinel, .widerDeep], laidTests := true, laidLooks := .later }
def RestoreObjectSpecUptoCardSaid : Prop := Claim7.holds Tryz.pinned (.plain (OpenSpec.upto restoreObjectSpecSpec)) restoreObjectSpecUptoCard

/-- THE SECOND FORM's CARD OF 'chartroomlaw39.RestoreSucceeds'. -/
def restoreSucceedsUptoCard : Claim7 := { stood := { row := restoreSucceedsUptoRow, standIns := [], harness := (true, "c5173c52556c730f0d35e313665cbab697f10c557c5ca798e47072747da33d9f"), looks := true }, kinds := [], alts := [], laidByText := true, laidKinds := [.data, .data, .sentinel, .widerDeep], laidTests := true, laidLooks := .later }
def RestoreSucceedsUptoCardSaid : Prop := Claim7.holds Tryz.pinned (.plain (OpenSpec.upto restoreSucceedsSpec)) restoreSucceedsUptoCard

/-- THE SECOND FORM's CARD OF 'chartroomlaw39.RestoreObjected'. -/
def restoreObjectedUptoCard : Claim7 := { stood := { row := restoreObjectedUptoRow, standIns := [], harness := (true, "c5173c52556c730f0d35e313665cbab697f10c557c5ca798e47072747da33d9f"), looks := true }, kinds := [], alts := [], laidByText := true, laidKinds := [.data, .data, .sentinel, .widerDeep], laidTests := true, laidLooks := .later }
def RestoreObjectedUptoCardSaid : Prop := Claim7.holds Tryz.pinned (.plain (OpenSpec.upto restoreObjectedSpec)) restoreObjectedUptoCard

/-- THE SECOND FORM's CARD OF 'chartroomlaw39.RestoreSigned'. -/
def restoreSignedUptoCard : Claim7 := { stood := { row := restoreSignedUptoRow, standIns := [], harness := (true, "c5173c52556c730f0d35e313665cbab697f10c557c5ca798e47072747da33d9f"), looks := true }, kinds := [], alts := [], laidByText := true, laidKinds := [.data, .data, .sentinel, .widerDeep], laidTests := true, laidLooks := .later }
def RestoreSignedUptoCardSaid : Prop := Claim7.holds Tryz.pinned (.plain (OpenSpec.upto restoreSignedSpec)) restoreSignedUptoCard
end Rows
end Go.Proofs.YtojohglifijnnaaGreatDoor
