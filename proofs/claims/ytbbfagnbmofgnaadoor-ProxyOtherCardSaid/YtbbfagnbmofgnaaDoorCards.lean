/-
  DERIVED. GIVEN WITH THE SEED: THE CARDS: each row of YtbbfagnbmofgnaaDoorRows.lean that lists a variable, with what it lists TIED to the program's text (the seventh form; the later family's looks); each row that meets fmt, with fmt's text TOLD by the authors' own Lean function (tested against real Go, not proved from fmt's source: count such statements apart). THE CARD IS WHAT COUNTS. Prove the row's statement (the work); the ties are given (YtbbfagnbmofgnaaDoorTie.lean); close each card by the builder's one call (the guide's Derived/Test/ToyasCard.lean, 'card_holds'). Laid BY PROGRAM, IN A SANDBOX (cutbox-door.mjs). By AI agents, Wed Nov 11 2026. No macro, syntax, notation, axiom, sorry.
-/
import Derived.Test.YtbbfagnbmofgnaaDoorRows
import GoSem.ClaimSeven
namespace Go.Proofs.YtbbfagnbmofgnaaDoor
namespace Rows

/-- THE TIED CARD OF 'chartroomlaw11.ProxyTurnSpec'. -/
def proxyTurnSpecCard : Claim7 := { stood := { row := proxyTurnSpecRow, standIns := [], harness := (true, "538c3597c970e3ca5a6944b121b05a06723586b26c3168b20c767073f6af9d6a"), looks := true }, kinds := [], alts := [], laidByText := true, laidKinds := [.data, .data, .sentinel], laidTests := true, laidLooks := .later }
def ProxyTurnSpecCardSaid : Prop := Claim7.holds Tryd.pinned (.plain (OpenSpec.ofChange proxyTurnSpecSpec)) proxyTurnSpecCard

/-- THE TIED CARD OF 'chartroomlaw11.ProxyOpens'. -/
def proxyOpensCard : Claim7 := { stood := { row := proxyOpensRow, standIns := [], harness := (true, "538c3597c970e3ca5a6944b121b05a06723586b26c3168b20c767073f6af9d6a"), looks := true }, kinds := [], alts := [], laidByText := true, laidKinds := [.data, .data, .sentinel], laidTests := true, laidLooks := .later }
def ProxyOpensCardSaid : Prop := Claim7.holds Tryd.pinned (.plain (OpenSpec.ofChange proxyOpensSpec)) proxyOpensCard

/-- THE TIED CARD OF 'chartroomlaw11.ProxyTurned'. -/
def proxyTurnedCard : Claim7 := { stood := { row := proxyTurnedRow, standIns := [], harness := (true, "538c3597c970e3ca5a6944b121b05a06723586b26c3168b20c767073f6af9d6a"), looks := true }, kinds := [], alts := [], laidByText := true, laidKinds := [.data, .data, .sentinel], laidTests := true, laidLooks := .later }
def ProxyTurnedCardSaid : Prop := Claim7.holds Tryd.pinned (.plain (OpenSpec.ofChange proxyTurnedSpec)) proxyTurnedCard

/-- THE TIED CARD OF 'chartroomlaw11.ProxyFactors'. -/
def proxyFactorsCard : Claim7 := { stood := { row := proxyFactorsRow, standIns := [], harness := (true, "538c3597c970e3ca5a6944b121b05a06723586b26c3168b20c767073f6af9d6a"), looks := true }, kinds := [], alts := [], laidByText := true, laidKinds := [.data, .data, .sentinel], laidTests := true, laidLooks := .later }
def ProxyFactorsCardSaid : Prop := Claim7.holds Tryd.pinned (.plain (OpenSpec.ofChange proxyFactorsSpec)) proxyFactorsCard

/-- THE TIED CARD OF 'chartroomlaw11.ProxyProducts'. -/
def proxyProductsCard : Claim7 := { stood := { row := proxyProductsRow, standIns := [], harness := (true, "538c3597c970e3ca5a6944b121b05a06723586b26c3168b20c767073f6af9d6a"), looks := true }, kinds := [], alts := [], laidByText := true, laidKinds := [.data, .data, .sentinel], laidTests := true, laidLooks := .later }
def ProxyProductsCardSaid : Prop := Claim7.holds Tryd.pinned (.plain (OpenSpec.ofChange proxyProductsSpec)) proxyProductsCard

/-- THE TIED CARD OF 'chartroomlaw11.ProxyOther'. -/
def proxyOtherCard : Claim7 := { stood := { row := proxyOtherRow, standIns := [], harness := (true, "538c3597c970e3ca5a6944b121b05a06723586b26c3168b20c767073f6af9d6a"), looks := true }, kinds := [], alts := [], laidByText := true, laidKinds := [.data, .data, .sentinel], laidTests := true, laidLooks := .later }
def ProxyOtherCardSaid : Prop := Claim7.holds Tryd.pinned (.plain (OpenSpec.ofChange proxyOtherSpec)) proxyOtherCard

/-- THE SECOND FORM's CARD OF 'chartroomlaw11.ProxyTurnSpec'. -/
def proxyTurnSpecUptoCard : Claim7 := { stood := { row := proxyTurnSpecUptoRow, standIns := [], harness := (true, "538c3597c970e3ca5a6944b121b05a06723586b26c3168b20c767073f6af9d6a"), looks := true }, kinds := [], alts := [], laidByText := true, laidKinds := [.data, .data, .sentinel], laidTests := true, laidLooks := .later }
def ProxyTurnSpecUptoCardSaid : Prop := Claim7.holds Tryd.pinned (.plain (OpenSpec.upto proxyTurnSpecSpec)) proxyTurnSpecUptoCard

/-- THE SECOND FORM's CARD OF 'chartroomlaw11.ProxyOpens'. -/
def proxyOpensUptoCard : Claim7 := { stood := { row := proxyOpensUptoRow, standIns := [], harness := (true, "538c3597c970e3ca5a6944b121b05a06723586b26c3168b20c767073f6af9d6a"), looks := true }, kinds := [], alts := [], laidByText := true, laidKinds := [.data, .data, .sentinel], laidTests := true, laidLooks := .later }
def ProxyOpensUptoCardSaid : Prop := Claim7.holds Tryd.pinned (.plain (OpenSpec.upto proxyOpensSpec)) proxyOpensUptoCard

/-- THE SECOND FORM's CARD OF 'chartroomlaw11.ProxyTurned'. -/
def proxyTurnedUptoCard : Claim7 := { stood := { row := proxyTurnedUptoRow, standIns := [], harness := (true, "538c3597c970e3ca5a6944b121b05a06723586b26c3168b20c767073f6af9d6a"), looks := true }, kinds := [], alts := [], laidByText := true, laidKinds := [.data, .data, .sentinel], laidTests := true, laidLooks := .later }
def ProxyTurnedUptoCardSaid : Prop := Claim7.holds Tryd.pinned (.plain (OpenSpec.upto proxyTurnedSpec)) proxyTurnedUptoCard

/-- THE SECOND FORM's CARD OF 'chartroomlaw11.ProxyFactors'. -/
def proxyFactorsUptoCard : Claim7 := { stood := { row := proxyFactorsUptoRow, standIns := [], harness := (true, "538c3597c970e3ca5a6944b121b05a06723586b26c3168b20c767073f6af9d6a"), looks := true }, kinds := [], alts := [], laidByText := true, laidKinds := [.data, .data, .sentinel], laidTests := true, laidLooks := .later }
def ProxyFactorsUptoCardSaid : Prop := Claim7.holds Tryd.pinned (.plain (OpenSpec.upto proxyFactorsSpec)) proxyFactorsUptoCard

/-- THE SECOND FORM's CARD OF 'chartroomlaw11.ProxyProducts'. -/
def proxyProductsUptoCard : Claim7 := { stood := { row := proxyProductsUptoRow, standIns := [], harness := (true, "538c3597c970e3ca5a6944b121b05a06723586b26c3168b20c767073f6af9d6a"), looks := true }, kinds := [], alts := [], laidByText := true, laidKinds := [.data, .data, .sentinel], laidTests := true, laidLooks := .later }
def ProxyProductsUptoCardSaid : Prop := Claim7.holds Tryd.pinned (.plain (OpenSpec.upto proxyProductsSpec)) proxyProductsUptoCard

/-- THE SECOND FORM's CARD OF 'chartroomlaw11.ProxyOther'. -/
def proxyOtherUptoCard : Claim7 := { stood := { row := proxyOtherUptoRow, standIns := [], harness := (true, "538c3597c970e3ca5a6944b121b05a06723586b26c3168b20c767073f6af9d6a"), looks := true }, kinds := [], alts := [], laidByText := true, laidKinds := [.data, .data, .sentinel], laidTests := true, laidLooks := .later }
def ProxyOtherUptoCardSaid : Prop := Claim7.holds Tryd.pinned (.plain (OpenSpec.upto proxyOtherSpec)) proxyOtherUptoCard
end Rows
end Go.Proofs.YtbbfagnbmofgnaaDoor
