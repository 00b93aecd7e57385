/-
  DERIVED. GIVEN WITH THE SEED: THE CARDS: each row of YtnmaegbobfngeaaDoorRows.lean that lists a variable, with what it lists TIED to the program's text (the seventh form; the later family's looks); each row that meets fmt, with fmt's text TOLD by the authors' own Lean function (tested against real Go, not proved from fmt's source: count such statements apart). THE CARD IS WHAT COUNTS. Prove the row's statement (the work); the ties are given (YtnmaegbobfngeaaDoorTie.lean); close each card by the builder's one call (the guide's Derived/Test/ToyasCard.lean, 'card_holds'). Laid BY PROGRAM, IN A SANDBOX (cutbox-door.mjs). By AI agents, Wed Nov 11 2026. No macro, syntax, notation, axiom, sorry.
-/
import Derived.Test.YtnmaegbobfngeaaDoorRows
import GoSem.ClaimSeven
namespace Go.Proofs.YtnmaegbobfngeaaDoor
namespace Rows

/-- THE TIED CARD OF 'chartroomlaw08.ShamirFitsSpec'. -/
def shamirFitsSpecCard : Claim7 := { stood := { row := shamirFitsSpecRow, standIns := [], harness := (true, "18a5ef56fd4be0ed922e45c8bfae55f4ce60bd97bf72552058bef0f995e72af6"), looks := false }, kinds := [], alts := [], laidByText := true, laidKinds := [.data, .data, .sentinel], laidTests := true, laidLooks := .later }
def ShamirFitsSpecCardSaid : Prop := Claim7.holds Tryd.pinned (.plain (OpenSpec.ofChange shamirFitsSpecSpec)) shamirFitsSpecCard

/-- THE TIED CARD OF 'chartroomlaw08.ShamirRestores'. -/
def shamirRestoresCard : Claim7 := { stood := { row := shamirRestoresRow, standIns := [], harness := (true, "18a5ef56fd4be0ed922e45c8bfae55f4ce60bd97bf72552058bef0f995e72af6"), looks := false }, kinds := [], alts := [], laidByText := true, laidKinds := [.data, .data, .sentinel], laidTests := true, laidLooks := .later }
def ShamirRestoresCardSaid : Prop := Claim7.holds Tryd.pinned (.plain (OpenSpec.ofChange shamirRestoresSpec)) shamirRestoresCard

/-- THE TIED CARD OF 'chartroomlaw08.ShamirHides'. -/
def shamirHidesCard : Claim7 := { stood := { row := shamirHidesRow, standIns := [], harness := (true, "18a5ef56fd4be0ed922e45c8bfae55f4ce60bd97bf72552058bef0f995e72af6"), looks := false }, kinds := [], alts := [], laidByText := true, laidKinds := [.data, .data, .sentinel], laidTests := true, laidLooks := .later }
def ShamirHidesCardSaid : Prop := Claim7.holds Tryd.pinned (.plain (OpenSpec.ofChange shamirHidesSpec)) shamirHidesCard

/-- THE TIED CARD OF 'chartroomlaw08.ShamirNotices'. -/
def shamirNoticesCard : Claim7 := { stood := { row := shamirNoticesRow, standIns := [], harness := (true, "18a5ef56fd4be0ed922e45c8bfae55f4ce60bd97bf72552058bef0f995e72af6"), looks := false }, kinds := [], alts := [], laidByText := true, laidKinds := [.data, .data, .sentinel], laidTests := true, laidLooks := .later }
def ShamirNoticesCardSaid : Prop := Claim7.holds Tryd.pinned (.plain (OpenSpec.ofChange shamirNoticesSpec)) shamirNoticesCard

/-- THE TIED CARD OF 'chartroomlaw08.ShamirSums'. -/
def shamirSumsCard : Claim7 := { stood := { row := shamirSumsRow, standIns := [], harness := (true, "18a5ef56fd4be0ed922e45c8bfae55f4ce60bd97bf72552058bef0f995e72af6"), looks := false }, kinds := [], alts := [], laidByText := true, laidKinds := [.data, .data, .sentinel], laidTests := true, laidLooks := .later }
def ShamirSumsCardSaid : Prop := Claim7.holds Tryd.pinned (.plain (OpenSpec.ofChange shamirSumsSpec)) shamirSumsCard

/-- THE TIED CARD OF 'chartroomlaw08.ShamirValues'. -/
def shamirValuesCard : Claim7 := { stood := { row := shamirValuesRow, standIns := [], harness := (true, "18a5ef56fd4be0ed922e45c8bfae55f4ce60bd97bf72552058bef0f995e72af6"), looks := false }, kinds := [], alts := [], laidByText := true, laidKinds := [.data, .data, .sentinel], laidTests := true, laidLooks := .later }
def ShamirValuesCardSaid : Prop := Claim7.holds Tryd.pinned (.plain (OpenSpec.ofChange shamirValuesSpec)) shamirValuesCard

/-- THE SECOND FORM's CARD OF 'chartroomlaw08.ShamirFitsSpec'. -/
def shamirFitsSpecUptoCard : Claim7 := { stood := { row := shamirFitsSpecUptoRow, standIns := [], harness := (true, "18a5ef56fd4be0ed922e45c8bfae55f4ce60bd97bf72552058bef0f995e72af6"), looks := false }, kinds := [], alts := [], laidByText := true, laidKinds := [.data, .data, .sentinel], laidTests := true, laidLooks := .later }
def ShamirFitsSpecUptoCardSaid : Prop := Claim7.holds Tryd.pinned (.plain (OpenSpec.upto shamirFitsSpecSpec)) shamirFitsSpecUptoCard

/-- THE SECOND FORM's CARD OF 'chartroomlaw08.ShamirRestores'. -/
def shamirRestoresUptoCard : Claim7 := { stood := { row := shamirRestoresUptoRow, standIns := [], harness := (true, "18a5ef56fd4be0ed922e45c8bfae55f4ce60bd97bf72552058bef0f995e72af6"), looks := false }, kinds := [], alts := [], laidByText := true, laidKinds := [.data, .data, .sentinel], laidTests := true, laidLooks := .later }
def ShamirRestoresUptoCardSaid : Prop := Claim7.holds Tryd.pinned (.plain (OpenSpec.upto shamirRestoresSpec)) shamirRestoresUptoCard

/-- THE SECOND FORM's CARD OF 'chartroomlaw08.ShamirHides'. -/
def shamirHidesUptoCard : Claim7 := { stood := { row := shamirHidesUptoRow, standIns := [], harness := (true, "18a5ef56fd4be0ed922e45c8bfae55f4ce60bd97bf72552058bef0f995e72af6"), looks := false }, kinds := [], alts := [], laidByText := true, laidKinds := [.data, .data, .sentinel], laidTests := true, laidLooks := .later }
def ShamirHidesUptoCardSaid : Prop := Claim7.holds Tryd.pinned (.plain (OpenSpec.upto shamirHidesSpec)) shamirHidesUptoCard

/-- THE SECOND FORM's CARD OF 'chartroomlaw08.ShamirNotices'. -/
def shamirNoticesUptoCard : Claim7 := { stood := { row := shamirNoticesUptoRow, standIns := [], harness := (true, "18a5ef56fd4be0ed922e45c8bfae55f4ce60bd97bf72552058bef0f995e72af6"), looks := false }, kinds := [], alts := [], laidByText := true, laidKinds := [.data, .data, .sentinel], laidTests := true, laidLooks := .later }
def ShamirNoticesUptoCardSaid : Prop := Claim7.holds Tryd.pinned (.plain (OpenSpec.upto shamirNoticesSpec)) shamirNoticesUptoCard

/-- THE SECOND FORM's CARD OF 'chartroomlaw08.ShamirSums'. -/
def shamirSumsUptoCard : Claim7 := { stood := { row := shamirSumsUptoRow, standIns := [], harness := (true, "18a5ef56fd4be0ed922e45c8bfae55f4ce60bd97bf72552058bef0f995e72af6"), looks := false }, kinds := [], alts := [], laidByText := true, laidKinds := [.data, .data, .sentinel], laidTests := true, laidLooks := .later }
def ShamirSumsUptoCardSaid : Prop := Claim7.holds Tryd.pinned (.plain (OpenSpec.upto shamirSumsSpec)) shamirSumsUptoCard

/-- THE SECOND FORM's CARD OF 'chartroomlaw08.ShamirValues'. -/
def shamirValuesUptoCard : Claim7 := { stood := { row := shamirValuesUptoRow, standIns := [], harness := (true, "18a5ef56fd4be0ed922e45c8bfae55f4ce60bd97bf72552058bef0f995e72af6"), looks := false }, kinds := [], alts := [], laidByText := true, laidKinds := [.data, .data, .sentinel], laidTests := true, laidLooks := .later }
def ShamirValuesUptoCardSaid : Prop := Claim7.holds Tryd.pinned (.plain (OpenSpec.upto shamirValuesSpec)) shamirValuesUptoCard
end Rows
end Go.Proofs.YtnmaegbobfngeaaDoor
