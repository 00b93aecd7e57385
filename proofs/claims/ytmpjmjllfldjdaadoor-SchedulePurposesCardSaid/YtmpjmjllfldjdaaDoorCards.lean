/-
  DERIVED. GIVEN WITH THE SEED: THE CARDS: each row of YtmpjmjllfldjdaaDoorRows.lean that lists a variable, with what it lists TIED to the program's text (the seventh form; the later family's looks); each row that meets fmt, with fmt's text TOLD by the authors' own Lean function (tested against real Go, not proved from fmt's source: count such statements apart). THE CARD IS WHAT COUNTS. Prove the row's statement (the work); the ties are given (YtmpjmjllfldjdaaDoorTie.lean); close each card by the builder's one call (the guide's Derived/Test/ToyasCard.lean, 'card_holds'). Laid BY PROGRAM, IN A SANDBOX (cutbox-door.mjs). By AI agents, Wed Nov 11 2026. No macro, syntax, notation, axiom, sorry.
-/
import Derived.Test.YtmpjmjllfldjdaaDoorRows
import GoSem.ClaimSeven
namespace Go.Proofs.YtmpjmjllfldjdaaDoor
namespace Rows

/-- THE TIED CARD OF 'chartroomlaw22.ScheduleLadderSpec'. -/
def scheduleLadderSpecCard : Claim7 := { stood := { row := scheduleLadderSpecRow, standIns := [], harness := (true, "79d361d64059b5616176870c4fe14d97c07ab758f2dc405850f846b42b5504a3"), looks := false }, kinds := [], alts := [], laidByText := true, laidKinds := [.data, .data, .sentinel, .data], laidTests := true, laidLooks := .later }
def ScheduleLadderSpecCardSaid : Prop := Claim7.holds Tryd.pinned (.plain (OpenSpec.ofChange scheduleLadderSpecSpec)) scheduleLadderSpecCard

/-- THE TIED CARD OF 'chartroomlaw22.ScheduleAbove'. -/
def scheduleAboveCard : Claim7 := { stood := { row := scheduleAboveRow, standIns := [], harness := (true, "79d361d64059b5616176870c4fe14d97c07ab758f2dc405850f846b42b5504a3"), looks := false }, kinds := [], alts := [], laidByText := true, laidKinds := [.data, .data, .sentinel, .data], laidTests := true, laidLooks := .later }
def ScheduleAboveCardSaid : Prop := Claim7.holds Tryd.pinned (.plain (OpenSpec.ofChange scheduleAboveSpec)) scheduleAboveCard

/-- THE TIED CARD OF 'chartroomlaw22.ScheduleEpochSpec'. -/
def scheduleEpochSpecCard : Claim7 := { stood := { row := scheduleEpochSpecRow, standIns := [], harness := (true, "79d361d64059b5616176870c4fe14d97c07ab758f2dc405850f846b42b5504a3"), looks := false }, kinds := [], alts := [], laidByText := true, laidKinds := [.data, .data, .sentinel, .data], laidTests := true, laidLooks := .later }
def ScheduleEpochSpecCardSaid : Prop := Claim7.holds Tryd.pinned (.plain (OpenSpec.ofChange scheduleEpochSpecSpec)) scheduleEpochSpecCard

/-- THE TIED CARD OF 'chartroomlaw22.ScheduleChain'. -/
def scheduleChainCard : Claim7 := { stood := { row := scheduleChainRow, standIns := [], harness := (true, "79d361d64059b5616176870c4fe14d97c07ab758f2dc405850f846b42b5504a3"), looks := false }, kinds := [], alts := [], laidByText := true, laidKinds := [.data, .data, .sentinel, .data], laidTests := true, laidLooks := .later }
def ScheduleChainCardSaid : Prop := Claim7.holds Tryd.pinned (.plain (OpenSpec.ofChange scheduleChainSpec)) scheduleChainCard

/-- THE TIED CARD OF 'chartroomlaw22.ScheduleKeysSpec'. -/
def scheduleKeysSpecCard : Claim7 := { stood := { row := scheduleKeysSpecRow, standIns := [], harness := (true, "79d361d64059b5616176870c4fe14d97c07ab758f2dc405850f846b42b5504a3"), looks := false }, kinds := [], alts := [], laidByText := true, laidKinds := [.data, .data, .sentinel, .data], laidTests := true, laidLooks := .later }
def ScheduleKeysSpecCardSaid : Prop := Claim7.holds Tryd.pinned (.plain (OpenSpec.ofChange scheduleKeysSpecSpec)) scheduleKeysSpecCard

/-- THE TIED CARD OF 'chartroomlaw22.SchedulePurposes'. -/
def schedulePurposesCard : Claim7 := { stood := { row := schedulePurposesRow, standIns := [], harness := (true, "79d361d64059b5616176870c4fe14d97c07ab758f2dc405850f846b42b5504a3"), looks := false }, kinds := [], alts := [], laidByText := true, laidKinds := [.data, .data, .sentinel, .data], laidTests := true, laidLooks := .later }
def SchedulePurposesCardSaid : Prop := Claim7.holds Tryd.pinned (.plain (OpenSpec.ofChange schedulePurposesSpec)) schedulePurposesCard

/-- THE SECOND FORM's CARD OF 'chartroomlaw22.ScheduleLadderSpec'. -/
def scheduleLadderSpecUptoCard : Claim7 := { stood := { row := scheduleLadderSpecUptoRow, standIns := [], harness := (true, "79d361d64059b5616176870c4fe14d97c07ab758f2dc405850f846b42b5504a3"), looks := false }, kinds := [], alts := [], laidByText := true, laidKinds := [.data, .data, .sentinel, .data], laidTests := true, laidLooks := .later }
def ScheduleLadderSpecUptoCardSaid : Prop := Claim7.holds Tryd.pinned (.plain (OpenSpec.upto scheduleLadderSpecSpec)) scheduleLadderSpecUptoCard

/-- THE SECOND FORM's CARD OF 'chartroomlaw22.ScheduleAbove'. -/
def scheduleAboveUptoCard : Claim7 := { stood := { row := scheduleAboveUptoRow, standIns := [], harness := (true, "79d361d64059b5616176870c4fe14d97c07ab758f2dc405850f846b42b5504a3"), looks := false }, kinds := [], alts := [], laidByText := true, laidKinds := [.data, .data, .sentinel, .data], laidTests := true, laidLooks := .later }
def ScheduleAboveUptoCardSaid : Prop := Claim7.holds Tryd.pinned (.plain (OpenSpec.upto scheduleAboveSpec)) scheduleAboveUptoCard

/-- THE SECOND FORM's CARD OF 'chartroomlaw22.ScheduleEpochSpec'. -/
def scheduleEpochSpecUptoCard : Claim7 := { stood := { row := scheduleEpochSpecUptoRow, standIns := [], harness := (true, "79d361d64059b5616176870c4fe14d97c07ab758f2dc405850f846b42b5504a3"), looks := false }, kinds := [], alts := [], laidByText := true, laidKinds := [.data, .data, .sentinel, .data], laidTests := true, laidLooks := .later }
def ScheduleEpochSpecUptoCardSaid : Prop := Claim7.holds Tryd.pinned (.plain (OpenSpec.upto scheduleEpochSpecSpec)) scheduleEpochSpecUptoCard

/-- THE SECOND FORM's CARD OF 'chartroomlaw22.ScheduleChain'. -/
def scheduleChainUptoCard : Claim7 := { stood := { row := scheduleChainUptoRow, standIns := [], harness := (true, "79d361d64059b5616176870c4fe14d97c07ab758f2dc405850f846b42b5504a3"), looks := false }, kinds := [], alts := [], laidByText := true, laidKinds := [.data, .data, .sentinel, .data], laidTests := true, laidLooks := .later }
def ScheduleChainUptoCardSaid : Prop := Claim7.holds Tryd.pinned (.plain (OpenSpec.upto scheduleChainSpec)) scheduleChainUptoCard

/-- THE SECOND FORM's CARD OF 'chartroomlaw22.ScheduleKeysSpec'. -/
def scheduleKeysSpecUptoCard : Claim7 := { stood := { row := scheduleKeysSpecUptoRow, standIns := [], harness := (true, "79d361d64059b5616176870c4fe14d97c07ab758f2dc405850f846b42b5504a3"), looks := false }, kinds := [], alts := [], laidByText := true, laidKinds := [.data, .data, .sentinel, .data], laidTests := true, laidLooks := .later }
def ScheduleKeysSpecUptoCardSaid : Prop := Claim7.holds Tryd.pinned (.plain (OpenSpec.upto scheduleKeysSpecSpec)) scheduleKeysSpecUptoCard

/-- THE SECOND FORM's CARD OF 'chartroomlaw22.SchedulePurposes'. -/
def schedulePurposesUptoCard : Claim7 := { stood := { row := schedulePurposesUptoRow, standIns := [], harness := (true, "79d361d64059b5616176870c4fe14d97c07ab758f2dc405850f846b42b5504a3"), looks := false }, kinds := [], alts := [], laidByText := true, laidKinds := [.data, .data, .sentinel, .data], laidTests := true, laidLooks := .later }
def SchedulePurposesUptoCardSaid : Prop := Claim7.holds Tryd.pinned (.plain (OpenSpec.upto schedulePurposesSpec)) schedulePurposesUptoCard
end Rows
end Go.Proofs.YtmpjmjllfldjdaaDoor
