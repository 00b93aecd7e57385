/-
  DERIVED. GIVEN WITH THE SEED: THE PROGRAM's TIES (one call each: nine closed facts by the kernel) AND EACH ROW's TIE, after the 31st guide's Derived/Test/Toyas{Tie, Card}.lean. No idea stands in it: it is a product of the set-up. Laid BY PROGRAM, IN A SANDBOX (cutbox-door.mjs). By AI agents, Wed Nov 11 2026. No macro, syntax, notation, axiom, sorry.
-/
import Derived.Test.YtmpjmjllfldjdaaDoorRows
import Derived.LaidByTextLater
import Derived.SevenTiedAt
import Derived.LaidSub
import Derived.LaidOnce
namespace Go.Proofs.YtmpjmjllfldjdaaDoor
open Go
set_option maxRecDepth 100000
theorem seatTie1 : Tryd.prog.laidByTextLater [("chartroom/digest.start", Rows.laid_chartroom_digest_start), ("chartroom/digest.numbers", Rows.laid_chartroom_digest_numbers), ("bytes.ErrTooLarge", Rows.laid_bytes_ErrTooLarge), ("chartroom/schedule.labels", Rows.laid_chartroom_schedule_labels)] [.data, .data, .sentinel, .data] true :=
  Program.laidByTextLater_by_one 43 8 65 (by kernel_rfl) (by kernel_rfl) (by kernel_rfl) (by kernel_rfl) (by kernel_rfl) (by kernel_rfl) (fun _ _ => by kernel_rfl)
theorem noOwnUnsafe : Tryd.pinned.checked.prog.headLifts.contains "ownunsafe" = false := by kernel_rfl
theorem tie : Tryd.prog.laidByTextLater [("chartroom/digest.start", Rows.laid_chartroom_digest_start), ("chartroom/digest.numbers", Rows.laid_chartroom_digest_numbers), ("bytes.ErrTooLarge", Rows.laid_bytes_ErrTooLarge), ("chartroom/schedule.labels", Rows.laid_chartroom_schedule_labels)] [.data, .data, .sentinel, .data] true :=
  Program.laidByTextLater.sub seatTie1 ["chartroom/digest.start", "chartroom/digest.numbers", "bytes.ErrTooLarge", "chartroom/schedule.labels"] (by kernel_rfl) (by kernel_rfl)
theorem scheduleLadderSpec_row_tie : Rows.scheduleLadderSpecRow.laidByTextAt .later Tryd.pinned [.data, .data, .sentinel, .data] true :=
  OpenClaim.laidByTextAt_later rfl rfl tie noOwnUnsafe
theorem scheduleAbove_row_tie : Rows.scheduleAboveRow.laidByTextAt .later Tryd.pinned [.data, .data, .sentinel, .data] true :=
  OpenClaim.laidByTextAt_later rfl rfl tie noOwnUnsafe
theorem scheduleEpochSpec_row_tie : Rows.scheduleEpochSpecRow.laidByTextAt .later Tryd.pinned [.data, .data, .sentinel, .data] true :=
  OpenClaim.laidByTextAt_later rfl rfl tie noOwnUnsafe
theorem scheduleChain_row_tie : Rows.scheduleChainRow.laidByTextAt .later Tryd.pinned [.data, .data, .sentinel, .data] true :=
  OpenClaim.laidByTextAt_later rfl rfl tie noOwnUnsafe
theorem scheduleKeysSpec_row_tie : Rows.scheduleKeysSpecRow.laidByTextAt .later Tryd.pinned [.data, .data, .sentinel, .data] true :=
  OpenClaim.laidByTextAt_later rfl rfl tie noOwnUnsafe
theorem schedulePurposes_row_tie : Rows.schedulePurposesRow.laidByTextAt .later Tryd.pinned [.data, .data, .sentinel, .data] true :=
  OpenClaim.laidByTextAt_later rfl rfl tie noOwnUnsafe
theorem scheduleLadderSpecUpto_row_tie : Rows.scheduleLadderSpecUptoRow.laidByTextAt .later Tryd.pinned [.data, .data, .sentinel, .data] true :=
  OpenClaim.laidByTextAt_later rfl rfl tie noOwnUnsafe
theorem scheduleAboveUpto_row_tie : Rows.scheduleAboveUptoRow.laidByTextAt .later Tryd.pinned [.data, .data, .sentinel, .data] true :=
  OpenClaim.laidByTextAt_later rfl rfl tie noOwnUnsafe
theorem scheduleEpochSpecUpto_row_tie : Rows.scheduleEpochSpecUptoRow.laidByTextAt .later Tryd.pinned [.data, .data, .sentinel, .data] true :=
  OpenClaim.laidByTextAt_later rfl rfl tie noOwnUnsafe
theorem scheduleChainUpto_row_tie : Rows.scheduleChainUptoRow.laidByTextAt .later Tryd.pinned [.data, .data, .sentinel, .data] true :=
  OpenClaim.laidByTextAt_later rfl rfl tie noOwnUnsafe
theorem scheduleKeysSpecUpto_row_tie : Rows.scheduleKeysSpecUptoRow.laidByTextAt .later Tryd.pinned [.data, .data, .sentinel, .data] true :=
  OpenClaim.laidByTextAt_later rfl rfl tie noOwnUnsafe
theorem schedulePurposesUpto_row_tie : Rows.schedulePurposesUptoRow.laidByTextAt .later Tryd.pinned [.data, .data, .sentinel, .data] true :=
  OpenClaim.laidByTextAt_later rfl rfl tie noOwnUnsafe
end Go.Proofs.YtmpjmjllfldjdaaDoor
