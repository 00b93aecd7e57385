/-
  DERIVED. GIVEN WITH THE SEED: THE PROGRAM's TIES (one call each: nine closed facts by the kernel) AND EACH ROW's TIE, after the 31st guide's Derived/Test/Toyas{Tie, Card}.lean. No idea stands in it: it is a product of the set-up. Laid BY PROGRAM, IN A SANDBOX (cutbox-door.mjs). By AI agents, Wed Nov 11 2026. No macro, syntax, notation, axiom, sorry.
-/
import Derived.Test.YtejdjnkilikehaaGreatDoorRows
import Derived.LaidByTextLater
import Derived.SevenTiedAt
import Derived.LaidSub
import Derived.LaidOnce
namespace Go.Proofs.YtejdjnkilikehaaGreatDoor
open Go
set_option maxRecDepth 100000
theorem seatTie1 : Tryz.prog.laidByTextLater [("chartroom/digest.start", Rows.laid_chartroom_digest_start), ("chartroom/digest.numbers", Rows.laid_chartroom_digest_numbers), ("chartroom/padding.lengths", Rows.laid_chartroom_padding_lengths), ("bytes.ErrTooLarge", Rows.laid_bytes_ErrTooLarge), ("chartroom/cipher.constants", Rows.laid_chartroom_cipher_constants)] [.data, .data, .widerDeep, .sentinel, .widerDeep] true :=
  Program.laidByTextLater_by_one 48 8 65 (by kernel_rfl) (by kernel_rfl) (by kernel_rfl) (by kernel_rfl) (by kernel_rfl) (by kernel_rfl) (fun _ _ => by kernel_rfl)
theorem noOwnUnsafe : Tryz.pinned.checked.prog.headLifts.contains "ownunsafe" = false := by kernel_rfl
theorem tie : Tryz.prog.laidByTextLater [("chartroom/digest.start", Rows.laid_chartroom_digest_start), ("chartroom/digest.numbers", Rows.laid_chartroom_digest_numbers), ("chartroom/padding.lengths", Rows.laid_chartroom_padding_lengths), ("bytes.ErrTooLarge", Rows.laid_bytes_ErrTooLarge), ("chartroom/cipher.constants", Rows.laid_chartroom_cipher_constants)] [.data, .data, .widerDeep, .sentinel, .widerDeep] true :=
  Program.laidByTextLater.sub seatTie1 ["chartroom/digest.start", "chartroom/digest.numbers", "chartroom/padding.lengths", "bytes.ErrTooLarge", "chartroom/cipher.constants"] (by kernel_rfl) (by kernel_rfl)
theorem itemsSealSpec_row_tie : Rows.itemsSealSpecRow.laidByTextAt .later Tryz.pinned [.data, .data, .widerDeep, .sentinel, .widerDeep] true :=
  OpenClaim.laidByTextAt_later rfl rfl tie noOwnUnsafe
theorem itemsOpenSpec_row_tie : Rows.itemsOpenSpecRow.laidByTextAt .later Tryz.pinned [.data, .data, .widerDeep, .sentinel, .widerDeep] true :=
  OpenClaim.laidByTextAt_later rfl rfl tie noOwnUnsafe
theorem itemsEncodeSpec_row_tie : Rows.itemsEncodeSpecRow.laidByTextAt .later Tryz.pinned [.data, .data, .widerDeep, .sentinel, .widerDeep] true :=
  OpenClaim.laidByTextAt_later rfl rfl tie noOwnUnsafe
theorem itemsOpens_row_tie : Rows.itemsOpensRow.laidByTextAt .later Tryz.pinned [.data, .data, .widerDeep, .sentinel, .widerDeep] true :=
  OpenClaim.laidByTextAt_later rfl rfl tie noOwnUnsafe
theorem itemsLengths_row_tie : Rows.itemsLengthsRow.laidByTextAt .later Tryz.pinned [.data, .data, .widerDeep, .sentinel, .widerDeep] true :=
  OpenClaim.laidByTextAt_later rfl rfl tie noOwnUnsafe
theorem itemsSigned_row_tie : Rows.itemsSignedRow.laidByTextAt .later Tryz.pinned [.data, .data, .widerDeep, .sentinel, .widerDeep] true :=
  OpenClaim.laidByTextAt_later rfl rfl tie noOwnUnsafe
theorem itemsKey_row_tie : Rows.itemsKeyRow.laidByTextAt .later Tryz.pinned [.data, .data, .widerDeep, .sentinel, .widerDeep] true :=
  OpenClaim.laidByTextAt_later rfl rfl tie noOwnUnsafe
theorem itemsBack_row_tie : Rows.itemsBackRow.laidByTextAt .later Tryz.pinned [.data, .data, .widerDeep, .sentinel, .widerDeep] true :=
  OpenClaim.laidByTextAt_later rfl rfl tie noOwnUnsafe
theorem itemsTurned_row_tie : Rows.itemsTurnedRow.laidByTextAt .later Tryz.pinned [.data, .data, .widerDeep, .sentinel, .widerDeep] true :=
  OpenClaim.laidByTextAt_later rfl rfl tie noOwnUnsafe
theorem itemsSealSpecUpto_row_tie : Rows.itemsSealSpecUptoRow.laidByTextAt .later Tryz.pinned [.data, .data, .widerDeep, .sentinel, .widerDeep] true :=
  OpenClaim.laidByTextAt_later rfl rfl tie noOwnUnsafe
theorem itemsOpenSpecUpto_row_tie : Rows.itemsOpenSpecUptoRow.laidByTextAt .later Tryz.pinned [.data, .data, .widerDeep, .sentinel, .widerDeep] true :=
  OpenClaim.laidByTextAt_later rfl rfl tie noOwnUnsafe
theorem itemsEncodeSpecUpto_row_tie : Rows.itemsEncodeSpecUptoRow.laidByTextAt .later Tryz.pinned [.data, .data, .widerDeep, .sentinel, .widerDeep] true :=
  OpenClaim.laidByTextAt_later rfl rfl tie noOwnUnsafe
theorem itemsOpensUpto_row_tie : Rows.itemsOpensUptoRow.laidByTextAt .later Tryz.pinned [.data, .data, .widerDeep, .sentinel, .widerDeep] true :=
  OpenClaim.laidByTextAt_later rfl rfl tie noOwnUnsafe
theorem itemsLengthsUpto_row_tie : Rows.itemsLengthsUptoRow.laidByTextAt .later Tryz.pinned [.data, .data, .widerDeep, .sentinel, .widerDeep] true :=
  OpenClaim.laidByTextAt_later rfl rfl tie noOwnUnsafe
theorem itemsSignedUpto_row_tie : Rows.itemsSignedUptoRow.laidByTextAt .later Tryz.pinned [.data, .data, .widerDeep, .sentinel, .widerDeep] true :=
  OpenClaim.laidByTextAt_later rfl rfl tie noOwnUnsafe
theorem itemsKeyUpto_row_tie : Rows.itemsKeyUptoRow.laidByTextAt .later Tryz.pinned [.data, .data, .widerDeep, .sentinel, .widerDeep] true :=
  OpenClaim.laidByTextAt_later rfl rfl tie noOwnUnsafe
theorem itemsBackUpto_row_tie : Rows.itemsBackUptoRow.laidByTextAt .later Tryz.pinned [.data, .data, .widerDeep, .sentinel, .widerDeep] true :=
  OpenClaim.laidByTextAt_later rfl rfl tie noOwnUnsafe
theorem itemsTurnedUpto_row_tie : Rows.itemsTurnedUptoRow.laidByTextAt .later Tryz.pinned [.data, .data, .widerDeep, .sentinel, .widerDeep] true :=
  OpenClaim.laidByTextAt_later rfl rfl tie noOwnUnsafe
end Go.Proofs.YtejdjnkilikehaaGreatDoor
