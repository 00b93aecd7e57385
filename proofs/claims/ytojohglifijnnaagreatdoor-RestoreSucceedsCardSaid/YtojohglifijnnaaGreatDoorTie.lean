/-
  DERIVED. GIVEN WITH THE SEED: THE PROGRAM's TIES (one call each: nine closed facts by the kernel) AND EACH ROW's TIE, after the 31st guide's Derived/Test/Toyas{Tie, Card}.lean. No idea stands in it: it is a product of the set-up. Laid BY PROGRAM, IN A SANDBOX (cutbox-door.mjs). By AI agents, Wed Nov 11 2026. No macro, syntax, notation, axiom, sorry.
-/
import Derived.Test.YtojohglifijnnaaGreatDoorRows
import Derived.LaidByTextLater
import Derived.SevenTiedAt
import Derived.LaidSub
import Derived.LaidOnce
namespace Go.Proofs.YtojohglifijnnaaGreatDoor
open Go
set_option maxRecDepth 100000
theorem seatTie1 : Tryz.prog.laidByTextLater [("chartroom/digest.start", Rows.laid_chartroom_digest_start), ("chartroom/digest.numbers", Rows.laid_chartroom_digest_numbers), ("bytes.ErrTooLarge", Rows.laid_bytes_ErrTooLarge), ("chartroom/cipher.constants", Rows.laid_chartroom_cipher_constants)] [.data, .data, .sentinel, .widerDeep] true :=
  Program.laidByTextLater_by_one 43 8 65 (by kernel_rfl) (by kernel_rfl) (by kernel_rfl) (by kernel_rfl) (by kernel_rfl) (by kernel_rfl) (fun _ _ => by kernel_rfl)
theorem noOwnUnsafe : Tryz.pinned.checked.prog.headLifts.contains "ownunsafe" = false := by kernel_rfl
theorem tie : Tryz.prog.laidByTextLater [("chartroom/digest.start", Rows.laid_chartroom_digest_start), ("chartroom/digest.numbers", Rows.laid_chartroom_digest_numbers), ("bytes.ErrTooLarge", Rows.laid_bytes_ErrTooLarge), ("chartroom/cipher.constants", Rows.laid_chartroom_cipher_constants)] [.data, .data, .sentinel, .widerDeep] true :=
  Program.laidByTextLater.sub seatTie1 ["chartroom/digest.start", "chartroom/digest.numbers", "bytes.ErrTooLarge", "chartroom/cipher.constants"] (by kernel_rfl) (by kernel_rfl)
theorem restoreSetupSpec_row_tie : Rows.restoreSetupSpecRow.laidByTextAt .later Tryz.pinned [.data, .data, .sentinel, .widerDeep] true :=
  OpenClaim.laidByTextAt_later rfl rfl tie noOwnUnsafe
theorem restoreApproveSpec_row_tie : Rows.restoreApproveSpecRow.laidByTextAt .later Tryz.pinned [.data, .data, .sentinel, .widerDeep] true :=
  OpenClaim.laidByTextAt_later rfl rfl tie noOwnUnsafe
theorem restoreObjectSpec_row_tie : Rows.restoreObjectSpecRow.laidByTextAt .later Tryz.pinned [.data, .data, .sentinel, .widerDeep] true :=
  OpenClaim.laidByTextAt_later rfl rfl tie noOwnUnsafe
theorem restoreSucceeds_row_tie : Rows.restoreSucceedsRow.laidByTextAt .later Tryz.pinned [.data, .data, .sentinel, .widerDeep] true :=
  OpenClaim.laidByTextAt_later rfl rfl tie noOwnUnsafe
theorem restoreObjected_row_tie : Rows.restoreObjectedRow.laidByTextAt .later Tryz.pinned [.data, .data, .sentinel, .widerDeep] true :=
  OpenClaim.laidByTextAt_later rfl rfl tie noOwnUnsafe
theorem restoreSigned_row_tie : Rows.restoreSignedRow.laidByTextAt .later Tryz.pinned [.data, .data, .sentinel, .widerDeep] true :=
  OpenClaim.laidByTextAt_later rfl rfl tie noOwnUnsafe
theorem restoreSetupSpecUpto_row_tie : Rows.restoreSetupSpecUptoRow.laidByTextAt .later Tryz.pinned [.data, .data, .sentinel, .widerDeep] true :=
  OpenClaim.laidByTextAt_later rfl rfl tie noOwnUnsafe
theorem restoreApproveSpecUpto_row_tie : Rows.restoreApproveSpecUptoRow.laidByTextAt .later Tryz.pinned [.data, .data, .sentinel, .widerDeep] true :=
  OpenClaim.laidByTextAt_later rfl rfl tie noOwnUnsafe
theorem restoreObjectSpecUpto_row_tie : Rows.restoreObjectSpecUptoRow.laidByTextAt .later Tryz.pinned [.data, .data, .sentinel, .widerDeep] true :=
  OpenClaim.laidByTextAt_later rfl rfl tie noOwnUnsafe
theorem restoreSucceedsUpto_row_tie : Rows.restoreSucceedsUptoRow.laidByTextAt .later Tryz.pinned [.data, .data, .sentinel, .widerDeep] true :=
  OpenClaim.laidByTextAt_later rfl rfl tie noOwnUnsafe
theorem restoreObjectedUpto_row_tie : Rows.restoreObjectedUptoRow.laidByTextAt .later Tryz.pinned [.data, .data, .sentinel, .widerDeep] true :=
  OpenClaim.laidByTextAt_later rfl rfl tie noOwnUnsafe
theorem restoreSignedUpto_row_tie : Rows.restoreSignedUptoRow.laidByTextAt .later Tryz.pinned [.data, .data, .sentinel, .widerDeep] true :=
  OpenClaim.laidByTextAt_later rfl rfl tie noOwnUnsafe
end Go.Proofs.YtojohglifijnnaaGreatDoor
