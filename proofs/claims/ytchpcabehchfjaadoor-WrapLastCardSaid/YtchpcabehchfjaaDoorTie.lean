/-
  DERIVED. GIVEN WITH THE SEED: THE PROGRAM's TIES (one call each: nine closed facts by the kernel) AND EACH ROW's TIE, after the 31st guide's Derived/Test/Toyas{Tie, Card}.lean. No idea stands in it: it is a product of the set-up. Laid BY PROGRAM, IN A SANDBOX (cutbox-door.mjs). By AI agents, Wed Nov 11 2026. No macro, syntax, notation, axiom, sorry.
-/
import Derived.Test.YtchpcabehchfjaaDoorRows
import Derived.LaidByTextLater
import Derived.SevenTiedAt
import Derived.LaidSub
import Derived.LaidOnce
namespace Go.Proofs.YtchpcabehchfjaaDoor
open Go
set_option maxRecDepth 100000
theorem seatTie1 : Tryd.prog.laidByTextLater [("chartroom/digest.start", Rows.laid_chartroom_digest_start), ("chartroom/digest.numbers", Rows.laid_chartroom_digest_numbers), ("bytes.ErrTooLarge", Rows.laid_bytes_ErrTooLarge), ("chartroom/cipher.constants", Rows.laid_chartroom_cipher_constants)] [.data, .data, .sentinel, .widerDeep] true :=
  Program.laidByTextLater_by_one 43 8 65 (by kernel_rfl) (by kernel_rfl) (by kernel_rfl) (by kernel_rfl) (by kernel_rfl) (by kernel_rfl) (fun _ _ => by kernel_rfl)
theorem noOwnUnsafe : Tryd.pinned.checked.prog.headLifts.contains "ownunsafe" = false := by kernel_rfl
theorem tie : Tryd.prog.laidByTextLater [("chartroom/digest.start", Rows.laid_chartroom_digest_start), ("chartroom/digest.numbers", Rows.laid_chartroom_digest_numbers), ("bytes.ErrTooLarge", Rows.laid_bytes_ErrTooLarge), ("chartroom/cipher.constants", Rows.laid_chartroom_cipher_constants)] [.data, .data, .sentinel, .widerDeep] true :=
  Program.laidByTextLater.sub seatTie1 ["chartroom/digest.start", "chartroom/digest.numbers", "bytes.ErrTooLarge", "chartroom/cipher.constants"] (by kernel_rfl) (by kernel_rfl)
theorem wrapUnwrapSpec_row_tie : Rows.wrapUnwrapSpecRow.laidByTextAt .later Tryd.pinned [.data, .data, .sentinel, .widerDeep] true :=
  OpenClaim.laidByTextAt_later rfl rfl tie noOwnUnsafe
theorem wrapOpens_row_tie : Rows.wrapOpensRow.laidByTextAt .later Tryd.pinned [.data, .data, .sentinel, .widerDeep] true :=
  OpenClaim.laidByTextAt_later rfl rfl tie noOwnUnsafe
theorem wrapBothSides_row_tie : Rows.wrapBothSidesRow.laidByTextAt .later Tryd.pinned [.data, .data, .sentinel, .widerDeep] true :=
  OpenClaim.laidByTextAt_later rfl rfl tie noOwnUnsafe
theorem wrapTag_row_tie : Rows.wrapTagRow.laidByTextAt .later Tryd.pinned [.data, .data, .sentinel, .widerDeep] true :=
  OpenClaim.laidByTextAt_later rfl rfl tie noOwnUnsafe
theorem wrapSeed_row_tie : Rows.wrapSeedRow.laidByTextAt .later Tryd.pinned [.data, .data, .sentinel, .widerDeep] true :=
  OpenClaim.laidByTextAt_later rfl rfl tie noOwnUnsafe
theorem wrapLast_row_tie : Rows.wrapLastRow.laidByTextAt .later Tryd.pinned [.data, .data, .sentinel, .widerDeep] true :=
  OpenClaim.laidByTextAt_later rfl rfl tie noOwnUnsafe
theorem wrapUnwrapSpecUpto_row_tie : Rows.wrapUnwrapSpecUptoRow.laidByTextAt .later Tryd.pinned [.data, .data, .sentinel, .widerDeep] true :=
  OpenClaim.laidByTextAt_later rfl rfl tie noOwnUnsafe
theorem wrapOpensUpto_row_tie : Rows.wrapOpensUptoRow.laidByTextAt .later Tryd.pinned [.data, .data, .sentinel, .widerDeep] true :=
  OpenClaim.laidByTextAt_later rfl rfl tie noOwnUnsafe
theorem wrapBothSidesUpto_row_tie : Rows.wrapBothSidesUptoRow.laidByTextAt .later Tryd.pinned [.data, .data, .sentinel, .widerDeep] true :=
  OpenClaim.laidByTextAt_later rfl rfl tie noOwnUnsafe
theorem wrapTagUpto_row_tie : Rows.wrapTagUptoRow.laidByTextAt .later Tryd.pinned [.data, .data, .sentinel, .widerDeep] true :=
  OpenClaim.laidByTextAt_later rfl rfl tie noOwnUnsafe
theorem wrapSeedUpto_row_tie : Rows.wrapSeedUptoRow.laidByTextAt .later Tryd.pinned [.data, .data, .sentinel, .widerDeep] true :=
  OpenClaim.laidByTextAt_later rfl rfl tie noOwnUnsafe
theorem wrapLastUpto_row_tie : Rows.wrapLastUptoRow.laidByTextAt .later Tryd.pinned [.data, .data, .sentinel, .widerDeep] true :=
  OpenClaim.laidByTextAt_later rfl rfl tie noOwnUnsafe
end Go.Proofs.YtchpcabehchfjaaDoor
