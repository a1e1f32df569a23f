/-
  DERIVED. GIVEN WITH THE SEED: THE PROGRAM's TIES (one call each: nine closed facts by the kernel) AND EACH ROW's TIE, after the 31st guide's Derived/Test/Toyas{Tie, Card}.lean. No idea stands in it: it is a product of the set-up. Laid BY PROGRAM, IN A SANDBOX (cutbox-door.mjs). By AI agents, Wed Nov 11 2026. No macro, syntax, notation, axiom, sorry.
-/
import Derived.Test.YtoapdhogghbojaaGreatDoorRows
import Derived.LaidByTextLater
import Derived.SevenTiedAt
import Derived.LaidSub
import Derived.LaidOnce
namespace Go.Proofs.YtoapdhogghbojaaGreatDoor
open Go
set_option maxRecDepth 100000
theorem seatTie1 : Tryz.prog.laidByTextLater [("errors.errorType", Rows.laid_errors_errorType), ("wharf/kind.table", Rows.laid_wharf_kind_table), ("wharf/kind.inside", Rows.laid_wharf_kind_inside)] [.handle, .widerDeep, .data] true :=
  Program.laidByTextLater_by_one 55 8 162 (by kernel_rfl) (by kernel_rfl) (by kernel_rfl) (by kernel_rfl) (by kernel_rfl) (by kernel_rfl) (fun _ _ => by kernel_rfl)
theorem noOwnUnsafe : Tryz.pinned.checked.prog.headLifts.contains "ownunsafe" = false := by kernel_rfl
theorem tie : Tryz.prog.laidByTextLater [("errors.errorType", Rows.laid_errors_errorType), ("wharf/kind.table", Rows.laid_wharf_kind_table), ("wharf/kind.inside", Rows.laid_wharf_kind_inside)] [.handle, .widerDeep, .data] true :=
  Program.laidByTextLater.sub seatTie1 ["errors.errorType", "wharf/kind.table", "wharf/kind.inside"] (by kernel_rfl) (by kernel_rfl)
theorem dataMatchesReference_row_tie : Rows.dataMatchesReferenceRow.laidByTextAt .later Tryz.pinned [.handle, .widerDeep, .data] true :=
  OpenClaim.laidByTextAt_later rfl rfl tie noOwnUnsafe
theorem dataChunks_row_tie : Rows.dataChunksRow.laidByTextAt .later Tryz.pinned [.handle, .widerDeep, .data] true :=
  OpenClaim.laidByTextAt_later rfl rfl tie noOwnUnsafe
theorem chunkMatchesReference_row_tie : Rows.chunkMatchesReferenceRow.laidByTextAt .later Tryz.pinned [.handle, .widerDeep, .data] true :=
  OpenClaim.laidByTextAt_later rfl rfl tie noOwnUnsafe
theorem chunkParses_row_tie : Rows.chunkParsesRow.laidByTextAt .later Tryz.pinned [.handle, .widerDeep, .data] true :=
  OpenClaim.laidByTextAt_later rfl rfl tie noOwnUnsafe
theorem chunkUnknown_row_tie : Rows.chunkUnknownRow.laidByTextAt .later Tryz.pinned [.handle, .widerDeep, .data] true :=
  OpenClaim.laidByTextAt_later rfl rfl tie noOwnUnsafe
theorem chunkCopies_row_tie : Rows.chunkCopiesRow.laidByTextAt .later Tryz.pinned [.handle, .widerDeep, .data] true :=
  OpenClaim.laidByTextAt_later rfl rfl tie noOwnUnsafe
theorem chunkFlags_row_tie : Rows.chunkFlagsRow.laidByTextAt .later Tryz.pinned [.handle, .widerDeep, .data] true :=
  OpenClaim.laidByTextAt_later rfl rfl tie noOwnUnsafe
theorem dataMatchesReferenceUpto_row_tie : Rows.dataMatchesReferenceUptoRow.laidByTextAt .later Tryz.pinned [.handle, .widerDeep, .data] true :=
  OpenClaim.laidByTextAt_later rfl rfl tie noOwnUnsafe
theorem dataChunksUpto_row_tie : Rows.dataChunksUptoRow.laidByTextAt .later Tryz.pinned [.handle, .widerDeep, .data] true :=
  OpenClaim.laidByTextAt_later rfl rfl tie noOwnUnsafe
theorem chunkMatchesReferenceUpto_row_tie : Rows.chunkMatchesReferenceUptoRow.laidByTextAt .later Tryz.pinned [.handle, .widerDeep, .data] true :=
  OpenClaim.laidByTextAt_later rfl rfl tie noOwnUnsafe
theorem chunkParsesUpto_row_tie : Rows.chunkParsesUptoRow.laidByTextAt .later Tryz.pinned [.handle, .widerDeep, .data] true :=
  OpenClaim.laidByTextAt_later rfl rfl tie noOwnUnsafe
theorem chunkUnknownUpto_row_tie : Rows.chunkUnknownUptoRow.laidByTextAt .later Tryz.pinned [.handle, .widerDeep, .data] true :=
  OpenClaim.laidByTextAt_later rfl rfl tie noOwnUnsafe
theorem chunkCopiesUpto_row_tie : Rows.chunkCopiesUptoRow.laidByTextAt .later Tryz.pinned [.handle, .widerDeep, .data] true :=
  OpenClaim.laidByTextAt_later rfl rfl tie noOwnUnsafe
theorem chunkFlagsUpto_row_tie : Rows.chunkFlagsUptoRow.laidByTextAt .later Tryz.pinned [.handle, .widerDeep, .data] true :=
  OpenClaim.laidByTextAt_later rfl rfl tie noOwnUnsafe
end Go.Proofs.YtoapdhogghbojaaGreatDoor
