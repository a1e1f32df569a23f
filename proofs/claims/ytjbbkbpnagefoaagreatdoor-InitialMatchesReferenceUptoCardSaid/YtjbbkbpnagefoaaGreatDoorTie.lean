/-
  DERIVED. GIVEN WITH THE SEED: THE PROGRAM's TIES (one call each: nine closed facts by the kernel) AND EACH ROW's TIE, after the 31st guide's Derived/Test/Toyas{Tie, Card}.lean. No idea stands in it: it is a product of the set-up. Laid BY PROGRAM, IN A SANDBOX (cutbox-door.mjs). By AI agents, Wed Nov 11 2026. No macro, syntax, notation, axiom, sorry.
-/
import Derived.Test.YtjbbkbpnagefoaaGreatDoorRows
import Derived.LaidByTextLater
import Derived.SevenTiedAt
import Derived.LaidSub
import Derived.LaidOnce
namespace Go.Proofs.YtjbbkbpnagefoaaGreatDoor
open Go
set_option maxRecDepth 100000
theorem seatTie1 : Tryz.prog.laidByTextLater [("errors.errorType", Rows.laid_errors_errorType), ("wharf/kind.table", Rows.laid_wharf_kind_table), ("wharf/kind.inside", Rows.laid_wharf_kind_inside)] [.handle, .widerDeep, .data] true :=
  Program.laidByTextLater_by_one 55 8 162 (by kernel_rfl) (by kernel_rfl) (by kernel_rfl) (by kernel_rfl) (by kernel_rfl) (by kernel_rfl) (fun _ _ => by kernel_rfl)
theorem noOwnUnsafe : Tryz.pinned.checked.prog.headLifts.contains "ownunsafe" = false := by kernel_rfl
theorem tie : Tryz.prog.laidByTextLater [("errors.errorType", Rows.laid_errors_errorType), ("wharf/kind.table", Rows.laid_wharf_kind_table), ("wharf/kind.inside", Rows.laid_wharf_kind_inside)] [.handle, .widerDeep, .data] true :=
  Program.laidByTextLater.sub seatTie1 ["errors.errorType", "wharf/kind.table", "wharf/kind.inside"] (by kernel_rfl) (by kernel_rfl)
theorem controlMatchesReference_row_tie : Rows.controlMatchesReferenceRow.laidByTextAt .later Tryz.pinned [.handle, .widerDeep, .data] true :=
  OpenClaim.laidByTextAt_later rfl rfl tie noOwnUnsafe
theorem controlReads_row_tie : Rows.controlReadsRow.laidByTextAt .later Tryz.pinned [.handle, .widerDeep, .data] true :=
  OpenClaim.laidByTextAt_later rfl rfl tie noOwnUnsafe
theorem controlAnswers_row_tie : Rows.controlAnswersRow.laidByTextAt .later Tryz.pinned [.handle, .widerDeep, .data] true :=
  OpenClaim.laidByTextAt_later rfl rfl tie noOwnUnsafe
theorem controlCauses_row_tie : Rows.controlCausesRow.laidByTextAt .later Tryz.pinned [.handle, .widerDeep, .data] true :=
  OpenClaim.laidByTextAt_later rfl rfl tie noOwnUnsafe
theorem initialMatchesReference_row_tie : Rows.initialMatchesReferenceRow.laidByTextAt .later Tryz.pinned [.handle, .widerDeep, .data] true :=
  OpenClaim.laidByTextAt_later rfl rfl tie noOwnUnsafe
theorem initialChunks_row_tie : Rows.initialChunksRow.laidByTextAt .later Tryz.pinned [.handle, .widerDeep, .data] true :=
  OpenClaim.laidByTextAt_later rfl rfl tie noOwnUnsafe
theorem initialCookies_row_tie : Rows.initialCookiesRow.laidByTextAt .later Tryz.pinned [.handle, .widerDeep, .data] true :=
  OpenClaim.laidByTextAt_later rfl rfl tie noOwnUnsafe
theorem initialParams_row_tie : Rows.initialParamsRow.laidByTextAt .later Tryz.pinned [.handle, .widerDeep, .data] true :=
  OpenClaim.laidByTextAt_later rfl rfl tie noOwnUnsafe
theorem controlMatchesReferenceUpto_row_tie : Rows.controlMatchesReferenceUptoRow.laidByTextAt .later Tryz.pinned [.handle, .widerDeep, .data] true :=
  OpenClaim.laidByTextAt_later rfl rfl tie noOwnUnsafe
theorem controlReadsUpto_row_tie : Rows.controlReadsUptoRow.laidByTextAt .later Tryz.pinned [.handle, .widerDeep, .data] true :=
  OpenClaim.laidByTextAt_later rfl rfl tie noOwnUnsafe
theorem controlAnswersUpto_row_tie : Rows.controlAnswersUptoRow.laidByTextAt .later Tryz.pinned [.handle, .widerDeep, .data] true :=
  OpenClaim.laidByTextAt_later rfl rfl tie noOwnUnsafe
theorem controlCausesUpto_row_tie : Rows.controlCausesUptoRow.laidByTextAt .later Tryz.pinned [.handle, .widerDeep, .data] true :=
  OpenClaim.laidByTextAt_later rfl rfl tie noOwnUnsafe
theorem initialMatchesReferenceUpto_row_tie : Rows.initialMatchesReferenceUptoRow.laidByTextAt .later Tryz.pinned [.handle, .widerDeep, .data] true :=
  OpenClaim.laidByTextAt_later rfl rfl tie noOwnUnsafe
theorem initialChunksUpto_row_tie : Rows.initialChunksUptoRow.laidByTextAt .later Tryz.pinned [.handle, .widerDeep, .data] true :=
  OpenClaim.laidByTextAt_later rfl rfl tie noOwnUnsafe
theorem initialCookiesUpto_row_tie : Rows.initialCookiesUptoRow.laidByTextAt .later Tryz.pinned [.handle, .widerDeep, .data] true :=
  OpenClaim.laidByTextAt_later rfl rfl tie noOwnUnsafe
theorem initialParamsUpto_row_tie : Rows.initialParamsUptoRow.laidByTextAt .later Tryz.pinned [.handle, .widerDeep, .data] true :=
  OpenClaim.laidByTextAt_later rfl rfl tie noOwnUnsafe
end Go.Proofs.YtjbbkbpnagefoaaGreatDoor
