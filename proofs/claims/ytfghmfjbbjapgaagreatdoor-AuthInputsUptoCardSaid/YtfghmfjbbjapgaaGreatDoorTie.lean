/-
  DERIVED. GIVEN WITH THE SEED: THE PROGRAM's TIES (one call each: nine closed facts by the kernel) AND EACH ROW's TIE, after the 31st guide's Derived/Test/Toyas{Tie, Card}.lean. No idea stands in it: it is a product of the set-up. Laid BY PROGRAM, IN A SANDBOX (cutbox-door.mjs). By AI agents, Wed Nov 11 2026. No macro, syntax, notation, axiom, sorry.
-/
import Derived.Test.YtfghmfjbbjapgaaGreatDoorRows
import Derived.LaidByTextLater
import Derived.SevenTiedAt
import Derived.LaidSub
import Derived.LaidOnce
namespace Go.Proofs.YtfghmfjbbjapgaaGreatDoor
open Go
set_option maxRecDepth 100000
theorem seatTie1 : Tryz.prog.laidByTextLater [("errors.errorType", Rows.laid_errors_errorType), ("wharf/kind.table", Rows.laid_wharf_kind_table), ("wharf/kind.inside", Rows.laid_wharf_kind_inside)] [.handle, .widerDeep, .data] true :=
  Program.laidByTextLater_by_one 55 8 162 (by kernel_rfl) (by kernel_rfl) (by kernel_rfl) (by kernel_rfl) (by kernel_rfl) (by kernel_rfl) (fun _ _ => by kernel_rfl)
theorem noOwnUnsafe : Tryz.pinned.checked.prog.headLifts.contains "ownunsafe" = false := by kernel_rfl
theorem tie : Tryz.prog.laidByTextLater [("errors.errorType", Rows.laid_errors_errorType), ("wharf/kind.table", Rows.laid_wharf_kind_table), ("wharf/kind.inside", Rows.laid_wharf_kind_inside)] [.handle, .widerDeep, .data] true :=
  Program.laidByTextLater.sub seatTie1 ["errors.errorType", "wharf/kind.table", "wharf/kind.inside"] (by kernel_rfl) (by kernel_rfl)
theorem streamReads_row_tie : Rows.streamReadsRow.laidByTextAt .later Tryz.pinned [.handle, .widerDeep, .data] true :=
  OpenClaim.laidByTextAt_later rfl rfl tie noOwnUnsafe
theorem streamMakes_row_tie : Rows.streamMakesRow.laidByTextAt .later Tryz.pinned [.handle, .widerDeep, .data] true :=
  OpenClaim.laidByTextAt_later rfl rfl tie noOwnUnsafe
theorem streamAnswers_row_tie : Rows.streamAnswersRow.laidByTextAt .later Tryz.pinned [.handle, .widerDeep, .data] true :=
  OpenClaim.laidByTextAt_later rfl rfl tie noOwnUnsafe
theorem streamMore_row_tie : Rows.streamMoreRow.laidByTextAt .later Tryz.pinned [.handle, .widerDeep, .data] true :=
  OpenClaim.laidByTextAt_later rfl rfl tie noOwnUnsafe
theorem streamMatchesReference_row_tie : Rows.streamMatchesReferenceRow.laidByTextAt .later Tryz.pinned [.handle, .widerDeep, .data] true :=
  OpenClaim.laidByTextAt_later rfl rfl tie noOwnUnsafe
theorem authChunks_row_tie : Rows.authChunksRow.laidByTextAt .later Tryz.pinned [.handle, .widerDeep, .data] true :=
  OpenClaim.laidByTextAt_later rfl rfl tie noOwnUnsafe
theorem authInputs_row_tie : Rows.authInputsRow.laidByTextAt .later Tryz.pinned [.handle, .widerDeep, .data] true :=
  OpenClaim.laidByTextAt_later rfl rfl tie noOwnUnsafe
theorem streamReadsUpto_row_tie : Rows.streamReadsUptoRow.laidByTextAt .later Tryz.pinned [.handle, .widerDeep, .data] true :=
  OpenClaim.laidByTextAt_later rfl rfl tie noOwnUnsafe
theorem streamMakesUpto_row_tie : Rows.streamMakesUptoRow.laidByTextAt .later Tryz.pinned [.handle, .widerDeep, .data] true :=
  OpenClaim.laidByTextAt_later rfl rfl tie noOwnUnsafe
theorem streamAnswersUpto_row_tie : Rows.streamAnswersUptoRow.laidByTextAt .later Tryz.pinned [.handle, .widerDeep, .data] true :=
  OpenClaim.laidByTextAt_later rfl rfl tie noOwnUnsafe
theorem streamMoreUpto_row_tie : Rows.streamMoreUptoRow.laidByTextAt .later Tryz.pinned [.handle, .widerDeep, .data] true :=
  OpenClaim.laidByTextAt_later rfl rfl tie noOwnUnsafe
theorem streamMatchesReferenceUpto_row_tie : Rows.streamMatchesReferenceUptoRow.laidByTextAt .later Tryz.pinned [.handle, .widerDeep, .data] true :=
  OpenClaim.laidByTextAt_later rfl rfl tie noOwnUnsafe
theorem authChunksUpto_row_tie : Rows.authChunksUptoRow.laidByTextAt .later Tryz.pinned [.handle, .widerDeep, .data] true :=
  OpenClaim.laidByTextAt_later rfl rfl tie noOwnUnsafe
theorem authInputsUpto_row_tie : Rows.authInputsUptoRow.laidByTextAt .later Tryz.pinned [.handle, .widerDeep, .data] true :=
  OpenClaim.laidByTextAt_later rfl rfl tie noOwnUnsafe
end Go.Proofs.YtfghmfjbbjapgaaGreatDoor
