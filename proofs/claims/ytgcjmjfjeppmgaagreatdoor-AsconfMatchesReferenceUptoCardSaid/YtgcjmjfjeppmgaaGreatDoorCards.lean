/-
  DERIVED. GIVEN WITH THE SEED: THE CARDS: each row of YtgcjmjfjeppmgaaGreatDoorRows.lean that lists a variable, with what it lists TIED to the program's text (the seventh form; the later family's looks); each row that meets fmt, with fmt's text TOLD by the authors' own Lean function (tested against real Go, not proved from fmt's source: count such statements apart). THE CARD IS WHAT COUNTS. Prove the row's statement (the work); the ties are given (YtgcjmjfjeppmgaaGreatDoorTie.lean); close each card by the builder's one call (the guide's Derived/Test/ToyasCard.lean, 'card_holds'). Laid BY PROGRAM, IN A SANDBOX (cutbox-door.mjs). By AI agents, Wed Nov 11 2026. No macro, syntax, notation, axiom, sorry.
-/
import Derived.Test.YtgcjmjfjeppmgaaGreatDoorRows
import GoSem.ClaimSeven
namespace Go.Proofs.YtgcjmjfjeppmgaaGreatDoor
namespace Rows

/-- THE TIED CARD OF 'wharflaw13.DataMatchesReference'. -/
def dataMatchesReferenceCard : Claim7 := { stood := { row := dataMatchesReferenceRow, standIns := [], harness := (true, "69c493e28a0a3696eff48055ad7ce475d66132ffc613d4b47525a94456c69d07"), looks := true }, kinds := [], alts := [], laidByText := true, laidKinds := [.handle, .widerDeep, .data], laidTests := true, laidLooks := .later }
def DataMatchesReferenceCardSaid : Prop := Claim7.holds Tryz.pinned (.plain (OpenSpec.ofChange dataMatchesReferenceSpec)) dataMatchesReferenceCard

/-- THE TIED CARD OF 'wharflaw13.DataChunks'. -/
def dataChunksCard : Claim7 := { stood := { row := dataChunksRow, standIns := [], harness := (true, "69c493e28a0a3696eff48055ad7ce475d66132ffc613d4b47525a94456c69d07"), looks := true }, kinds := [], alts := [], laidByText := true, laidKinds := [.handle, .widerDeep, .data], laidTests := true, laidLooks := .later }
def DataChunksCardSaid : Prop := Claim7.holds Tryz.pinned (.plain (OpenSpec.ofChange dataChunksSpec)) dataChunksCard

/-- THE TIED CARD OF 'wharflaw18.AsconfReads'. -/
def asconfReadsCard : Claim7 := { stood := { row := asconfReadsRow, standIns := [], harness := (true, "69c493e28a0a3696eff48055ad7ce475d66132ffc613d4b47525a94456c69d07"), looks := true }, kinds := [], alts := [], laidByText := true, laidKinds := [.handle, .widerDeep, .data], laidTests := true, laidLooks := .later }
def AsconfReadsCardSaid : Prop := Claim7.holds Tryz.pinned (.plain (OpenSpec.ofChange asconfReadsSpec)) asconfReadsCard

/-- THE TIED CARD OF 'wharflaw18.AsconfRequests'. -/
def asconfRequestsCard : Claim7 := { stood := { row := asconfRequestsRow, standIns := [], harness := (true, "69c493e28a0a3696eff48055ad7ce475d66132ffc613d4b47525a94456c69d07"), looks := true }, kinds := [], alts := [], laidByText := true, laidKinds := [.handle, .widerDeep, .data], laidTests := true, laidLooks := .later }
def AsconfRequestsCardSaid : Prop := Claim7.holds Tryz.pinned (.plain (OpenSpec.ofChange asconfRequestsSpec)) asconfRequestsCard

/-- THE TIED CARD OF 'wharflaw18.AsconfAnswers'. -/
def asconfAnswersCard : Claim7 := { stood := { row := asconfAnswersRow, standIns := [], harness := (true, "69c493e28a0a3696eff48055ad7ce475d66132ffc613d4b47525a94456c69d07"), looks := true }, kinds := [], alts := [], laidByText := true, laidKinds := [.handle, .widerDeep, .data], laidTests := true, laidLooks := .later }
def AsconfAnswersCardSaid : Prop := Claim7.holds Tryz.pinned (.plain (OpenSpec.ofChange asconfAnswersSpec)) asconfAnswersCard

/-- THE TIED CARD OF 'wharflaw18.AsconfResults'. -/
def asconfResultsCard : Claim7 := { stood := { row := asconfResultsRow, standIns := [], harness := (true, "69c493e28a0a3696eff48055ad7ce475d66132ffc613d4b47525a94456c69d07"), looks := true }, kinds := [], alts := [], laidByText := true, laidKinds := [.handle, .widerDeep, .data], laidTests := true, laidLooks := .later }
def AsconfResultsCardSaid : Prop := Claim7.holds Tryz.pinned (.plain (OpenSpec.ofChange asconfResultsSpec)) asconfResultsCard

/-- THE TIED CARD OF 'wharflaw18.AsconfMatchesReference'. -/
def asconfMatchesReferenceCard : Claim7 := { stood := { row := asconfMatchesReferenceRow, standIns := [], harness := (true, "69c493e28a0a3696eff48055ad7ce475d66132ffc613d4b47525a94456c69d07"), looks := true }, kinds := [], alts := [], laidByText := true, laidKinds := [.handle, .widerDeep, .data], laidTests := true, laidLooks := .later }
def AsconfMatchesReferenceCardSaid : Prop := Claim7.holds Tryz.pinned (.plain (OpenSpec.ofChange asconfMatchesReferenceSpec)) asconfMatchesReferenceCard

/-- THE SECOND FORM's CARD OF 'wharflaw13.DataMatchesReference'. -/
def dataMatchesReferenceUptoCard : Claim7 := { stood := { row := dataMatchesReferenceUptoRow, standIns := [], harness := (true, "69c493e28a0a3696eff48055ad7ce475d66132ffc613d4b47525a94456c69d07"), looks := true }, kinds := [], alts := [], laidByText := true, laidKinds := [.handle, .widerDeep, .data], laidTests := true, laidLooks := .later }
def DataMatchesReferenceUptoCardSaid : Prop := Claim7.holds Tryz.pinned (.plain (OpenSpec.upto dataMatchesReferenceSpec)) dataMatchesReferenceUptoCard

/-- THE SECOND FORM's CARD OF 'wharflaw13.DataChunks'. -/
def dataChunksUptoCard : Claim7 := { stood := { row := dataChunksUptoRow, standIns := [], harness := (true, "69c493e28a0a3696eff48055ad7ce475d66132ffc613d4b47525a94456c69d07"), looks := true }, kinds := [], alts := [], laidByText := true, laidKinds := [.handle, .widerDeep, .data], laidTests := true, laidLooks := .later }
def DataChunksUptoCardSaid : Prop := Claim7.holds Tryz.pinned (.plain (OpenSpec.upto dataChunksSpec)) dataChunksUptoCard

/-- THE SECOND FORM's CARD OF 'wharflaw18.AsconfReads'. -/
def asconfReadsUptoCard : Claim7 := { stood := { row := asconfReadsUptoRow, standIns := [], harness := (true, "69c493e28a0a3696eff48055ad7ce475d66132ffc613d4b47525a94456c69d07"), looks := true }, kinds := [], alts := [], laidByText := true, laidKinds := [.handle, .widerDeep, .data], laidTests := true, laidLooks := .later }
def AsconfReadsUptoCardSaid : Prop := Claim7.holds Tryz.pinned (.plain (OpenSpec.upto asconfReadsSpec)) asconfReadsUptoCard

/-- THE SECOND FORM's CARD OF 'wharflaw18.AsconfRequests'. -/
def asconfRequestsUptoCard : Claim7 := { stood := { row := asconfRequestsUptoRow, standIns := [], harness := (true, "69c493e28a0a3696eff48055ad7ce475d66132ffc613d4b47525a94456c69d07"), looks := true }, kinds := [], alts := [], laidByText := true, laidKinds := [.handle, .widerDeep, .data], laidTests := true, laidLooks := .later }
def AsconfRequestsUptoCardSaid : Prop := Claim7.holds Tryz.pinned (.plain (OpenSpec.upto asconfRequestsSpec)) asconfRequestsUptoCard

/-- THE SECOND FORM's CARD OF 'wharflaw18.AsconfAnswers'. -/
def asconfAnswersUptoCard : Claim7 := { stood := { row := asconfAnswersUptoRow, standIns := [], harness := (true, "69c493e28a0a3696eff48055ad7ce475d66132ffc613d4b47525a94456c69d07"), looks := true }, kinds := [], alts := [], laidByText := true, laidKinds := [.handle, .widerDeep, .data], laidTests := true, laidLooks := .later }
def AsconfAnswersUptoCardSaid : Prop := Claim7.holds Tryz.pinned (.plain (OpenSpec.upto asconfAnswersSpec)) asconfAnswersUptoCard

/-- THE SECOND FORM's CARD OF 'wharflaw18.AsconfResults'. -/
def asconfResultsUptoCard : Claim7 := { stood := { row := asconfResultsUptoRow, standIns := [], harness := (true, "69c493e28a0a3696eff48055ad7ce475d66132ffc613d4b47525a94456c69d07"), looks := true }, kinds := [], alts := [], laidByText := true, laidKinds := [.handle, .widerDeep, .data], laidTests := true, laidLooks := .later }
def AsconfResultsUptoCardSaid : Prop := Claim7.holds Tryz.pinned (.plain (OpenSpec.upto asconfResultsSpec)) asconfResultsUptoCard

/-- THE SECOND FORM's CARD OF 'wharflaw18.AsconfMatchesReference'. -/
def asconfMatchesReferenceUptoCard : Claim7 := { stood := { row := asconfMatchesReferenceUptoRow, standIns := [], harness := (true, "69c493e28a0a3696eff48055ad7ce475d66132ffc613d4b47525a94456c69d07"), looks := true }, kinds := [], alts := [], laidByText := true, laidKinds := [.handle, .widerDeep, .data], laidTests := true, laidLooks := .later }
def AsconfMatchesReferenceUptoCardSaid : Prop := Claim7.holds Tryz.pinned (.plain (OpenSpec.upto asconfMatchesReferenceSpec)) asconfMatchesReferenceUptoCard
end Rows
end Go.Proofs.YtgcjmjfjeppmgaaGreatDoor
