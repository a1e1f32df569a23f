/-
  DERIVED. GIVEN WITH THE SEED: THE CARDS: each row of YtokbbdodbjiciaaGreatDoorRows.lean that lists a variable, with what it lists TIED to the program's text (the seventh form; the later family's looks); each row that meets fmt, with fmt's text TOLD by the authors' own Lean function (tested against real Go, not proved from fmt's source: count such statements apart). THE CARD IS WHAT COUNTS. Prove the row's statement (the work); the ties are given (YtokbbdodbjiciaaGreatDoorTie.lean); close each card by the builder's one call (the guide's Derived/Test/ToyasCard.lean, 'card_holds'). Laid BY PROGRAM, IN A SANDBOX (cutbox-door.mjs). By AI agents, Wed Nov 11 2026. No macro, syntax, notation, axiom, sorry.
-/
import Derived.Test.YtokbbdodbjiciaaGreatDoorRows
import GoSem.ClaimSeven
namespace Go.Proofs.YtokbbdodbjiciaaGreatDoor
namespace Rows

/-- THE TIED CARD OF 'wharflaw25.ReportNodes'. -/
def reportNodesCard : Claim7 := { stood := { row := reportNodesRow, standIns := [], harness := (true, "c8b86c436ec9316ee4e4752fdbaa4b5715ec517b3498013da4faf7647de141e8"), looks := true }, kinds := [], alts := [], laidByText := true, laidKinds := [.handle, .widerDeep, .data, .widerDeep], laidTests := true, laidLooks := .later }
def ReportNodesCardSaid : Prop := Claim7.holds Tryz.pinned (.plain (OpenSpec.ofChange reportNodesSpec)) reportNodesCard

/-- THE TIED CARD OF 'wharflaw25.ReportReads'. -/
def reportReadsCard : Claim7 := { stood := { row := reportReadsRow, standIns := [], harness := (true, "c8b86c436ec9316ee4e4752fdbaa4b5715ec517b3498013da4faf7647de141e8"), looks := true }, kinds := [], alts := [], laidByText := true, laidKinds := [.handle, .widerDeep, .data, .widerDeep], laidTests := true, laidLooks := .later }
def ReportReadsCardSaid : Prop := Claim7.holds Tryz.pinned (.plain (OpenSpec.ofChange reportReadsSpec)) reportReadsCard

/-- THE TIED CARD OF 'wharflaw25.ReportBack'. -/
def reportBackCard : Claim7 := { stood := { row := reportBackRow, standIns := [], harness := (true, "c8b86c436ec9316ee4e4752fdbaa4b5715ec517b3498013da4faf7647de141e8"), looks := true }, kinds := [], alts := [], laidByText := true, laidKinds := [.handle, .widerDeep, .data, .widerDeep], laidTests := true, laidLooks := .later }
def ReportBackCardSaid : Prop := Claim7.holds Tryz.pinned (.plain (OpenSpec.ofChange reportBackSpec)) reportBackCard

/-- THE TIED CARD OF 'wharflaw25.ReportNone'. -/
def reportNoneCard : Claim7 := { stood := { row := reportNoneRow, standIns := [], harness := (true, "c8b86c436ec9316ee4e4752fdbaa4b5715ec517b3498013da4faf7647de141e8"), looks := true }, kinds := [], alts := [], laidByText := true, laidKinds := [.handle, .widerDeep, .data, .widerDeep], laidTests := true, laidLooks := .later }
def ReportNoneCardSaid : Prop := Claim7.holds Tryz.pinned (.plain (OpenSpec.ofChange reportNoneSpec)) reportNoneCard

/-- THE TIED CARD OF 'wharflaw20.ControlAnswers'. -/
def controlAnswersCard : Claim7 := { stood := { row := controlAnswersRow, standIns := [], harness := (true, "c8b86c436ec9316ee4e4752fdbaa4b5715ec517b3498013da4faf7647de141e8"), looks := true }, kinds := [], alts := [], laidByText := true, laidKinds := [.handle, .widerDeep, .data], laidTests := true, laidLooks := .later }
def ControlAnswersCardSaid : Prop := Claim7.holds Tryz.pinned (.plain (OpenSpec.ofChange controlAnswersSpec)) controlAnswersCard

/-- THE TIED CARD OF 'wharflaw15.InitialCookies'. -/
def initialCookiesCard : Claim7 := { stood := { row := initialCookiesRow, standIns := [], harness := (true, "c8b86c436ec9316ee4e4752fdbaa4b5715ec517b3498013da4faf7647de141e8"), looks := true }, kinds := [], alts := [], laidByText := true, laidKinds := [.handle, .widerDeep, .data], laidTests := true, laidLooks := .later }
def InitialCookiesCardSaid : Prop := Claim7.holds Tryz.pinned (.plain (OpenSpec.ofChange initialCookiesSpec)) initialCookiesCard

/-- THE TIED CARD OF 'wharflaw12.ChunkCopies'. -/
def chunkCopiesCard : Claim7 := { stood := { row := chunkCopiesRow, standIns := [], harness := (true, "c8b86c436ec9316ee4e4752fdbaa4b5715ec517b3498013da4faf7647de141e8"), looks := true }, kinds := [], alts := [], laidByText := true, laidKinds := [.handle, .widerDeep, .data], laidTests := true, laidLooks := .later }
def ChunkCopiesCardSaid : Prop := Claim7.holds Tryz.pinned (.plain (OpenSpec.ofChange chunkCopiesSpec)) chunkCopiesCard

/-- THE SECOND FORM's CARD OF 'wharflaw25.ReportNodes'. -/
def reportNodesUptoCard : Claim7 := { stood := { row := reportNodesUptoRow, standIns := [], harness := (true, "c8b86c436ec9316ee4e4752fdbaa4b5715ec517b3498013da4faf7647de141e8"), looks := true }, kinds := [], alts := [], laidByText := true, laidKinds := [.handle, .widerDeep, .data, .widerDeep], laidTests := true, laidLooks := .later }
def ReportNodesUptoCardSaid : Prop := Claim7.holds Tryz.pinned (.plain (OpenSpec.upto reportNodesSpec)) reportNodesUptoCard

/-- THE SECOND FORM's CARD OF 'wharflaw25.ReportReads'. -/
def reportReadsUptoCard : Claim7 := { stood := { row := reportReadsUptoRow, standIns := [], harness := (true, "c8b86c436ec9316ee4e4752fdbaa4b5715ec517b3498013da4faf7647de141e8"), looks := true }, kinds := [], alts := [], laidByText := true, laidKinds := [.handle, .widerDeep, .data, .widerDeep], laidTests := true, laidLooks := .later }
def ReportReadsUptoCardSaid : Prop := Claim7.holds Tryz.pinned (.plain (OpenSpec.upto reportReadsSpec)) reportReadsUptoCard

/-- THE SECOND FORM's CARD OF 'wharflaw25.ReportBack'. -/
def reportBackUptoCard : Claim7 := { stood := { row := reportBackUptoRow, standIns := [], harness := (true, "c8b86c436ec9316ee4e4752fdbaa4b5715ec517b3498013da4faf7647de141e8"), looks := true }, kinds := [], alts := [], laidByText := true, laidKinds := [.handle, .widerDeep, .data, .widerDeep], laidTests := true, laidLooks := .later }
def ReportBackUptoCardSaid : Prop := Claim7.holds Tryz.pinned (.plain (OpenSpec.upto reportBackSpec)) reportBackUptoCard

/-- THE SECOND FORM's CARD OF 'wharflaw25.ReportNone'. -/
def reportNoneUptoCard : Claim7 := { stood := { row := reportNoneUptoRow, standIns := [], harness := (true, "c8b86c436ec9316ee4e4752fdbaa4b5715ec517b3498013da4faf7647de141e8"), looks := true }, kinds := [], alts := [], laidByText := true, laidKinds := [.handle, .widerDeep, .data, .widerDeep], laidTests := true, laidLooks := .later }
def ReportNoneUptoCardSaid : Prop := Claim7.holds Tryz.pinned (.plain (OpenSpec.upto reportNoneSpec)) reportNoneUptoCard

/-- THE SECOND FORM's CARD OF 'wharflaw20.ControlAnswers'. -/
def controlAnswersUptoCard : Claim7 := { stood := { row := controlAnswersUptoRow, standIns := [], harness := (true, "c8b86c436ec9316ee4e4752fdbaa4b5715ec517b3498013da4faf7647de141e8"), looks := true }, kinds := [], alts := [], laidByText := true, laidKinds := [.handle, .widerDeep, .data], laidTests := true, laidLooks := .later }
def ControlAnswersUptoCardSaid : Prop := Claim7.holds Tryz.pinned (.plain (OpenSpec.upto controlAnswersSpec)) controlAnswersUptoCard

/-- THE SECOND FORM's CARD OF 'wharflaw15.InitialCookies'. -/
def initialCookiesUptoCard : Claim7 := { stood := { row := initialCookiesUptoRow, standIns := [], harness := (true, "c8b86c436ec9316ee4e4752fdbaa4b5715ec517b3498013da4faf7647de141e8"), looks := true }, kinds := [], alts := [], laidByText := true, laidKinds := [.handle, .widerDeep, .data], laidTests := true, laidLooks := .later }
def InitialCookiesUptoCardSaid : Prop := Claim7.holds Tryz.pinned (.plain (OpenSpec.upto initialCookiesSpec)) initialCookiesUptoCard

/-- THE SECOND FORM's CARD OF 'wharflaw12.ChunkCopies'. -/
def chunkCopiesUptoCard : Claim7 := { stood := { row := chunkCopiesUptoRow, standIns := [], harness := (true, "c8b86c436ec9316ee4e4752fdbaa4b5715ec517b3498013da4faf7647de141e8"), looks := true }, kinds := [], alts := [], laidByText := true, laidKinds := [.handle, .widerDeep, .data], laidTests := true, laidLooks := .later }
def ChunkCopiesUptoCardSaid : Prop := Claim7.holds Tryz.pinned (.plain (OpenSpec.upto chunkCopiesSpec)) chunkCopiesUptoCard
end Rows
end Go.Proofs.YtokbbdodbjiciaaGreatDoor
