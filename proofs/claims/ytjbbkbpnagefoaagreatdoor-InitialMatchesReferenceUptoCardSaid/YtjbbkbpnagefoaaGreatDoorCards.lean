/-
  DERIVED. GIVEN WITH THE SEED: THE CARDS: each row of YtjbbkbpnagefoaaGreatDoorRows.lean that lists a variable, with what it lists TIED to the program's text (the seventh form; the later family's looks); each row that meets fmt, with fmt's text TOLD by the authors' own Lean function (tested against real Go, not proved from fmt's source: count such statements apart). THE CARD IS WHAT COUNTS. Prove the row's statement (the work); the ties are given (YtjbbkbpnagefoaaGreatDoorTie.lean); close each card by the builder's one call (the guide's Derived/Test/ToyasCard.lean, 'card_holds'). Laid BY PROGRAM, IN A SANDBOX (cutbox-door.mjs). By AI agents, Wed Nov 11 2026. No macro, syntax, notation, axiom, sorry.
-/
import Derived.Test.YtjbbkbpnagefoaaGreatDoorRows
import GoSem.ClaimSeven
namespace Go.Proofs.YtjbbkbpnagefoaaGreatDoor
namespace Rows

/-- THE TIED CARD OF 'wharflaw20.ControlMatchesReference'. -/
def controlMatchesReferenceCard : Claim7 := { stood := { row := controlMatchesReferenceRow, standIns := [], harness := (true, "6e298ac4af6f7564c5178ee765b3e27805fb3ebfcfbdeb2d8359f3159a28dac4"), looks := true }, kinds := [], alts := [], laidByText := true, laidKinds := [.handle, .widerDeep, .data], laidTests := true, laidLooks := .later }
def ControlMatchesReferenceCardSaid : Prop := Claim7.holds Tryz.pinned (.plain (OpenSpec.ofChange controlMatchesReferenceSpec)) controlMatchesReferenceCard

/-- THE TIED CARD OF 'wharflaw20.ControlReads'. -/
def controlReadsCard : Claim7 := { stood := { row := controlReadsRow, standIns := [], harness := (true, "6e298ac4af6f7564c5178ee765b3e27805fb3ebfcfbdeb2d8359f3159a28dac4"), looks := true }, kinds := [], alts := [], laidByText := true, laidKinds := [.handle, .widerDeep, .data], laidTests := true, laidLooks := .later }
def ControlReadsCardSaid : Prop := Claim7.holds Tryz.pinned (.plain (OpenSpec.ofChange controlReadsSpec)) controlReadsCard

/-- THE TIED CARD OF 'wharflaw20.ControlAnswers'. -/
def controlAnswersCard : Claim7 := { stood := { row := controlAnswersRow, standIns := [], harness := (true, "6e298ac4af6f7564c5178ee765b3e27805fb3ebfcfbdeb2d8359f3159a28dac4"), looks := true }, kinds := [], alts := [], laidByText := true, laidKinds := [.handle, .widerDeep, .data], laidTests := true, laidLooks := .later }
def ControlAnswersCardSaid : Prop := Claim7.holds Tryz.pinned (.plain (OpenSpec.ofChange controlAnswersSpec)) controlAnswersCard

/-- THE TIED CARD OF 'wharflaw20.ControlCauses'. -/
def controlCausesCard : Claim7 := { stood := { row := controlCausesRow, standIns := [], harness := (true, "6e298ac4af6f7564c5178ee765b3e27805fb3ebfcfbdeb2d8359f3159a28dac4"), looks := true }, kinds := [], alts := [], laidByText := true, laidKinds := [.handle, .widerDeep, .data], laidTests := true, laidLooks := .later }
def ControlCausesCardSaid : Prop := Claim7.holds Tryz.pinned (.plain (OpenSpec.ofChange controlCausesSpec)) controlCausesCard

/-- THE TIED CARD OF 'wharflaw15.InitialMatchesReference'. -/
def initialMatchesReferenceCard : Claim7 := { stood := { row := initialMatchesReferenceRow, standIns := [], harness := (true, "6e298ac4af6f7564c5178ee765b3e27805fb3ebfcfbdeb2d8359f3159a28dac4"), looks := true }, kinds := [], alts := [], laidByText := true, laidKinds := [.handle, .widerDeep, .data], laidTests := true, laidLooks := .later }
def InitialMatchesReferenceCardSaid : Prop := Claim7.holds Tryz.pinned (.plain (OpenSpec.ofChange initialMatchesReferenceSpec)) initialMatchesReferenceCard

/-- THE TIED CARD OF 'wharflaw15.InitialChunks'. -/
def initialChunksCard : Claim7 := { stood := { row := initialChunksRow, standIns := [], harness := (true, "6e298ac4af6f7564c5178ee765b3e27805fb3ebfcfbdeb2d8359f3159a28dac4"), looks := true }, kinds := [], alts := [], laidByText := true, laidKinds := [.handle, .widerDeep, .data], laidTests := true, laidLooks := .later }
def InitialChunksCardSaid : Prop := Claim7.holds Tryz.pinned (.plain (OpenSpec.ofChange initialChunksSpec)) initialChunksCard

/-- THE TIED CARD OF 'wharflaw15.InitialCookies'. -/
def initialCookiesCard : Claim7 := { stood := { row := initialCookiesRow, standIns := [], harness := (true, "6e298ac4af6f7564c5178ee765b3e27805fb3ebfcfbdeb2d8359f3159a28dac4"), looks := true }, kinds := [], alts := [], laidByText := true, laidKinds := [.handle, .widerDeep, .data], laidTests := true, laidLooks := .later }
def InitialCookiesCardSaid : Prop := Claim7.holds Tryz.pinned (.plain (OpenSpec.ofChange initialCookiesSpec)) initialCookiesCard

/-- THE TIED CARD OF 'wharflaw15.InitialParams'. -/
def initialParamsCard : Claim7 := { stood := { row := initialParamsRow, standIns := [], harness := (true, "6e298ac4af6f7564c5178ee765b3e27805fb3ebfcfbdeb2d8359f3159a28dac4"), looks := true }, kinds := [], alts := [], laidByText := true, laidKinds := [.handle, .widerDeep, .data], laidTests := true, laidLooks := .later }
def InitialParamsCardSaid : Prop := Claim7.holds Tryz.pinned (.plain (OpenSpec.ofChange initialParamsSpec)) initialParamsCard

/-- THE SECOND FORM's CARD OF 'wharflaw20.ControlMatchesReference'. -/
def controlMatchesReferenceUptoCard : Claim7 := { stood := { row := controlMatchesReferenceUptoRow, standIns := [], harness := (true, "6e298ac4af6f7564c5178ee765b3e27805fb3ebfcfbdeb2d8359f3159a28dac4"), looks := true }, kinds := [], alts := [], laidByText := true, laidKinds := [.handle, .widerDeep, .data], laidTests := true, laidLooks := .later }
def ControlMatchesReferenceUptoCardSaid : Prop := Claim7.holds Tryz.pinned (.plain (OpenSpec.upto controlMatchesReferenceSpec)) controlMatchesReferenceUptoCard

/-- THE SECOND FORM's CARD OF 'wharflaw20.ControlReads'. -/
def controlReadsUptoCard : Claim7 := { stood := { row := controlReadsUptoRow, standIns := [], harness := (true, "6e298ac4af6f7564c5178ee765b3e27805fb3ebfcfbdeb2d8359f3159a28dac4"), looks := true }, kinds := [], alts := [], laidByText := true, laidKinds := [.handle, .widerDeep, .data], laidTests := true, laidLooks := .later }
def ControlReadsUptoCardSaid : Prop := Claim7.holds Tryz.pinned (.plain (OpenSpec.upto controlReadsSpec)) controlReadsUptoCard

/-- THE SECOND FORM's CARD OF 'wharflaw20.ControlAnswers'. -/
def controlAnswersUptoCard : Claim7 := { stood := { row := controlAnswersUptoRow, standIns := [], harness := (true, "6e298ac4af6f7564c5178ee765b3e27805fb3ebfcfbdeb2d8359f3159a28dac4"), looks := true }, kinds := [], alts := [], laidByText := true, laidKinds := [.handle, .widerDeep, .data], laidTests := true, laidLooks := .later }
def ControlAnswersUptoCardSaid : Prop := Claim7.holds Tryz.pinned (.plain (OpenSpec.upto controlAnswersSpec)) controlAnswersUptoCard

/-- THE SECOND FORM's CARD OF 'wharflaw20.ControlCauses'. -/
def controlCausesUptoCard : Claim7 := { stood := { row := controlCausesUptoRow, standIns := [], harness := (true, "6e298ac4af6f7564c5178ee765b3e27805fb3ebfcfbdeb2d8359f3159a28dac4"), looks := true }, kinds := [], alts := [], laidByText := true, laidKinds := [.handle, .widerDeep, .data], laidTests := true, laidLooks := .later }
def ControlCausesUptoCardSaid : Prop := Claim7.holds Tryz.pinned (.plain (OpenSpec.upto controlCausesSpec)) controlCausesUptoCard

/-- THE SECOND FORM's CARD OF 'wharflaw15.InitialMatchesReference'. -/
def initialMatchesReferenceUptoCard : Claim7 := { stood := { row := initialMatchesReferenceUptoRow, standIns := [], harness := (true, "6e298ac4af6f7564c5178ee765b3e27805fb3ebfcfbdeb2d8359f3159a28dac4"), looks := true }, kinds := [], alts := [], laidByText := true, laidKinds := [.handle, .widerDeep, .data], laidTests := true, laidLooks := .later }
def InitialMatchesReferenceUptoCardSaid : Prop := Claim7.holds Tryz.pinned (.plain (OpenSpec.upto initialMatchesReferenceSpec)) initialMatchesReferenceUptoCard

/-- THE SECOND FORM's CARD OF 'wharflaw15.InitialChunks'. -/
def initialChunksUptoCard : Claim7 := { stood := { row := initialChunksUptoRow, standIns := [], harness := (true, "6e298ac4af6f7564c5178ee765b3e27805fb3ebfcfbdeb2d8359f3159a28dac4"), looks := true }, kinds := [], alts := [], laidByText := true, laidKinds := [.handle, .widerDeep, .data], laidTests := true, laidLooks := .later }
def InitialChunksUptoCardSaid : Prop := Claim7.holds Tryz.pinned (.plain (OpenSpec.upto initialChunksSpec)) initialChunksUptoCard

/-- THE SECOND FORM's CARD OF 'wharflaw15.InitialCookies'. -/
def initialCookiesUptoCard : Claim7 := { stood := { row := initialCookiesUptoRow, standIns := [], harness := (true, "6e298ac4af6f7564c5178ee765b3e27805fb3ebfcfbdeb2d8359f3159a28dac4"), looks := true }, kinds := [], alts := [], laidByText := true, laidKinds := [.handle, .widerDeep, .data], laidTests := true, laidLooks := .later }
def InitialCookiesUptoCardSaid : Prop := Claim7.holds Tryz.pinned (.plain (OpenSpec.upto initialCookiesSpec)) initialCookiesUptoCard

/-- THE SECOND FORM's CARD OF 'wharflaw15.InitialParams'. -/
def initialParamsUptoCard : Claim7 := { stood := { row := initialParamsUptoRow, standIns := [], harness := (true, "6e298ac4af6f7564c5178ee765b3e27805fb3ebfcfbdeb2d8359f3159a28dac4"), looks := true }, kinds := [], alts := [], laidByText := true, laidKinds := [.handle, .widerDeep, .data], laidTests := true, laidLooks := .later }
def InitialParamsUptoCardSaid : Prop := Claim7.holds Tryz.pinned (.plain (OpenSpec.upto initialParamsSpec)) initialParamsUptoCard
end Rows
end Go.Proofs.YtjbbkbpnagefoaaGreatDoor
