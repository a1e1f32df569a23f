/-
  DERIVED. GIVEN WITH THE SEED: THE CARDS: each row of YtldoehmlpdpiaaaGreatDoorRows.lean that lists a variable, with what it lists TIED to the program's text (the seventh form; the later family's looks); each row that meets fmt, with fmt's text TOLD by the authors' own Lean function (tested against real Go, not proved from fmt's source: count such statements apart). THE CARD IS WHAT COUNTS. Prove the row's statement (the work); the ties are given (YtldoehmlpdpiaaaGreatDoorTie.lean); close each card by the builder's one call (the guide's Derived/Test/ToyasCard.lean, 'card_holds'). Laid BY PROGRAM, IN A SANDBOX (cutbox-door.mjs). By AI agents, Wed Nov 11 2026. No macro, syntax, notation, axiom, sorry.
-/
import Derived.Test.YtldoehmlpdpiaaaGreatDoorRows
import GoSem.ClaimSeven
namespace Go.Proofs.YtldoehmlpdpiaaaGreatDoor
namespace Rows

/-- THE TIED CARD OF 'wharflaw24.DisposeMatchesReference'. -/
def disposeMatchesReferenceCard : Claim7 := { stood := { row := disposeMatchesReferenceRow, standIns := [], harness := (true, "faf44d07bd65eab318f991a6e742b5e0145346d471b31dae52dfb4e648ddd576"), looks := true }, kinds := [], alts := [], laidByText := true, laidKinds := [.handle, .widerDeep, .data], laidTests := true, laidLooks := .later }
def DisposeMatchesReferenceCardSaid : Prop := Claim7.holds Tryz.pinned (.plain (OpenSpec.ofChange disposeMatchesReferenceSpec)) disposeMatchesReferenceCard

/-- THE TIED CARD OF 'wharflaw24.DisposeCleans'. -/
def disposeCleansCard : Claim7 := { stood := { row := disposeCleansRow, standIns := [], harness := (true, "faf44d07bd65eab318f991a6e742b5e0145346d471b31dae52dfb4e648ddd576"), looks := true }, kinds := [], alts := [], laidByText := true, laidKinds := [.handle, .widerDeep, .data], laidTests := true, laidLooks := .later }
def DisposeCleansCardSaid : Prop := Claim7.holds Tryz.pinned (.plain (OpenSpec.ofChange disposeCleansSpec)) disposeCleansCard

/-- THE TIED CARD OF 'wharflaw24.DisposeReports'. -/
def disposeReportsCard : Claim7 := { stood := { row := disposeReportsRow, standIns := [], harness := (true, "faf44d07bd65eab318f991a6e742b5e0145346d471b31dae52dfb4e648ddd576"), looks := true }, kinds := [], alts := [], laidByText := true, laidKinds := [.handle, .widerDeep, .data], laidTests := true, laidLooks := .later }
def DisposeReportsCardSaid : Prop := Claim7.holds Tryz.pinned (.plain (OpenSpec.ofChange disposeReportsSpec)) disposeReportsCard

/-- THE TIED CARD OF 'wharflaw24.DisposeKnown'. -/
def disposeKnownCard : Claim7 := { stood := { row := disposeKnownRow, standIns := [], harness := (true, "faf44d07bd65eab318f991a6e742b5e0145346d471b31dae52dfb4e648ddd576"), looks := true }, kinds := [], alts := [], laidByText := true, laidKinds := [.handle, .widerDeep, .data], laidTests := true, laidLooks := .later }
def DisposeKnownCardSaid : Prop := Claim7.holds Tryz.pinned (.plain (OpenSpec.ofChange disposeKnownSpec)) disposeKnownCard

/-- THE TIED CARD OF 'wharflaw24.DisposeBegins'. -/
def disposeBeginsCard : Claim7 := { stood := { row := disposeBeginsRow, standIns := [], harness := (true, "faf44d07bd65eab318f991a6e742b5e0145346d471b31dae52dfb4e648ddd576"), looks := true }, kinds := [], alts := [], laidByText := true, laidKinds := [.handle, .widerDeep, .data], laidTests := true, laidLooks := .later }
def DisposeBeginsCardSaid : Prop := Claim7.holds Tryz.pinned (.plain (OpenSpec.ofChange disposeBeginsSpec)) disposeBeginsCard

/-- THE SECOND FORM's CARD OF 'wharflaw24.DisposeMatchesReference'. -/
def disposeMatchesReferenceUptoCard : Claim7 := { stood := { row := disposeMatchesReferenceUptoRow, standIns := [], harness := (true, "faf44d07bd65eab318f991a6e742b5e0145346d471b31dae52dfb4e648ddd576"), looks := true }, kinds := [], alts := [], laidByText := true, laidKinds := [.handle, .widerDeep, .data], laidTests := true, laidLooks := .later }
def DisposeMatchesReferenceUptoCardSaid : Prop := Claim7.holds Tryz.pinned (.plain (OpenSpec.upto disposeMatchesReferenceSpec)) disposeMatchesReferenceUptoCard

/-- THE SECOND FORM's CARD OF 'wharflaw24.DisposeCleans'. -/
def disposeCleansUptoCard : Claim7 := { stood := { row := disposeCleansUptoRow, standIns := [], harness := (true, "faf44d07bd65eab318f991a6e742b5e0145346d471b31dae52dfb4e648ddd576"), looks := true }, kinds := [], alts := [], laidByText := true, laidKinds := [.handle, .widerDeep, .data], laidTests := true, laidLooks := .later }
def DisposeCleansUptoCardSaid : Prop := Claim7.holds Tryz.pinned (.plain (OpenSpec.upto disposeCleansSpec)) disposeCleansUptoCard

/-- THE SECOND FORM's CARD OF 'wharflaw24.DisposeReports'. -/
def disposeReportsUptoCard : Claim7 := { stood := { row := disposeReportsUptoRow, standIns := [], harness := (true, "faf44d07bd65eab318f991a6e742b5e0145346d471b31dae52dfb4e648ddd576"), looks := true }, kinds := [], alts := [], laidByText := true, laidKinds := [.handle, .widerDeep, .data], laidTests := true, laidLooks := .later }
def DisposeReportsUptoCardSaid : Prop := Claim7.holds Tryz.pinned (.plain (OpenSpec.upto disposeReportsSpec)) disposeReportsUptoCard

/-- THE SECOND FORM's CARD OF 'wharflaw24.DisposeKnown'. -/
def disposeKnownUptoCard : Claim7 := { stood := { row := disposeKnownUptoRow, standIns := [], harness := (true, "faf44d07bd65eab318f991a6e742b5e0145346d471b31dae52dfb4e648ddd576"), looks := true }, kinds := [], alts := [], laidByText := true, laidKinds := [.handle, .widerDeep, .data], laidTests := true, laidLooks := .later }
def DisposeKnownUptoCardSaid : Prop := Claim7.holds Tryz.pinned (.plain (OpenSpec.upto disposeKnownSpec)) disposeKnownUptoCard

/-- THE SECOND FORM's CARD OF 'wharflaw24.DisposeBegins'. -/
def disposeBeginsUptoCard : Claim7 := { stood := { row := disposeBeginsUptoRow, standIns := [], harness := (true, "faf44d07bd65eab318f991a6e742b5e0145346d471b31dae52dfb4e648ddd576"), looks := true }, kinds := [], alts := [], laidByText := true, laidKinds := [.handle, .widerDeep, .data], laidTests := true, laidLooks := .later }
def DisposeBeginsUptoCardSaid : Prop := Claim7.holds Tryz.pinned (.plain (OpenSpec.upto disposeBeginsSpec)) disposeBeginsUptoCard
end Rows
end Go.Proofs.YtldoehmlpdpiaaaGreatDoor
