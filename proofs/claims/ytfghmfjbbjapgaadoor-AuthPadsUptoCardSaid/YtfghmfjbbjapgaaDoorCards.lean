/-
  DERIVED. GIVEN WITH THE SEED: THE CARDS: each row of YtfghmfjbbjapgaaDoorRows.lean that lists a variable, with what it lists TIED to the program's text (the seventh form; the later family's looks); each row that meets fmt, with fmt's text TOLD by the authors' own Lean function (tested against real Go, not proved from fmt's source: count such statements apart). THE CARD IS WHAT COUNTS. Prove the row's statement (the work); the ties are given (YtfghmfjbbjapgaaDoorTie.lean); close each card by the builder's one call (the guide's Derived/Test/ToyasCard.lean, 'card_holds'). Laid BY PROGRAM, IN A SANDBOX (cutbox-door.mjs). By AI agents, Wed Nov 11 2026. No macro, syntax, notation, axiom, sorry.
-/
import Derived.Test.YtfghmfjbbjapgaaDoorRows
import GoSem.ClaimSeven
namespace Go.Proofs.YtfghmfjbbjapgaaDoor
namespace Rows

/-- THE TIED CARD OF 'wharflaw19.AuthMatchesReference'. -/
def authMatchesReferenceCard : Claim7 := { stood := { row := authMatchesReferenceRow, standIns := [], harness := (true, "37a5618f9d4cef4a3efb113586e507a8da85e9aca5b77c3412530814f8813447"), looks := true }, kinds := [], alts := [], laidByText := true, laidKinds := [.handle, .widerDeep, .data], laidTests := true, laidLooks := .later }
def AuthMatchesReferenceCardSaid : Prop := Claim7.holds Tryd.pinned (.plain (OpenSpec.ofChange authMatchesReferenceSpec)) authMatchesReferenceCard

/-- THE TIED CARD OF 'wharflaw19.AuthNeeds'. -/
def authNeedsCard : Claim7 := { stood := { row := authNeedsRow, standIns := [], harness := (true, "37a5618f9d4cef4a3efb113586e507a8da85e9aca5b77c3412530814f8813447"), looks := true }, kinds := [], alts := [], laidByText := true, laidKinds := [.handle, .widerDeep, .data], laidTests := true, laidLooks := .later }
def AuthNeedsCardSaid : Prop := Claim7.holds Tryd.pinned (.plain (OpenSpec.ofChange authNeedsSpec)) authNeedsCard

/-- THE TIED CARD OF 'wharflaw19.AuthPads'. -/
def authPadsCard : Claim7 := { stood := { row := authPadsRow, standIns := [], harness := (true, "37a5618f9d4cef4a3efb113586e507a8da85e9aca5b77c3412530814f8813447"), looks := true }, kinds := [], alts := [], laidByText := true, laidKinds := [.handle, .widerDeep, .data], laidTests := true, laidLooks := .later }
def AuthPadsCardSaid : Prop := Claim7.holds Tryd.pinned (.plain (OpenSpec.ofChange authPadsSpec)) authPadsCard

/-- THE SECOND FORM's CARD OF 'wharflaw19.AuthMatchesReference'. -/
def authMatchesReferenceUptoCard : Claim7 := { stood := { row := authMatchesReferenceUptoRow, standIns := [], harness := (true, "37a5618f9d4cef4a3efb113586e507a8da85e9aca5b77c3412530814f8813447"), looks := true }, kinds := [], alts := [], laidByText := true, laidKinds := [.handle, .widerDeep, .data], laidTests := true, laidLooks := .later }
def AuthMatchesReferenceUptoCardSaid : Prop := Claim7.holds Tryd.pinned (.plain (OpenSpec.upto authMatchesReferenceSpec)) authMatchesReferenceUptoCard

/-- THE SECOND FORM's CARD OF 'wharflaw19.AuthNeeds'. -/
def authNeedsUptoCard : Claim7 := { stood := { row := authNeedsUptoRow, standIns := [], harness := (true, "37a5618f9d4cef4a3efb113586e507a8da85e9aca5b77c3412530814f8813447"), looks := true }, kinds := [], alts := [], laidByText := true, laidKinds := [.handle, .widerDeep, .data], laidTests := true, laidLooks := .later }
def AuthNeedsUptoCardSaid : Prop := Claim7.holds Tryd.pinned (.plain (OpenSpec.upto authNeedsSpec)) authNeedsUptoCard

/-- THE SECOND FORM's CARD OF 'wharflaw19.AuthPads'. -/
def authPadsUptoCard : Claim7 := { stood := { row := authPadsUptoRow, standIns := [], harness := (true, "37a5618f9d4cef4a3efb113586e507a8da85e9aca5b77c3412530814f8813447"), looks := true }, kinds := [], alts := [], laidByText := true, laidKinds := [.handle, .widerDeep, .data], laidTests := true, laidLooks := .later }
def AuthPadsUptoCardSaid : Prop := Claim7.holds Tryd.pinned (.plain (OpenSpec.upto authPadsSpec)) authPadsUptoCard
end Rows
end Go.Proofs.YtfghmfjbbjapgaaDoor
