/-
  DERIVED. GIVEN WITH THE SEED: THE CARDS: each row of YtmcedkcehcacpaaGreatDoorRows.lean that lists a variable, with what it lists TIED to the program's text (the seventh form; the later family's looks); each row that meets fmt, with fmt's text TOLD by the authors' own Lean function (tested against real Go, not proved from fmt's source: count such statements apart). THE CARD IS WHAT COUNTS. Prove the row's statement (the work); the ties are given (YtmcedkcehcacpaaGreatDoorTie.lean); close each card by the builder's one call (the guide's Derived/Test/ToyasCard.lean, 'card_holds'). Laid BY PROGRAM, IN A SANDBOX (cutbox-door.mjs). By AI agents, Wed Nov 11 2026. No macro, syntax, notation, axiom, sorry.
-/
import Derived.Test.YtmcedkcehcacpaaGreatDoorRows
import GoSem.ClaimSeven
namespace Go.Proofs.YtmcedkcehcacpaaGreatDoor
namespace Rows

/-- THE TIED CARD OF 'wharflaw08.NodeMatchesReference'. -/
def nodeMatchesReferenceCard : Claim7 := { stood := { row := nodeMatchesReferenceRow, standIns := [], harness := (true, "1ff8bf0a7fd21489f66b5abc21e81da34b1c6afc5343bc4fb7d899f799b72822"), looks := true }, kinds := [], alts := [], laidByText := true, laidKinds := [.handle], laidTests := true, laidLooks := .later }
def NodeMatchesReferenceCardSaid : Prop := Claim7.holds Tryz.pinned (.plain (OpenSpec.ofChange nodeMatchesReferenceSpec)) nodeMatchesReferenceCard

/-- THE TIED CARD OF 'wharflaw08.NodeParses'. -/
def nodeParsesCard : Claim7 := { stood := { row := nodeParsesRow, standIns := [], harness := (true, "1ff8bf0a7fd21489f66b5abc21e81da34b1c6afc5343bc4fb7d899f799b72822"), looks := true }, kinds := [], alts := [], laidByText := true, laidKinds := [.handle], laidTests := true, laidLooks := .later }
def NodeParsesCardSaid : Prop := Claim7.holds Tryz.pinned (.plain (OpenSpec.ofChange nodeParsesSpec)) nodeParsesCard

/-- THE SECOND FORM's CARD OF 'wharflaw08.NodeMatchesReference'. -/
def nodeMatchesReferenceUptoCard : Claim7 := { stood := { row := nodeMatchesReferenceUptoRow, standIns := [], harness := (true, "1ff8bf0a7fd21489f66b5abc21e81da34b1c6afc5343bc4fb7d899f799b72822"), looks := true }, kinds := [], alts := [], laidByText := true, laidKinds := [.handle], laidTests := true, laidLooks := .later }
def NodeMatchesReferenceUptoCardSaid : Prop := Claim7.holds Tryz.pinned (.plain (OpenSpec.upto nodeMatchesReferenceSpec)) nodeMatchesReferenceUptoCard

/-- THE SECOND FORM's CARD OF 'wharflaw08.NodeParses'. -/
def nodeParsesUptoCard : Claim7 := { stood := { row := nodeParsesUptoRow, standIns := [], harness := (true, "1ff8bf0a7fd21489f66b5abc21e81da34b1c6afc5343bc4fb7d899f799b72822"), looks := true }, kinds := [], alts := [], laidByText := true, laidKinds := [.handle], laidTests := true, laidLooks := .later }
def NodeParsesUptoCardSaid : Prop := Claim7.holds Tryz.pinned (.plain (OpenSpec.upto nodeParsesSpec)) nodeParsesUptoCard
end Rows
end Go.Proofs.YtmcedkcehcacpaaGreatDoor
