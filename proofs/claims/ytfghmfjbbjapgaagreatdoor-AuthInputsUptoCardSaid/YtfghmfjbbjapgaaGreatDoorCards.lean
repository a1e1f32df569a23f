/-
  DERIVED. GIVEN WITH THE SEED: THE CARDS: each row of YtfghmfjbbjapgaaGreatDoorRows.lean that lists a variable, with what it lists TIED to the program's text (the seventh form; the later family's looks); each row that meets fmt, with fmt's text TOLD by the authors' own Lean function (tested against real Go, not proved from fmt's source: count such statements apart). THE CARD IS WHAT COUNTS. Prove the row's statement (the work); the ties are given (YtfghmfjbbjapgaaGreatDoorTie.lean); close each card by the builder's one call (the guide's Derived/Test/ToyasCard.lean, 'card_holds'). Laid BY PROGRAM, IN A SANDBOX (cutbox-door.mjs). By AI agents, Wed Nov 11 2026. No macro, syntax, notation, axiom, sorry.
-/
import Derived.Test.YtfghmfjbbjapgaaGreatDoorRows
import GoSem.ClaimSeven
namespace Go.Proofs.YtfghmfjbbjapgaaGreatDoor
namespace Rows

/-- THE TIED CARD OF 'wharflaw17.StreamReads'. -/
def streamReadsCard : Claim7 := { stood := { row := streamReadsRow, standIns := [], harness := (true, "37d7d0bcdff4787221caa46881d3083f79ea897cb30bb55a171208db66fa3dcf"), looks := true }, kinds := [], alts := [], laidByText := true, laidKinds := [.handle, .widerDeep, .data], laidTests := true, laidLooks := .later }
def StreamReadsCardSaid : Prop := Claim7.holds Tryz.pinned (.plain (OpenSpec.ofChange streamReadsSpec)) streamReadsCard

/-- THE TIED CARD OF 'wharflaw17.StreamMakes'. -/
def streamMakesCard : Claim7 := { stood := { row := streamMakesRow, standIns := [], harness := (true, "37d7d0bcdff4787221caa46881d3083f79ea897cb30bb55a171208db66fa3dcf"), looks := true }, kinds := [], alts := [], laidByText := true, laidKinds := [.handle, .widerDeep, .data], laidTests := true, laidLooks := .later }
def StreamMakesCardSaid : Prop := Claim7.holds Tryz.pinned (.plain (OpenSpec.ofChange streamMakesSpec)) streamMakesCard

/-- THE TIED CARD OF 'wharflaw17.StreamAnswers'. -/
def streamAnswersCard : Claim7 := { stood := { row := streamAnswersRow, standIns := [], harness := (true, "37d7d0bcdff4787221caa46881d3083f79ea897cb30bb55a171208db66fa3dcf"), looks := true }, kinds := [], alts := [], laidByText := true, laidKinds := [.handle, .widerDeep, .data], laidTests := true, laidLooks := .later }
def StreamAnswersCardSaid : Prop := Claim7.holds Tryz.pinned (.plain (OpenSpec.ofChange streamAnswersSpec)) streamAnswersCard

/-- THE TIED CARD OF 'wharflaw17.StreamMore'. -/
def streamMoreCard : Claim7 := { stood := { row := streamMoreRow, standIns := [], harness := (true, "37d7d0bcdff4787221caa46881d3083f79ea897cb30bb55a171208db66fa3dcf"), looks := true }, kinds := [], alts := [], laidByText := true, laidKinds := [.handle, .widerDeep, .data], laidTests := true, laidLooks := .later }
def StreamMoreCardSaid : Prop := Claim7.holds Tryz.pinned (.plain (OpenSpec.ofChange streamMoreSpec)) streamMoreCard

/-- THE TIED CARD OF 'wharflaw17.StreamMatchesReference'. -/
def streamMatchesReferenceCard : Claim7 := { stood := { row := streamMatchesReferenceRow, standIns := [], harness := (true, "37d7d0bcdff4787221caa46881d3083f79ea897cb30bb55a171208db66fa3dcf"), looks := true }, kinds := [], alts := [], laidByText := true, laidKinds := [.handle, .widerDeep, .data], laidTests := true, laidLooks := .later }
def StreamMatchesReferenceCardSaid : Prop := Claim7.holds Tryz.pinned (.plain (OpenSpec.ofChange streamMatchesReferenceSpec)) streamMatchesReferenceCard

/-- THE TIED CARD OF 'wharflaw19.AuthChunks'. -/
def authChunksCard : Claim7 := { stood := { row := authChunksRow, standIns := [], harness := (true, "37d7d0bcdff4787221caa46881d3083f79ea897cb30bb55a171208db66fa3dcf"), looks := true }, kinds := [], alts := [], laidByText := true, laidKinds := [.handle, .widerDeep, .data], laidTests := true, laidLooks := .later }
def AuthChunksCardSaid : Prop := Claim7.holds Tryz.pinned (.plain (OpenSpec.ofChange authChunksSpec)) authChunksCard

/-- THE TIED CARD OF 'wharflaw19.AuthInputs'. -/
def authInputsCard : Claim7 := { stood := { row := authInputsRow, standIns := [], harness := (true, "37d7d0bcdff4787221caa46881d3083f79ea897cb30bb55a171208db66fa3dcf"), looks := true }, kinds := [], alts := [], laidByText := true, laidKinds := [.handle, .widerDeep, .data], laidTests := true, laidLooks := .later }
def AuthInputsCardSaid : Prop := Claim7.holds Tryz.pinned (.plain (OpenSpec.ofChange authInputsSpec)) authInputsCard

/-- THE SECOND FORM's CARD OF 'wharflaw17.StreamReads'. -/
def streamReadsUptoCard : Claim7 := { stood := { row := streamReadsUptoRow, standIns := [], harness := (true, "37d7d0bcdff4787221caa46881d3083f79ea897cb30bb55a171208db66fa3dcf"), looks := true }, kinds := [], alts := [], laidByText := true, laidKinds := [.handle, .widerDeep, .data], laidTests := true, laidLooks := .later }
def StreamReadsUptoCardSaid : Prop := Claim7.holds Tryz.pinned (.plain (OpenSpec.upto streamReadsSpec)) streamReadsUptoCard

/-- THE SECOND FORM's CARD OF 'wharflaw17.StreamMakes'. -/
def streamMakesUptoCard : Claim7 := { stood := { row := streamMakesUptoRow, standIns := [], harness := (true, "37d7d0bcdff4787221caa46881d3083f79ea897cb30bb55a171208db66fa3dcf"), looks := true }, kinds := [], alts := [], laidByText := true, laidKinds := [.handle, .widerDeep, .data], laidTests := true, laidLooks := .later }
def StreamMakesUptoCardSaid : Prop := Claim7.holds Tryz.pinned (.plain (OpenSpec.upto streamMakesSpec)) streamMakesUptoCard

/-- THE SECOND FORM's CARD OF 'wharflaw17.StreamAnswers'. -/
def streamAnswersUptoCard : Claim7 := { stood := { row := streamAnswersUptoRow, standIns := [], harness := (true, "37d7d0bcdff4787221caa46881d3083f79ea897cb30bb55a171208db66fa3dcf"), looks := true }, kinds := [], alts := [], laidByText := true, laidKinds := [.handle, .widerDeep, .data], laidTests := true, laidLooks := .later }
def StreamAnswersUptoCardSaid : Prop := Claim7.holds Tryz.pinned (.plain (OpenSpec.upto streamAnswersSpec)) streamAnswersUptoCard

/-- THE SECOND FORM's CARD OF 'wharflaw17.StreamMore'. -/
def streamMoreUptoCard : Claim7 := { stood := { row := streamMoreUptoRow, standIns := [], harness := (true, "37d7d0bcdff4787221caa46881d3083f79ea897cb30bb55a171208db66fa3dcf"), looks := true }, kinds := [], alts := [], laidByText := true, laidKinds := [.handle, .widerDeep, .data], laidTests := true, laidLooks := .later }
def StreamMoreUptoCardSaid : Prop := Claim7.holds Tryz.pinned (.plain (OpenSpec.upto streamMoreSpec)) streamMoreUptoCard

/-- THE SECOND FORM's CARD OF 'wharflaw17.StreamMatchesReference'. -/
def streamMatchesReferenceUptoCard : Claim7 := { stood := { row := streamMatchesReferenceUptoRow, standIns := [], harness := (true, "37d7d0bcdff4787221caa46881d3083f79ea897cb30bb55a171208db66fa3dcf"), looks := true }, kinds := [], alts := [], laidByText := true, laidKinds := [.handle, .widerDeep, .data], laidTests := true, laidLooks := .later }
def StreamMatchesReferenceUptoCardSaid : Prop := Claim7.holds Tryz.pinned (.plain (OpenSpec.upto streamMatchesReferenceSpec)) streamMatchesReferenceUptoCard

/-- THE SECOND FORM's CARD OF 'wharflaw19.AuthChunks'. -/
def authChunksUptoCard : Claim7 := { stood := { row := authChunksUptoRow, standIns := [], harness := (true, "37d7d0bcdff4787221caa46881d3083f79ea897cb30bb55a171208db66fa3dcf"), looks := true }, kinds := [], alts := [], laidByText := true, laidKinds := [.handle, .widerDeep, .data], laidTests := true, laidLooks := .later }
def AuthChunksUptoCardSaid : Prop := Claim7.holds Tryz.pinned (.plain (OpenSpec.upto authChunksSpec)) authChunksUptoCard

/-- THE SECOND FORM's CARD OF 'wharflaw19.AuthInputs'. -/
def authInputsUptoCard : Claim7 := { stood := { row := authInputsUptoRow, standIns := [], harness := (true, "37d7d0bcdff4787221caa46881d3083f79ea897cb30bb55a171208db66fa3dcf"), looks := true }, kinds := [], alts := [], laidByText := true, laidKinds := [.handle, .widerDeep, .data], laidTests := true, laidLooks := .later }
def AuthInputsUptoCardSaid : Prop := Claim7.holds Tryz.pinned (.plain (OpenSpec.upto authInputsSpec)) authInputsUptoCard
end Rows
end Go.Proofs.YtfghmfjbbjapgaaGreatDoor
