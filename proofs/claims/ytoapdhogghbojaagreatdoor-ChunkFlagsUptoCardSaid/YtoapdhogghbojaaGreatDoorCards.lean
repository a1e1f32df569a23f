/-
  DERIVED. GIVEN WITH THE SEED: THE CARDS: each row of YtoapdhogghbojaaGreatDoorRows.lean that lists a variable, with what it lists TIED to the program's text (the seventh form; the later family's looks); each row that meets fmt, with fmt's text TOLD by the authors' own Lean function (tested against real Go, not proved from fmt's source: count such statements apart). THE CARD IS WHAT COUNTS. Prove the row's statement (the work); the ties are given (YtoapdhogghbojaaGreatDoorTie.lean); close each card by the builder's one call (the guide's Derived/Test/ToyasCard.lean, 'card_holds'). Laid BY PROGRAM, IN A SANDBOX (cutbox-door.mjs). By AI agents, Wed Nov 11 2026. No macro, syntax, notation, axiom, sorry.
-/
import Derived.Test.YtoapdhogghbojaaGreatDoorRows
import GoSem.ClaimSeven
namespace Go.Proofs.YtoapdhogghbojaaGreatDoor
namespace Rows

/-- THE TIED CARD OF 'wharflaw13.DataMatchesReference'. -/
def dataMatchesReferenceCard : Claim7 := { stood := { row := dataMatchesReferenceRow, standIns := [], harness := (true, "9ccc4a848044280fb1b1df5bb1406fead3f7307c1423e773b543cae8ae53fe2d"), looks := true }, kinds := [], alts := [], laidByText := true, laidKinds := [.handle, .widerDeep, .data], laidTests := true, laidLooks := .later }
def DataMatchesReferenceCardSaid : Prop := Claim7.holds Tryz.pinned (.plain (OpenSpec.ofChange dataMatchesReferenceSpec)) dataMatchesReferenceCard

/-- THE TIED CARD OF 'wharflaw13.DataChunks'. -/
def dataChunksCard : Claim7 := { stood := { row := dataChunksRow, standIns := [], harness := (true, "9ccc4a848044280fb1b1df5bb1406fead3f7307c1423e773b543cae8ae53fe2d"), looks := true }, kinds := [], alts := [], laidByText := true, laidKinds := [.handle, .widerDeep, .data], laidTests := true, laidLooks := .later }
def DataChunksCardSaid : Prop := Claim7.holds Tryz.pinned (.plain (OpenSpec.ofChange dataChunksSpec)) dataChunksCard

/-- THE TIED CARD OF 'wharflaw12.ChunkMatchesReference'. -/
def chunkMatchesReferenceCard : Claim7 := { stood := { row := chunkMatchesReferenceRow, standIns := [], harness := (true, "9ccc4a848044280fb1b1df5bb1406fead3f7307c1423e773b543cae8ae53fe2d"), looks := true }, kinds := [], alts := [], laidByText := true, laidKinds := [.handle, .widerDeep, .data], laidTests := true, laidLooks := .later }
def ChunkMatchesReferenceCardSaid : Prop := Claim7.holds Tryz.pinned (.plain (OpenSpec.ofChange chunkMatchesReferenceSpec)) chunkMatchesReferenceCard

/-- THE TIED CARD OF 'wharflaw12.ChunkParses'. -/
def chunkParsesCard : Claim7 := { stood := { row := chunkParsesRow, standIns := [], harness := (true, "9ccc4a848044280fb1b1df5bb1406fead3f7307c1423e773b543cae8ae53fe2d"), looks := true }, kinds := [], alts := [], laidByText := true, laidKinds := [.handle, .widerDeep, .data], laidTests := true, laidLooks := .later }
def ChunkParsesCardSaid : Prop := Claim7.holds Tryz.pinned (.plain (OpenSpec.ofChange chunkParsesSpec)) chunkParsesCard

/-- THE TIED CARD OF 'wharflaw12.ChunkUnknown'. -/
def chunkUnknownCard : Claim7 := { stood := { row := chunkUnknownRow, standIns := [], harness := (true, "9ccc4a848044280fb1b1df5bb1406fead3f7307c1423e773b543cae8ae53fe2d"), looks := true }, kinds := [], alts := [], laidByText := true, laidKinds := [.handle, .widerDeep, .data], laidTests := true, laidLooks := .later }
def ChunkUnknownCardSaid : Prop := Claim7.holds Tryz.pinned (.plain (OpenSpec.ofChange chunkUnknownSpec)) chunkUnknownCard

/-- THE TIED CARD OF 'wharflaw12.ChunkCopies'. -/
def chunkCopiesCard : Claim7 := { stood := { row := chunkCopiesRow, standIns := [], harness := (true, "9ccc4a848044280fb1b1df5bb1406fead3f7307c1423e773b543cae8ae53fe2d"), looks := true }, kinds := [], alts := [], laidByText := true, laidKinds := [.handle, .widerDeep, .data], laidTests := true, laidLooks := .later }
def ChunkCopiesCardSaid : Prop := Claim7.holds Tryz.pinned (.plain (OpenSpec.ofChange chunkCopiesSpec)) chunkCopiesCard

/-- THE TIED CARD OF 'wharflaw12.ChunkFlags'. -/
def chunkFlagsCard : Claim7 := { stood := { row := chunkFlagsRow, standIns := [], harness := (true, "9ccc4a848044280fb1b1df5bb1406fead3f7307c1423e773b543cae8ae53fe2d"), looks := true }, kinds := [], alts := [], laidByText := true, laidKinds := [.handle, .widerDeep, .data], laidTests := true, laidLooks := .later }
def ChunkFlagsCardSaid : Prop := Claim7.holds Tryz.pinned (.plain (OpenSpec.ofChange chunkFlagsSpec)) chunkFlagsCard

/-- THE SECOND FORM's CARD OF 'wharflaw13.DataMatchesReference'. -/
def dataMatchesReferenceUptoCard : Claim7 := { stood := { row := dataMatchesReferenceUptoRow, standIns := [], harness := (true, "9ccc4a848044280fb1b1df5bb1406fead3f7307c1423e773b543cae8ae53fe2d"), looks := true }, kinds := [], alts := [], laidByText := true, laidKinds := [.handle, .widerDeep, .data], laidTests := true, laidLooks := .later }
def DataMatchesReferenceUptoCardSaid : Prop := Claim7.holds Tryz.pinned (.plain (OpenSpec.upto dataMatchesReferenceSpec)) dataMatchesReferenceUptoCard

/-- THE SECOND FORM's CARD OF 'wharflaw13.DataChunks'. -/
def dataChunksUptoCard : Claim7 := { stood := { row := dataChunksUptoRow, standIns := [], harness := (true, "9ccc4a848044280fb1b1df5bb1406fead3f7307c1423e773b543cae8ae53fe2d"), looks := true }, kinds := [], alts := [], laidByText := true, laidKinds := [.handle, .widerDeep, .data], laidTests := true, laidLooks := .later }
def DataChunksUptoCardSaid : Prop := Claim7.holds Tryz.pinned (.plain (OpenSpec.upto dataChunksSpec)) dataChunksUptoCard

/-- THE SECOND FORM's CARD OF 'wharflaw12.ChunkMatchesReference'. -/
def chunkMatchesReferenceUptoCard : Claim7 := { stood := { row := chunkMatchesReferenceUptoRow, standIns := [], harness := (true, "9ccc4a848044280fb1b1df5bb1406fead3f7307c1423e773b543cae8ae53fe2d"), looks := true }, kinds := [], alts := [], laidByText := true, laidKinds := [.handle, .widerDeep, .data], laidTests := true, laidLooks := .later }
def ChunkMatchesReferenceUptoCardSaid : Prop := Claim7.holds Tryz.pinned (.plain (OpenSpec.upto chunkMatchesReferenceSpec)) chunkMatchesReferenceUptoCard

/-- THE SECOND FORM's CARD OF 'wharflaw12.ChunkParses'. -/
def chunkParsesUptoCard : Claim7 := { stood := { row := chunkParsesUptoRow, standIns := [], harness := (true, "9ccc4a848044280fb1b1df5bb1406fead3f7307c1423e773b543cae8ae53fe2d"), looks := true }, kinds := [], alts := [], laidByText := true, laidKinds := [.handle, .widerDeep, .data], laidTests := true, laidLooks := .later }
def ChunkParsesUptoCardSaid : Prop := Claim7.holds Tryz.pinned (.plain (OpenSpec.upto chunkParsesSpec)) chunkParsesUptoCard

/-- THE SECOND FORM's CARD OF 'wharflaw12.ChunkUnknown'. -/
def chunkUnknownUptoCard : Claim7 := { stood := { row := chunkUnknownUptoRow, standIns := [], harness := (true, "9ccc4a848044280fb1b1df5bb1406fead3f7307c1423e773b543cae8ae53fe2d"), looks := true }, kinds := [], alts := [], laidByText := true, laidKinds := [.handle, .widerDeep, .data], laidTests := true, laidLooks := .later }
def ChunkUnknownUptoCardSaid : Prop := Claim7.holds Tryz.pinned (.plain (OpenSpec.upto chunkUnknownSpec)) chunkUnknownUptoCard

/-- THE SECOND FORM's CARD OF 'wharflaw12.ChunkCopies'. -/
def chunkCopiesUptoCard : Claim7 := { stood := { row := chunkCopiesUptoRow, standIns := [], harness := (true, "9ccc4a848044280fb1b1df5bb1406fead3f7307c1423e773b543cae8ae53fe2d"), looks := true }, kinds := [], alts := [], laidByText := true, laidKinds := [.handle, .widerDeep, .data], laidTests := true, laidLooks := .later }
def ChunkCopiesUptoCardSaid : Prop := Claim7.holds Tryz.pinned (.plain (OpenSpec.upto chunkCopiesSpec)) chunkCopiesUptoCard

/-- THE SECOND FORM's CARD OF 'wharflaw12.ChunkFlags'. -/
def chunkFlagsUptoCard : Claim7 := { stood := { row := chunkFlagsUptoRow, standIns := [], harness := (true, "9ccc4a848044280fb1b1df5bb1406fead3f7307c1423e773b543cae8ae53fe2d"), looks := true }, kinds := [], alts := [], laidByText := true, laidKinds := [.handle, .widerDeep, .data], laidTests := true, laidLooks := .later }
def ChunkFlagsUptoCardSaid : Prop := Claim7.holds Tryz.pinned (.plain (OpenSpec.upto chunkFlagsSpec)) chunkFlagsUptoCard
end Rows
end Go.Proofs.YtoapdhogghbojaaGreatDoor
