/-
  DERIVED. GIVEN WITH THE SEED: THE CARDS: each row of YtoapdhogghbojaaDoorRows.lean that lists a variable, with what it lists TIED to the program's text (the seventh form; the later family's looks); each row that meets fmt, with fmt's text TOLD by the authors' own Lean function (tested against real Go, not proved from fmt's source: count such statements apart). THE CARD IS WHAT COUNTS. Prove the row's statement (the work); the ties are given (YtoapdhogghbojaaDoorTie.lean); close each card by the builder's one call (the guide's Derived/Test/ToyasCard.lean, 'card_holds'). Laid BY PROGRAM, IN A SANDBOX (cutbox-door.mjs). By AI agents, Wed Nov 11 2026. No macro, syntax, notation, axiom, sorry.
-/
import Derived.Test.YtoapdhogghbojaaDoorRows
import GoSem.ClaimSeven
namespace Go.Proofs.YtoapdhogghbojaaDoor
namespace Rows

/-- THE TIED CARD OF 'wharflaw13.DataSplits'. -/
def dataSplitsCard : Claim7 := { stood := { row := dataSplitsRow, standIns := [], harness := (true, "542146696891394ccbba3812efc9d5256b263dcb4cc9143ebdb3d14bf83e0c75"), looks := true }, kinds := [], alts := [], laidByText := true, laidKinds := [.handle, .widerDeep, .data], laidTests := true, laidLooks := .later }
def DataSplitsCardSaid : Prop := Claim7.holds Tryd.pinned (.plain (OpenSpec.ofChange dataSplitsSpec)) dataSplitsCard

/-- THE TIED CARD OF 'wharflaw13.DataJoins'. -/
def dataJoinsCard : Claim7 := { stood := { row := dataJoinsRow, standIns := [], harness := (true, "542146696891394ccbba3812efc9d5256b263dcb4cc9143ebdb3d14bf83e0c75"), looks := true }, kinds := [], alts := [], laidByText := true, laidKinds := [.handle, .widerDeep, .data], laidTests := true, laidLooks := .later }
def DataJoinsCardSaid : Prop := Claim7.holds Tryd.pinned (.plain (OpenSpec.ofChange dataJoinsSpec)) dataJoinsCard

/-- THE TIED CARD OF 'wharflaw13.DataMost'. -/
def dataMostCard : Claim7 := { stood := { row := dataMostRow, standIns := [], harness := (true, "542146696891394ccbba3812efc9d5256b263dcb4cc9143ebdb3d14bf83e0c75"), looks := true }, kinds := [], alts := [], laidByText := true, laidKinds := [.handle, .widerDeep, .data], laidTests := true, laidLooks := .later }
def DataMostCardSaid : Prop := Claim7.holds Tryd.pinned (.plain (OpenSpec.ofChange dataMostSpec)) dataMostCard

/-- THE SECOND FORM's CARD OF 'wharflaw13.DataSplits'. -/
def dataSplitsUptoCard : Claim7 := { stood := { row := dataSplitsUptoRow, standIns := [], harness := (true, "542146696891394ccbba3812efc9d5256b263dcb4cc9143ebdb3d14bf83e0c75"), looks := true }, kinds := [], alts := [], laidByText := true, laidKinds := [.handle, .widerDeep, .data], laidTests := true, laidLooks := .later }
def DataSplitsUptoCardSaid : Prop := Claim7.holds Tryd.pinned (.plain (OpenSpec.upto dataSplitsSpec)) dataSplitsUptoCard

/-- THE SECOND FORM's CARD OF 'wharflaw13.DataJoins'. -/
def dataJoinsUptoCard : Claim7 := { stood := { row := dataJoinsUptoRow, standIns := [], harness := (true, "542146696891394ccbba3812efc9d5256b263dcb4cc9143ebdb3d14bf83e0c75"), looks := true }, kinds := [], alts := [], laidByText := true, laidKinds := [.handle, .widerDeep, .data], laidTests := true, laidLooks := .later }
def DataJoinsUptoCardSaid : Prop := Claim7.holds Tryd.pinned (.plain (OpenSpec.upto dataJoinsSpec)) dataJoinsUptoCard

/-- THE SECOND FORM's CARD OF 'wharflaw13.DataMost'. -/
def dataMostUptoCard : Claim7 := { stood := { row := dataMostUptoRow, standIns := [], harness := (true, "542146696891394ccbba3812efc9d5256b263dcb4cc9143ebdb3d14bf83e0c75"), looks := true }, kinds := [], alts := [], laidByText := true, laidKinds := [.handle, .widerDeep, .data], laidTests := true, laidLooks := .later }
def DataMostUptoCardSaid : Prop := Claim7.holds Tryd.pinned (.plain (OpenSpec.upto dataMostSpec)) dataMostUptoCard
end Rows
end Go.Proofs.YtoapdhogghbojaaDoor
