/-
  DERIVED. GIVEN WITH THE SEED: THE CARDS: each row of YtmcedkcehcacpaaDoorRows.lean that lists a variable, with what it lists TIED to the program's text (the seventh form; the later family's looks); each row that meets fmt, with fmt's text TOLD by the authors' own Lean function (tested against real Go, not proved from fmt's source: count such statements apart). THE CARD IS WHAT COUNTS. Prove the row's statement (the work); the ties are given (YtmcedkcehcacpaaDoorTie.lean); close each card by the builder's one call (the guide's Derived/Test/ToyasCard.lean, 'card_holds'). Laid BY PROGRAM, IN A SANDBOX (cutbox-door.mjs). By AI agents, Wed Nov 11 2026. No macro, syntax, notation, axiom, sorry.
-/
import Derived.Test.YtmcedkcehcacpaaDoorRows
import GoSem.ClaimSeven
namespace Go.Proofs.YtmcedkcehcacpaaDoor
namespace Rows

/-- THE TIED CARD OF 'wharflaw08.NodeDepths'. -/
def nodeDepthsCard : Claim7 := { stood := { row := nodeDepthsRow, standIns := [], harness := (true, "1ddb0845167e1e690310bbf06195048da30927beb62b623dbdf8b9e0a2398e62"), looks := true }, kinds := [], alts := [], laidByText := true, laidKinds := [.handle], laidTests := true, laidLooks := .later }
def NodeDepthsCardSaid : Prop := Claim7.holds Tryd.pinned (.plain (OpenSpec.ofChange nodeDepthsSpec)) nodeDepthsCard

/-- THE TIED CARD OF 'wharflaw08.NodeLimits'. -/
def nodeLimitsCard : Claim7 := { stood := { row := nodeLimitsRow, standIns := [], harness := (true, "1ddb0845167e1e690310bbf06195048da30927beb62b623dbdf8b9e0a2398e62"), looks := true }, kinds := [], alts := [], laidByText := true, laidKinds := [.handle], laidTests := true, laidLooks := .later }
def NodeLimitsCardSaid : Prop := Claim7.holds Tryd.pinned (.plain (OpenSpec.ofChange nodeLimitsSpec)) nodeLimitsCard

/-- THE TIED CARD OF 'wharflaw08.NodeWalks'. -/
def nodeWalksCard : Claim7 := { stood := { row := nodeWalksRow, standIns := [], harness := (true, "1ddb0845167e1e690310bbf06195048da30927beb62b623dbdf8b9e0a2398e62"), looks := true }, kinds := [], alts := [], laidByText := true, laidKinds := [.handle], laidTests := true, laidLooks := .later }
def NodeWalksCardSaid : Prop := Claim7.holds Tryd.pinned (.plain (OpenSpec.ofChange nodeWalksSpec)) nodeWalksCard

/-- THE TIED CARD OF 'wharflaw08.NodeSame'. -/
def nodeSameCard : Claim7 := { stood := { row := nodeSameRow, standIns := [], harness := (true, "1ddb0845167e1e690310bbf06195048da30927beb62b623dbdf8b9e0a2398e62"), looks := true }, kinds := [], alts := [], laidByText := true, laidKinds := [.handle], laidTests := true, laidLooks := .later }
def NodeSameCardSaid : Prop := Claim7.holds Tryd.pinned (.plain (OpenSpec.ofChange nodeSameSpec)) nodeSameCard

/-- THE SECOND FORM's CARD OF 'wharflaw08.NodeDepths'. -/
def nodeDepthsUptoCard : Claim7 := { stood := { row := nodeDepthsUptoRow, standIns := [], harness := (true, "1ddb0845167e1e690310bbf06195048da30927beb62b623dbdf8b9e0a2398e62"), looks := true }, kinds := [], alts := [], laidByText := true, laidKinds := [.handle], laidTests := true, laidLooks := .later }
def NodeDepthsUptoCardSaid : Prop := Claim7.holds Tryd.pinned (.plain (OpenSpec.upto nodeDepthsSpec)) nodeDepthsUptoCard

/-- THE SECOND FORM's CARD OF 'wharflaw08.NodeLimits'. -/
def nodeLimitsUptoCard : Claim7 := { stood := { row := nodeLimitsUptoRow, standIns := [], harness := (true, "1ddb0845167e1e690310bbf06195048da30927beb62b623dbdf8b9e0a2398e62"), looks := true }, kinds := [], alts := [], laidByText := true, laidKinds := [.handle], laidTests := true, laidLooks := .later }
def NodeLimitsUptoCardSaid : Prop := Claim7.holds Tryd.pinned (.plain (OpenSpec.upto nodeLimitsSpec)) nodeLimitsUptoCard

/-- THE SECOND FORM's CARD OF 'wharflaw08.NodeWalks'. -/
def nodeWalksUptoCard : Claim7 := { stood := { row := nodeWalksUptoRow, standIns := [], harness := (true, "1ddb0845167e1e690310bbf06195048da30927beb62b623dbdf8b9e0a2398e62"), looks := true }, kinds := [], alts := [], laidByText := true, laidKinds := [.handle], laidTests := true, laidLooks := .later }
def NodeWalksUptoCardSaid : Prop := Claim7.holds Tryd.pinned (.plain (OpenSpec.upto nodeWalksSpec)) nodeWalksUptoCard

/-- THE SECOND FORM's CARD OF 'wharflaw08.NodeSame'. -/
def nodeSameUptoCard : Claim7 := { stood := { row := nodeSameUptoRow, standIns := [], harness := (true, "1ddb0845167e1e690310bbf06195048da30927beb62b623dbdf8b9e0a2398e62"), looks := true }, kinds := [], alts := [], laidByText := true, laidKinds := [.handle], laidTests := true, laidLooks := .later }
def NodeSameUptoCardSaid : Prop := Claim7.holds Tryd.pinned (.plain (OpenSpec.upto nodeSameSpec)) nodeSameUptoCard
end Rows
end Go.Proofs.YtmcedkcehcacpaaDoor
