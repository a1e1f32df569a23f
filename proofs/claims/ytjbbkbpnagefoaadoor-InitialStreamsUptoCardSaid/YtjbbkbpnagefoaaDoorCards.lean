/-
  DERIVED. GIVEN WITH THE SEED: THE CARDS: each row of YtjbbkbpnagefoaaDoorRows.lean that lists a variable, with what it lists TIED to the program's text (the seventh form; the later family's looks); each row that meets fmt, with fmt's text TOLD by the authors' own Lean function (tested against real Go, not proved from fmt's source: count such statements apart). THE CARD IS WHAT COUNTS. Prove the row's statement (the work); the ties are given (YtjbbkbpnagefoaaDoorTie.lean); close each card by the builder's one call (the guide's Derived/Test/ToyasCard.lean, 'card_holds'). Laid BY PROGRAM, IN A SANDBOX (cutbox-door.mjs). By AI agents, Wed Nov 11 2026. No macro, syntax, notation, axiom, sorry.
-/
import Derived.Test.YtjbbkbpnagefoaaDoorRows
import GoSem.ClaimSeven
namespace Go.Proofs.YtjbbkbpnagefoaaDoor
namespace Rows

/-- THE TIED CARD OF 'wharflaw15.InitialStreams'. -/
def initialStreamsCard : Claim7 := { stood := { row := initialStreamsRow, standIns := [], harness := (true, "e52bdb99a5047f42f24ee6ff5a789764e728772e56f1fd177634668f14c89016"), looks := true }, kinds := [], alts := [], laidByText := true, laidKinds := [.handle, .widerDeep, .data], laidTests := true, laidLooks := .later }
def InitialStreamsCardSaid : Prop := Claim7.holds Tryd.pinned (.plain (OpenSpec.ofChange initialStreamsSpec)) initialStreamsCard

/-- THE SECOND FORM's CARD OF 'wharflaw15.InitialStreams'. -/
def initialStreamsUptoCard : Claim7 := { stood := { row := initialStreamsUptoRow, standIns := [], harness := (true, "e52bdb99a5047f42f24ee6ff5a789764e728772e56f1fd177634668f14c89016"), looks := true }, kinds := [], alts := [], laidByText := true, laidKinds := [.handle, .widerDeep, .data], laidTests := true, laidLooks := .later }
def InitialStreamsUptoCardSaid : Prop := Claim7.holds Tryd.pinned (.plain (OpenSpec.upto initialStreamsSpec)) initialStreamsUptoCard
end Rows
end Go.Proofs.YtjbbkbpnagefoaaDoor
