/-
  NARROWER THAN 'FOR EVERY INPUT', by the rows' own cells (each row's printed sentence says how): ControlMatchesReference: laid · ControlReads: loops, laid · ControlAnswers: loops, laid · ControlCauses: loops, laid · InitialMatchesReference: loops, laid · InitialChunks: loops, laid · InitialCookies: loops, laid · InitialParams: loops, laid.
  DERIVED. THE GIVEN ROWS OF THIS SEAT. 8 by the template 'for every input the law returns true; each argument reads behind the call as it read before'; 0 by the template 'total and deterministic' (their statements: YtjbbkbpnagefoaaGreatDoorTotals.lean).
  GIVEN WITH THE SEED: the statements are not yours to turn. If you find one false, say at which input.
  Laid BY PROGRAM, IN A SANDBOX (cutbox-rows.mjs): the forced cells as the released guide's own fill.sh prints them over the translation 7314d562ce1a0007… (all of the seat's roots in one cut). By AI agents, Wed Nov 11 2026. No macro, syntax, notation, axiom, sorry.
-/
import Derived.Test.YtjbbkbpnagefoaaGreatDoorChecked
import GoSem.Claim
import GoSem.ClaimJoined
import GoSem.ClaimMapViews
import Derived.JoinedTies
import Derived.KernelRfl
namespace Go.Proofs.YtjbbkbpnagefoaaGreatDoor
/- THE CELL 'sum', in the pinned program and in every row, IS THE sha256 OF THE DUMP (.gsa) THAT YtjbbkbpnagefoaaGreatDoorProg.lean LOADS. Nothing in Lean hashes anything: it is a label: what it is worth is what the hold of that sum in a sandbox is worth. -/
noncomputable def Tryz.pinned : Pinned := { name := "ytjbbkbpnagefoaagreatdoor", sum := "7314d562ce1a0007d8673d993297f1c4fb4cb641433a9c7830e6077580baee09", checked := Tryz.checked }
namespace Rows
def none {H : Type} : Left H := { results := [], args := [] }

/- WHAT THE LISTED PACKAGE-LEVEL VARIABLES READ AS WHEN THE CALL BEGINS. Each datum BY PROGRAM (the guide's laid-datum.mjs) off the statement by which the dump's own 'gosem.cut.vars' lays the variable. In a bare row this is a premise. The card (YtjbbkbpnagefoaaGreatDoorCards.lean) ties it to the program's text. -/
def laid_errors_errorType {H : Type} : DataW H := .iface "internal/reflectlite.rtype" (.agg [.ptr (.lit (.string [101, 114, 114, 111, 114]))])
def laid_wharf_kind_table {H : Type} : DataW H := .agg [.agg [.lit (.int .u8 0), .lit (.string [100, 97, 116, 97]), .lit (.int .u8 15), .lit (.int .i64 13), .lit (.int .i64 65531), .lit (.int .i64 1), .lit (.int .i64 0)], .agg [.lit (.int .u8 1), .lit (.string [105, 110, 105, 116]), .lit (.int .u8 0), .lit (.int .i64 16), .lit (.int .i64 16), .lit (.int .i64 1), .lit (.int .i64 2)], .agg [.lit (.int .u8 2), .lit (.string [105, 110, 105, 116, 45, 97, 99, 107]), .lit (.int .u8 0), .lit (.int .i64 16), .lit (.int .i64 16), .lit (.int .i64 1), .lit (.int .i64 2)], .agg [.lit (.int .u8 3), .lit (.string [115, 97, 99, 107]), .lit (.int .u8 0), .lit (.int .i64 12), .lit (.int .i64 65531), .lit (.int .i64 4), .lit (.int .i64 0)], .agg [.lit (.int .u8 4), .lit (.string [104, 101, 97, 114, 116, 98, 101, 97, 116]), .lit (.int .u8 0), .lit (.int .i64 0), .lit (.int .i64 0), .lit (.int .i64 1), .lit (.int .i64 1)], .agg [.lit (.int .u8 5), .lit (.string [104, 101, 97, 114, 116, 98, 101, 97, 116, 45, 97, 99, 107]), .lit (.int .u8 0), .lit (.int .i64 0), .lit (.int .i64 0), .lit (.int .i64 1), .lit (.int .i64 1)], .agg [.lit (.int .u8 6), .lit (.string [97, 98, 111, 114, 116]), .lit (.int .u8 1), .lit (.int .i64 0), .lit (.int .i64 0), .lit (.int .i64 1), .lit (.int .i64 3)], .agg [.lit (.int .u8 7), .lit (.string [115, 104, 117, 116, 100, 111, 119, 110]), .lit (.int .u8 0), .lit (.int .i64 4), .lit (.int .i64 4), .lit (.int .i64 1), .lit (.int .i64 0)], .agg [.lit (.int .u8 8), .lit (.string [115, 104, 117, 116, 100, 111, 119, 110, 45, 97, 99, 107]), .lit (.int .u8 0), .lit (.int .i64 0), .lit (.int .i64 0), .lit (.int .i64 1), .lit (.int .i64 0)], .agg [.lit (.int .u8 9), .lit (.string [101, 114, 114, 111, 114]), .lit (.int .u8 0), .lit (.int .i64 0), .lit (.int .i64 0), .lit (.int .i64 1), .lit (.int .i64 4)], .agg [.lit (.int .u8 10), .lit (.string [99, 111, 111, 107, 105, 101, 45, 101, 99, 104, 111]), .lit (.int .u8 0), .lit (.int .i64 1), .lit (.int .i64 65531), .lit (.int .i64 1), .lit (.int .i64 0)], .agg [.lit (.int .u8 11), .lit (.string [99, 111, 111, 107, 105, 101, 45, 97, 99, 107]), .lit (.int .u8 0), .lit (.int .i64 0), .lit (.int .i64 0), .lit (.int .i64 1), .lit (.int .i64 0)], .agg [.lit (.int .u8 12), .lit (.string [101, 99, 110, 101]), .lit (.int .u8 0), .lit (.int .i64 4), .lit (.int .i64 4), .lit (.int .i64 1), .lit (.int .i64 0)], .agg [.lit (.int .u8 13), .lit (.string [99, 119, 114]), .lit (.int .u8 0), .lit (.int .i64 4), .lit (.int .i64 4), .lit (.int .i64 1), .lit (.int .i64 0)], .agg [.lit (.int .u8 14), .lit (.string [115, 104, 117, 116, 100, 111, 119, 110, 45, 99, 111, 109, 112, 108, 101, 116, 101]), .lit (.int .u8 1), .lit (.int .i64 0), .lit (.int .i64 0), .lit (.int .i64 1), .lit (.int .i64 0)], .agg [.lit (.int .u8 15), .lit (.string [97, 117, 116, 104]), .lit (.int .u8 0), .lit (.int .i64 5), .lit (.int .i64 65531), .lit (.int .i64 1), .lit (.int .i64 0)], .agg [.lit (.int .u8 64), .lit (.string [105, 45, 100, 97, 116, 97]), .lit (.int .u8 15), .lit (.int .i64 17), .lit (.int .i64 65531), .lit (.int .i64 1), .lit (.int .i64 0)], .agg [.lit (.int .u8 128), .lit (.string [97, 115, 99, 111, 110, 102, 45, 97, 99, 107]), .lit (.int .u8 0), .lit (.int .i64 4), .lit (.int .i64 4), .lit (.int .i64 1), .lit (.int .i64 2)], .agg [.lit (.int .u8 130), .lit (.string [114, 101, 45, 99, 111, 110, 102, 105, 103]), .lit (.int .u8 0), .lit (.int .i64 0), .lit (.int .i64 0), .lit (.int .i64 1), .lit (.int .i64 5)], .agg [.lit (.int .u8 132), .lit (.string [112, 97, 100]), .lit (.int .u8 0), .lit (.int .i64 0), .lit (.int .i64 65531), .lit (.int .i64 1), .lit (.int .i64 0)], .agg [.lit (.int .u8 192), .lit (.string [102, 111, 114, 119, 97, 114, 100, 45, 116, 115, 110]), .lit (.int .u8 0), .lit (.int .i64 4), .lit (.int .i64 65531), .lit (.int .i64 4), .lit (.int .i64 0)], .agg [.lit (.int .u8 193), .lit (.string [97, 115, 99, 111, 110, 102]), .lit (.int .u8 0), .lit (.int .i64 4), .lit (.int .i64 4), .lit (.int .i64 1), .lit (.int .i64 6)], .agg [.lit (.int .u8 194), .lit (.string [105, 45, 102, 111, 114, 119, 97, 114, 100, 45, 116, 115, 110]), .lit (.int .u8 0), .lit (.int .i64 4), .lit (.int .i64 65531), .lit (.int .i64 8), .lit (.int .i64 0)]]
def laid_wharf_kind_inside {H : Type} : DataW H := .agg [.agg [.lit (.int .i64 0), .lit (.int .i64 0), .lit (.int .i64 0)], .agg [.lit (.int .i64 1), .lit (.int .i64 1), .lit (.int .i64 1)], .agg [.lit (.int .i64 1), .lit (.int .i64 0), .lit (.int .i64 16384)], .agg [.lit (.int .i64 2), .lit (.int .i64 0), .lit (.int .i64 16384)], .agg [.lit (.int .i64 2), .lit (.int .i64 1), .lit (.int .i64 16384)], .agg [.lit (.int .i64 1), .lit (.int .i64 1), .lit (.int .i64 2)], .agg [.lit (.int .i64 1), .lit (.int .i64 2), .lit (.int .i64 16384)]]

/-- 'wharflaw20.ControlMatchesReference': WHATEVER THE INPUT: true; the input reads as it did. -/
def controlMatchesReferenceSpec : ChangeSpec := { name := "controlMatchesReference", fn := fun _ => fun
  | [d1, d2, d3, d4] => { results := [.lit (.bool true)], args := [d1, d2, d3, d4] }
  | _ => none }
def controlMatchesReferenceRow : OpenClaim := { program := "ytjbbkbpnagefoaagreatdoor", sum := "7314d562ce1a0007d8673d993297f1c4fb4cb641433a9c7830e6077580baee09", func := "wharf/wharflaw20.ControlMatchesReference", spec := "controlMatchesReference", inPlace := ["internal/reflectlite.ValueOf", "(internal/reflectlite.Value).Type", "(internal/reflectlite.Value).IsNil", "internal/reflectlite.TypeOf", "(internal/reflectlite.Value).Elem", "(internal/reflectlite.Value).Set"], unfollowed := true, recurses := true, named := ["wharf/kind.table", "wharf/kind.inside", "errors.errorType"], apart := false, laid := [("errors.errorType", laid_errors_errorType), ("wharf/kind.table", laid_wharf_kind_table), ("wharf/kind.inside", laid_wharf_kind_inside)] }
def ControlMatchesReferenceSaid : Prop := controlMatchesReferenceRow.holds Tryz.pinned (OpenSpec.ofChange controlMatchesReferenceSpec)

/-- ITS FALSE NEIGHBOUR: 'it returns false'. Refute it at one input. -/
def controlMatchesReferenceWrong : ChangeSpec := { name := "controlMatchesReference", fn := fun _ => fun
  | [d1, d2, d3, d4] => { results := [.lit (.bool false)], args := [d1, d2, d3, d4] }
  | _ => none }
def ControlMatchesReferenceWrongFalsely : Prop := controlMatchesReferenceRow.holds Tryz.pinned (OpenSpec.ofChange controlMatchesReferenceWrong)

/-- 'wharflaw20.ControlReads': WHATEVER THE INPUT: true; the input reads as it did. -/
def controlReadsSpec : ChangeSpec := { name := "controlReads", fn := fun _ => fun
  | [d] => { results := [.lit (.bool true)], args := [d] }
  | _ => none }
def controlReadsRow : OpenClaim := { program := "ytjbbkbpnagefoaagreatdoor", sum := "7314d562ce1a0007d8673d993297f1c4fb4cb641433a9c7830e6077580baee09", func := "wharf/wharflaw20.ControlReads", spec := "controlReads", inPlace := ["internal/reflectlite.ValueOf", "(internal/reflectlite.Value).Type", "(internal/reflectlite.Value).IsNil", "internal/reflectlite.TypeOf", "(internal/reflectlite.Value).Elem", "(internal/reflectlite.Value).Set"], unfollowed := true, recurses := true, named := ["wharf/kind.table", "wharf/kind.inside", "errors.errorType"], loops := true, apart := false, laid := [("errors.errorType", laid_errors_errorType), ("wharf/kind.table", laid_wharf_kind_table), ("wharf/kind.inside", laid_wharf_kind_inside)] }
def ControlReadsSaid : Prop := controlReadsRow.holds Tryz.pinned (OpenSpec.ofChange controlReadsSpec)

/-- ITS FALSE NEIGHBOUR: 'it returns false'. Refute it at one input. -/
def controlReadsWrong : ChangeSpec := { name := "controlReads", fn := fun _ => fun
  | [d] => { results := [.lit (.bool false)], args := [d] }
  | _ => none }
def ControlReadsWrongFalsely : Prop := controlReadsRow.holds Tryz.pinned (OpenSpec.ofChange controlReadsWrong)

/-- 'wharflaw20.ControlAnswers': WHATEVER THE INPUT: true; the input reads as it did. -/
def controlAnswersSpec : ChangeSpec := { name := "controlAnswers", fn := fun _ => fun
  | [d] => { results := [.lit (.bool true)], args := [d] }
  | _ => none }
def controlAnswersRow : OpenClaim := { program := "ytjbbkbpnagefoaagreatdoor", sum := "7314d562ce1a0007d8673d993297f1c4fb4cb641433a9c7830e6077580baee09", func := "wharf/wharflaw20.ControlAnswers", spec := "controlAnswers", inPlace := ["internal/reflectlite.ValueOf", "(internal/reflectlite.Value).Type", "(internal/reflectlite.Value).IsNil", "internal/reflectlite.TypeOf", "(internal/reflectlite.Value).Elem", "(internal/reflectlite.Value).Set"], unfollowed := true, recurses := true, named := ["wharf/kind.table", "wharf/kind.inside", "errors.errorType"], loops := true, apart := false, laid := [("errors.errorType", laid_errors_errorType), ("wharf/kind.table", laid_wharf_kind_table), ("wharf/kind.inside", laid_wharf_kind_inside)] }
def ControlAnswersSaid : Prop := controlAnswersRow.holds Tryz.pinned (OpenSpec.ofChange controlAnswersSpec)

/-- ITS FALSE NEIGHBOUR: 'it returns false'. Refute it at one input. -/
def controlAnswersWrong : ChangeSpec := { name := "controlAnswers", fn := fun _ => fun
  | [d] => { results := [.lit (.bool false)], args := [d] }
  | _ => none }
def ControlAnswersWrongFalsely : Prop := controlAnswersRow.holds Tryz.pinned (OpenSpec.ofChange controlAnswersWrong)

/-- 'wharflaw20.ControlCauses': WHATEVER THE INPUT: true; the input reads as it did. -/
def controlCausesSpec : ChangeSpec := { name := "controlCauses", fn := fun _ => fun
  | [d1, d2] => { results := [.lit (.bool true)], args := [d1, d2] }
  | _ => none }
def controlCausesRow : OpenClaim := { program := "ytjbbkbpnagefoaagreatdoor", sum := "7314d562ce1a0007d8673d993297f1c4fb4cb641433a9c7830e6077580baee09", func := "wharf/wharflaw20.ControlCauses", spec := "controlCauses", inPlace := ["internal/reflectlite.ValueOf", "(internal/reflectlite.Value).Type", "(internal/reflectlite.Value).IsNil", "internal/reflectlite.TypeOf", "(internal/reflectlite.Value).Elem", "(internal/reflectlite.Value).Set"], unfollowed := true, recurses := true, named := ["wharf/kind.table", "wharf/kind.inside", "errors.errorType"], loops := true, apart := false, laid := [("errors.errorType", laid_errors_errorType), ("wharf/kind.table", laid_wharf_kind_table), ("wharf/kind.inside", laid_wharf_kind_inside)] }
def ControlCausesSaid : Prop := controlCausesRow.holds Tryz.pinned (OpenSpec.ofChange controlCausesSpec)

/-- ITS FALSE NEIGHBOUR: 'it returns false'. Refute it at one input. -/
def controlCausesWrong : ChangeSpec := { name := "controlCauses", fn := fun _ => fun
  | [d1, d2] => { results := [.lit (.bool false)], args := [d1, d2] }
  | _ => none }
def ControlCausesWrongFalsely : Prop := controlCausesRow.holds Tryz.pinned (OpenSpec.ofChange controlCausesWrong)

/-- 'wharflaw15.InitialMatchesReference': WHATEVER THE INPUT: true; the input reads as it did. -/
def initialMatchesReferenceSpec : ChangeSpec := { name := "initialMatchesReference", fn := fun _ => fun
  | [d1, d2, d3] => { results := [.lit (.bool true)], args := [d1, d2, d3] }
  | _ => none }
def initialMatchesReferenceRow : OpenClaim := { program := "ytjbbkbpnagefoaagreatdoor", sum := "7314d562ce1a0007d8673d993297f1c4fb4cb641433a9c7830e6077580baee09", func := "wharf/wharflaw15.InitialMatchesReference", spec := "initialMatchesReference", inPlace := ["internal/reflectlite.ValueOf", "(internal/reflectlite.Value).Type", "(internal/reflectlite.Value).IsNil", "internal/reflectlite.TypeOf", "(internal/reflectlite.Value).Elem", "(internal/reflectlite.Value).Set"], unfollowed := true, recurses := true, named := ["wharf/kind.table", "wharf/kind.inside", "errors.errorType"], loops := true, apart := false, laid := [("errors.errorType", laid_errors_errorType), ("wharf/kind.table", laid_wharf_kind_table), ("wharf/kind.inside", laid_wharf_kind_inside)] }
def InitialMatchesReferenceSaid : Prop := initialMatchesReferenceRow.holds Tryz.pinned (OpenSpec.ofChange initialMatchesReferenceSpec)

/-- ITS FALSE NEIGHBOUR: 'it returns false'. Refute it at one input. -/
def initialMatchesReferenceWrong : ChangeSpec := { name := "initialMatchesReference", fn := fun _ => fun
  | [d1, d2, d3] => { results := [.lit (.bool false)], args := [d1, d2, d3] }
  | _ => none }
def InitialMatchesReferenceWrongFalsely : Prop := initialMatchesReferenceRow.holds Tryz.pinned (OpenSpec.ofChange initialMatchesReferenceWrong)

/-- 'wharflaw15.InitialChunks': WHATEVER THE INPUT: true; the input reads as it did. -/
def initialChunksSpec : ChangeSpec := { name := "initialChunks", fn := fun _ => fun
  | [d] => { results := [.lit (.bool true)], args := [d] }
  | _ => none }
def initialChunksRow : OpenClaim := { program := "ytjbbkbpnagefoaagreatdoor", sum := "7314d562ce1a0007d8673d993297f1c4fb4cb641433a9c7830e6077580baee09", func := "wharf/wharflaw15.InitialChunks", spec := "initialChunks", inPlace := ["internal/reflectlite.ValueOf", "(internal/reflectlite.Value).Type", "(internal/reflectlite.Value).IsNil", "internal/reflectlite.TypeOf", "(internal/reflectlite.Value).Elem", "(internal/reflectlite.Value).Set"], unfollowed := true, recurses := true, named := ["wharf/kind.table", "wharf/kind.inside", "errors.errorType"], loops := true, apart := false, laid := [("errors.errorType", laid_errors_errorType), ("wharf/kind.table", laid_wharf_kind_table), ("wharf/kind.inside", laid_wharf_kind_inside)] }
def InitialChunksSaid : Prop := initialChunksRow.holds Tryz.pinned (OpenSpec.ofChange initialChunksSpec)

/-- ITS FALSE NEIGHBOUR: 'it returns false'. Refute it at one input. -/
def initialChunksWrong : ChangeSpec := { name := "initialChunks", fn := fun _ => fun
  | [d] => { results := [.lit (.bool false)], args := [d] }
  | _ => none }
def InitialChunksWrongFalsely : Prop := initialChunksRow.holds Tryz.pinned (OpenSpec.ofChange initialChunksWrong)

/-- 'wharflaw15.InitialCookies': WHATEVER THE INPUT: true; the input reads as it did. -/
def initialCookiesSpec : ChangeSpec := { name := "initialCookies", fn := fun _ => fun
  | [d] => { results := [.lit (.bool true)], args := [d] }
  | _ => none }
def initialCookiesRow : OpenClaim := { program := "ytjbbkbpnagefoaagreatdoor", sum := "7314d562ce1a0007d8673d993297f1c4fb4cb641433a9c7830e6077580baee09", func := "wharf/wharflaw15.InitialCookies", spec := "initialCookies", inPlace := ["internal/reflectlite.ValueOf", "(internal/reflectlite.Value).Type", "(internal/reflectlite.Value).IsNil", "internal/reflectlite.TypeOf", "(internal/reflectlite.Value).Elem", "(internal/reflectlite.Value).Set"], unfollowed := true, recurses := true, named := ["wharf/kind.table", "wharf/kind.inside", "errors.errorType"], loops := true, apart := false, laid := [("errors.errorType", laid_errors_errorType), ("wharf/kind.table", laid_wharf_kind_table), ("wharf/kind.inside", laid_wharf_kind_inside)] }
def InitialCookiesSaid : Prop := initialCookiesRow.holds Tryz.pinned (OpenSpec.ofChange initialCookiesSpec)

/-- ITS FALSE NEIGHBOUR: 'it returns false'. Refute it at one input. -/
def initialCookiesWrong : ChangeSpec := { name := "initialCookies", fn := fun _ => fun
  | [d] => { results := [.lit (.bool false)], args := [d] }
  | _ => none }
def InitialCookiesWrongFalsely : Prop := initialCookiesRow.holds Tryz.pinned (OpenSpec.ofChange initialCookiesWrong)

/-- 'wharflaw15.InitialParams': WHATEVER THE INPUT: true; the input reads as it did. -/
def initialParamsSpec : ChangeSpec := { name := "initialParams", fn := fun _ => fun
  | [d1, d2] => { results := [.lit (.bool true)], args := [d1, d2] }
  | _ => none }
def initialParamsRow : OpenClaim := { program := "ytjbbkbpnagefoaagreatdoor", sum := "7314d562ce1a0007d8673d993297f1c4fb4cb641433a9c7830e6077580baee09", func := "wharf/wharflaw15.InitialParams", spec := "initialParams", inPlace := ["internal/reflectlite.ValueOf", "(internal/reflectlite.Value).Type", "(internal/reflectlite.Value).IsNil", "internal/reflectlite.TypeOf", "(internal/reflectlite.Value).Elem", "(internal/reflectlite.Value).Set"], unfollowed := true, recurses := true, named := ["wharf/kind.table", "wharf/kind.inside", "errors.errorType"], loops := true, apart := false, laid := [("errors.errorType", laid_errors_errorType), ("wharf/kind.table", laid_wharf_kind_table), ("wharf/kind.inside", laid_wharf_kind_inside)] }
def InitialParamsSaid : Prop := initialParamsRow.holds Tryz.pinned (OpenSpec.ofChange initialParamsSpec)

/-- ITS FALSE NEIGHBOUR: 'it returns false'. Refute it at one input. -/
def initialParamsWrong : ChangeSpec := { name := "initialParams", fn := fun _ => fun
  | [d1, d2] => { results := [.lit (.bool false)], args := [d1, d2] }
  | _ => none }
def InitialParamsWrongFalsely : Prop := initialParamsRow.holds Tryz.pinned (OpenSpec.ofChange initialParamsWrong)

/- THE SECOND FORM. 'bulk': how many values and letters a reading holds, each counted each time it is reached (what is shared counts as often as it is met; a slice's spare places count too). A statement '..UptoSaid' is the law's where the arguments, and the package variables that the reading takes, are together of bulk at most 1048576: NARROWER than '..Said'. Prove '..Said' where nothing that the law and all that it calls make is longer than what came in: it says more and counts as full. Else prove '..UptoSaid'. A law counts once. -/
mutual
def uptoBulk {H : Type} : DataW H → Nat
  | .lit (.string bytes) => bytes.length + 1
  | .lit _ => 1
  | .nil => 1
  | .ptr d => uptoBulk d + 1
  | .slice elems spare => uptoBulkAll elems + uptoBulkAll spare + 1
  | .agg parts => uptoBulkAll parts + 1
  | .iface _ d => uptoBulk d + 1
  | .map entries => uptoBulkEntries entries + 1
  | .held _ => 1
def uptoBulkAll {H : Type} : List (DataW H) → Nat
  | [] => 0
  | d :: r => uptoBulk d + uptoBulkAll r
def uptoBulkEntries {H : Type} : List (Lit × DataW H) → Nat
  | [] => 0
  | x :: r => uptoBulkEntry x + uptoBulkEntries r
def uptoBulkEntry {H : Type} : Lit × DataW H → Nat
  | (.string bytes, d) => bytes.length + uptoBulk d + 1
  | (_, d) => uptoBulk d + 1
 end
def uptoSmall : (H : Type) → List (DataW H) → Bool := fun _ ds => decide (uptoBulkAll ds ≤ 1048576)
def OpenSpec.upto (s : _root_.Go.ChangeSpec) : _root_.Go.OpenSpec := { _root_.Go.OpenSpec.ofChange s with cond := some uptoSmall }

/-- 'wharflaw20.ControlMatchesReference', WHERE WHAT IT READS IS OF BULK AT MOST 1048576: true; the input reads as it did. -/
def controlMatchesReferenceUptoRow : OpenClaim := { program := "ytjbbkbpnagefoaagreatdoor", sum := "7314d562ce1a0007d8673d993297f1c4fb4cb641433a9c7830e6077580baee09", func := "wharf/wharflaw20.ControlMatchesReference", spec := "controlMatchesReference", inPlace := ["internal/reflectlite.ValueOf", "(internal/reflectlite.Value).Type", "(internal/reflectlite.Value).IsNil", "internal/reflectlite.TypeOf", "(internal/reflectlite.Value).Elem", "(internal/reflectlite.Value).Set"], unfollowed := true, recurses := true, named := ["wharf/kind.table", "wharf/kind.inside", "errors.errorType"], apart := false, laid := [("errors.errorType", laid_errors_errorType), ("wharf/kind.table", laid_wharf_kind_table), ("wharf/kind.inside", laid_wharf_kind_inside)], narrowed := true }
def ControlMatchesReferenceUptoSaid : Prop := controlMatchesReferenceUptoRow.holds Tryz.pinned (OpenSpec.upto controlMatchesReferenceSpec)

/-- 'wharflaw20.ControlReads', WHERE WHAT IT READS IS OF BULK AT MOST 1048576: true; the input reads as it did. -/
def controlReadsUptoRow : OpenClaim := { program := "ytjbbkbpnagefoaagreatdoor", sum := "7314d562ce1a0007d8673d993297f1c4fb4cb641433a9c7830e6077580baee09", func := "wharf/wharflaw20.ControlReads", spec := "controlReads", inPlace := ["internal/reflectlite.ValueOf", "(internal/reflectlite.Value).Type", "(internal/reflectlite.Value).IsNil", "internal/reflectlite.TypeOf", "(internal/reflectlite.Value).Elem", "(internal/reflectlite.Value).Set"], unfollowed := true, recurses := true, named := ["wharf/kind.table", "wharf/kind.inside", "errors.errorType"], loops := true, apart := false, laid := [("errors.errorType", laid_errors_errorType), ("wharf/kind.table", laid_wharf_kind_table), ("wharf/kind.inside", laid_wharf_kind_inside)], narrowed := true }
def ControlReadsUptoSaid : Prop := controlReadsUptoRow.holds Tryz.pinned (OpenSpec.upto controlReadsSpec)

/-- 'wharflaw20.ControlAnswers', WHERE WHAT IT READS IS OF BULK AT MOST 1048576: true; the input reads as it did. -/
def controlAnswersUptoRow : OpenClaim := { program := "ytjbbkbpnagefoaagreatdoor", sum := "7314d562ce1a0007d8673d993297f1c4fb4cb641433a9c7830e6077580baee09", func := "wharf/wharflaw20.ControlAnswers", spec := "controlAnswers", inPlace := ["internal/reflectlite.ValueOf", "(internal/reflectlite.Value).Type", "(internal/reflectlite.Value).IsNil", "internal/reflectlite.TypeOf", "(internal/reflectlite.Value).Elem", "(internal/reflectlite.Value).Set"], unfollowed := true, recurses := true, named := ["wharf/kind.table", "wharf/kind.inside", "errors.errorType"], loops := true, apart := false, laid := [("errors.errorType", laid_errors_errorType), ("wharf/kind.table", laid_wharf_kind_table), ("wharf/kind.inside", laid_wharf_kind_inside)], narrowed := true }
def ControlAnswersUptoSaid : Prop := controlAnswersUptoRow.holds Tryz.pinned (OpenSpec.upto controlAnswersSpec)

/-- 'wharflaw20.ControlCauses', WHERE WHAT IT READS IS OF BULK AT MOST 1048576: true; the input reads as it did. -/
def controlCausesUptoRow : OpenClaim := { program := "ytjbbkbpnagefoaagreatdoor", sum := "7314d562ce1a0007d8673d993297f1c4fb4cb641433a9c7830e6077580baee09", func := "wharf/wharflaw20.ControlCauses", spec := "controlCauses", inPlace := ["internal/reflectlite.ValueOf", "(internal/reflectlite.Value).Type", "(internal/reflectlite.Value).IsNil", "internal/reflectlite.TypeOf", "(internal/reflectlite.Value).Elem", "(internal/reflectlite.Value).Set"], unfollowed := true, recurses := true, named := ["wharf/kind.table", "wharf/kind.inside", "errors.errorType"], loops := true, apart := false, laid := [("errors.errorType", laid_errors_errorType), ("wharf/kind.table", laid_wharf_kind_table), ("wharf/kind.inside", laid_wharf_kind_inside)], narrowed := true }
def ControlCausesUptoSaid : Prop := controlCausesUptoRow.holds Tryz.pinned (OpenSpec.upto controlCausesSpec)

/-- 'wharflaw15.InitialMatchesReference', WHERE WHAT IT READS IS OF BULK AT MOST 1048576: true; the input reads as it did. -/
def initialMatchesReferenceUptoRow : OpenClaim := { program := "ytjbbkbpnagefoaagreatdoor", sum := "7314d562ce1a0007d8673d993297f1c4fb4cb641433a9c7830e6077580baee09", func := "wharf/wharflaw15.InitialMatchesReference", spec := "initialMatchesReference", inPlace := ["internal/reflectlite.ValueOf", "(internal/reflectlite.Value).Type", "(internal/reflectlite.Value).IsNil", "internal/reflectlite.TypeOf", "(internal/reflectlite.Value).Elem", "(internal/reflectlite.Value).Set"], unfollowed := true, recurses := true, named := ["wharf/kind.table", "wharf/kind.inside", "errors.errorType"], loops := true, apart := false, laid := [("errors.errorType", laid_errors_errorType), ("wharf/kind.table", laid_wharf_kind_table), ("wharf/kind.inside", laid_wharf_kind_inside)], narrowed := true }
def InitialMatchesReferenceUptoSaid : Prop := initialMatchesReferenceUptoRow.holds Tryz.pinned (OpenSpec.upto initialMatchesReferenceSpec)

/-- 'wharflaw15.InitialChunks', WHERE WHAT IT READS IS OF BULK AT MOST 1048576: true; the input reads as it did. -/
def initialChunksUptoRow : OpenClaim := { program := "ytjbbkbpnagefoaagreatdoor", sum := "7314d562ce1a0007d8673d993297f1c4fb4cb641433a9c7830e6077580baee09", func := "wharf/wharflaw15.InitialChunks", spec := "initialChunks", inPlace := ["internal/reflectlite.ValueOf", "(internal/reflectlite.Value).Type", "(internal/reflectlite.Value).IsNil", "internal/reflectlite.TypeOf", "(internal/reflectlite.Value).Elem", "(internal/reflectlite.Value).Set"], unfollowed := true, recurses := true, named := ["wharf/kind.table", "wharf/kind.inside", "errors.errorType"], loops := true, apart := false, laid := [("errors.errorType", laid_errors_errorType), ("wharf/kind.table", laid_wharf_kind_table), ("wharf/kind.inside", laid_wharf_kind_inside)], narrowed := true }
def InitialChunksUptoSaid : Prop := initialChunksUptoRow.holds Tryz.pinned (OpenSpec.upto initialChunksSpec)

/-- 'wharflaw15.InitialCookies', WHERE WHAT IT READS IS OF BULK AT MOST 1048576: true; the input reads as it did. -/
def initialCookiesUptoRow : OpenClaim := { program := "ytjbbkbpnagefoaagreatdoor", sum := "7314d562ce1a0007d8673d993297f1c4fb4cb641433a9c7830e6077580baee09", func := "wharf/wharflaw15.InitialCookies", spec := "initialCookies", inPlace := ["internal/reflectlite.ValueOf", "(internal/reflectlite.Value).Type", "(internal/reflectlite.Value).IsNil", "internal/reflectlite.TypeOf", "(internal/reflectlite.Value).Elem", "(internal/reflectlite.Value).Set"], unfollowed := true, recurses := true, named := ["wharf/kind.table", "wharf/kind.inside", "errors.errorType"], loops := true, apart := false, laid := [("errors.errorType", laid_errors_errorType), ("wharf/kind.table", laid_wharf_kind_table), ("wharf/kind.inside", laid_wharf_kind_inside)], narrowed := true }
def InitialCookiesUptoSaid : Prop := initialCookiesUptoRow.holds Tryz.pinned (OpenSpec.upto initialCookiesSpec)

/-- 'wharflaw15.InitialParams', WHERE WHAT IT READS IS OF BULK AT MOST 1048576: true; the input reads as it did. -/
def initialParamsUptoRow : OpenClaim := { program := "ytjbbkbpnagefoaagreatdoor", sum := "7314d562ce1a0007d8673d993297f1c4fb4cb641433a9c7830e6077580baee09", func := "wharf/wharflaw15.InitialParams", spec := "initialParams", inPlace := ["internal/reflectlite.ValueOf", "(internal/reflectlite.Value).Type", "(internal/reflectlite.Value).IsNil", "internal/reflectlite.TypeOf", "(internal/reflectlite.Value).Elem", "(internal/reflectlite.Value).Set"], unfollowed := true, recurses := true, named := ["wharf/kind.table", "wharf/kind.inside", "errors.errorType"], loops := true, apart := false, laid := [("errors.errorType", laid_errors_errorType), ("wharf/kind.table", laid_wharf_kind_table), ("wharf/kind.inside", laid_wharf_kind_inside)], narrowed := true }
def InitialParamsUptoSaid : Prop := initialParamsUptoRow.holds Tryz.pinned (OpenSpec.upto initialParamsSpec)

end Rows
end Go.Proofs.YtjbbkbpnagefoaaGreatDoor
