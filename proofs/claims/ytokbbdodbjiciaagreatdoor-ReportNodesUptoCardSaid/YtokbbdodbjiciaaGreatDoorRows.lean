/-
  NARROWER THAN 'FOR EVERY INPUT', by the rows' own cells (each row's printed sentence says how): ReportNodes: loops, laid · ReportReads: loops, laid · ReportBack: loops, laid · ReportNone: loops, laid · ControlAnswers: loops, laid · InitialCookies: loops, laid · ChunkCopies: loops, laid.
  DERIVED. THE GIVEN ROWS OF THIS SEAT. 7 by the template 'for every input the law returns true; each argument reads behind the call as it read before'; 0 by the template 'total and deterministic' (their statements: YtokbbdodbjiciaaGreatDoorTotals.lean).
  GIVEN WITH THE SEED: the statements are not yours to turn. If you find one false, say at which input.
  Laid BY PROGRAM, IN A SANDBOX (cutbox-rows.mjs): the forced cells as the released guide's own fill.sh prints them over the translation cb11474f97bae0a1… (all of the seat's roots in one cut). By AI agents, Wed Nov 11 2026. No macro, syntax, notation, axiom, sorry.
-/
import Derived.Test.YtokbbdodbjiciaaGreatDoorChecked
import GoSem.Claim
import GoSem.ClaimJoined
import GoSem.ClaimMapViews
import Derived.JoinedTies
import Derived.KernelRfl
namespace Go.Proofs.YtokbbdodbjiciaaGreatDoor
/- THE CELL 'sum', in the pinned program and in every row, IS THE sha256 OF THE DUMP (.gsa) THAT YtokbbdodbjiciaaGreatDoorProg.lean LOADS. Nothing in Lean hashes anything: it is a label: what it is worth is what the hold of that sum in a sandbox is worth. -/
noncomputable def Tryz.pinned : Pinned := { name := "ytokbbdodbjiciaagreatdoor", sum := "cb11474f97bae0a1b72ce8190f75e238cef04d5b1ec3c85540f6df0c80c4d686", checked := Tryz.checked }
namespace Rows
def none {H : Type} : Left H := { results := [], args := [] }

/- WHAT THE LISTED PACKAGE-LEVEL VARIABLES READ AS WHEN THE CALL BEGINS. Each datum BY PROGRAM (the guide's laid-datum.mjs) off the statement by which the dump's own 'gosem.cut.vars' lays the variable. In a bare row this is a premise. The card (YtokbbdodbjiciaaGreatDoorCards.lean) ties it to the program's text. -/
def laid_errors_errorType {H : Type} : DataW H := .iface "internal/reflectlite.rtype" (.agg [.ptr (.lit (.string [101, 114, 114, 111, 114]))])
def laid_wharf_kind_table {H : Type} : DataW H := .agg [.agg [.lit (.int .u8 0), .lit (.string [100, 97, 116, 97]), .lit (.int .u8 15), .lit (.int .i64 13), .lit (.int .i64 65531), .lit (.int .i64 1), .lit (.int .i64 0)], .agg [.lit (.int .u8 1), .lit (.string [105, 110, 105, 116]), .lit (.int .u8 0), .lit (.int .i64 16), .lit (.int .i64 16), .lit (.int .i64 1), .lit (.int .i64 2)], .agg [.lit (.int .u8 2), .lit (.string [105, 110, 105, 116, 45, 97, 99, 107]), .lit (.int .u8 0), .lit (.int .i64 16), .lit (.int .i64 16), .lit (.int .i64 1), .lit (.int .i64 2)], .agg [.lit (.int .u8 3), .lit (.string [115, 97, 99, 107]), .lit (.int .u8 0), .lit (.int .i64 12), .lit (.int .i64 65531), .lit (.int .i64 4), .lit (.int .i64 0)], .agg [.lit (.int .u8 4), .lit (.string [104, 101, 97, 114, 116, 98, 101, 97, 116]), .lit (.int .u8 0), .lit (.int .i64 0), .lit (.int .i64 0), .lit (.int .i64 1), .lit (.int .i64 1)], .agg [.lit (.int .u8 5), .lit (.string [104, 101, 97, 114, 116, 98, 101, 97, 116, 45, 97, 99, 107]), .lit (.int .u8 0), .lit (.int .i64 0), .lit (.int .i64 0), .lit (.int .i64 1), .lit (.int .i64 1)], .agg [.lit (.int .u8 6), .lit (.string [97, 98, 111, 114, 116]), .lit (.int .u8 1), .lit (.int .i64 0), .lit (.int .i64 0), .lit (.int .i64 1), .lit (.int .i64 3)], .agg [.lit (.int .u8 7), .lit (.string [115, 104, 117, 116, 100, 111, 119, 110]), .lit (.int .u8 0), .lit (.int .i64 4), .lit (.int .i64 4), .lit (.int .i64 1), .lit (.int .i64 0)], .agg [.lit (.int .u8 8), .lit (.string [115, 104, 117, 116, 100, 111, 119, 110, 45, 97, 99, 107]), .lit (.int .u8 0), .lit (.int .i64 0), .lit (.int .i64 0), .lit (.int .i64 1), .lit (.int .i64 0)], .agg [.lit (.int .u8 9), .lit (.string [101, 114, 114, 111, 114]), .lit (.int .u8 0), .lit (.int .i64 0), .lit (.int .i64 0), .lit (.int .i64 1), .lit (.int .i64 4)], .agg [.lit (.int .u8 10), .lit (.string [99, 111, 111, 107, 105, 101, 45, 101, 99, 104, 111]), .lit (.int .u8 0), .lit (.int .i64 1), .lit (.int .i64 65531), .lit (.int .i64 1), .lit (.int .i64 0)], .agg [.lit (.int .u8 11), .lit (.string [99, 111, 111, 107, 105, 101, 45, 97, 99, 107]), .lit (.int .u8 0), .lit (.int .i64 0), .lit (.int .i64 0), .lit (.int .i64 1), .lit (.int .i64 0)], .agg [.lit (.int .u8 12), .lit (.string [101, 99, 110, 101]), .lit (.int .u8 0), .lit (.int .i64 4), .lit (.int .i64 4), .lit (.int .i64 1), .lit (.int .i64 0)], .agg [.lit (.int .u8 13), .lit (.string [99, 119, 114]), .lit (.int .u8 0), .lit (.int .i64 4), .lit (.int .i64 4), .lit (.int .i64 1), .lit (.int .i64 0)], .agg [.lit (.int .u8 14), .lit (.string [115, 104, 117, 116, 100, 111, 119, 110, 45, 99, 111, 109, 112, 108, 101, 116, 101]), .lit (.int .u8 1), .lit (.int .i64 0), .lit (.int .i64 0), .lit (.int .i64 1), .lit (.int .i64 0)], .agg [.lit (.int .u8 15), .lit (.string [97, 117, 116, 104]), .lit (.int .u8 0), .lit (.int .i64 5), .lit (.int .i64 65531), .lit (.int .i64 1), .lit (.int .i64 0)], .agg [.lit (.int .u8 64), .lit (.string [105, 45, 100, 97, 116, 97]), .lit (.int .u8 15), .lit (.int .i64 17), .lit (.int .i64 65531), .lit (.int .i64 1), .lit (.int .i64 0)], .agg [.lit (.int .u8 128), .lit (.string [97, 115, 99, 111, 110, 102, 45, 97, 99, 107]), .lit (.int .u8 0), .lit (.int .i64 4), .lit (.int .i64 4), .lit (.int .i64 1), .lit (.int .i64 2)], .agg [.lit (.int .u8 130), .lit (.string [114, 101, 45, 99, 111, 110, 102, 105, 103]), .lit (.int .u8 0), .lit (.int .i64 0), .lit (.int .i64 0), .lit (.int .i64 1), .lit (.int .i64 5)], .agg [.lit (.int .u8 132), .lit (.string [112, 97, 100]), .lit (.int .u8 0), .lit (.int .i64 0), .lit (.int .i64 65531), .lit (.int .i64 1), .lit (.int .i64 0)], .agg [.lit (.int .u8 192), .lit (.string [102, 111, 114, 119, 97, 114, 100, 45, 116, 115, 110]), .lit (.int .u8 0), .lit (.int .i64 4), .lit (.int .i64 65531), .lit (.int .i64 4), .lit (.int .i64 0)], .agg [.lit (.int .u8 193), .lit (.string [97, 115, 99, 111, 110, 102]), .lit (.int .u8 0), .lit (.int .i64 4), .lit (.int .i64 4), .lit (.int .i64 1), .lit (.int .i64 6)], .agg [.lit (.int .u8 194), .lit (.string [105, 45, 102, 111, 114, 119, 97, 114, 100, 45, 116, 115, 110]), .lit (.int .u8 0), .lit (.int .i64 4), .lit (.int .i64 65531), .lit (.int .i64 8), .lit (.int .i64 0)]]
def laid_wharf_kind_inside {H : Type} : DataW H := .agg [.agg [.lit (.int .i64 0), .lit (.int .i64 0), .lit (.int .i64 0)], .agg [.lit (.int .i64 1), .lit (.int .i64 1), .lit (.int .i64 1)], .agg [.lit (.int .i64 1), .lit (.int .i64 0), .lit (.int .i64 16384)], .agg [.lit (.int .i64 2), .lit (.int .i64 0), .lit (.int .i64 16384)], .agg [.lit (.int .i64 2), .lit (.int .i64 1), .lit (.int .i64 16384)], .agg [.lit (.int .i64 1), .lit (.int .i64 1), .lit (.int .i64 2)], .agg [.lit (.int .i64 1), .lit (.int .i64 2), .lit (.int .i64 16384)]]
def laid_wharf_legal_alone {H : Type} : DataW H := .agg [.lit (.int .u8 1), .lit (.int .u8 2), .lit (.int .u8 14)]

/-- 'wharflaw25.ReportNodes': WHATEVER THE INPUT: true; the input reads as it did. -/
def reportNodesSpec : ChangeSpec := { name := "reportNodes", fn := fun _ => fun
  | [d] => { results := [.lit (.bool true)], args := [d] }
  | _ => none }
def reportNodesRow : OpenClaim := { program := "ytokbbdodbjiciaagreatdoor", sum := "cb11474f97bae0a1b72ce8190f75e238cef04d5b1ec3c85540f6df0c80c4d686", func := "wharf/wharflaw25.ReportNodes", spec := "reportNodes", inPlace := ["internal/reflectlite.ValueOf", "(internal/reflectlite.Value).Type", "(internal/reflectlite.Value).IsNil", "internal/reflectlite.TypeOf", "(internal/reflectlite.Value).Elem", "(internal/reflectlite.Value).Set"], unfollowed := true, recurses := true, named := ["wharf/kind.table", "wharf/kind.inside", "errors.errorType", "wharf/legal.alone"], loops := true, apart := false, laid := [("errors.errorType", laid_errors_errorType), ("wharf/kind.table", laid_wharf_kind_table), ("wharf/kind.inside", laid_wharf_kind_inside), ("wharf/legal.alone", laid_wharf_legal_alone)] }
def ReportNodesSaid : Prop := reportNodesRow.holds Tryz.pinned (OpenSpec.ofChange reportNodesSpec)

/-- ITS FALSE NEIGHBOUR: 'it returns false'. Refute it at one input. -/
def reportNodesWrong : ChangeSpec := { name := "reportNodes", fn := fun _ => fun
  | [d] => { results := [.lit (.bool false)], args := [d] }
  | _ => none }
def ReportNodesWrongFalsely : Prop := reportNodesRow.holds Tryz.pinned (OpenSpec.ofChange reportNodesWrong)

/-- 'wharflaw25.ReportReads': WHATEVER THE INPUT: true; the input reads as it did. -/
def reportReadsSpec : ChangeSpec := { name := "reportReads", fn := fun _ => fun
  | [d] => { results := [.lit (.bool true)], args := [d] }
  | _ => none }
def reportReadsRow : OpenClaim := { program := "ytokbbdodbjiciaagreatdoor", sum := "cb11474f97bae0a1b72ce8190f75e238cef04d5b1ec3c85540f6df0c80c4d686", func := "wharf/wharflaw25.ReportReads", spec := "reportReads", inPlace := ["internal/reflectlite.ValueOf", "(internal/reflectlite.Value).Type", "(internal/reflectlite.Value).IsNil", "internal/reflectlite.TypeOf", "(internal/reflectlite.Value).Elem", "(internal/reflectlite.Value).Set"], unfollowed := true, recurses := true, named := ["wharf/kind.table", "wharf/kind.inside", "errors.errorType", "wharf/legal.alone"], loops := true, apart := false, laid := [("errors.errorType", laid_errors_errorType), ("wharf/kind.table", laid_wharf_kind_table), ("wharf/kind.inside", laid_wharf_kind_inside), ("wharf/legal.alone", laid_wharf_legal_alone)] }
def ReportReadsSaid : Prop := reportReadsRow.holds Tryz.pinned (OpenSpec.ofChange reportReadsSpec)

/-- ITS FALSE NEIGHBOUR: 'it returns false'. Refute it at one input. -/
def reportReadsWrong : ChangeSpec := { name := "reportReads", fn := fun _ => fun
  | [d] => { results := [.lit (.bool false)], args := [d] }
  | _ => none }
def ReportReadsWrongFalsely : Prop := reportReadsRow.holds Tryz.pinned (OpenSpec.ofChange reportReadsWrong)

/-- 'wharflaw25.ReportBack': WHATEVER THE INPUT: true; the input reads as it did. -/
def reportBackSpec : ChangeSpec := { name := "reportBack", fn := fun _ => fun
  | [d] => { results := [.lit (.bool true)], args := [d] }
  | _ => none }
def reportBackRow : OpenClaim := { program := "ytokbbdodbjiciaagreatdoor", sum := "cb11474f97bae0a1b72ce8190f75e238cef04d5b1ec3c85540f6df0c80c4d686", func := "wharf/wharflaw25.ReportBack", spec := "reportBack", inPlace := ["internal/reflectlite.ValueOf", "(internal/reflectlite.Value).Type", "(internal/reflectlite.Value).IsNil", "internal/reflectlite.TypeOf", "(internal/reflectlite.Value).Elem", "(internal/reflectlite.Value).Set"], unfollowed := true, recurses := true, named := ["wharf/kind.table", "wharf/kind.inside", "errors.errorType", "wharf/legal.alone"], loops := true, apart := false, laid := [("errors.errorType", laid_errors_errorType), ("wharf/kind.table", laid_wharf_kind_table), ("wharf/kind.inside", laid_wharf_kind_inside), ("wharf/legal.alone", laid_wharf_legal_alone)] }
def ReportBackSaid : Prop := reportBackRow.holds Tryz.pinned (OpenSpec.ofChange reportBackSpec)

/-- ITS FALSE NEIGHBOUR: 'it returns false'. Refute it at one input. -/
def reportBackWrong : ChangeSpec := { name := "reportBack", fn := fun _ => fun
  | [d] => { results := [.lit (.bool false)], args := [d] }
  | _ => none }
def ReportBackWrongFalsely : Prop := reportBackRow.holds Tryz.pinned (OpenSpec.ofChange reportBackWrong)

/-- 'wharflaw25.ReportNone': WHATEVER THE INPUT: true; the input reads as it did. -/
def reportNoneSpec : ChangeSpec := { name := "reportNone", fn := fun _ => fun
  | [d] => { results := [.lit (.bool true)], args := [d] }
  | _ => none }
def reportNoneRow : OpenClaim := { program := "ytokbbdodbjiciaagreatdoor", sum := "cb11474f97bae0a1b72ce8190f75e238cef04d5b1ec3c85540f6df0c80c4d686", func := "wharf/wharflaw25.ReportNone", spec := "reportNone", inPlace := ["internal/reflectlite.ValueOf", "(internal/reflectlite.Value).Type", "(internal/reflectlite.Value).IsNil", "internal/reflectlite.TypeOf", "(internal/reflectlite.Value).Elem", "(internal/reflectlite.Value).Set"], unfollowed := true, recurses := true, named := ["wharf/kind.table", "wharf/kind.inside", "errors.errorType", "wharf/legal.alone"], loops := true, apart := false, laid := [("errors.errorType", laid_errors_errorType), ("wharf/kind.table", laid_wharf_kind_table), ("wharf/kind.inside", laid_wharf_kind_inside), ("wharf/legal.alone", laid_wharf_legal_alone)] }
def ReportNoneSaid : Prop := reportNoneRow.holds Tryz.pinned (OpenSpec.ofChange reportNoneSpec)

/-- ITS FALSE NEIGHBOUR: 'it returns false'. Refute it at one input. -/
def reportNoneWrong : ChangeSpec := { name := "reportNone", fn := fun _ => fun
  | [d] => { results := [.lit (.bool false)], args := [d] }
  | _ => none }
def ReportNoneWrongFalsely : Prop := reportNoneRow.holds Tryz.pinned (OpenSpec.ofChange reportNoneWrong)

/-- 'wharflaw20.ControlAnswers': WHATEVER THE INPUT: true; the input reads as it did. -/
def controlAnswersSpec : ChangeSpec := { name := "controlAnswers", fn := fun _ => fun
  | [d] => { results := [.lit (.bool true)], args := [d] }
  | _ => none }
def controlAnswersRow : OpenClaim := { program := "ytokbbdodbjiciaagreatdoor", sum := "cb11474f97bae0a1b72ce8190f75e238cef04d5b1ec3c85540f6df0c80c4d686", func := "wharf/wharflaw20.ControlAnswers", spec := "controlAnswers", inPlace := ["internal/reflectlite.ValueOf", "(internal/reflectlite.Value).Type", "(internal/reflectlite.Value).IsNil", "internal/reflectlite.TypeOf", "(internal/reflectlite.Value).Elem", "(internal/reflectlite.Value).Set"], unfollowed := true, recurses := true, named := ["wharf/kind.table", "wharf/kind.inside", "errors.errorType"], loops := true, apart := false, laid := [("errors.errorType", laid_errors_errorType), ("wharf/kind.table", laid_wharf_kind_table), ("wharf/kind.inside", laid_wharf_kind_inside)] }
def ControlAnswersSaid : Prop := controlAnswersRow.holds Tryz.pinned (OpenSpec.ofChange controlAnswersSpec)

/-- ITS FALSE NEIGHBOUR: 'it returns false'. Refute it at one input. -/
def controlAnswersWrong : ChangeSpec := { name := "controlAnswers", fn := fun _ => fun
  | [d] => { results := [.lit (.bool false)], args := [d] }
  | _ => none }
def ControlAnswersWrongFalsely : Prop := controlAnswersRow.holds Tryz.pinned (OpenSpec.ofChange controlAnswersWrong)

/-- 'wharflaw15.InitialCookies': WHATEVER THE INPUT: true; the input reads as it did. -/
def initialCookiesSpec : ChangeSpec := { name := "initialCookies", fn := fun _ => fun
  | [d] => { results := [.lit (.bool true)], args := [d] }
  | _ => none }
def initialCookiesRow : OpenClaim := { program := "ytokbbdodbjiciaagreatdoor", sum := "cb11474f97bae0a1b72ce8190f75e238cef04d5b1ec3c85540f6df0c80c4d686", func := "wharf/wharflaw15.InitialCookies", spec := "initialCookies", inPlace := ["internal/reflectlite.ValueOf", "(internal/reflectlite.Value).Type", "(internal/reflectlite.Value).IsNil", "internal/reflectlite.TypeOf", "(internal/reflectlite.Value).Elem", "(internal/reflectlite.Value).Set"], unfollowed := true, recurses := true, named := ["wharf/kind.table", "wharf/kind.inside", "errors.errorType"], loops := true, apart := false, laid := [("errors.errorType", laid_errors_errorType), ("wharf/kind.table", laid_wharf_kind_table), ("wharf/kind.inside", laid_wharf_kind_inside)] }
def InitialCookiesSaid : Prop := initialCookiesRow.holds Tryz.pinned (OpenSpec.ofChange initialCookiesSpec)

/-- ITS FALSE NEIGHBOUR: 'it returns false'. Refute it at one input. -/
def initialCookiesWrong : ChangeSpec := { name := "initialCookies", fn := fun _ => fun
  | [d] => { results := [.lit (.bool false)], args := [d] }
  | _ => none }
def InitialCookiesWrongFalsely : Prop := initialCookiesRow.holds Tryz.pinned (OpenSpec.ofChange initialCookiesWrong)

/-- 'wharflaw12.ChunkCopies': WHATEVER THE INPUT: true; the input reads as it did. -/
def chunkCopiesSpec : ChangeSpec := { name := "chunkCopies", fn := fun _ => fun
  | [d1, d2] => { results := [.lit (.bool true)], args := [d1, d2] }
  | _ => none }
def chunkCopiesRow : OpenClaim := { program := "ytokbbdodbjiciaagreatdoor", sum := "cb11474f97bae0a1b72ce8190f75e238cef04d5b1ec3c85540f6df0c80c4d686", func := "wharf/wharflaw12.ChunkCopies", spec := "chunkCopies", inPlace := ["internal/reflectlite.ValueOf", "(internal/reflectlite.Value).Type", "(internal/reflectlite.Value).IsNil", "internal/reflectlite.TypeOf", "(internal/reflectlite.Value).Elem", "(internal/reflectlite.Value).Set"], unfollowed := true, recurses := true, named := ["wharf/kind.table", "wharf/kind.inside", "errors.errorType"], loops := true, apart := false, laid := [("errors.errorType", laid_errors_errorType), ("wharf/kind.table", laid_wharf_kind_table), ("wharf/kind.inside", laid_wharf_kind_inside)] }
def ChunkCopiesSaid : Prop := chunkCopiesRow.holds Tryz.pinned (OpenSpec.ofChange chunkCopiesSpec)

/-- ITS FALSE NEIGHBOUR: 'it returns false'. Refute it at one input. -/
def chunkCopiesWrong : ChangeSpec := { name := "chunkCopies", fn := fun _ => fun
  | [d1, d2] => { results := [.lit (.bool false)], args := [d1, d2] }
  | _ => none }
def ChunkCopiesWrongFalsely : Prop := chunkCopiesRow.holds Tryz.pinned (OpenSpec.ofChange chunkCopiesWrong)

/- THE SECOND FORM. 'bulk': how many values and letters a reading holds, each counted each time it is reached (what is shared counts as often as it is met; a slice's spare places count too). A statement '..UptoSaid' is the law's where the arguments, and the package variables that the reading takes, are together of bulk at most 1048576: NARROWER than '..Said'. Prove '..Said' where nothing that the law and all that it calls make is longer than what came in: it says more and counts as full. Else prove '..UptoSaid'. A law counts once. -/
mutual
def uptoBulk {H : Type} : DataW H → Nat
  | .lit (.string bytes) => bytes.length + 1
  | .lit _ => 1
  | .nil => 1
  | .ptr d => uptoBulk d + 1
  | .slice elems spare => uptoBulkAll elems + uptoBulkAll spare + 1
  | .agg parts => uptoBulkAll parts + 1
  | .iface _ d => uptoBulk d + 1
  | .map entries => uptoBulkEntries entries + 1
  | .held _ => 1
def uptoBulkAll {H : Type} : List (DataW H) → Nat
  | [] => 0
  | d :: r => uptoBulk d + uptoBulkAll r
def uptoBulkEntries {H : Type} : List (Lit × DataW H) → Nat
  | [] => 0
  | x :: r => uptoBulkEntry x + uptoBulkEntries r
def uptoBulkEntry {H : Type} : Lit × DataW H → Nat
  | (.string bytes, d) => bytes.length + uptoBulk d + 1
  | (_, d) => uptoBulk d + 1
 end
def uptoSmall : (H : Type) → List (DataW H) → Bool := fun _ ds => decide (uptoBulkAll ds ≤ 1048576)
def OpenSpec.upto (s : _root_.Go.ChangeSpec) : _root_.Go.OpenSpec := { _root_.Go.OpenSpec.ofChange s with cond := some uptoSmall }

/-- 'wharflaw25.ReportNodes', WHERE WHAT IT READS IS OF BULK AT MOST 1048576: true; the input reads as it did. -/
def reportNodesUptoRow : OpenClaim := { program := "ytokbbdodbjiciaagreatdoor", sum := "cb11474f97bae0a1b72ce8190f75e238cef04d5b1ec3c85540f6df0c80c4d686", func := "wharf/wharflaw25.ReportNodes", spec := "reportNodes", inPlace := ["internal/reflectlite.ValueOf", "(internal/reflectlite.Value).Type", "(internal/reflectlite.Value).IsNil", "internal/reflectlite.TypeOf", "(internal/reflectlite.Value).Elem", "(internal/reflectlite.Value).Set"], unfollowed := true, recurses := true, named := ["wharf/kind.table", "wharf/kind.inside", "errors.errorType", "wharf/legal.alone"], loops := true, apart := false, laid := [("errors.errorType", laid_errors_errorType), ("wharf/kind.table", laid_wharf_kind_table), ("wharf/kind.inside", laid_wharf_kind_inside), ("wharf/legal.alone", laid_wharf_legal_alone)], narrowed := true }
def ReportNodesUptoSaid : Prop := reportNodesUptoRow.holds Tryz.pinned (OpenSpec.upto reportNodesSpec)

/-- 'wharflaw25.ReportReads', WHERE WHAT IT READS IS OF BULK AT MOST 1048576: true; the input reads as it did. -/
def reportReadsUptoRow : OpenClaim := { program := "ytokbbdodbjiciaagreatdoor", sum := "cb11474f97bae0a1b72ce8190f75e238cef04d5b1ec3c85540f6df0c80c4d686", func := "wharf/wharflaw25.ReportReads", spec := "reportReads", inPlace := ["internal/reflectlite.ValueOf", "(internal/reflectlite.Value).Type", "(internal/reflectlite.Value).IsNil", "internal/reflectlite.TypeOf", "(internal/reflectlite.Value).Elem", "(internal/reflectlite.Value).Set"], unfollowed := true, recurses := true, named := ["wharf/kind.table", "wharf/kind.inside", "errors.errorType", "wharf/legal.alone"], loops := true, apart := false, laid := [("errors.errorType", laid_errors_errorType), ("wharf/kind.table", laid_wharf_kind_table), ("wharf/kind.inside", laid_wharf_kind_inside), ("wharf/legal.alone", laid_wharf_legal_alone)], narrowed := true }
def ReportReadsUptoSaid : Prop := reportReadsUptoRow.holds Tryz.pinned (OpenSpec.upto reportReadsSpec)

/-- 'wharflaw25.ReportBack', WHERE WHAT IT READS IS OF BULK AT MOST 1048576: true; the input reads as it did. -/
def reportBackUptoRow : OpenClaim := { program := "ytokbbdodbjiciaagreatdoor", sum := "cb11474f97bae0a1b72ce8190f75e238cef04d5b1ec3c85540f6df0c80c4d686", func := "wharf/wharflaw25.ReportBack", spec := "reportBack", inPlace := ["internal/reflectlite.ValueOf", "(internal/reflectlite.Value).Type", "(internal/reflectlite.Value).IsNil", "internal/reflectlite.TypeOf", "(internal/reflectlite.Value).Elem", "(internal/reflectlite.Value).Set"], unfollowed := true, recurses := true, named := ["wharf/kind.table", "wharf/kind.inside", "errors.errorType", "wharf/legal.alone"], loops := true, apart := false, laid := [("errors.errorType", laid_errors_errorType), ("wharf/kind.table", laid_wharf_kind_table), ("wharf/kind.inside", laid_wharf_kind_inside), ("wharf/legal.alone", laid_wharf_legal_alone)], narrowed := true }
def ReportBackUptoSaid : Prop := reportBackUptoRow.holds Tryz.pinned (OpenSpec.upto reportBackSpec)

/-- 'wharflaw25.ReportNone', WHERE WHAT IT READS IS OF BULK AT MOST 1048576: true; the input reads as it did. -/
def reportNoneUptoRow : OpenClaim := { program := "ytokbbdodbjiciaagreatdoor", sum := "cb11474f97bae0a1b72ce8190f75e238cef04d5b1ec3c85540f6df0c80c4d686", func := "wharf/wharflaw25.ReportNone", spec := "reportNone", inPlace := ["internal/reflectlite.ValueOf", "(internal/reflectlite.Value).Type", "(internal/reflectlite.Value).IsNil", "internal/reflectlite.TypeOf", "(internal/reflectlite.Value).Elem", "(internal/reflectlite.Value).Set"], unfollowed := true, recurses := true, named := ["wharf/kind.table", "wharf/kind.inside", "errors.errorType", "wharf/legal.alone"], loops := true, apart := false, laid := [("errors.errorType", laid_errors_errorType), ("wharf/kind.table", laid_wharf_kind_table), ("wharf/kind.inside", laid_wharf_kind_inside), ("wharf/legal.alone", laid_wharf_legal_alone)], narrowed := true }
def ReportNoneUptoSaid : Prop := reportNoneUptoRow.holds Tryz.pinned (OpenSpec.upto reportNoneSpec)

/-- 'wharflaw20.ControlAnswers', WHERE WHAT IT READS IS OF BULK AT MOST 1048576: true; the input reads as it did. -/
def controlAnswersUptoRow : OpenClaim := { program := "ytokbbdodbjiciaagreatdoor", sum := "cb11474f97bae0a1b72ce8190f75e238cef04d5b1ec3c85540f6df0c80c4d686", func := "wharf/wharflaw20.ControlAnswers", spec := "controlAnswers", inPlace := ["internal/reflectlite.ValueOf", "(internal/reflectlite.Value).Type", "(internal/reflectlite.Value).IsNil", "internal/reflectlite.TypeOf", "(internal/reflectlite.Value).Elem", "(internal/reflectlite.Value).Set"], unfollowed := true, recurses := true, named := ["wharf/kind.table", "wharf/kind.inside", "errors.errorType"], loops := true, apart := false, laid := [("errors.errorType", laid_errors_errorType), ("wharf/kind.table", laid_wharf_kind_table), ("wharf/kind.inside", laid_wharf_kind_inside)], narrowed := true }
def ControlAnswersUptoSaid : Prop := controlAnswersUptoRow.holds Tryz.pinned (OpenSpec.upto controlAnswersSpec)

/-- 'wharflaw15.InitialCookies', WHERE WHAT IT READS IS OF BULK AT MOST 1048576: true; the input reads as it did. -/
def initialCookiesUptoRow : OpenClaim := { program := "ytokbbdodbjiciaagreatdoor", sum := "cb11474f97bae0a1b72ce8190f75e238cef04d5b1ec3c85540f6df0c80c4d686", func := "wharf/wharflaw15.InitialCookies", spec := "initialCookies", inPlace := ["internal/reflectlite.ValueOf", "(internal/reflectlite.Value).Type", "(internal/reflectlite.Value).IsNil", "internal/reflectlite.TypeOf", "(internal/reflectlite.Value).Elem", "(internal/reflectlite.Value).Set"], unfollowed := true, recurses := true, named := ["wharf/kind.table", "wharf/kind.inside", "errors.errorType"], loops := true, apart := false, laid := [("errors.errorType", laid_errors_errorType), ("wharf/kind.table", laid_wharf_kind_table), ("wharf/kind.inside", laid_wharf_kind_inside)], narrowed := true }
def InitialCookiesUptoSaid : Prop := initialCookiesUptoRow.holds Tryz.pinned (OpenSpec.upto initialCookiesSpec)

/-- 'wharflaw12.ChunkCopies', WHERE WHAT IT READS IS OF BULK AT MOST 1048576: true; the input reads as it did. -/
def chunkCopiesUptoRow : OpenClaim := { program := "ytokbbdodbjiciaagreatdoor", sum := "cb11474f97bae0a1b72ce8190f75e238cef04d5b1ec3c85540f6df0c80c4d686", func := "wharf/wharflaw12.ChunkCopies", spec := "chunkCopies", inPlace := ["internal/reflectlite.ValueOf", "(internal/reflectlite.Value).Type", "(internal/reflectlite.Value).IsNil", "internal/reflectlite.TypeOf", "(internal/reflectlite.Value).Elem", "(internal/reflectlite.Value).Set"], unfollowed := true, recurses := true, named := ["wharf/kind.table", "wharf/kind.inside", "errors.errorType"], loops := true, apart := false, laid := [("errors.errorType", laid_errors_errorType), ("wharf/kind.table", laid_wharf_kind_table), ("wharf/kind.inside", laid_wharf_kind_inside)], narrowed := true }
def ChunkCopiesUptoSaid : Prop := chunkCopiesUptoRow.holds Tryz.pinned (OpenSpec.upto chunkCopiesSpec)

end Rows
end Go.Proofs.YtokbbdodbjiciaaGreatDoor
