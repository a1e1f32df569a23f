/-
  NARROWER THAN 'FOR EVERY INPUT', by the rows' own cells (each row's printed sentence says how): DisposeMatchesReference: loops, laid · DisposeCleans: loops, laid · DisposeReports: loops, laid · DisposeKnown: loops, laid · DisposeBegins: loops, laid.
  DERIVED. THE GIVEN ROWS OF THIS SEAT. 5 by the template 'for every input the law returns true; each argument reads behind the call as it read before'; 0 by the template 'total and deterministic' (their statements: YtldoehmlpdpiaaaGreatDoorTotals.lean).
  GIVEN WITH THE SEED: the statements are not yours to turn. If you find one false, say at which input.
  Laid BY PROGRAM, IN A SANDBOX (cutbox-rows.mjs): the forced cells as the released guide's own fill.sh prints them over the translation 8da1373a231b1f90… (all of the seat's roots in one cut). By AI agents, Wed Nov 11 2026. No macro, syntax, notation, axiom, sorry.
-/
import Derived.Test.YtldoehmlpdpiaaaGreatDoorChecked
import GoSem.Claim
import GoSem.ClaimJoined
import GoSem.ClaimMapViews
import Derived.JoinedTies
import Derived.KernelRfl
namespace Go.Proofs.YtldoehmlpdpiaaaGreatDoor
/- THE CELL 'sum', in the pinned program and in every row, IS THE sha256 OF THE DUMP (.gsa) THAT YtldoehmlpdpiaaaGreatDoorProg.lean LOADS. Nothing in Lean hashes anything: it is a label: what it is worth is what the hold of that sum in a sandbox is worth. -/
noncomputable def Tryz.pinned : Pinned := { name := "ytldoehmlpdpiaaagreatdoor", sum := "8da1373a231b1f905c48ed1d95e9127001e31714dc9f6e9ed034b5bd4e4a6546", checked := Tryz.checked }
namespace Rows
def none {H : Type} : Left H := { results := [], args := [] }

/- WHAT THE LISTED PACKAGE-LEVEL VARIABLES READ AS WHEN THE CALL BEGINS. Each datum BY PROGRAM (the guide's laid-datum.mjs) off the statement by which the dump's own 'gosem.cut.vars' lays the variable. In a bare row this is a premise. The card (YtldoehmlpdpiaaaGreatDoorCards.lean) ties it to the program's text. -/
def laid_errors_errorType {H : Type} : DataW H := .iface "internal/reflectlite.rtype" (.agg [.ptr (.lit (.string [101, 114, 114, 111, 114]))])
def laid_wharf_kind_table {H : Type} : DataW H := .agg [.agg [.lit (.int .u8 0), .lit (.string [100, 97, 116, 97]), .lit (.int .u8 15), .lit (.int .i64 13), .lit (.int .i64 65531), .lit (.int .i64 1), .lit (.int .i64 0)], .agg [.lit (.int .u8 1), .lit (.string [105, 110, 105, 116]), .lit (.int .u8 0), .lit (.int .i64 16), .lit (.int .i64 16), .lit (.int .i64 1), .lit (.int .i64 2)], .agg [.lit (.int .u8 2), .lit (.string [105, 110, 105, 116, 45, 97, 99, 107]), .lit (.int .u8 0), .lit (.int .i64 16), .lit (.int .i64 16), .lit (.int .i64 1), .lit (.int .i64 2)], .agg [.lit (.int .u8 3), .lit (.string [115, 97, 99, 107]), .lit (.int .u8 0), .lit (.int .i64 12), .lit (.int .i64 65531), .lit (.int .i64 4), .lit (.int .i64 0)], .agg [.lit (.int .u8 4), .lit (.string [104, 101, 97, 114, 116, 98, 101, 97, 116]), .lit (.int .u8 0), .lit (.int .i64 0), .lit (.int .i64 0), .lit (.int .i64 1), .lit (.int .i64 1)], .agg [.lit (.int .u8 5), .lit (.string [104, 101, 97, 114, 116, 98, 101, 97, 116, 45, 97, 99, 107]), .lit (.int .u8 0), .lit (.int .i64 0), .lit (.int .i64 0), .lit (.int .i64 1), .lit (.int .i64 1)], .agg [.lit (.int .u8 6), .lit (.string [97, 98, 111, 114, 116]), .lit (.int .u8 1), .lit (.int .i64 0), .lit (.int .i64 0), .lit (.int .i64 1), .lit (.int .i64 3)], .agg [.lit (.int .u8 7), .lit (.string [115, 104, 117, 116, 100, 111, 119, 110]), .lit (.int .u8 0), .lit (.int .i64 4), .lit (.int .i64 4), .lit (.int .i64 1), .lit (.int .i64 0)], .agg [.lit (.int .u8 8), .lit (.string [115, 104, 117, 116, 100, 111, 119, 110, 45, 97, 99, 107]), .lit (.int .u8 0), .lit (.int .i64 0), .lit (.int .i64 0), .lit (.int .i64 1), .lit (.int .i64 0)], .agg [.lit (.int .u8 9), .lit (.string [101, 114, 114, 111, 114]), .lit (.int .u8 0), .lit (.int .i64 0), .lit (.int .i64 0), .lit (.int .i64 1), .lit (.int .i64 4)], .agg [.lit (.int .u8 10), .lit (.string [99, 111, 111, 107, 105, 101, 45, 101, 99, 104, 111]), .lit (.int .u8 0), .lit (.int .i64 1), .lit (.int .i64 65531), .lit (.int .i64 1), .lit (.int .i64 0)], .agg [.lit (.int .u8 11), .lit (.string [99, 111, 111, 107, 105, 101, 45, 97, 99, 107]), .lit (.int .u8 0), .lit (.int .i64 0), .lit (.int .i64 0), .lit (.int .i64 1), .lit (.int .i64 0)], .agg [.lit (.int .u8 12), .lit (.string [101, 99, 110, 101]), .lit (.int .u8 0), .lit (.int .i64 4), .lit (.int .i64 4), .lit (.int .i64 1), .lit (.int .i64 0)], .agg [.lit (.int .u8 13), .lit (.string [99, 119, 114]), .lit (.int .u8 0), .lit (.int .i64 4), .lit (.int .i64 4), .lit (.int .i64 1), .lit (.int .i64 0)], .agg [.lit (.int .u8 14), .lit (.string [115, 104, 117, 116, 100, 111, 119, 110, 45, 99, 111, 109, 112, 108, 101, 116, 101]), .lit (.int .u8 1), .lit (.int .i64 0), .lit (.int .i64 0), .lit (.int .i64 1), .lit (.int .i64 0)], .agg [.lit (.int .u8 15), .lit (.string [97, 117, 116, 104]), .lit (.int .u8 0), .lit (.int .i64 5), .lit (.int .i64 65531), .lit (.int .i64 1), .lit (.int .i64 0)], .agg [.lit (.int .u8 64), .lit (.string [105, 45, 100, 97, 116, 97]), .lit (.int .u8 15), .lit (.int .i64 17), .lit (.int .i64 65531), .lit (.int .i64 1), .lit (.int .i64 0)], .agg [.lit (.int .u8 128), .lit (.string [97, 115, 99, 111, 110, 102, 45, 97, 99, 107]), .lit (.int .u8 0), .lit (.int .i64 4), .lit (.int .i64 4), .lit (.int .i64 1), .lit (.int .i64 2)], .agg [.lit (.int .u8 130), .lit (.string [114, 101, 45, 99, 111, 110, 102, 105, 103]), .lit (.int .u8 0), .lit (.int .i64 0), .lit (.int .i64 0), .lit (.int .i64 1), .lit (.int .i64 5)], .agg [.lit (.int .u8 132), .lit (.string [112, 97, 100]), .lit (.int .u8 0), .lit (.int .i64 0), .lit (.int .i64 65531), .lit (.int .i64 1), .lit (.int .i64 0)], .agg [.lit (.int .u8 192), .lit (.string [102, 111, 114, 119, 97, 114, 100, 45, 116, 115, 110]), .lit (.int .u8 0), .lit (.int .i64 4), .lit (.int .i64 65531), .lit (.int .i64 4), .lit (.int .i64 0)], .agg [.lit (.int .u8 193), .lit (.string [97, 115, 99, 111, 110, 102]), .lit (.int .u8 0), .lit (.int .i64 4), .lit (.int .i64 4), .lit (.int .i64 1), .lit (.int .i64 6)], .agg [.lit (.int .u8 194), .lit (.string [105, 45, 102, 111, 114, 119, 97, 114, 100, 45, 116, 115, 110]), .lit (.int .u8 0), .lit (.int .i64 4), .lit (.int .i64 65531), .lit (.int .i64 8), .lit (.int .i64 0)]]
def laid_wharf_kind_inside {H : Type} : DataW H := .agg [.agg [.lit (.int .i64 0), .lit (.int .i64 0), .lit (.int .i64 0)], .agg [.lit (.int .i64 1), .lit (.int .i64 1), .lit (.int .i64 1)], .agg [.lit (.int .i64 1), .lit (.int .i64 0), .lit (.int .i64 16384)], .agg [.lit (.int .i64 2), .lit (.int .i64 0), .lit (.int .i64 16384)], .agg [.lit (.int .i64 2), .lit (.int .i64 1), .lit (.int .i64 16384)], .agg [.lit (.int .i64 1), .lit (.int .i64 1), .lit (.int .i64 2)], .agg [.lit (.int .i64 1), .lit (.int .i64 2), .lit (.int .i64 16384)]]

/-- 'wharflaw24.DisposeMatchesReference': WHATEVER THE INPUT: true; the input reads as it did. -/
def disposeMatchesReferenceSpec : ChangeSpec := { name := "disposeMatchesReference", fn := fun _ => fun
  | [d] => { results := [.lit (.bool true)], args := [d] }
  | _ => none }
def disposeMatchesReferenceRow : OpenClaim := { program := "ytldoehmlpdpiaaagreatdoor", sum := "8da1373a231b1f905c48ed1d95e9127001e31714dc9f6e9ed034b5bd4e4a6546", func := "wharf/wharflaw24.DisposeMatchesReference", spec := "disposeMatchesReference", inPlace := ["internal/reflectlite.ValueOf", "(internal/reflectlite.Value).Type", "(internal/reflectlite.Value).IsNil", "internal/reflectlite.TypeOf", "(internal/reflectlite.Value).Elem", "(internal/reflectlite.Value).Set"], unfollowed := true, recurses := true, named := ["wharf/kind.table", "wharf/kind.inside", "errors.errorType"], loops := true, apart := false, laid := [("errors.errorType", laid_errors_errorType), ("wharf/kind.table", laid_wharf_kind_table), ("wharf/kind.inside", laid_wharf_kind_inside)] }
def DisposeMatchesReferenceSaid : Prop := disposeMatchesReferenceRow.holds Tryz.pinned (OpenSpec.ofChange disposeMatchesReferenceSpec)

/-- ITS FALSE NEIGHBOUR: 'it returns false'. Refute it at one input. -/
def disposeMatchesReferenceWrong : ChangeSpec := { name := "disposeMatchesReference", fn := fun _ => fun
  | [d] => { results := [.lit (.bool false)], args := [d] }
  | _ => none }
def DisposeMatchesReferenceWrongFalsely : Prop := disposeMatchesReferenceRow.holds Tryz.pinned (OpenSpec.ofChange disposeMatchesReferenceWrong)

/-- 'wharflaw24.DisposeCleans': WHATEVER THE INPUT: true; the input reads as it did. -/
def disposeCleansSpec : ChangeSpec := { name := "disposeCleans", fn := fun _ => fun
  | [d] => { results := [.lit (.bool true)], args := [d] }
  | _ => none }
def disposeCleansRow : OpenClaim := { program := "ytldoehmlpdpiaaagreatdoor", sum := "8da1373a231b1f905c48ed1d95e9127001e31714dc9f6e9ed034b5bd4e4a6546", func := "wharf/wharflaw24.DisposeCleans", spec := "disposeCleans", inPlace := ["internal/reflectlite.ValueOf", "(internal/reflectlite.Value).Type", "(internal/reflectlite.Value).IsNil", "internal/reflectlite.TypeOf", "(internal/reflectlite.Value).Elem", "(internal/reflectlite.Value).Set"], unfollowed := true, recurses := true, named := ["wharf/kind.table", "wharf/kind.inside", "errors.errorType"], loops := true, apart := false, laid := [("errors.errorType", laid_errors_errorType), ("wharf/kind.table", laid_wharf_kind_table), ("wharf/kind.inside", laid_wharf_kind_inside)] }
def DisposeCleansSaid : Prop := disposeCleansRow.holds Tryz.pinned (OpenSpec.ofChange disposeCleansSpec)

/-- ITS FALSE NEIGHBOUR: 'it returns false'. Refute it at one input. -/
def disposeCleansWrong : ChangeSpec := { name := "disposeCleans", fn := fun _ => fun
  | [d] => { results := [.lit (.bool false)], args := [d] }
  | _ => none }
def DisposeCleansWrongFalsely : Prop := disposeCleansRow.holds Tryz.pinned (OpenSpec.ofChange disposeCleansWrong)

/-- 'wharflaw24.DisposeReports': WHATEVER THE INPUT: true; the input reads as it did. -/
def disposeReportsSpec : ChangeSpec := { name := "disposeReports", fn := fun _ => fun
  | [d] => { results := [.lit (.bool true)], args := [d] }
  | _ => none }
def disposeReportsRow : OpenClaim := { program := "ytldoehmlpdpiaaagreatdoor", sum := "8da1373a231b1f905c48ed1d95e9127001e31714dc9f6e9ed034b5bd4e4a6546", func := "wharf/wharflaw24.DisposeReports", spec := "disposeReports", inPlace := ["internal/reflectlite.ValueOf", "(internal/reflectlite.Value).Type", "(internal/reflectlite.Value).IsNil", "internal/reflectlite.TypeOf", "(internal/reflectlite.Value).Elem", "(internal/reflectlite.Value).Set"], unfollowed := true, recurses := true, named := ["wharf/kind.table", "wharf/kind.inside", "errors.errorType"], loops := true, apart := false, laid := [("errors.errorType", laid_errors_errorType), ("wharf/kind.table", laid_wharf_kind_table), ("wharf/kind.inside", laid_wharf_kind_inside)] }
def DisposeReportsSaid : Prop := disposeReportsRow.holds Tryz.pinned (OpenSpec.ofChange disposeReportsSpec)

/-- ITS FALSE NEIGHBOUR: 'it returns false'. Refute it at one input. -/
def disposeReportsWrong : ChangeSpec := { name := "disposeReports", fn := fun _ => fun
  | [d] => { results := [.lit (.bool false)], args := [d] }
  | _ => none }
def DisposeReportsWrongFalsely : Prop := disposeReportsRow.holds Tryz.pinned (OpenSpec.ofChange disposeReportsWrong)

/-- 'wharflaw24.DisposeKnown': WHATEVER THE INPUT: true; the input reads as it did. -/
def disposeKnownSpec : ChangeSpec := { name := "disposeKnown", fn := fun _ => fun
  | [d] => { results := [.lit (.bool true)], args := [d] }
  | _ => none }
def disposeKnownRow : OpenClaim := { program := "ytldoehmlpdpiaaagreatdoor", sum := "8da1373a231b1f905c48ed1d95e9127001e31714dc9f6e9ed034b5bd4e4a6546", func := "wharf/wharflaw24.DisposeKnown", spec := "disposeKnown", inPlace := ["internal/reflectlite.ValueOf", "(internal/reflectlite.Value).Type", "(internal/reflectlite.Value).IsNil", "internal/reflectlite.TypeOf", "(internal/reflectlite.Value).Elem", "(internal/reflectlite.Value).Set"], unfollowed := true, recurses := true, named := ["wharf/kind.table", "wharf/kind.inside", "errors.errorType"], loops := true, apart := false, laid := [("errors.errorType", laid_errors_errorType), ("wharf/kind.table", laid_wharf_kind_table), ("wharf/kind.inside", laid_wharf_kind_inside)] }
def DisposeKnownSaid : Prop := disposeKnownRow.holds Tryz.pinned (OpenSpec.ofChange disposeKnownSpec)

/-- ITS FALSE NEIGHBOUR: 'it returns false'. Refute it at one input. -/
def disposeKnownWrong : ChangeSpec := { name := "disposeKnown", fn := fun _ => fun
  | [d] => { results := [.lit (.bool false)], args := [d] }
  | _ => none }
def DisposeKnownWrongFalsely : Prop := disposeKnownRow.holds Tryz.pinned (OpenSpec.ofChange disposeKnownWrong)

/-- 'wharflaw24.DisposeBegins': WHATEVER THE INPUT: true; the input reads as it did. -/
def disposeBeginsSpec : ChangeSpec := { name := "disposeBegins", fn := fun _ => fun
  | [d1, d2] => { results := [.lit (.bool true)], args := [d1, d2] }
  | _ => none }
def disposeBeginsRow : OpenClaim := { program := "ytldoehmlpdpiaaagreatdoor", sum := "8da1373a231b1f905c48ed1d95e9127001e31714dc9f6e9ed034b5bd4e4a6546", func := "wharf/wharflaw24.DisposeBegins", spec := "disposeBegins", inPlace := ["internal/reflectlite.ValueOf", "(internal/reflectlite.Value).Type", "(internal/reflectlite.Value).IsNil", "internal/reflectlite.TypeOf", "(internal/reflectlite.Value).Elem", "(internal/reflectlite.Value).Set"], unfollowed := true, recurses := true, named := ["wharf/kind.table", "wharf/kind.inside", "errors.errorType"], loops := true, apart := false, laid := [("errors.errorType", laid_errors_errorType), ("wharf/kind.table", laid_wharf_kind_table), ("wharf/kind.inside", laid_wharf_kind_inside)] }
def DisposeBeginsSaid : Prop := disposeBeginsRow.holds Tryz.pinned (OpenSpec.ofChange disposeBeginsSpec)

/-- ITS FALSE NEIGHBOUR: 'it returns false'. Refute it at one input. -/
def disposeBeginsWrong : ChangeSpec := { name := "disposeBegins", fn := fun _ => fun
  | [d1, d2] => { results := [.lit (.bool false)], args := [d1, d2] }
  | _ => none }
def DisposeBeginsWrongFalsely : Prop := disposeBeginsRow.holds Tryz.pinned (OpenSpec.ofChange disposeBeginsWrong)

/- THE SECOND FORM. 'bulk': how many values and letters a reading holds, each counted each time it is reached (what is shared counts as often as it is met; a slice's spare places count too). A statement '..UptoSaid' is the law's where the arguments, and the package variables that the reading takes, are together of bulk at most 1048576: NARROWER than '..Said'. Prove '..Said' where nothing that the law and all that it calls make is longer than what came in: it says more and counts as full. Else prove '..UptoSaid'. A law counts once. -/
mutual
def uptoBulk {H : Type} : DataW H → Nat
  | .lit (.string bytes) => bytes.length + 1
  | .lit _ => 1
  | .nil => 1
  | .ptr d => uptoBulk d + 1
  | .slice elems spare => uptoBulkAll elems + uptoBulkAll spare + 1
  | .agg parts => uptoBulkAll parts + 1
  | .iface _ d => uptoBulk d + 1
  | .map entries => uptoBulkEntries entries + 1
  | .held _ => 1
def uptoBulkAll {H : Type} : List (DataW H) → Nat
  | [] => 0
  | d :: r => uptoBulk d + uptoBulkAll r
def uptoBulkEntries {H : Type} : List (Lit × DataW H) → Nat
  | [] => 0
  | x :: r => uptoBulkEntry x + uptoBulkEntries r
def uptoBulkEntry {H : Type} : Lit × DataW H → Nat
  | (.string bytes, d) => bytes.length + uptoBulk d + 1
  | (_, d) => uptoBulk d + 1
 end
def uptoSmall : (H : Type) → List (DataW H) → Bool := fun _ ds => decide (uptoBulkAll ds ≤ 1048576)
def OpenSpec.upto (s : _root_.Go.ChangeSpec) : _root_.Go.OpenSpec := { _root_.Go.OpenSpec.ofChange s with cond := some uptoSmall }

/-- 'wharflaw24.DisposeMatchesReference', WHERE WHAT IT READS IS OF BULK AT MOST 1048576: true; the input reads as it did. -/
def disposeMatchesReferenceUptoRow : OpenClaim := { program := "ytldoehmlpdpiaaagreatdoor", sum := "8da1373a231b1f905c48ed1d95e9127001e31714dc9f6e9ed034b5bd4e4a6546", func := "wharf/wharflaw24.DisposeMatchesReference", spec := "disposeMatchesReference", inPlace := ["internal/reflectlite.ValueOf", "(internal/reflectlite.Value).Type", "(internal/reflectlite.Value).IsNil", "internal/reflectlite.TypeOf", "(internal/reflectlite.Value).Elem", "(internal/reflectlite.Value).Set"], unfollowed := true, recurses := true, named := ["wharf/kind.table", "wharf/kind.inside", "errors.errorType"], loops := true, apart := false, laid := [("errors.errorType", laid_errors_errorType), ("wharf/kind.table", laid_wharf_kind_table), ("wharf/kind.inside", laid_wharf_kind_inside)], narrowed := true }
def DisposeMatchesReferenceUptoSaid : Prop := disposeMatchesReferenceUptoRow.holds Tryz.pinned (OpenSpec.upto disposeMatchesReferenceSpec)

/-- 'wharflaw24.DisposeCleans', WHERE WHAT IT READS IS OF BULK AT MOST 1048576: true; the input reads as it did. -/
def disposeCleansUptoRow : OpenClaim := { program := "ytldoehmlpdpiaaagreatdoor", sum := "8da1373a231b1f905c48ed1d95e9127001e31714dc9f6e9ed034b5bd4e4a6546", func := "wharf/wharflaw24.DisposeCleans", spec := "disposeCleans", inPlace := ["internal/reflectlite.ValueOf", "(internal/reflectlite.Value).Type", "(internal/reflectlite.Value).IsNil", "internal/reflectlite.TypeOf", "(internal/reflectlite.Value).Elem", "(internal/reflectlite.Value).Set"], unfollowed := true, recurses := true, named := ["wharf/kind.table", "wharf/kind.inside", "errors.errorType"], loops := true, apart := false, laid := [("errors.errorType", laid_errors_errorType), ("wharf/kind.table", laid_wharf_kind_table), ("wharf/kind.inside", laid_wharf_kind_inside)], narrowed := true }
def DisposeCleansUptoSaid : Prop := disposeCleansUptoRow.holds Tryz.pinned (OpenSpec.upto disposeCleansSpec)

/-- 'wharflaw24.DisposeReports', WHERE WHAT IT READS IS OF BULK AT MOST 1048576: true; the input reads as it did. -/
def disposeReportsUptoRow : OpenClaim := { program := "ytldoehmlpdpiaaagreatdoor", sum := "8da1373a231b1f905c48ed1d95e9127001e31714dc9f6e9ed034b5bd4e4a6546", func := "wharf/wharflaw24.DisposeReports", spec := "disposeReports", inPlace := ["internal/reflectlite.ValueOf", "(internal/reflectlite.Value).Type", "(internal/reflectlite.Value).IsNil", "internal/reflectlite.TypeOf", "(internal/reflectlite.Value).Elem", "(internal/reflectlite.Value).Set"], unfollowed := true, recurses := true, named := ["wharf/kind.table", "wharf/kind.inside", "errors.errorType"], loops := true, apart := false, laid := [("errors.errorType", laid_errors_errorType), ("wharf/kind.table", laid_wharf_kind_table), ("wharf/kind.inside", laid_wharf_kind_inside)], narrowed := true }
def DisposeReportsUptoSaid : Prop := disposeReportsUptoRow.holds Tryz.pinned (OpenSpec.upto disposeReportsSpec)

/-- 'wharflaw24.DisposeKnown', WHERE WHAT IT READS IS OF BULK AT MOST 1048576: true; the input reads as it did. -/
def disposeKnownUptoRow : OpenClaim := { program := "ytldoehmlpdpiaaagreatdoor", sum := "8da1373a231b1f905c48ed1d95e9127001e31714dc9f6e9ed034b5bd4e4a6546", func := "wharf/wharflaw24.DisposeKnown", spec := "disposeKnown", inPlace := ["internal/reflectlite.ValueOf", "(internal/reflectlite.Value).Type", "(internal/reflectlite.Value).IsNil", "internal/reflectlite.TypeOf", "(internal/reflectlite.Value).Elem", "(internal/reflectlite.Value).Set"], unfollowed := true, recurses := true, named := ["wharf/kind.table", "wharf/kind.inside", "errors.errorType"], loops := true, apart := false, laid := [("errors.errorType", laid_errors_errorType), ("wharf/kind.table", laid_wharf_kind_table), ("wharf/kind.inside", laid_wharf_kind_inside)], narrowed := true }
def DisposeKnownUptoSaid : Prop := disposeKnownUptoRow.holds Tryz.pinned (OpenSpec.upto disposeKnownSpec)

/-- 'wharflaw24.DisposeBegins', WHERE WHAT IT READS IS OF BULK AT MOST 1048576: true; the input reads as it did. -/
def disposeBeginsUptoRow : OpenClaim := { program := "ytldoehmlpdpiaaagreatdoor", sum := "8da1373a231b1f905c48ed1d95e9127001e31714dc9f6e9ed034b5bd4e4a6546", func := "wharf/wharflaw24.DisposeBegins", spec := "disposeBegins", inPlace := ["internal/reflectlite.ValueOf", "(internal/reflectlite.Value).Type", "(internal/reflectlite.Value).IsNil", "internal/reflectlite.TypeOf", "(internal/reflectlite.Value).Elem", "(internal/reflectlite.Value).Set"], unfollowed := true, recurses := true, named := ["wharf/kind.table", "wharf/kind.inside", "errors.errorType"], loops := true, apart := false, laid := [("errors.errorType", laid_errors_errorType), ("wharf/kind.table", laid_wharf_kind_table), ("wharf/kind.inside", laid_wharf_kind_inside)], narrowed := true }
def DisposeBeginsUptoSaid : Prop := disposeBeginsUptoRow.holds Tryz.pinned (OpenSpec.upto disposeBeginsSpec)

end Rows
end Go.Proofs.YtldoehmlpdpiaaaGreatDoor
