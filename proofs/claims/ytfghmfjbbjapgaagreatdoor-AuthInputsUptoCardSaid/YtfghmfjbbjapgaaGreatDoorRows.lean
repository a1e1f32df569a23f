/-
  NARROWER THAN 'FOR EVERY INPUT', by the rows' own cells (each row's printed sentence says how): StreamReads: loops, laid · StreamMakes: loops, laid · StreamAnswers: loops, laid · StreamMore: laid · StreamMatchesReference: laid · AuthChunks: loops, laid · AuthInputs: loops, laid.
  DERIVED. THE GIVEN ROWS OF THIS SEAT. 7 by the template 'for every input the law returns true; each argument reads behind the call as it read before'; 0 by the template 'total and deterministic' (their statements: YtfghmfjbbjapgaaGreatDoorTotals.lean).
  GIVEN WITH THE SEED: the statements are not yours to turn. If you find one false, say at which input.
  Laid BY PROGRAM, IN A SANDBOX (cutbox-rows.mjs): the forced cells as the released guide's own fill.sh prints them over the translation ee6149f0beb0b6e8… (all of the seat's roots in one cut). By AI agents, Wed Nov 11 2026. No macro, syntax, notation, axiom, sorry.
-/
import Derived.Test.YtfghmfjbbjapgaaGreatDoorChecked
import GoSem.Claim
import GoSem.ClaimJoined
import GoSem.ClaimMapViews
import Derived.JoinedTies
import Derived.KernelRfl
namespace Go.Proofs.YtfghmfjbbjapgaaGreatDoor
/- THE CELL 'sum', in the pinned program and in every row, IS THE sha256 OF THE DUMP (.gsa) THAT YtfghmfjbbjapgaaGreatDoorProg.lean LOADS. Nothing in Lean hashes anything: it is a label: what it is worth is what the hold of that sum in a sandbox is worth. -/
noncomputable def Tryz.pinned : Pinned := { name := "ytfghmfjbbjapgaagreatdoor", sum := "ee6149f0beb0b6e82abbdc254cad64388dac21244e27da4ba36b3ae59b37a0ec", checked := Tryz.checked }
namespace Rows
def none {H : Type} : Left H := { results := [], args := [] }

/- WHAT THE LISTED PACKAGE-LEVEL VARIABLES READ AS WHEN THE CALL BEGINS. Each datum BY PROGRAM (the guide's laid-datum.mjs) off the statement by which the dump's own 'gosem.cut.vars' lays the variable. In a bare row this is a premise. The card (YtfghmfjbbjapgaaGreatDoorCards.lean) ties it to the program's text. -/
def laid_errors_errorType {H : Type} : DataW H := .iface "internal/reflectlite.rtype" (.agg [.ptr (.lit (.string [101, 114, 114, 111, 114]))])
def laid_wharf_kind_table {H : Type} : DataW H := .agg [.agg [.lit (.int .u8 0), .lit (.string [100, 97, 116, 97]), .lit (.int .u8 15), .lit (.int .i64 13), .lit (.int .i64 65531), .lit (.int .i64 1), .lit (.int .i64 0)], .agg [.lit (.int .u8 1), .lit (.string [105, 110, 105, 116]), .lit (.int .u8 0), .lit (.int .i64 16), .lit (.int .i64 16), .lit (.int .i64 1), .lit (.int .i64 2)], .agg [.lit (.int .u8 2), .lit (.string [105, 110, 105, 116, 45, 97, 99, 107]), .lit (.int .u8 0), .lit (.int .i64 16), .lit (.int .i64 16), .lit (.int .i64 1), .lit (.int .i64 2)], .agg [.lit (.int .u8 3), .lit (.string [115, 97, 99, 107]), .lit (.int .u8 0), .lit (.int .i64 12), .lit (.int .i64 65531), .lit (.int .i64 4), .lit (.int .i64 0)], .agg [.lit (.int .u8 4), .lit (.string [104, 101, 97, 114, 116, 98, 101, 97, 116]), .lit (.int .u8 0), .lit (.int .i64 0), .lit (.int .i64 0), .lit (.int .i64 1), .lit (.int .i64 1)], .agg [.lit (.int .u8 5), .lit (.string [104, 101, 97, 114, 116, 98, 101, 97, 116, 45, 97, 99, 107]), .lit (.int .u8 0), .lit (.int .i64 0), .lit (.int .i64 0), .lit (.int .i64 1), .lit (.int .i64 1)], .agg [.lit (.int .u8 6), .lit (.string [97, 98, 111, 114, 116]), .lit (.int .u8 1), .lit (.int .i64 0), .lit (.int .i64 0), .lit (.int .i64 1), .lit (.int .i64 3)], .agg [.lit (.int .u8 7), .lit (.string [115, 104, 117, 116, 100, 111, 119, 110]), .lit (.int .u8 0), .lit (.int .i64 4), .lit (.int .i64 4), .lit (.int .i64 1), .lit (.int .i64 0)], .agg [.lit (.int .u8 8), .lit (.string [115, 104, 117, 116, 100, 111, 119, 110, 45, 97, 99, 107]), .lit (.int .u8 0), .lit (.int .i64 0), .lit (.int .i64 0), .lit (.int .i64 1), .lit (.int .i64 0)], .agg [.lit (.int .u8 9), .lit (.string [101, 114, 114, 111, 114]), .lit (.int .u8 0), .lit (.int .i64 0), .lit (.int .i64 0), .lit (.int .i64 1), .lit (.int .i64 4)], .agg [.lit (.int .u8 10), .lit (.string [99, 111, 111, 107, 105, 101, 45, 101, 99, 104, 111]), .lit (.int .u8 0), .lit (.int .i64 1), .lit (.int .i64 65531), .lit (.int .i64 1), .lit (.int .i64 0)], .agg [.lit (.int .u8 11), .lit (.string [99, 111, 111, 107, 105, 101, 45, 97, 99, 107]), .lit (.int .u8 0), .lit (.int .i64 0), .lit (.int .i64 0), .lit (.int .i64 1), .lit (.int .i64 0)], .agg [.lit (.int .u8 12), .lit (.string [101, 99, 110, 101]), .lit (.int .u8 0), .lit (.int .i64 4), .lit (.int .i64 4), .lit (.int .i64 1), .lit (.int .i64 0)], .agg [.lit (.int .u8 13), .lit (.string [99, 119, 114]), .lit (.int .u8 0), .lit (.int .i64 4), .lit (.int .i64 4), .lit (.int .i64 1), .lit (.int .i64 0)], .agg [.lit (.int .u8 14), .lit (.string [115, 104, 117, 116, 100, 111, 119, 110, 45, 99, 111, 109, 112, 108, 101, 116, 101]), .lit (.int .u8 1), .lit (.int .i64 0), .lit (.int .i64 0), .lit (.int .i64 1), .lit (.int .i64 0)], .agg [.lit (.int .u8 15), .lit (.string [97, 117, 116, 104]), .lit (.int .u8 0), .lit (.int .i64 5), .lit (.int .i64 65531), .lit (.int .i64 1), .lit (.int .i64 0)], .agg [.lit (.int .u8 64), .lit (.string [105, 45, 100, 97, 116, 97]), .lit (.int .u8 15), .lit (.int .i64 17), .lit (.int .i64 65531), .lit (.int .i64 1), .lit (.int .i64 0)], .agg [.lit (.int .u8 128), .lit (.string [97, 115, 99, 111, 110, 102, 45, 97, 99, 107]), .lit (.int .u8 0), .lit (.int .i64 4), .lit (.int .i64 4), .lit (.int .i64 1), .lit (.int .i64 2)], .agg [.lit (.int .u8 130), .lit (.string [114, 101, 45, 99, 111, 110, 102, 105, 103]), .lit (.int .u8 0), .lit (.int .i64 0), .lit (.int .i64 0), .lit (.int .i64 1), .lit (.int .i64 5)], .agg [.lit (.int .u8 132), .lit (.string [112, 97, 100]), .lit (.int .u8 0), .lit (.int .i64 0), .lit (.int .i64 65531), .lit (.int .i64 1), .lit (.int .i64 0)], .agg [.lit (.int .u8 192), .lit (.string [102, 111, 114, 119, 97, 114, 100, 45, 116, 115, 110]), .lit (.int .u8 0), .lit (.int .i64 4), .lit (.int .i64 65531), .lit (.int .i64 4), .lit (.int .i64 0)], .agg [.lit (.int .u8 193), .lit (.string [97, 115, 99, 111, 110, 102]), .lit (.int .u8 0), .lit (.int .i64 4), .lit (.int .i64 4), .lit (.int .i64 1), .lit (.int .i64 6)], .agg [.lit (.int .u8 194), .lit (.string [105, 45, 102, 111, 114, 119, 97, 114, 100, 45, 116, 115, 110]), .lit (.int .u8 0), .lit (.int .i64 4), .lit (.int .i64 65531), .lit (.int .i64 8), .lit (.int .i64 0)]]
def laid_wharf_kind_inside {H : Type} : DataW H := .agg [.agg [.lit (.int .i64 0), .lit (.int .i64 0), .lit (.int .i64 0)], .agg [.lit (.int .i64 1), .lit (.int .i64 1), .lit (.int .i64 1)], .agg [.lit (.int .i64 1), .lit (.int .i64 0), .lit (.int .i64 16384)], .agg [.lit (.int .i64 2), .lit (.int .i64 0), .lit (.int .i64 16384)], .agg [.lit (.int .i64 2), .lit (.int .i64 1), .lit (.int .i64 16384)], .agg [.lit (.int .i64 1), .lit (.int .i64 1), .lit (.int .i64 2)], .agg [.lit (.int .i64 1), .lit (.int .i64 2), .lit (.int .i64 16384)]]

/-- 'wharflaw17.StreamReads': WHATEVER THE INPUT: true; the input reads as it did. -/
def streamReadsSpec : ChangeSpec := { name := "streamReads", fn := fun _ => fun
  | [d] => { results := [.lit (.bool true)], args := [d] }
  | _ => none }
def streamReadsRow : OpenClaim := { program := "ytfghmfjbbjapgaagreatdoor", sum := "ee6149f0beb0b6e82abbdc254cad64388dac21244e27da4ba36b3ae59b37a0ec", func := "wharf/wharflaw17.StreamReads", spec := "streamReads", inPlace := ["internal/reflectlite.ValueOf", "(internal/reflectlite.Value).Type", "(internal/reflectlite.Value).IsNil", "internal/reflectlite.TypeOf", "(internal/reflectlite.Value).Elem", "(internal/reflectlite.Value).Set"], unfollowed := true, recurses := true, named := ["wharf/kind.table", "wharf/kind.inside", "errors.errorType"], loops := true, apart := false, laid := [("errors.errorType", laid_errors_errorType), ("wharf/kind.table", laid_wharf_kind_table), ("wharf/kind.inside", laid_wharf_kind_inside)] }
def StreamReadsSaid : Prop := streamReadsRow.holds Tryz.pinned (OpenSpec.ofChange streamReadsSpec)

/-- ITS FALSE NEIGHBOUR: 'it returns false'. Refute it at one input. -/
def streamReadsWrong : ChangeSpec := { name := "streamReads", fn := fun _ => fun
  | [d] => { results := [.lit (.bool false)], args := [d] }
  | _ => none }
def StreamReadsWrongFalsely : Prop := streamReadsRow.holds Tryz.pinned (OpenSpec.ofChange streamReadsWrong)

/-- 'wharflaw17.StreamMakes': WHATEVER THE INPUT: true; the input reads as it did. -/
def streamMakesSpec : ChangeSpec := { name := "streamMakes", fn := fun _ => fun
  | [d] => { results := [.lit (.bool true)], args := [d] }
  | _ => none }
def streamMakesRow : OpenClaim := { program := "ytfghmfjbbjapgaagreatdoor", sum := "ee6149f0beb0b6e82abbdc254cad64388dac21244e27da4ba36b3ae59b37a0ec", func := "wharf/wharflaw17.StreamMakes", spec := "streamMakes", inPlace := ["internal/reflectlite.ValueOf", "(internal/reflectlite.Value).Type", "(internal/reflectlite.Value).IsNil", "internal/reflectlite.TypeOf", "(internal/reflectlite.Value).Elem", "(internal/reflectlite.Value).Set"], unfollowed := true, recurses := true, named := ["wharf/kind.table", "wharf/kind.inside", "errors.errorType"], loops := true, apart := false, laid := [("errors.errorType", laid_errors_errorType), ("wharf/kind.table", laid_wharf_kind_table), ("wharf/kind.inside", laid_wharf_kind_inside)] }
def StreamMakesSaid : Prop := streamMakesRow.holds Tryz.pinned (OpenSpec.ofChange streamMakesSpec)

/-- ITS FALSE NEIGHBOUR: 'it returns false'. Refute it at one input. -/
def streamMakesWrong : ChangeSpec := { name := "streamMakes", fn := fun _ => fun
  | [d] => { results := [.lit (.bool false)], args := [d] }
  | _ => none }
def StreamMakesWrongFalsely : Prop := streamMakesRow.holds Tryz.pinned (OpenSpec.ofChange streamMakesWrong)

/-- 'wharflaw17.StreamAnswers': WHATEVER THE INPUT: true; the input reads as it did. -/
def streamAnswersSpec : ChangeSpec := { name := "streamAnswers", fn := fun _ => fun
  | [d1, d2] => { results := [.lit (.bool true)], args := [d1, d2] }
  | _ => none }
def streamAnswersRow : OpenClaim := { program := "ytfghmfjbbjapgaagreatdoor", sum := "ee6149f0beb0b6e82abbdc254cad64388dac21244e27da4ba36b3ae59b37a0ec", func := "wharf/wharflaw17.StreamAnswers", spec := "streamAnswers", inPlace := ["internal/reflectlite.ValueOf", "(internal/reflectlite.Value).Type", "(internal/reflectlite.Value).IsNil", "internal/reflectlite.TypeOf", "(internal/reflectlite.Value).Elem", "(internal/reflectlite.Value).Set"], unfollowed := true, recurses := true, named := ["wharf/kind.table", "wharf/kind.inside", "errors.errorType"], loops := true, apart := false, laid := [("errors.errorType", laid_errors_errorType), ("wharf/kind.table", laid_wharf_kind_table), ("wharf/kind.inside", laid_wharf_kind_inside)] }
def StreamAnswersSaid : Prop := streamAnswersRow.holds Tryz.pinned (OpenSpec.ofChange streamAnswersSpec)

/-- ITS FALSE NEIGHBOUR: 'it returns false'. Refute it at one input. -/
def streamAnswersWrong : ChangeSpec := { name := "streamAnswers", fn := fun _ => fun
  | [d1, d2] => { results := [.lit (.bool false)], args := [d1, d2] }
  | _ => none }
def StreamAnswersWrongFalsely : Prop := streamAnswersRow.holds Tryz.pinned (OpenSpec.ofChange streamAnswersWrong)

/-- 'wharflaw17.StreamMore': WHATEVER THE INPUT: true; the input reads as it did. -/
def streamMoreSpec : ChangeSpec := { name := "streamMore", fn := fun _ => fun
  | [d1, d2, d3] => { results := [.lit (.bool true)], args := [d1, d2, d3] }
  | _ => none }
def streamMoreRow : OpenClaim := { program := "ytfghmfjbbjapgaagreatdoor", sum := "ee6149f0beb0b6e82abbdc254cad64388dac21244e27da4ba36b3ae59b37a0ec", func := "wharf/wharflaw17.StreamMore", spec := "streamMore", inPlace := ["internal/reflectlite.ValueOf", "(internal/reflectlite.Value).Type", "(internal/reflectlite.Value).IsNil", "internal/reflectlite.TypeOf", "(internal/reflectlite.Value).Elem", "(internal/reflectlite.Value).Set"], unfollowed := true, recurses := true, named := ["wharf/kind.table", "wharf/kind.inside", "errors.errorType"], apart := false, laid := [("errors.errorType", laid_errors_errorType), ("wharf/kind.table", laid_wharf_kind_table), ("wharf/kind.inside", laid_wharf_kind_inside)] }
def StreamMoreSaid : Prop := streamMoreRow.holds Tryz.pinned (OpenSpec.ofChange streamMoreSpec)

/-- ITS FALSE NEIGHBOUR: 'it returns false'. Refute it at one input. -/
def streamMoreWrong : ChangeSpec := { name := "streamMore", fn := fun _ => fun
  | [d1, d2, d3] => { results := [.lit (.bool false)], args := [d1, d2, d3] }
  | _ => none }
def StreamMoreWrongFalsely : Prop := streamMoreRow.holds Tryz.pinned (OpenSpec.ofChange streamMoreWrong)

/-- 'wharflaw17.StreamMatchesReference': WHATEVER THE INPUT: true; the input reads as it did. -/
def streamMatchesReferenceSpec : ChangeSpec := { name := "streamMatchesReference", fn := fun _ => fun
  | [d1, d2, d3] => { results := [.lit (.bool true)], args := [d1, d2, d3] }
  | _ => none }
def streamMatchesReferenceRow : OpenClaim := { program := "ytfghmfjbbjapgaagreatdoor", sum := "ee6149f0beb0b6e82abbdc254cad64388dac21244e27da4ba36b3ae59b37a0ec", func := "wharf/wharflaw17.StreamMatchesReference", spec := "streamMatchesReference", inPlace := ["internal/reflectlite.ValueOf", "(internal/reflectlite.Value).Type", "(internal/reflectlite.Value).IsNil", "internal/reflectlite.TypeOf", "(internal/reflectlite.Value).Elem", "(internal/reflectlite.Value).Set"], unfollowed := true, recurses := true, named := ["wharf/kind.table", "wharf/kind.inside", "errors.errorType"], apart := false, laid := [("errors.errorType", laid_errors_errorType), ("wharf/kind.table", laid_wharf_kind_table), ("wharf/kind.inside", laid_wharf_kind_inside)] }
def StreamMatchesReferenceSaid : Prop := streamMatchesReferenceRow.holds Tryz.pinned (OpenSpec.ofChange streamMatchesReferenceSpec)

/-- ITS FALSE NEIGHBOUR: 'it returns false'. Refute it at one input. -/
def streamMatchesReferenceWrong : ChangeSpec := { name := "streamMatchesReference", fn := fun _ => fun
  | [d1, d2, d3] => { results := [.lit (.bool false)], args := [d1, d2, d3] }
  | _ => none }
def StreamMatchesReferenceWrongFalsely : Prop := streamMatchesReferenceRow.holds Tryz.pinned (OpenSpec.ofChange streamMatchesReferenceWrong)

/-- 'wharflaw19.AuthChunks': WHATEVER THE INPUT: true; the input reads as it did. -/
def authChunksSpec : ChangeSpec := { name := "authChunks", fn := fun _ => fun
  | [d] => { results := [.lit (.bool true)], args := [d] }
  | _ => none }
def authChunksRow : OpenClaim := { program := "ytfghmfjbbjapgaagreatdoor", sum := "ee6149f0beb0b6e82abbdc254cad64388dac21244e27da4ba36b3ae59b37a0ec", func := "wharf/wharflaw19.AuthChunks", spec := "authChunks", inPlace := ["internal/reflectlite.ValueOf", "(internal/reflectlite.Value).Type", "(internal/reflectlite.Value).IsNil", "internal/reflectlite.TypeOf", "(internal/reflectlite.Value).Elem", "(internal/reflectlite.Value).Set", "internal/bytealg.IndexByte"], unfollowed := true, recurses := true, named := ["wharf/kind.table", "wharf/kind.inside", "errors.errorType"], loops := true, apart := false, laid := [("errors.errorType", laid_errors_errorType), ("wharf/kind.table", laid_wharf_kind_table), ("wharf/kind.inside", laid_wharf_kind_inside)] }
def AuthChunksSaid : Prop := authChunksRow.holds Tryz.pinned (OpenSpec.ofChange authChunksSpec)

/-- ITS FALSE NEIGHBOUR: 'it returns false'. Refute it at one input. -/
def authChunksWrong : ChangeSpec := { name := "authChunks", fn := fun _ => fun
  | [d] => { results := [.lit (.bool false)], args := [d] }
  | _ => none }
def AuthChunksWrongFalsely : Prop := authChunksRow.holds Tryz.pinned (OpenSpec.ofChange authChunksWrong)

/-- 'wharflaw19.AuthInputs': WHATEVER THE INPUT: true; the input reads as it did. -/
def authInputsSpec : ChangeSpec := { name := "authInputs", fn := fun _ => fun
  | [d1, d2, d3] => { results := [.lit (.bool true)], args := [d1, d2, d3] }
  | _ => none }
def authInputsRow : OpenClaim := { program := "ytfghmfjbbjapgaagreatdoor", sum := "ee6149f0beb0b6e82abbdc254cad64388dac21244e27da4ba36b3ae59b37a0ec", func := "wharf/wharflaw19.AuthInputs", spec := "authInputs", inPlace := ["internal/reflectlite.ValueOf", "(internal/reflectlite.Value).Type", "(internal/reflectlite.Value).IsNil", "internal/reflectlite.TypeOf", "(internal/reflectlite.Value).Elem", "(internal/reflectlite.Value).Set", "internal/bytealg.IndexByte"], unfollowed := true, recurses := true, named := ["wharf/kind.table", "wharf/kind.inside", "errors.errorType"], loops := true, apart := false, laid := [("errors.errorType", laid_errors_errorType), ("wharf/kind.table", laid_wharf_kind_table), ("wharf/kind.inside", laid_wharf_kind_inside)] }
def AuthInputsSaid : Prop := authInputsRow.holds Tryz.pinned (OpenSpec.ofChange authInputsSpec)

/-- ITS FALSE NEIGHBOUR: 'it returns false'. Refute it at one input. -/
def authInputsWrong : ChangeSpec := { name := "authInputs", fn := fun _ => fun
  | [d1, d2, d3] => { results := [.lit (.bool false)], args := [d1, d2, d3] }
  | _ => none }
def AuthInputsWrongFalsely : Prop := authInputsRow.holds Tryz.pinned (OpenSpec.ofChange authInputsWrong)

/- THE SECOND FORM. 'bulk': how many values and letters a reading holds, each counted each time it is reached (what is shared counts as often as it is met; a slice's spare places count too). A statement '..UptoSaid' is the law's where the arguments, and the package variables that the reading takes, are together of bulk at most 1048576: NARROWER than '..Said'. Prove '..Said' where nothing that the law and all that it calls make is longer than what came in: it says more and counts as full. Else prove '..UptoSaid'. A law counts once. -/
mutual
def uptoBulk {H : Type} : DataW H → Nat
  | .lit (.string bytes) => bytes.length + 1
  | .lit _ => 1
  | .nil => 1
  | .ptr d => uptoBulk d + 1
  | .slice elems spare => uptoBulkAll elems + uptoBulkAll spare + 1
  | .agg parts => uptoBulkAll parts + 1
  | .iface _ d => uptoBulk d + 1
  | .map entries => uptoBulkEntries entries + 1
  | .held _ => 1
def uptoBulkAll {H : Type} : List (DataW H) → Nat
  | [] => 0
  | d :: r => uptoBulk d + uptoBulkAll r
def uptoBulkEntries {H : Type} : List (Lit × DataW H) → Nat
  | [] => 0
  | x :: r => uptoBulkEntry x + uptoBulkEntries r
def uptoBulkEntry {H : Type} : Lit × DataW H → Nat
  | (.string bytes, d) => bytes.length + uptoBulk d + 1
  | (_, d) => uptoBulk d + 1
 end
def uptoSmall : (H : Type) → List (DataW H) → Bool := fun _ ds => decide (uptoBulkAll ds ≤ 1048576)
def OpenSpec.upto (s : _root_.Go.ChangeSpec) : _root_.Go.OpenSpec := { _root_.Go.OpenSpec.ofChange s with cond := some uptoSmall }

/-- 'wharflaw17.StreamReads', WHERE WHAT IT READS IS OF BULK AT MOST 1048576: true; the input reads as it did. -/
def streamReadsUptoRow : OpenClaim := { program := "ytfghmfjbbjapgaagreatdoor", sum := "ee6149f0beb0b6e82abbdc254cad64388dac21244e27da4ba36b3ae59b37a0ec", func := "wharf/wharflaw17.StreamReads", spec := "streamReads", inPlace := ["internal/reflectlite.ValueOf", "(internal/reflectlite.Value).Type", "(internal/reflectlite.Value).IsNil", "internal/reflectlite.TypeOf", "(internal/reflectlite.Value).Elem", "(internal/reflectlite.Value).Set"], unfollowed := true, recurses := true, named := ["wharf/kind.table", "wharf/kind.inside", "errors.errorType"], loops := true, apart := false, laid := [("errors.errorType", laid_errors_errorType), ("wharf/kind.table", laid_wharf_kind_table), ("wharf/kind.inside", laid_wharf_kind_inside)], narrowed := true }
def StreamReadsUptoSaid : Prop := streamReadsUptoRow.holds Tryz.pinned (OpenSpec.upto streamReadsSpec)

/-- 'wharflaw17.StreamMakes', WHERE WHAT IT READS IS OF BULK AT MOST 1048576: true; the input reads as it did. -/
def streamMakesUptoRow : OpenClaim := { program := "ytfghmfjbbjapgaagreatdoor", sum := "ee6149f0beb0b6e82abbdc254cad64388dac21244e27da4ba36b3ae59b37a0ec", func := "wharf/wharflaw17.StreamMakes", spec := "streamMakes", inPlace := ["internal/reflectlite.ValueOf", "(internal/reflectlite.Value).Type", "(internal/reflectlite.Value).IsNil", "internal/reflectlite.TypeOf", "(internal/reflectlite.Value).Elem", "(internal/reflectlite.Value).Set"], unfollowed := true, recurses := true, named := ["wharf/kind.table", "wharf/kind.inside", "errors.errorType"], loops := true, apart := false, laid := [("errors.errorType", laid_errors_errorType), ("wharf/kind.table", laid_wharf_kind_table), ("wharf/kind.inside", laid_wharf_kind_inside)], narrowed := true }
def StreamMakesUptoSaid : Prop := streamMakesUptoRow.holds Tryz.pinned (OpenSpec.upto streamMakesSpec)

/-- 'wharflaw17.StreamAnswers', WHERE WHAT IT READS IS OF BULK AT MOST 1048576: true; the input reads as it did. -/
def streamAnswersUptoRow : OpenClaim := { program := "ytfghmfjbbjapgaagreatdoor", sum := "ee6149f0beb0b6e82abbdc254cad64388dac21244e27da4ba36b3ae59b37a0ec", func := "wharf/wharflaw17.StreamAnswers", spec := "streamAnswers", inPlace := ["internal/reflectlite.ValueOf", "(internal/reflectlite.Value).Type", "(internal/reflectlite.Value).IsNil", "internal/reflectlite.TypeOf", "(internal/reflectlite.Value).Elem", "(internal/reflectlite.Value).Set"], unfollowed := true, recurses := true, named := ["wharf/kind.table", "wharf/kind.inside", "errors.errorType"], loops := true, apart := false, laid := [("errors.errorType", laid_errors_errorType), ("wharf/kind.table", laid_wharf_kind_table), ("wharf/kind.inside", laid_wharf_kind_inside)], narrowed := true }
def StreamAnswersUptoSaid : Prop := streamAnswersUptoRow.holds Tryz.pinned (OpenSpec.upto streamAnswersSpec)

/-- 'wharflaw17.StreamMore', WHERE WHAT IT READS IS OF BULK AT MOST 1048576: true; the input reads as it did. -/
def streamMoreUptoRow : OpenClaim := { program := "ytfghmfjbbjapgaagreatdoor", sum := "ee6149f0beb0b6e82abbdc254cad64388dac21244e27da4ba36b3ae59b37a0ec", func := "wharf/wharflaw17.StreamMore", spec := "streamMore", inPlace := ["internal/reflectlite.ValueOf", "(internal/reflectlite.Value).Type", "(internal/reflectlite.Value).IsNil", "internal/reflectlite.TypeOf", "(internal/reflectlite.Value).Elem", "(internal/reflectlite.Value).Set"], unfollowed := true, recurses := true, named := ["wharf/kind.table", "wharf/kind.inside", "errors.errorType"], apart := false, laid := [("errors.errorType", laid_errors_errorType), ("wharf/kind.table", laid_wharf_kind_table), ("wharf/kind.inside", laid_wharf_kind_inside)], narrowed := true }
def StreamMoreUptoSaid : Prop := streamMoreUptoRow.holds Tryz.pinned (OpenSpec.upto streamMoreSpec)

/-- 'wharflaw17.StreamMatchesReference', WHERE WHAT IT READS IS OF BULK AT MOST 1048576: true; the input reads as it did. -/
def streamMatchesReferenceUptoRow : OpenClaim := { program := "ytfghmfjbbjapgaagreatdoor", sum := "ee6149f0beb0b6e82abbdc254cad64388dac21244e27da4ba36b3ae59b37a0ec", func := "wharf/wharflaw17.StreamMatchesReference", spec := "streamMatchesReference", inPlace := ["internal/reflectlite.ValueOf", "(internal/reflectlite.Value).Type", "(internal/reflectlite.Value).IsNil", "internal/reflectlite.TypeOf", "(internal/reflectlite.Value).Elem", "(internal/reflectlite.Value).Set"], unfollowed := true, recurses := true, named := ["wharf/kind.table", "wharf/kind.inside", "errors.errorType"], apart := false, laid := [("errors.errorType", laid_errors_errorType), ("wharf/kind.table", laid_wharf_kind_table), ("wharf/kind.inside", laid_wharf_kind_inside)], narrowed := true }
def StreamMatchesReferenceUptoSaid : Prop := streamMatchesReferenceUptoRow.holds Tryz.pinned (OpenSpec.upto streamMatchesReferenceSpec)

/-- 'wharflaw19.AuthChunks', WHERE WHAT IT READS IS OF BULK AT MOST 1048576: true; the input reads as it did. -/
def authChunksUptoRow : OpenClaim := { program := "ytfghmfjbbjapgaagreatdoor", sum := "ee6149f0beb0b6e82abbdc254cad64388dac21244e27da4ba36b3ae59b37a0ec", func := "wharf/wharflaw19.AuthChunks", spec := "authChunks", inPlace := ["internal/reflectlite.ValueOf", "(internal/reflectlite.Value).Type", "(internal/reflectlite.Value).IsNil", "internal/reflectlite.TypeOf", "(internal/reflectlite.Value).Elem", "(internal/reflectlite.Value).Set", "internal/bytealg.IndexByte"], unfollowed := true, recurses := true, named := ["wharf/kind.table", "wharf/kind.inside", "errors.errorType"], loops := true, apart := false, laid := [("errors.errorType", laid_errors_errorType), ("wharf/kind.table", laid_wharf_kind_table), ("wharf/kind.inside", laid_wharf_kind_inside)], narrowed := true }
def AuthChunksUptoSaid : Prop := authChunksUptoRow.holds Tryz.pinned (OpenSpec.upto authChunksSpec)

/-- 'wharflaw19.AuthInputs', WHERE WHAT IT READS IS OF BULK AT MOST 1048576: true; the input reads as it did. -/
def authInputsUptoRow : OpenClaim := { program := "ytfghmfjbbjapgaagreatdoor", sum := "ee6149f0beb0b6e82abbdc254cad64388dac21244e27da4ba36b3ae59b37a0ec", func := "wharf/wharflaw19.AuthInputs", spec := "authInputs", inPlace := ["internal/reflectlite.ValueOf", "(internal/reflectlite.Value).Type", "(internal/reflectlite.Value).IsNil", "internal/reflectlite.TypeOf", "(internal/reflectlite.Value).Elem", "(internal/reflectlite.Value).Set", "internal/bytealg.IndexByte"], unfollowed := true, recurses := true, named := ["wharf/kind.table", "wharf/kind.inside", "errors.errorType"], loops := true, apart := false, laid := [("errors.errorType", laid_errors_errorType), ("wharf/kind.table", laid_wharf_kind_table), ("wharf/kind.inside", laid_wharf_kind_inside)], narrowed := true }
def AuthInputsUptoSaid : Prop := authInputsUptoRow.holds Tryz.pinned (OpenSpec.upto authInputsSpec)

end Rows
end Go.Proofs.YtfghmfjbbjapgaaGreatDoor
