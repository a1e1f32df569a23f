/-
  NARROWER THAN 'FOR EVERY INPUT', by the rows' own cells (each row's printed sentence says how): DataMatchesReference: laid · DataChunks: loops, laid · ChunkMatchesReference: loops, laid · ChunkParses: laid · ChunkUnknown: laid · ChunkCopies: loops, laid · ChunkFlags: laid.
  DERIVED. THE GIVEN ROWS OF THIS SEAT. 7 by the template 'for every input the law returns true; each argument reads behind the call as it read before'; 0 by the template 'total and deterministic' (their statements: YtoapdhogghbojaaGreatDoorTotals.lean).
  GIVEN WITH THE SEED: the statements are not yours to turn. If you find one false, say at which input.
  Laid BY PROGRAM, IN A SANDBOX (cutbox-rows.mjs): the forced cells as the released guide's own fill.sh prints them over the translation 1311606faad7e1d0… (all of the seat's roots in one cut). By AI agents, Wed Nov 11 2026. No macro, syntax, notation, axiom, sorry.
-/
import Derived.Test.YtoapdhogghbojaaGreatDoorChecked
import GoSem.Claim
import GoSem.ClaimJoined
import GoSem.ClaimMapViews
import Derived.JoinedTies
import Derived.KernelRfl
namespace Go.Proofs.YtoapdhogghbojaaGreatDoor
/- THE CELL 'sum', in the pinned program and in every row, IS THE sha256 OF THE DUMP (.gsa) THAT YtoapdhogghbojaaGreatDoorProg.lean LOADS. Nothing in Lean hashes anything: it is a label: what it is worth is what the hold of that sum in a sandbox is worth. -/
noncomputable def Tryz.pinned : Pinned := { name := "ytoapdhogghbojaagreatdoor", sum := "1311606faad7e1d04656a6b5f3d23bdce9b356902913d842bb88234456dd2e87", checked := Tryz.checked }
namespace Rows
def none {H : Type} : Left H := { results := [], args := [] }

/- WHAT THE LISTED PACKAGE-LEVEL VARIABLES READ AS WHEN THE CALL BEGINS. Each datum BY PROGRAM (the guide's laid-datum.mjs) off the statement by which the dump's own 'gosem.cut.vars' lays the variable. In a bare row this is a premise. The card (YtoapdhogghbojaaGreatDoorCards.lean) ties it to the program's text. -/
def laid_errors_errorType {H : Type} : DataW H := .iface "internal/reflectlite.rtype" (.agg [.ptr (.lit (.string [101, 114, 114, 111, 114]))])
def laid_wharf_kind_table {H : Type} : DataW H := .agg [.agg [.lit (.int .u8 0), .lit (.string [100, 97, 116, 97]), .lit (.int .u8 15), .lit (.int .i64 13), .lit (.int .i64 65531), .lit (.int .i64 1), .lit (.int .i64 0)], .agg [.lit (.int .u8 1), .lit (.string [105, 110, 105, 116]), .lit (.int .u8 0), .lit (.int .i64 16), .lit (.int .i64 16), .lit (.int .i64 1), .lit (.int .i64 2)], .agg [.lit (.int .u8 2), .lit (.string [105, 110, 105, 116, 45, 97, 99, 107]), .lit (.int .u8 0), .lit (.int .i64 16), .lit (.int .i64 16), .lit (.int .i64 1), .lit (.int .i64 2)], .agg [.lit (.int .u8 3), .lit (.string [115, 97, 99, 107]), .lit (.int .u8 0), .lit (.int .i64 12), .lit (.int .i64 65531), .lit (.int .i64 4), .lit (.int .i64 0)], .agg [.lit (.int .u8 4), .lit (.string [104, 101, 97, 114, 116, 98, 101, 97, 116]), .lit (.int .u8 0), .lit (.int .i64 0), .lit (.int .i64 0), .lit (.int .i64 1), .lit (.int .i64 1)], .agg [.lit (.int .u8 5), .lit (.string [104, 101, 97, 114, 116, 98, 101, 97, 116, 45, 97, 99, 107]), .lit (.int .u8 0), .lit (.int .i64 0), .lit (.int .i64 0), .lit (.int .i64 1), .lit (.int .i64 1)], .agg [.lit (.int .u8 6), .lit (.string [97, 98, 111, 114, 116]), .lit (.int .u8 1), .lit (.int .i64 0), .lit (.int .i64 0), .lit (.int .i64 1), .lit (.int .i64 3)], .agg [.lit (.int .u8 7), .lit (.string [115, 104, 117, 116, 100, 111, 119, 110]), .lit (.int .u8 0), .lit (.int .i64 4), .lit (.int .i64 4), .lit (.int .i64 1), .lit (.int .i64 0)], .agg [.lit (.int .u8 8), .lit (.string [115, 104, 117, 116, 100, 111, 119, 110, 45, 97, 99, 107]), .lit (.int .u8 0), .lit (.int .i64 0), .lit (.int .i64 0), .lit (.int .i64 1), .lit (.int .i64 0)], .agg [.lit (.int .u8 9), .lit (.string [101, 114, 114, 111, 114]), .lit (.int .u8 0), .lit (.int .i64 0), .lit (.int .i64 0), .lit (.int .i64 1), .lit (.int .i64 4)], .agg [.lit (.int .u8 10), .lit (.string [99, 111, 111, 107, 105, 101, 45, 101, 99, 104, 111]), .lit (.int .u8 0), .lit (.int .i64 1), .lit (.int .i64 65531), .lit (.int .i64 1), .lit (.int .i64 0)], .agg [.lit (.int .u8 11), .lit (.string [99, 111, 111, 107, 105, 101, 45, 97, 99, 107]), .lit (.int .u8 0), .lit (.int .i64 0), .lit (.int .i64 0), .lit (.int .i64 1), .lit (.int .i64 0)], .agg [.lit (.int .u8 12), .lit (.string [101, 99, 110, 101]), .lit (.int .u8 0), .lit (.int .i64 4), .lit (.int .i64 4), .lit (.int .i64 1), .lit (.int .i64 0)], .agg [.lit (.int .u8 13), .lit (.string [99, 119, 114]), .lit (.int .u8 0), .lit (.int .i64 4), .lit (.int .i64 4), .lit (.int .i64 1), .lit (.int .i64 0)], .agg [.lit (.int .u8 14), .lit (.string [115, 104, 117, 116, 100, 111, 119, 110, 45, 99, 111, 109, 112, 108, 101, 116, 101]), .lit (.int .u8 1), .lit (.int .i64 0), .lit (.int .i64 0), .lit (.int .i64 1), .lit (.int .i64 0)], .agg [.lit (.int .u8 15), .lit (.string [97, 117, 116, 104]), .lit (.int .u8 0), .lit (.int .i64 5), .lit (.int .i64 65531), .lit (.int .i64 1), .lit (.int .i64 0)], .agg [.lit (.int .u8 64), .lit (.string [105, 45, 100, 97, 116, 97]), .lit (.int .u8 15), .lit (.int .i64 17), .lit (.int .i64 65531), .lit (.int .i64 1), .lit (.int .i64 0)], .agg [.lit (.int .u8 128), .lit (.string [97, 115, 99, 111, 110, 102, 45, 97, 99, 107]), .lit (.int .u8 0), .lit (.int .i64 4), .lit (.int .i64 4), .lit (.int .i64 1), .lit (.int .i64 2)], .agg [.lit (.int .u8 130), .lit (.string [114, 101, 45, 99, 111, 110, 102, 105, 103]), .lit (.int .u8 0), .lit (.int .i64 0), .lit (.int .i64 0), .lit (.int .i64 1), .lit (.int .i64 5)], .agg [.lit (.int .u8 132), .lit (.string [112, 97, 100]), .lit (.int .u8 0), .lit (.int .i64 0), .lit (.int .i64 65531), .lit (.int .i64 1), .lit (.int .i64 0)], .agg [.lit (.int .u8 192), .lit (.string [102, 111, 114, 119, 97, 114, 100, 45, 116, 115, 110]), .lit (.int .u8 0), .lit (.int .i64 4), .lit (.int .i64 65531), .lit (.int .i64 4), .lit (.int .i64 0)], .agg [.lit (.int .u8 193), .lit (.string [97, 115, 99, 111, 110, 102]), .lit (.int .u8 0), .lit (.int .i64 4), .lit (.int .i64 4), .lit (.int .i64 1), .lit (.int .i64 6)], .agg [.lit (.int .u8 194), .lit (.string [105, 45, 102, 111, 114, 119, 97, 114, 100, 45, 116, 115, 110]), .lit (.int .u8 0), .lit (.int .i64 4), .lit (.int .i64 65531), .lit (.int .i64 8), .lit (.int .i64 0)]]
def laid_wharf_kind_inside {H : Type} : DataW H := .agg [.agg [.lit (.int .i64 0), .lit (.int .i64 0), .lit (.int .i64 0)], .agg [.lit (.int .i64 1), .lit (.int .i64 1), .lit (.int .i64 1)], .agg [.lit (.int .i64 1), .lit (.int .i64 0), .lit (.int .i64 16384)], .agg [.lit (.int .i64 2), .lit (.int .i64 0), .lit (.int .i64 16384)], .agg [.lit (.int .i64 2), .lit (.int .i64 1), .lit (.int .i64 16384)], .agg [.lit (.int .i64 1), .lit (.int .i64 1), .lit (.int .i64 2)], .agg [.lit (.int .i64 1), .lit (.int .i64 2), .lit (.int .i64 16384)]]

/-- 'wharflaw13.DataMatchesReference': WHATEVER THE INPUT: true; the input reads as it did. -/
def dataMatchesReferenceSpec : ChangeSpec := { name := "dataMatchesReference", fn := fun _ => fun
  | [d] => { results := [.lit (.bool true)], args := [d] }
  | _ => none }
def dataMatchesReferenceRow : OpenClaim := { program := "ytoapdhogghbojaagreatdoor", sum := "1311606faad7e1d04656a6b5f3d23bdce9b356902913d842bb88234456dd2e87", func := "wharf/wharflaw13.DataMatchesReference", spec := "dataMatchesReference", inPlace := ["internal/reflectlite.ValueOf", "(internal/reflectlite.Value).Type", "(internal/reflectlite.Value).IsNil", "internal/reflectlite.TypeOf", "(internal/reflectlite.Value).Elem", "(internal/reflectlite.Value).Set"], unfollowed := true, recurses := true, named := ["wharf/kind.table", "wharf/kind.inside", "errors.errorType"], apart := false, laid := [("errors.errorType", laid_errors_errorType), ("wharf/kind.table", laid_wharf_kind_table), ("wharf/kind.inside", laid_wharf_kind_inside)] }
def DataMatchesReferenceSaid : Prop := dataMatchesReferenceRow.holds Tryz.pinned (OpenSpec.ofChange dataMatchesReferenceSpec)

/-- ITS FALSE NEIGHBOUR: 'it returns false'. Refute it at one input. -/
def dataMatchesReferenceWrong : ChangeSpec := { name := "dataMatchesReference", fn := fun _ => fun
  | [d] => { results := [.lit (.bool false)], args := [d] }
  | _ => none }
def DataMatchesReferenceWrongFalsely : Prop := dataMatchesReferenceRow.holds Tryz.pinned (OpenSpec.ofChange dataMatchesReferenceWrong)

/-- 'wharflaw13.DataChunks': WHATEVER THE INPUT: true; the input reads as it did. -/
def dataChunksSpec : ChangeSpec := { name := "dataChunks", fn := fun _ => fun
  | [d] => { results := [.lit (.bool true)], args := [d] }
  | _ => none }
def dataChunksRow : OpenClaim := { program := "ytoapdhogghbojaagreatdoor", sum := "1311606faad7e1d04656a6b5f3d23bdce9b356902913d842bb88234456dd2e87", func := "wharf/wharflaw13.DataChunks", spec := "dataChunks", inPlace := ["internal/reflectlite.ValueOf", "(internal/reflectlite.Value).Type", "(internal/reflectlite.Value).IsNil", "internal/reflectlite.TypeOf", "(internal/reflectlite.Value).Elem", "(internal/reflectlite.Value).Set"], unfollowed := true, recurses := true, named := ["wharf/kind.table", "wharf/kind.inside", "errors.errorType"], loops := true, apart := false, laid := [("errors.errorType", laid_errors_errorType), ("wharf/kind.table", laid_wharf_kind_table), ("wharf/kind.inside", laid_wharf_kind_inside)] }
def DataChunksSaid : Prop := dataChunksRow.holds Tryz.pinned (OpenSpec.ofChange dataChunksSpec)

/-- ITS FALSE NEIGHBOUR: 'it returns false'. Refute it at one input. -/
def dataChunksWrong : ChangeSpec := { name := "dataChunks", fn := fun _ => fun
  | [d] => { results := [.lit (.bool false)], args := [d] }
  | _ => none }
def DataChunksWrongFalsely : Prop := dataChunksRow.holds Tryz.pinned (OpenSpec.ofChange dataChunksWrong)

/-- 'wharflaw12.ChunkMatchesReference': WHATEVER THE INPUT: true; the input reads as it did. -/
def chunkMatchesReferenceSpec : ChangeSpec := { name := "chunkMatchesReference", fn := fun _ => fun
  | [d] => { results := [.lit (.bool true)], args := [d] }
  | _ => none }
def chunkMatchesReferenceRow : OpenClaim := { program := "ytoapdhogghbojaagreatdoor", sum := "1311606faad7e1d04656a6b5f3d23bdce9b356902913d842bb88234456dd2e87", func := "wharf/wharflaw12.ChunkMatchesReference", spec := "chunkMatchesReference", inPlace := ["internal/reflectlite.ValueOf", "(internal/reflectlite.Value).Type", "(internal/reflectlite.Value).IsNil", "internal/reflectlite.TypeOf", "(internal/reflectlite.Value).Elem", "(internal/reflectlite.Value).Set"], unfollowed := true, recurses := true, named := ["wharf/kind.table", "wharf/kind.inside", "errors.errorType"], loops := true, apart := false, laid := [("errors.errorType", laid_errors_errorType), ("wharf/kind.table", laid_wharf_kind_table), ("wharf/kind.inside", laid_wharf_kind_inside)] }
def ChunkMatchesReferenceSaid : Prop := chunkMatchesReferenceRow.holds Tryz.pinned (OpenSpec.ofChange chunkMatchesReferenceSpec)

/-- ITS FALSE NEIGHBOUR: 'it returns false'. Refute it at one input. -/
def chunkMatchesReferenceWrong : ChangeSpec := { name := "chunkMatchesReference", fn := fun _ => fun
  | [d] => { results := [.lit (.bool false)], args := [d] }
  | _ => none }
def ChunkMatchesReferenceWrongFalsely : Prop := chunkMatchesReferenceRow.holds Tryz.pinned (OpenSpec.ofChange chunkMatchesReferenceWrong)

/-- 'wharflaw12.ChunkParses': WHATEVER THE INPUT: true; the input reads as it did. -/
def chunkParsesSpec : ChangeSpec := { name := "chunkParses", fn := fun _ => fun
  | [d] => { results := [.lit (.bool true)], args := [d] }
  | _ => none }
def chunkParsesRow : OpenClaim := { program := "ytoapdhogghbojaagreatdoor", sum := "1311606faad7e1d04656a6b5f3d23bdce9b356902913d842bb88234456dd2e87", func := "wharf/wharflaw12.ChunkParses", spec := "chunkParses", inPlace := ["internal/reflectlite.ValueOf", "(internal/reflectlite.Value).Type", "(internal/reflectlite.Value).IsNil", "internal/reflectlite.TypeOf", "(internal/reflectlite.Value).Elem", "(internal/reflectlite.Value).Set"], unfollowed := true, recurses := true, named := ["wharf/kind.table", "wharf/kind.inside", "errors.errorType"], apart := false, laid := [("errors.errorType", laid_errors_errorType), ("wharf/kind.table", laid_wharf_kind_table), ("wharf/kind.inside", laid_wharf_kind_inside)] }
def ChunkParsesSaid : Prop := chunkParsesRow.holds Tryz.pinned (OpenSpec.ofChange chunkParsesSpec)

/-- ITS FALSE NEIGHBOUR: 'it returns false'. Refute it at one input. -/
def chunkParsesWrong : ChangeSpec := { name := "chunkParses", fn := fun _ => fun
  | [d] => { results := [.lit (.bool false)], args := [d] }
  | _ => none }
def ChunkParsesWrongFalsely : Prop := chunkParsesRow.holds Tryz.pinned (OpenSpec.ofChange chunkParsesWrong)

/-- 'wharflaw12.ChunkUnknown': WHATEVER THE INPUT: true; the input reads as it did. -/
def chunkUnknownSpec : ChangeSpec := { name := "chunkUnknown", fn := fun _ => fun
  | [d1, d2, d3, d4] => { results := [.lit (.bool true)], args := [d1, d2, d3, d4] }
  | _ => none }
def chunkUnknownRow : OpenClaim := { program := "ytoapdhogghbojaagreatdoor", sum := "1311606faad7e1d04656a6b5f3d23bdce9b356902913d842bb88234456dd2e87", func := "wharf/wharflaw12.ChunkUnknown", spec := "chunkUnknown", inPlace := ["internal/reflectlite.ValueOf", "(internal/reflectlite.Value).Type", "(internal/reflectlite.Value).IsNil", "internal/reflectlite.TypeOf", "(internal/reflectlite.Value).Elem", "(internal/reflectlite.Value).Set"], unfollowed := true, recurses := true, named := ["wharf/kind.table", "wharf/kind.inside", "errors.errorType"], apart := false, laid := [("errors.errorType", laid_errors_errorType), ("wharf/kind.table", laid_wharf_kind_table), ("wharf/kind.inside", laid_wharf_kind_inside)] }
def ChunkUnknownSaid : Prop := chunkUnknownRow.holds Tryz.pinned (OpenSpec.ofChange chunkUnknownSpec)

/-- ITS FALSE NEIGHBOUR: 'it returns false'. Refute it at one input. -/
def chunkUnknownWrong : ChangeSpec := { name := "chunkUnknown", fn := fun _ => fun
  | [d1, d2, d3, d4] => { results := [.lit (.bool false)], args := [d1, d2, d3, d4] }
  | _ => none }
def ChunkUnknownWrongFalsely : Prop := chunkUnknownRow.holds Tryz.pinned (OpenSpec.ofChange chunkUnknownWrong)

/-- 'wharflaw12.ChunkCopies': WHATEVER THE INPUT: true; the input reads as it did. -/
def chunkCopiesSpec : ChangeSpec := { name := "chunkCopies", fn := fun _ => fun
  | [d1, d2] => { results := [.lit (.bool true)], args := [d1, d2] }
  | _ => none }
def chunkCopiesRow : OpenClaim := { program := "ytoapdhogghbojaagreatdoor", sum := "1311606faad7e1d04656a6b5f3d23bdce9b356902913d842bb88234456dd2e87", func := "wharf/wharflaw12.ChunkCopies", spec := "chunkCopies", inPlace := ["internal/reflectlite.ValueOf", "(internal/reflectlite.Value).Type", "(internal/reflectlite.Value).IsNil", "internal/reflectlite.TypeOf", "(internal/reflectlite.Value).Elem", "(internal/reflectlite.Value).Set"], unfollowed := true, recurses := true, named := ["wharf/kind.table", "wharf/kind.inside", "errors.errorType"], loops := true, apart := false, laid := [("errors.errorType", laid_errors_errorType), ("wharf/kind.table", laid_wharf_kind_table), ("wharf/kind.inside", laid_wharf_kind_inside)] }
def ChunkCopiesSaid : Prop := chunkCopiesRow.holds Tryz.pinned (OpenSpec.ofChange chunkCopiesSpec)

/-- ITS FALSE NEIGHBOUR: 'it returns false'. Refute it at one input. -/
def chunkCopiesWrong : ChangeSpec := { name := "chunkCopies", fn := fun _ => fun
  | [d1, d2] => { results := [.lit (.bool false)], args := [d1, d2] }
  | _ => none }
def ChunkCopiesWrongFalsely : Prop := chunkCopiesRow.holds Tryz.pinned (OpenSpec.ofChange chunkCopiesWrong)

/-- 'wharflaw12.ChunkFlags': WHATEVER THE INPUT: true; the input reads as it did. -/
def chunkFlagsSpec : ChangeSpec := { name := "chunkFlags", fn := fun _ => fun
  | [d1, d2] => { results := [.lit (.bool true)], args := [d1, d2] }
  | _ => none }
def chunkFlagsRow : OpenClaim := { program := "ytoapdhogghbojaagreatdoor", sum := "1311606faad7e1d04656a6b5f3d23bdce9b356902913d842bb88234456dd2e87", func := "wharf/wharflaw12.ChunkFlags", spec := "chunkFlags", inPlace := ["internal/reflectlite.ValueOf", "(internal/reflectlite.Value).Type", "(internal/reflectlite.Value).IsNil", "internal/reflectlite.TypeOf", "(internal/reflectlite.Value).Elem", "(internal/reflectlite.Value).Set"], unfollowed := true, recurses := true, named := ["wharf/kind.table", "wharf/kind.inside", "errors.errorType"], apart := false, laid := [("errors.errorType", laid_errors_errorType), ("wharf/kind.table", laid_wharf_kind_table), ("wharf/kind.inside", laid_wharf_kind_inside)] }
def ChunkFlagsSaid : Prop := chunkFlagsRow.holds Tryz.pinned (OpenSpec.ofChange chunkFlagsSpec)

/-- ITS FALSE NEIGHBOUR: 'it returns false'. Refute it at one input. -/
def chunkFlagsWrong : ChangeSpec := { name := "chunkFlags", fn := fun _ => fun
  | [d1, d2] => { results := [.lit (.bool false)], args := [d1, d2] }
  | _ => none }
def ChunkFlagsWrongFalsely : Prop := chunkFlagsRow.holds Tryz.pinned (OpenSpec.ofChange chunkFlagsWrong)

/- THE SECOND FORM. 'bulk': how many values and letters a reading holds, each counted each time it is reached (what is shared counts as often as it is met; a slice's spare places count too). A statement '..UptoSaid' is the law's where the arguments, and the package variables that the reading takes, are together of bulk at most 1048576: NARROWER than '..Said'. Prove '..Said' where nothing that the law and all that it calls make is longer than what came in: it says more and counts as full. Else prove '..UptoSaid'. A law counts once. -/
mutual
def uptoBulk {H : Type} : DataW H → Nat
  | .lit (.string bytes) => bytes.length + 1
  | .lit _ => 1
  | .nil => 1
  | .ptr d => uptoBulk d + 1
  | .slice elems spare => uptoBulkAll elems + uptoBulkAll spare + 1
  | .agg parts => uptoBulkAll parts + 1
  | .iface _ d => uptoBulk d + 1
  | .map entries => uptoBulkEntries entries + 1
  | .held _ => 1
def uptoBulkAll {H : Type} : List (DataW H) → Nat
  | [] => 0
  | d :: r => uptoBulk d + uptoBulkAll r
def uptoBulkEntries {H : Type} : List (Lit × DataW H) → Nat
  | [] => 0
  | x :: r => uptoBulkEntry x + uptoBulkEntries r
def uptoBulkEntry {H : Type} : Lit × DataW H → Nat
  | (.string bytes, d) => bytes.length + uptoBulk d + 1
  | (_, d) => uptoBulk d + 1
 end
def uptoSmall : (H : Type) → List (DataW H) → Bool := fun _ ds => decide (uptoBulkAll ds ≤ 1048576)
def OpenSpec.upto (s : _root_.Go.ChangeSpec) : _root_.Go.OpenSpec := { _root_.Go.OpenSpec.ofChange s with cond := some uptoSmall }

/-- 'wharflaw13.DataMatchesReference', WHERE WHAT IT READS IS OF BULK AT MOST 1048576: true; the input reads as it did. -/
def dataMatchesReferenceUptoRow : OpenClaim := { program := "ytoapdhogghbojaagreatdoor", sum := "1311606faad7e1d04656a6b5f3d23bdce9b356902913d842bb88234456dd2e87", func := "wharf/wharflaw13.DataMatchesReference", spec := "dataMatchesReference", inPlace := ["internal/reflectlite.ValueOf", "(internal/reflectlite.Value).Type", "(internal/reflectlite.Value).IsNil", "internal/reflectlite.TypeOf", "(internal/reflectlite.Value).Elem", "(internal/reflectlite.Value).Set"], unfollowed := true, recurses := true, named := ["wharf/kind.table", "wharf/kind.inside", "errors.errorType"], apart := false, laid := [("errors.errorType", laid_errors_errorType), ("wharf/kind.table", laid_wharf_kind_table), ("wharf/kind.inside", laid_wharf_kind_inside)], narrowed := true }
def DataMatchesReferenceUptoSaid : Prop := dataMatchesReferenceUptoRow.holds Tryz.pinned (OpenSpec.upto dataMatchesReferenceSpec)

/-- 'wharflaw13.DataChunks', WHERE WHAT IT READS IS OF BULK AT MOST 1048576: true; the input reads as it did. -/
def dataChunksUptoRow : OpenClaim := { program := "ytoapdhogghbojaagreatdoor", sum := "1311606faad7e1d04656a6b5f3d23bdce9b356902913d842bb88234456dd2e87", func := "wharf/wharflaw13.DataChunks", spec := "dataChunks", inPlace := ["internal/reflectlite.ValueOf", "(internal/reflectlite.Value).Type", "(internal/reflectlite.Value).IsNil", "internal/reflectlite.TypeOf", "(internal/reflectlite.Value).Elem", "(internal/reflectlite.Value).Set"], unfollowed := true, recurses := true, named := ["wharf/kind.table", "wharf/kind.inside", "errors.errorType"], loops := true, apart := false, laid := [("errors.errorType", laid_errors_errorType), ("wharf/kind.table", laid_wharf_kind_table), ("wharf/kind.inside", laid_wharf_kind_inside)], narrowed := true }
def DataChunksUptoSaid : Prop := dataChunksUptoRow.holds Tryz.pinned (OpenSpec.upto dataChunksSpec)

/-- 'wharflaw12.ChunkMatchesReference', WHERE WHAT IT READS IS OF BULK AT MOST 1048576: true; the input reads as it did. -/
def chunkMatchesReferenceUptoRow : OpenClaim := { program := "ytoapdhogghbojaagreatdoor", sum := "1311606faad7e1d04656a6b5f3d23bdce9b356902913d842bb88234456dd2e87", func := "wharf/wharflaw12.ChunkMatchesReference", spec := "chunkMatchesReference", inPlace := ["internal/reflectlite.ValueOf", "(internal/reflectlite.Value).Type", "(internal/reflectlite.Value).IsNil", "internal/reflectlite.TypeOf", "(internal/reflectlite.Value).Elem", "(internal/reflectlite.Value).Set"], unfollowed := true, recurses := true, named := ["wharf/kind.table", "wharf/kind.inside", "errors.errorType"], loops := true, apart := false, laid := [("errors.errorType", laid_errors_errorType), ("wharf/kind.table", laid_wharf_kind_table), ("wharf/kind.inside", laid_wharf_kind_inside)], narrowed := true }
def ChunkMatchesReferenceUptoSaid : Prop := chunkMatchesReferenceUptoRow.holds Tryz.pinned (OpenSpec.upto chunkMatchesReferenceSpec)

/-- 'wharflaw12.ChunkParses', WHERE WHAT IT READS IS OF BULK AT MOST 1048576: true; the input reads as it did. -/
def chunkParsesUptoRow : OpenClaim := { program := "ytoapdhogghbojaagreatdoor", sum := "1311606faad7e1d04656a6b5f3d23bdce9b356902913d842bb88234456dd2e87", func := "wharf/wharflaw12.ChunkParses", spec := "chunkParses", inPlace := ["internal/reflectlite.ValueOf", "(internal/reflectlite.Value).Type", "(internal/reflectlite.Value).IsNil", "internal/reflectlite.TypeOf", "(internal/reflectlite.Value).Elem", "(internal/reflectlite.Value).Set"], unfollowed := true, recurses := true, named := ["wharf/kind.table", "wharf/kind.inside", "errors.errorType"], apart := false, laid := [("errors.errorType", laid_errors_errorType), ("wharf/kind.table", laid_wharf_kind_table), ("wharf/kind.inside", laid_wharf_kind_inside)], narrowed := true }
def ChunkParsesUptoSaid : Prop := chunkParsesUptoRow.holds Tryz.pinned (OpenSpec.upto chunkParsesSpec)

/-- 'wharflaw12.ChunkUnknown', WHERE WHAT IT READS IS OF BULK AT MOST 1048576: true; the input reads as it did. -/
def chunkUnknownUptoRow : OpenClaim := { program := "ytoapdhogghbojaagreatdoor", sum := "1311606faad7e1d04656a6b5f3d23bdce9b356902913d842bb88234456dd2e87", func := "wharf/wharflaw12.ChunkUnknown", spec := "chunkUnknown", inPlace := ["internal/reflectlite.ValueOf", "(internal/reflectlite.Value).Type", "(internal/reflectlite.Value).IsNil", "internal/reflectlite.TypeOf", "(internal/reflectlite.Value).Elem", "(internal/reflectlite.Value).Set"], unfollowed := true, recurses := true, named := ["wharf/kind.table", "wharf/kind.inside", "errors.errorType"], apart := false, laid := [("errors.errorType", laid_errors_errorType), ("wharf/kind.table", laid_wharf_kind_table), ("wharf/kind.inside", laid_wharf_kind_inside)], narrowed := true }
def ChunkUnknownUptoSaid : Prop := chunkUnknownUptoRow.holds Tryz.pinned (OpenSpec.upto chunkUnknownSpec)

/-- 'wharflaw12.ChunkCopies', WHERE WHAT IT READS IS OF BULK AT MOST 1048576: true; the input reads as it did. -/
def chunkCopiesUptoRow : OpenClaim := { program := "ytoapdhogghbojaagreatdoor", sum := "1311606faad7e1d04656a6b5f3d23bdce9b356902913d842bb88234456dd2e87", func := "wharf/wharflaw12.ChunkCopies", spec := "chunkCopies", inPlace := ["internal/reflectlite.ValueOf", "(internal/reflectlite.Value).Type", "(internal/reflectlite.Value).IsNil", "internal/reflectlite.TypeOf", "(internal/reflectlite.Value).Elem", "(internal/reflectlite.Value).Set"], unfollowed := true, recurses := true, named := ["wharf/kind.table", "wharf/kind.inside", "errors.errorType"], loops := true, apart := false, laid := [("errors.errorType", laid_errors_errorType), ("wharf/kind.table", laid_wharf_kind_table), ("wharf/kind.inside", laid_wharf_kind_inside)], narrowed := true }
def ChunkCopiesUptoSaid : Prop := chunkCopiesUptoRow.holds Tryz.pinned (OpenSpec.upto chunkCopiesSpec)

/-- 'wharflaw12.ChunkFlags', WHERE WHAT IT READS IS OF BULK AT MOST 1048576: true; the input reads as it did. -/
def chunkFlagsUptoRow : OpenClaim := { program := "ytoapdhogghbojaagreatdoor", sum := "1311606faad7e1d04656a6b5f3d23bdce9b356902913d842bb88234456dd2e87", func := "wharf/wharflaw12.ChunkFlags", spec := "chunkFlags", inPlace := ["internal/reflectlite.ValueOf", "(internal/reflectlite.Value).Type", "(internal/reflectlite.Value).IsNil", "internal/reflectlite.TypeOf", "(internal/reflectlite.Value).Elem", "(internal/reflectlite.Value).Set"], unfollowed := true, recurses := true, named := ["wharf/kind.table", "wharf/kind.inside", "errors.errorType"], apart := false, laid := [("errors.errorType", laid_errors_errorType), ("wharf/kind.table", laid_wharf_kind_table), ("wharf/kind.inside", laid_wharf_kind_inside)], narrowed := true }
def ChunkFlagsUptoSaid : Prop := chunkFlagsUptoRow.holds Tryz.pinned (OpenSpec.upto chunkFlagsSpec)

end Rows
end Go.Proofs.YtoapdhogghbojaaGreatDoor
