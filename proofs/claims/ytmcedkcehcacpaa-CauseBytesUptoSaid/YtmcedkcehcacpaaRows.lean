/-
  NARROWER THAN 'FOR EVERY INPUT', by the rows' own cells (each row's printed sentence says how): CauseValues: loops · CauseParams: loops.
  DERIVED. THE GIVEN ROWS OF THIS SEAT. 5 by the template 'for every input the law returns true; each argument reads behind the call as it read before'; 0 by the template 'total and deterministic' (their statements: YtmcedkcehcacpaaTotals.lean).
  GIVEN WITH THE SEED: the statements are not yours to turn. If you find one false, say at which input.
  Laid BY PROGRAM, IN A SANDBOX (cutbox-rows.mjs): the forced cells as the released guide's own fill.sh prints them over the translation c7a40833b663707a… (all of the seat's roots in one cut). By AI agents, Wed Nov 11 2026. No macro, syntax, notation, axiom, sorry.
-/
import Derived.Test.YtmcedkcehcacpaaChecked
import GoSem.Claim
import GoSem.ClaimJoined
import GoSem.ClaimMapViews
import Derived.JoinedTies
import Derived.KernelRfl
namespace Go.Proofs.Ytmcedkcehcacpaa
/- THE CELL 'sum', in the pinned program and in every row, IS THE sha256 OF THE DUMP (.gsa) THAT YtmcedkcehcacpaaProg.lean LOADS. Nothing in Lean hashes anything: it is a label: what it is worth is what the hold of that sum in a sandbox is worth. -/
noncomputable def Try.pinned : Pinned := { name := "ytmcedkcehcacpaa", sum := "c7a40833b663707a1d61ec476e28eda0afa699fb86541927e5dfd28ad7f2fbe0", checked := Try.checked }
namespace Rows
def none {H : Type} : Left H := { results := [], args := [] }

/-- 'wharflaw10.CauseMatchesReference': WHATEVER THE INPUT: true; the input reads as it did. -/
def causeMatchesReferenceSpec : ChangeSpec := { name := "causeMatchesReference", fn := fun _ => fun
  | [d1, d2] => { results := [.lit (.bool true)], args := [d1, d2] }
  | _ => none }
def causeMatchesReferenceRow : OpenClaim := { program := "ytmcedkcehcacpaa", sum := "c7a40833b663707a1d61ec476e28eda0afa699fb86541927e5dfd28ad7f2fbe0", func := "wharf/wharflaw10.CauseMatchesReference", spec := "causeMatchesReference", unfollowed := true, recurses := true, apart := false }
def CauseMatchesReferenceSaid : Prop := causeMatchesReferenceRow.holds Try.pinned (OpenSpec.ofChange causeMatchesReferenceSpec)

/-- ITS FALSE NEIGHBOUR: 'it returns false'. Refute it at one input. -/
def causeMatchesReferenceWrong : ChangeSpec := { name := "causeMatchesReference", fn := fun _ => fun
  | [d1, d2] => { results := [.lit (.bool false)], args := [d1, d2] }
  | _ => none }
def CauseMatchesReferenceWrongFalsely : Prop := causeMatchesReferenceRow.holds Try.pinned (OpenSpec.ofChange causeMatchesReferenceWrong)

/-- 'wharflaw10.CauseValues': WHATEVER THE INPUT: true; the input reads as it did. -/
def causeValuesSpec : ChangeSpec := { name := "causeValues", fn := fun _ => fun
  | [d] => { results := [.lit (.bool true)], args := [d] }
  | _ => none }
def causeValuesRow : OpenClaim := { program := "ytmcedkcehcacpaa", sum := "c7a40833b663707a1d61ec476e28eda0afa699fb86541927e5dfd28ad7f2fbe0", func := "wharf/wharflaw10.CauseValues", spec := "causeValues", unfollowed := true, recurses := true, loops := true, apart := false }
def CauseValuesSaid : Prop := causeValuesRow.holds Try.pinned (OpenSpec.ofChange causeValuesSpec)

/-- ITS FALSE NEIGHBOUR: 'it returns false'. Refute it at one input. -/
def causeValuesWrong : ChangeSpec := { name := "causeValues", fn := fun _ => fun
  | [d] => { results := [.lit (.bool false)], args := [d] }
  | _ => none }
def CauseValuesWrongFalsely : Prop := causeValuesRow.holds Try.pinned (OpenSpec.ofChange causeValuesWrong)

/-- 'wharflaw10.CauseMissing': WHATEVER THE INPUT: true; the input reads as it did. -/
def causeMissingSpec : ChangeSpec := { name := "causeMissing", fn := fun _ => fun
  | [d1, d2] => { results := [.lit (.bool true)], args := [d1, d2] }
  | _ => none }
def causeMissingRow : OpenClaim := { program := "ytmcedkcehcacpaa", sum := "c7a40833b663707a1d61ec476e28eda0afa699fb86541927e5dfd28ad7f2fbe0", func := "wharf/wharflaw10.CauseMissing", spec := "causeMissing", unfollowed := true, recurses := true, apart := false }
def CauseMissingSaid : Prop := causeMissingRow.holds Try.pinned (OpenSpec.ofChange causeMissingSpec)

/-- ITS FALSE NEIGHBOUR: 'it returns false'. Refute it at one input. -/
def causeMissingWrong : ChangeSpec := { name := "causeMissing", fn := fun _ => fun
  | [d1, d2] => { results := [.lit (.bool false)], args := [d1, d2] }
  | _ => none }
def CauseMissingWrongFalsely : Prop := causeMissingRow.holds Try.pinned (OpenSpec.ofChange causeMissingWrong)

/-- 'wharflaw10.CauseBytes': WHATEVER THE INPUT: true; the input reads as it did. -/
def causeBytesSpec : ChangeSpec := { name := "causeBytes", fn := fun _ => fun
  | [d1, d2, d3] => { results := [.lit (.bool true)], args := [d1, d2, d3] }
  | _ => none }
def causeBytesRow : OpenClaim := { program := "ytmcedkcehcacpaa", sum := "c7a40833b663707a1d61ec476e28eda0afa699fb86541927e5dfd28ad7f2fbe0", func := "wharf/wharflaw10.CauseBytes", spec := "causeBytes", unfollowed := true, recurses := true, apart := false }
def CauseBytesSaid : Prop := causeBytesRow.holds Try.pinned (OpenSpec.ofChange causeBytesSpec)

/-- ITS FALSE NEIGHBOUR: 'it returns false'. Refute it at one input. -/
def causeBytesWrong : ChangeSpec := { name := "causeBytes", fn := fun _ => fun
  | [d1, d2, d3] => { results := [.lit (.bool false)], args := [d1, d2, d3] }
  | _ => none }
def CauseBytesWrongFalsely : Prop := causeBytesRow.holds Try.pinned (OpenSpec.ofChange causeBytesWrong)

/-- 'wharflaw10.CauseParams': WHATEVER THE INPUT: true; the input reads as it did. -/
def causeParamsSpec : ChangeSpec := { name := "causeParams", fn := fun _ => fun
  | [d1, d2] => { results := [.lit (.bool true)], args := [d1, d2] }
  | _ => none }
def causeParamsRow : OpenClaim := { program := "ytmcedkcehcacpaa", sum := "c7a40833b663707a1d61ec476e28eda0afa699fb86541927e5dfd28ad7f2fbe0", func := "wharf/wharflaw10.CauseParams", spec := "causeParams", unfollowed := true, recurses := true, loops := true, apart := false }
def CauseParamsSaid : Prop := causeParamsRow.holds Try.pinned (OpenSpec.ofChange causeParamsSpec)

/-- ITS FALSE NEIGHBOUR: 'it returns false'. Refute it at one input. -/
def causeParamsWrong : ChangeSpec := { name := "causeParams", fn := fun _ => fun
  | [d1, d2] => { results := [.lit (.bool false)], args := [d1, d2] }
  | _ => none }
def CauseParamsWrongFalsely : Prop := causeParamsRow.holds Try.pinned (OpenSpec.ofChange causeParamsWrong)

/- THE SECOND FORM. 'bulk': how many values and letters a reading holds, each counted each time it is reached (what is shared counts as often as it is met; a slice's spare places count too). A statement '..UptoSaid' is the law's where the arguments, and the package variables that the reading takes, are together of bulk at most 1048576: NARROWER than '..Said'. Prove '..Said' where nothing that the law and all that it calls make is longer than what came in: it says more and counts as full. Else prove '..UptoSaid'. A law counts once. -/
mutual
def uptoBulk {H : Type} : DataW H → Nat
  | .lit (.string bytes) => bytes.length + 1
  | .lit _ => 1
  | .nil => 1
  | .ptr d => uptoBulk d + 1
  | .slice elems spare => uptoBulkAll elems + uptoBulkAll spare + 1
  | .agg parts => uptoBulkAll parts + 1
  | .iface _ d => uptoBulk d + 1
  | .map entries => uptoBulkEntries entries + 1
  | .held _ => 1
def uptoBulkAll {H : Type} : List (DataW H) → Nat
  | [] => 0
  | d :: r => uptoBulk d + uptoBulkAll r
def uptoBulkEntries {H : Type} : List (Lit × DataW H) → Nat
  | [] => 0
  | x :: r => uptoBulkEntry x + uptoBulkEntries r
def uptoBulkEntry {H : Type} : Lit × DataW H → Nat
  | (.string bytes, d) => bytes.length + uptoBulk d + 1
  | (_, d) => uptoBulk d + 1
 end
def uptoSmall : (H : Type) → List (DataW H) → Bool := fun _ ds => decide (uptoBulkAll ds ≤ 1048576)
def OpenSpec.upto (s : _root_.Go.ChangeSpec) : _root_.Go.OpenSpec := { _root_.Go.OpenSpec.ofChange s with cond := some uptoSmall }

/-- 'wharflaw10.CauseMatchesReference', WHERE WHAT IT READS IS OF BULK AT MOST 1048576: true; the input reads as it did. -/
def causeMatchesReferenceUptoRow : OpenClaim := { program := "ytmcedkcehcacpaa", sum := "c7a40833b663707a1d61ec476e28eda0afa699fb86541927e5dfd28ad7f2fbe0", func := "wharf/wharflaw10.CauseMatchesReference", spec := "causeMatchesReference", unfollowed := true, recurses := true, apart := false, narrowed := true }
def CauseMatchesReferenceUptoSaid : Prop := causeMatchesReferenceUptoRow.holds Try.pinned (OpenSpec.upto causeMatchesReferenceSpec)

/-- 'wharflaw10.CauseValues', WHERE WHAT IT READS IS OF BULK AT MOST 1048576: true; the input reads as it did. -/
def causeValuesUptoRow : OpenClaim := { program := "ytmcedkcehcacpaa", sum := "c7a40833b663707a1d61ec476e28eda0afa699fb86541927e5dfd28ad7f2fbe0", func := "wharf/wharflaw10.CauseValues", spec := "causeValues", unfollowed := true, recurses := true, loops := true, apart := false, narrowed := true }
def CauseValuesUptoSaid : Prop := causeValuesUptoRow.holds Try.pinned (OpenSpec.upto causeValuesSpec)

/-- 'wharflaw10.CauseMissing', WHERE WHAT IT READS IS OF BULK AT MOST 1048576: true; the input reads as it did. -/
def causeMissingUptoRow : OpenClaim := { program := "ytmcedkcehcacpaa", sum := "c7a40833b663707a1d61ec476e28eda0afa699fb86541927e5dfd28ad7f2fbe0", func := "wharf/wharflaw10.CauseMissing", spec := "causeMissing", unfollowed := true, recurses := true, apart := false, narrowed := true }
def CauseMissingUptoSaid : Prop := causeMissingUptoRow.holds Try.pinned (OpenSpec.upto causeMissingSpec)

/-- 'wharflaw10.CauseBytes', WHERE WHAT IT READS IS OF BULK AT MOST 1048576: true; the input reads as it did. -/
def causeBytesUptoRow : OpenClaim := { program := "ytmcedkcehcacpaa", sum := "c7a40833b663707a1d61ec476e28eda0afa699fb86541927e5dfd28ad7f2fbe0", func := "wharf/wharflaw10.CauseBytes", spec := "causeBytes", unfollowed := true, recurses := true, apart := false, narrowed := true }
def CauseBytesUptoSaid : Prop := causeBytesUptoRow.holds Try.pinned (OpenSpec.upto causeBytesSpec)

/-- 'wharflaw10.CauseParams', WHERE WHAT IT READS IS OF BULK AT MOST 1048576: true; the input reads as it did. -/
def causeParamsUptoRow : OpenClaim := { program := "ytmcedkcehcacpaa", sum := "c7a40833b663707a1d61ec476e28eda0afa699fb86541927e5dfd28ad7f2fbe0", func := "wharf/wharflaw10.CauseParams", spec := "causeParams", unfollowed := true, recurses := true, loops := true, apart := false, narrowed := true }
def CauseParamsUptoSaid : Prop := causeParamsUptoRow.holds Try.pinned (OpenSpec.upto causeParamsSpec)

end Rows
end Go.Proofs.Ytmcedkcehcacpaa
