/-
  NARROWER THAN 'FOR EVERY INPUT', by the rows' own cells (each row's printed sentence says how): NodeDepths: laid · NodeLimits: laid · NodeWalks: loops, laid · NodeSame: loops, laid.
  DERIVED. THE GIVEN ROWS OF THIS SEAT. 4 by the template 'for every input the law returns true; each argument reads behind the call as it read before'; 0 by the template 'total and deterministic' (their statements: YtmcedkcehcacpaaDoorTotals.lean).
  GIVEN WITH THE SEED: the statements are not yours to turn. If you find one false, say at which input.
  Laid BY PROGRAM, IN A SANDBOX (cutbox-rows.mjs): the forced cells as the released guide's own fill.sh prints them over the translation c8c498d4bf59073f… (all of the seat's roots in one cut). By AI agents, Wed Nov 11 2026. No macro, syntax, notation, axiom, sorry.
-/
import Derived.Test.YtmcedkcehcacpaaDoorChecked
import GoSem.Claim
import GoSem.ClaimJoined
import GoSem.ClaimMapViews
import Derived.JoinedTies
import Derived.KernelRfl
namespace Go.Proofs.YtmcedkcehcacpaaDoor
/- THE CELL 'sum', in the pinned program and in every row, IS THE sha256 OF THE DUMP (.gsa) THAT YtmcedkcehcacpaaDoorProg.lean LOADS. Nothing in Lean hashes anything: it is a label: what it is worth is what the hold of that sum in a sandbox is worth. -/
noncomputable def Tryd.pinned : Pinned := { name := "ytmcedkcehcacpaadoor", sum := "c8c498d4bf59073f8b769a122ef2c0794bf49d1de50397c64470bd14cf9b183b", checked := Tryd.checked }
namespace Rows
def none {H : Type} : Left H := { results := [], args := [] }

/- WHAT THE LISTED PACKAGE-LEVEL VARIABLES READ AS WHEN THE CALL BEGINS. Each datum BY PROGRAM (the guide's laid-datum.mjs) off the statement by which the dump's own 'gosem.cut.vars' lays the variable. In a bare row this is a premise. The card (YtmcedkcehcacpaaDoorCards.lean) ties it to the program's text. -/
def laid_errors_errorType {H : Type} : DataW H := .iface "internal/reflectlite.rtype" (.agg [.ptr (.lit (.string [101, 114, 114, 111, 114]))])

/-- 'wharflaw08.NodeDepths': WHATEVER THE INPUT: true; the input reads as it did. -/
def nodeDepthsSpec : ChangeSpec := { name := "nodeDepths", fn := fun _ => fun
  | [d1, d2] => { results := [.lit (.bool true)], args := [d1, d2] }
  | _ => none }
def nodeDepthsRow : OpenClaim := { program := "ytmcedkcehcacpaadoor", sum := "c8c498d4bf59073f8b769a122ef2c0794bf49d1de50397c64470bd14cf9b183b", func := "wharf/wharflaw08.NodeDepths", spec := "nodeDepths", inPlace := ["internal/reflectlite.ValueOf", "(internal/reflectlite.Value).Type", "(internal/reflectlite.Value).IsNil", "internal/reflectlite.TypeOf", "(internal/reflectlite.Value).Elem", "(internal/reflectlite.Value).Set"], unfollowed := true, recurses := true, named := ["errors.errorType"], apart := false, laid := [("errors.errorType", laid_errors_errorType)] }
def NodeDepthsSaid : Prop := nodeDepthsRow.holds Tryd.pinned (OpenSpec.ofChange nodeDepthsSpec)

/-- ITS FALSE NEIGHBOUR: 'it returns false'. Refute it at one input. -/
def nodeDepthsWrong : ChangeSpec := { name := "nodeDepths", fn := fun _ => fun
  | [d1, d2] => { results := [.lit (.bool false)], args := [d1, d2] }
  | _ => none }
def NodeDepthsWrongFalsely : Prop := nodeDepthsRow.holds Tryd.pinned (OpenSpec.ofChange nodeDepthsWrong)

/-- 'wharflaw08.NodeLimits': WHATEVER THE INPUT: true; the input reads as it did. -/
def nodeLimitsSpec : ChangeSpec := { name := "nodeLimits", fn := fun _ => fun
  | [d1, d2] => { results := [.lit (.bool true)], args := [d1, d2] }
  | _ => none }
def nodeLimitsRow : OpenClaim := { program := "ytmcedkcehcacpaadoor", sum := "c8c498d4bf59073f8b769a122ef2c0794bf49d1de50397c64470bd14cf9b183b", func := "wharf/wharflaw08.NodeLimits", spec := "nodeLimits", inPlace := ["internal/reflectlite.ValueOf", "(internal/reflectlite.Value).Type", "(internal/reflectlite.Value).IsNil", "internal/reflectlite.TypeOf", "(internal/reflectlite.Value).Elem", "(internal/reflectlite.Value).Set"], unfollowed := true, recurses := true, named := ["errors.errorType"], apart := false, laid := [("errors.errorType", laid_errors_errorType)] }
def NodeLimitsSaid : Prop := nodeLimitsRow.holds Tryd.pinned (OpenSpec.ofChange nodeLimitsSpec)

/-- ITS FALSE NEIGHBOUR: 'it returns false'. Refute it at one input. -/
def nodeLimitsWrong : ChangeSpec := { name := "nodeLimits", fn := fun _ => fun
  | [d1, d2] => { results := [.lit (.bool false)], args := [d1, d2] }
  | _ => none }
def NodeLimitsWrongFalsely : Prop := nodeLimitsRow.holds Tryd.pinned (OpenSpec.ofChange nodeLimitsWrong)

/-- 'wharflaw08.NodeWalks': WHATEVER THE INPUT: true; the input reads as it did. -/
def nodeWalksSpec : ChangeSpec := { name := "nodeWalks", fn := fun _ => fun
  | [d1, d2] => { results := [.lit (.bool true)], args := [d1, d2] }
  | _ => none }
def nodeWalksRow : OpenClaim := { program := "ytmcedkcehcacpaadoor", sum := "c8c498d4bf59073f8b769a122ef2c0794bf49d1de50397c64470bd14cf9b183b", func := "wharf/wharflaw08.NodeWalks", spec := "nodeWalks", inPlace := ["internal/reflectlite.ValueOf", "(internal/reflectlite.Value).Type", "(internal/reflectlite.Value).IsNil", "internal/reflectlite.TypeOf", "(internal/reflectlite.Value).Elem", "(internal/reflectlite.Value).Set"], unfollowed := true, recurses := true, named := ["errors.errorType"], loops := true, apart := false, laid := [("errors.errorType", laid_errors_errorType)] }
def NodeWalksSaid : Prop := nodeWalksRow.holds Tryd.pinned (OpenSpec.ofChange nodeWalksSpec)

/-- ITS FALSE NEIGHBOUR: 'it returns false'. Refute it at one input. -/
def nodeWalksWrong : ChangeSpec := { name := "nodeWalks", fn := fun _ => fun
  | [d1, d2] => { results := [.lit (.bool false)], args := [d1, d2] }
  | _ => none }
def NodeWalksWrongFalsely : Prop := nodeWalksRow.holds Tryd.pinned (OpenSpec.ofChange nodeWalksWrong)

/-- 'wharflaw08.NodeSame': WHATEVER THE INPUT: true; the input reads as it did. -/
def nodeSameSpec : ChangeSpec := { name := "nodeSame", fn := fun _ => fun
  | [d1, d2] => { results := [.lit (.bool true)], args := [d1, d2] }
  | _ => none }
def nodeSameRow : OpenClaim := { program := "ytmcedkcehcacpaadoor", sum := "c8c498d4bf59073f8b769a122ef2c0794bf49d1de50397c64470bd14cf9b183b", func := "wharf/wharflaw08.NodeSame", spec := "nodeSame", inPlace := ["internal/reflectlite.ValueOf", "(internal/reflectlite.Value).Type", "(internal/reflectlite.Value).IsNil", "internal/reflectlite.TypeOf", "(internal/reflectlite.Value).Elem", "(internal/reflectlite.Value).Set"], unfollowed := true, recurses := true, named := ["errors.errorType"], loops := true, apart := false, laid := [("errors.errorType", laid_errors_errorType)] }
def NodeSameSaid : Prop := nodeSameRow.holds Tryd.pinned (OpenSpec.ofChange nodeSameSpec)

/-- ITS FALSE NEIGHBOUR: 'it returns false'. Refute it at one input. -/
def nodeSameWrong : ChangeSpec := { name := "nodeSame", fn := fun _ => fun
  | [d1, d2] => { results := [.lit (.bool false)], args := [d1, d2] }
  | _ => none }
def NodeSameWrongFalsely : Prop := nodeSameRow.holds Tryd.pinned (OpenSpec.ofChange nodeSameWrong)

/- THE SECOND FORM. 'bulk': how many values and letters a reading holds, each counted each time it is reached (what is shared counts as often as it is met; a slice's spare places count too). A statement '..UptoSaid' is the law's where the arguments, and the package variables that the reading takes, are together of bulk at most 1048576: NARROWER than '..Said'. Prove '..Said' where nothing that the law and all that it calls make is longer than what came in: it says more and counts as full. Else prove '..UptoSaid'. A law counts once. -/
mutual
def uptoBulk {H : Type} : DataW H → Nat
  | .lit (.string bytes) => bytes.length + 1
  | .lit _ => 1
  | .nil => 1
  | .ptr d => uptoBulk d + 1
  | .slice elems spare => uptoBulkAll elems + uptoBulkAll spare + 1
  | .agg parts => uptoBulkAll parts + 1
  | .iface _ d => uptoBulk d + 1
  | .map entries => uptoBulkEntries entries + 1
  | .held _ => 1
def uptoBulkAll {H : Type} : List (DataW H) → Nat
  | [] => 0
  | d :: r => uptoBulk d + uptoBulkAll r
def uptoBulkEntries {H : Type} : List (Lit × DataW H) → Nat
  | [] => 0
  | x :: r => uptoBulkEntry x + uptoBulkEntries r
def uptoBulkEntry {H : Type} : Lit × DataW H → Nat
  | (.string bytes, d) => bytes.length + uptoBulk d + 1
  | (_, d) => uptoBulk d + 1
 end
def uptoSmall : (H : Type) → List (DataW H) → Bool := fun _ ds => decide (uptoBulkAll ds ≤ 1048576)
def OpenSpec.upto (s : _root_.Go.ChangeSpec) : _root_.Go.OpenSpec := { _root_.Go.OpenSpec.ofChange s with cond := some uptoSmall }

/-- 'wharflaw08.NodeDepths', WHERE WHAT IT READS IS OF BULK AT MOST 1048576: true; the input reads as it did. -/
def nodeDepthsUptoRow : OpenClaim := { program := "ytmcedkcehcacpaadoor", sum := "c8c498d4bf59073f8b769a122ef2c0794bf49d1de50397c64470bd14cf9b183b", func := "wharf/wharflaw08.NodeDepths", spec := "nodeDepths", inPlace := ["internal/reflectlite.ValueOf", "(internal/reflectlite.Value).Type", "(internal/reflectlite.Value).IsNil", "internal/reflectlite.TypeOf", "(internal/reflectlite.Value).Elem", "(internal/reflectlite.Value).Set"], unfollowed := true, recurses := true, named := ["errors.errorType"], apart := false, laid := [("errors.errorType", laid_errors_errorType)], narrowed := true }
def NodeDepthsUptoSaid : Prop := nodeDepthsUptoRow.holds Tryd.pinned (OpenSpec.upto nodeDepthsSpec)

/-- 'wharflaw08.NodeLimits', WHERE WHAT IT READS IS OF BULK AT MOST 1048576: true; the input reads as it did. -/
def nodeLimitsUptoRow : OpenClaim := { program := "ytmcedkcehcacpaadoor", sum := "c8c498d4bf59073f8b769a122ef2c0794bf49d1de50397c64470bd14cf9b183b", func := "wharf/wharflaw08.NodeLimits", spec := "nodeLimits", inPlace := ["internal/reflectlite.ValueOf", "(internal/reflectlite.Value).Type", "(internal/reflectlite.Value).IsNil", "internal/reflectlite.TypeOf", "(internal/reflectlite.Value).Elem", "(internal/reflectlite.Value).Set"], unfollowed := true, recurses := true, named := ["errors.errorType"], apart := false, laid := [("errors.errorType", laid_errors_errorType)], narrowed := true }
def NodeLimitsUptoSaid : Prop := nodeLimitsUptoRow.holds Tryd.pinned (OpenSpec.upto nodeLimitsSpec)

/-- 'wharflaw08.NodeWalks', WHERE WHAT IT READS IS OF BULK AT MOST 1048576: true; the input reads as it did. -/
def nodeWalksUptoRow : OpenClaim := { program := "ytmcedkcehcacpaadoor", sum := "c8c498d4bf59073f8b769a122ef2c0794bf49d1de50397c64470bd14cf9b183b", func := "wharf/wharflaw08.NodeWalks", spec := "nodeWalks", inPlace := ["internal/reflectlite.ValueOf", "(internal/reflectlite.Value).Type", "(internal/reflectlite.Value).IsNil", "internal/reflectlite.TypeOf", "(internal/reflectlite.Value).Elem", "(internal/reflectlite.Value).Set"], unfollowed := true, recurses := true, named := ["errors.errorType"], loops := true, apart := false, laid := [("errors.errorType", laid_errors_errorType)], narrowed := true }
def NodeWalksUptoSaid : Prop := nodeWalksUptoRow.holds Tryd.pinned (OpenSpec.upto nodeWalksSpec)

/-- 'wharflaw08.NodeSame', WHERE WHAT IT READS IS OF BULK AT MOST 1048576: true; the input reads as it did. -/
def nodeSameUptoRow : OpenClaim := { program := "ytmcedkcehcacpaadoor", sum := "c8c498d4bf59073f8b769a122ef2c0794bf49d1de50397c64470bd14cf9b183b", func := "wharf/wharflaw08.NodeSame", spec := "nodeSame", inPlace := ["internal/reflectlite.ValueOf", "(internal/reflectlite.Value).Type", "(internal/reflectlite.Value).IsNil", "internal/reflectlite.TypeOf", "(internal/reflectlite.Value).Elem", "(internal/reflectlite.Value).Set"], unfollowed := true, recurses := true, named := ["errors.errorType"], loops := true, apart := false, laid := [("errors.errorType", laid_errors_errorType)], narrowed := true }
def NodeSameUptoSaid : Prop := nodeSameUptoRow.holds Tryd.pinned (OpenSpec.upto nodeSameSpec)

end Rows
end Go.Proofs.YtmcedkcehcacpaaDoor
