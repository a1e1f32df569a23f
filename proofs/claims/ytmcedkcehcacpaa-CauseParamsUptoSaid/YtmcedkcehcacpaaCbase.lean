/- Nodes and forms, as values. -/
import Derived.Test.YtmcedkcehcacpaaClib
set_option linter.unusedVariables false
set_option linter.unusedSimpArgs false
namespace Go.Abs

inductive GNode where
  | mk (ty : Nat) (data : List UInt8) (kids : List GNode)
namespace GNode
def ty : GNode → Nat | .mk t _ _ => t
def data : GNode → List UInt8 | .mk _ d _ => d
def kids : GNode → List GNode | .mk _ _ k => k
def zero : GNode := .mk 0 [] []
instance : Inhabited GNode := ⟨zero⟩
end GNode

abbrev u16 (n : Nat) : AV := .val (.int .u16 (N n))
abbrev u8 (n : Nat) : AV := .val (.int .u8 (N n))
abbrev bool (b : Bool) : AV := .val (.bool b)
attribute [push_cast] u16 u8 bool

mutual
def nodeA (b : Bool) : GNode → AV
  | .mk t d k => .agg [u16 t, .sl b 1 (bys d), .sl b 3 (nodesA b k)]
def nodesA (b : Bool) : List GNode → List AV
  | [] => []
  | n :: l => nodeA b n :: nodesA b l
end

@[push_cast] theorem nodeA_eq (b : Bool) (n : GNode) : nodeA b n = .agg [u16 n.ty, .sl b 1 (bys n.data), .sl b 3 (nodesA b n.kids)] := by
  cases n; simp [nodeA, GNode.ty, GNode.data, GNode.kids]
theorem nodesA_map (b : Bool) : ∀ l : List GNode, nodesA b l = l.map (nodeA b)
  | [] => by simp [nodesA]
  | n :: l => by rw [nodesA, nodesA_map b l]; rfl
@[push_cast] theorem nodesA_len (b : Bool) (l : List GNode) : (nodesA b l).length = l.length := by rw [nodesA_map]; simp
theorem nodesA_get (b : Bool) (l : List GNode) (i : Nat) : (nodesA b l)[i]? = l[i]?.map (nodeA b) := by rw [nodesA_map]; simp
theorem nodesA_at (b : Bool) (l : List GNode) (i : Nat) (h : i < l.length) : (nodesA b l)[i]? = some (nodeA b l[i]) := by rw [nodesA_get, List.getElem?_eq_getElem h]; rfl
theorem nodesA_head (b : Bool) (l : List GNode) (h : 0 < l.length) : (nodesA b l)[0]? = some (nodeA b (l.headD default)) := by
  cases l with
  | nil => simp at h
  | cons n l => simp [nodesA]
@[push_cast] theorem nodesA_nil (b : Bool) : nodesA b [] = [] := by simp [nodesA]
@[push_cast] theorem nodesA_cons (b : Bool) (n : GNode) (l : List GNode) : nodesA b (n :: l) = nodeA b n :: nodesA b l := by simp [nodesA]

mutual
theorem nodeA_hand (ids : List Nat) (b : Bool) : ∀ n : GNode, (nodeA b n).hand ids = nodeA false n
  | .mk t d k => by simp only [nodeA, AV.hand, AV.handL, bys_hand, nodesA_hand ids b k]
theorem nodesA_hand (ids : List Nat) (b : Bool) : ∀ l : List GNode, AV.handL ids (nodesA b l) = nodesA false l
  | [] => by simp [nodesA, AV.handL]
  | n :: l => by simp only [nodesA, AV.handL, nodeA_hand ids b n, nodesA_hand ids b l]
end
attribute [push_cast] nodesA_hand
mutual
theorem nodeA_ids (p : Nat → Bool) (b : Bool) : ∀ n : GNode, (nodeA b n).idsOk p = true
  | .mk t d k => by simp only [nodeA, AV.idsOk, AV.idsOkL, bys_ids, nodesA_ids p b k, Bool.and_true]
theorem nodesA_ids (p : Nat → Bool) (b : Bool) : ∀ l : List GNode, AV.idsOkL p (nodesA b l) = true
  | [] => by simp [nodesA, AV.idsOkL]
  | n :: l => by simp only [nodesA, AV.idsOkL, nodeA_ids p b n, nodesA_ids p b l, Bool.and_true]
end
attribute [push_cast] nodesA_ids
mutual
theorem nodeA_pl : ∀ n : GNode, (nodeA false n).pl = true
  | .mk t d k => by simp only [nodeA, AV.pl, AV.plL, bys_pl, nodesA_pl k, Bool.and_true, Bool.not_false]
theorem nodesA_pl : ∀ l : List GNode, AV.plL (nodesA false l) = true
  | [] => by simp [nodesA, AV.plL]
  | n :: l => by simp only [nodesA, AV.plL, nodeA_pl n, nodesA_pl l, Bool.and_true]
end
attribute [push_cast] nodesA_pl
theorem nodesA_flat {b : Bool} {l : List GNode} {y : AV} (hy : y ∈ nodesA b l) : y.cells.length = 3 ∧ ∀ c ∈ y.cells, c.one = true := by
  rw [nodesA_map, List.mem_map] at hy
  obtain ⟨n, _, rfl⟩ := hy
  rw [nodeA_eq]; simp [AV.cells, AV.one, Value.oneCell']

/-- the form of a type -/
structure ShForm where
  cls : Nat
  ty : Nat
  name : ByteArray
  least : Nat
  most : Nat
  unit : Nat
  kids : Nat

@[push_cast] def formA (f : ShForm) : AV := .agg [nat f.cls, u16 f.ty, .val (.string f.name), nat f.least, nat f.most, nat f.unit, nat f.kids]
end Go.Abs
