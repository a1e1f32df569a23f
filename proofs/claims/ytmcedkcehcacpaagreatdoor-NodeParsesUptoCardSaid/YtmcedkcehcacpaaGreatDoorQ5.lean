/- Frames written: tlv.All (the iterator itself), tlv.Put, tlv.Join; nodes written: frames, Encode. -/
import Derived.Test.YtmcedkcehcacpaaGreatDoorQ4
import Derived.WalkKit
import Derived.ProofKit
import Derived.OpenShut
import Derived.JoinedCond
import Derived.Carry
import Derived.ChangeSlices
import Derived.Test.YtmcedkcehcacpaaGreatDoorRows
import Derived.Deep.Strs
import Derived.Test.YtmcedkcehcacpaaGreatDoorCards
import Derived.Test.YtmcedkcehcacpaaGreatDoorTie
import Derived.LaidLaws
import Derived.LaidHandle
import Derived.Stop.Joined
import Derived.Deep.DeepHandedRow
import Derived.Lib.LaidTab
set_option linter.unusedVariables false
set_option linter.unusedSimpArgs false
namespace Go.Proofs.YtmcedkcehcacpaaGreatDoor.C
open Go.Abs
theorem all_c (b : List UInt8) : PC Tryz.prog 58 [.sl false 1 (bys b)] (.fn (.func 73) [] [.ref true (.agg [.sl false 1 (bys b)])]) := by
  refine PC.of_body (by simp only [push_cast]) Tryz.func58 rfl (by rw [Tryz.ntmps58]; simp) ?_
  refine AWp.regionW ?_
  refine AWp.regionW ?_
  refine AWp.pubBox 0 rfl (Nat.le_refl _) rfl (by simp) ?_
  simp only [push_cast, reduceIte, Nat.reduceEqDiff, Nat.reduceLT, Nat.reduceAdd, Nat.reduceSub, Nat.reduceMul, Nat.reduceLeDiff, Nat.reducePow, Int.reduceLT, Int.reduceToNat, reduceCtorEq, Int.reduceNeg, Int.reduceEq, Nat.reduceBEq, Nat.reduceBNe, Int.reduceBEq, Int.reduceBNe, String.reduceEq]
  refine AWp.ret ?_
  try simp only [thenQ, blockQ, noGo]
  refine bodyQ.m ?_
  rfl
/-- a frame's bytes -/
def putF (f : Frm) : List UInt8 := putB 2 f.ty ++ putB 2 (4 + f.val.length) ++ f.val
theorem putF_len (f : Frm) : (putF f).length = 4 + f.val.length := by simp [putF, putB_len]; omega
def fitF (f : Frm) : Bool := decide (f.val.length ≤ 65531)
theorem put_c (f : Frm) (ht : f.ty < 65536) (hl : f.val.length ≤ 2 ^ 38) : PC Tryz.prog 52 [frmA false f] (.tup [.sl true 1 (bys (if fitF f = true then putF f else [])), bool (fitF f)]) := by
  refine PC.of_bodyK (by simp only [push_cast]) Tryz.func52 rfl (by rw [Tryz.ntmps52]; simp) ?_
  refine AWp.regionW ?_
  refine AWp.seqK fun K1 hK1 => ?_
  refine AWp.regionW ?_
  refine AWp.condLM (fun c0 => ?_) (fun c0 => ?_)
  · skip
    have hf : fitF f = false := by simp at c0; unfold fitF; exact decide_eq_false (by omega)
    refine AWp.regionW ?_
    refine AWp.ret ?_
    try simp only [thenQ, blockQ, noGo]
    refine bodyQ.m ?_
    clear hK1 K1
    rw [hf]; simp only [if_true, if_false, reduceCtorEq, Bool.false_eq_true]
    first | done | exact Wk.go
  · skip
    have hle : f.val.length ≤ 65531 := by simp at c0; exact c0
    have hf : fitF f = true := decide_eq_true hle
    have hp := wire_put 2 [f.ty, 4 + f.val.length] (by omega) (by intro x hx; simp at hx; omega) (by simp)
    rw [show [f.ty, 4 + f.val.length].flatMap (putB 2) = putB 2 f.ty ++ putB 2 (4 + f.val.length) by simp] at hp
    have hj := wjoin_c [putB 2 f.ty ++ putB 2 (4 + f.val.length), f.val] (by simp [lens, putB_len]; omega) (by simp)
    rw [show [putB 2 f.ty ++ putB 2 (4 + f.val.length), f.val].flatten = putF f by simp [putF]] at hj
    refine AWp.skip ?_
    refine hK1 _ ?_
    refine AWp.drS [[(1, none)], [(8, some 0)], [(9, some 1)], [(1, none)], [(11, some 3)], [(12, some 4)], [(13, some 5)], [(14, some 6)], [(10, some 2), (15, some 7)], [(16, some 8)], [(1, none)], [(18, some 10)], [(17, some 9), (19, some 11)], [(20, some 12)], [(21, some 13)], []] fun G hG => ?_
    refine Dr.sim ?_
    try simp only [List.cons_append, List.nil_append]
    refine Dr.sim ?_
    try simp only [List.cons_append, List.nil_append]
    refine Dr.sim ?_
    try simp only [List.cons_append, List.nil_append]
    refine Dr.sim ?_
    try simp only [List.cons_append, List.nil_append]
    refine Dr.sim ?_
    try simp only [List.cons_append, List.nil_append]
    refine Dr.sim ?_
    try simp only [List.cons_append, List.nil_append]
    refine Dr.sim ?_
    try simp only [List.cons_append, List.nil_append]
    refine Dr.sim ?_
    try simp only [List.cons_append, List.nil_append]
    refine Dr.build ?_
    try simp only [List.cons_append, List.nil_append]
    refine Dr.call (hp) ?_
    try simp only [List.cons_append, List.nil_append]
    refine Dr.sim ?_
    try simp only [List.cons_append, List.nil_append]
    refine Dr.sim ?_
    try simp only [List.cons_append, List.nil_append]
    refine Dr.build ?_
    try simp only [List.cons_append, List.nil_append]
    refine Dr.call (hj) ?_
    try simp only [List.cons_append, List.nil_append]
    refine Dr.sim ?_
    try simp only [List.cons_append, List.nil_append]
    refine Dr.sim ?_
    try simp only [List.cons_append, List.nil_append]
    refine Dr.finM (n := 16) [(2, 14), (3, 15)] [] hG YtmcedkcehcacpaaGreatDoor.Facts.mixed fun KD hKD => ?_
    refine ARun2.endm (hKD _ ?_); clear hKD KD hG G
    refine AWp.ret ?_
    try simp only [thenQ, blockQ, noGo]
    refine bodyQ.m ?_
    clear hK1 K1
    rw [hf]; simp only [if_true, if_false, reduceCtorEq, Bool.false_eq_true]
    first | done | exact Wk.go
/-- the bytes of frames, one behind the other -/
def joinF (l : List Frm) : List UInt8 := l.foldl (fun out f => padB out ++ putF f) []
theorem joinF_snoc (l : List Frm) (f : Frm) : joinF (l ++ [f]) = padB (joinF l) ++ putF f := by simp [joinF]
theorem joinF_len_aux : ∀ (l : List Frm) (acc : List UInt8), (l.foldl (fun out f => padB out ++ putF f) acc).length = sumUp acc.length ((l.map fun f => f.val.length).map (4 + ·))
  | [], acc => rfl
  | f :: l, acc => by
    rw [List.foldl_cons, joinF_len_aux l, List.length_append, padB_len, putF_len]
    rfl
theorem joinF_len (l : List Frm) : (joinF l).length = tlvSize (l.map fun f => f.val.length) := joinF_len_aux l []
theorem tlvSize_take (l : List Nat) (i : Nat) : tlvSize (l.take i) ≤ tlvSize l := by
  unfold tlvSize; rw [List.map_take]; exact sumUp_take _ _
def joinX (l : List Frm) : List UInt8 := if l.all fitF = true then joinF l else []
theorem join_c (l : List Frm) (ht : ∀ f ∈ l, f.ty < 65536) (hs : tlvSize (l.map fun f => f.val.length) ≤ 2 ^ 36) (hl : l.length ≤ 2 ^ 40) : PC Tryz.prog 31 [.sl false 2 (frmsA false l)] (.tup [.sl true 1 (bys (joinX l)), bool (l.all fitF)]) := by
  refine PC.of_bodyK (by simp only [push_cast]) Tryz.func31 rfl (by rw [Tryz.ntmps31]; simp) ?_
  refine AWp.regionW ?_
  refine AWp.regionW ?_
  refine AWp.seqK fun K1 hK1 => ?_
  refine AWp.regionW ?_
  refine AWp.block ?_
  refine AWp.nilSl 4 true 1 ?_
  refine AWp.loopK0 [9, 10] (fun (i : Nat) => [(4, .sl true 1 (bys (joinF (l.take i)))), (11, nat i)]) (fun i => i ≤ l.length ∧ (l.take i).all fitF = true) (fun i => l.length - i) (0) ?_ ⟨Nat.zero_le _, rfl⟩ ?_
  · skip
    refine Le.m 0 ?_ ?_
    · first | with_reducible rfl | (simp only [push_cast, reduceIte, Nat.reduceEqDiff, Nat.reduceLT, Nat.reduceAdd, Nat.reduceSub, Nat.reduceMul, Nat.reduceLeDiff, Nat.reducePow, Int.reduceLT, Int.reduceToNat, reduceCtorEq, Int.reduceNeg, Int.reduceEq, Nat.reduceBEq, Nat.reduceBNe, Int.reduceBEq, Int.reduceBNe, String.reduceEq]; first | done | rfl | (simp (disch := omega) only [w_nat, w_add, w_addl, w_addr, w_sub, w_subl, w_mul, w_mull, w_mulr, w_u32, w_u16, w_u8, w_u32a, N_zero]; first | done | rfl))
    · first | (simp only [push_cast, reduceIte, Nat.reduceEqDiff, Nat.reduceLT, Nat.reduceAdd, Nat.reduceSub, Nat.reduceMul, Nat.reduceLeDiff, Nat.reducePow, Int.reduceLT, Int.reduceToNat, reduceCtorEq, Int.reduceNeg, Int.reduceEq, Nat.reduceBEq, Nat.reduceBNe, Int.reduceBEq, Int.reduceBNe, String.reduceEq]; first | done | rfl | (simp (disch := omega) only [w_nat, w_add, w_addl, w_addr, w_sub, w_subl, w_mul, w_mull, w_mulr, w_u32, w_u16, w_u8, w_u32a, N_zero]; first | done | rfl))
  · intro i hi K2 hK2
    refine AWp.regionW ?_
    refine AWp.seqK fun K3 hK3 => ?_
    refine AWp.condLM (fun c0 => ?_) (fun c0 => ?_)
    · skip
      have hil : i < l.length := by simpa using c0
      have hti := ht l[i] (List.getElem_mem hil)
      have hsi := tlvSize_mem (l := l.map fun f => f.val.length) (List.mem_map.2 ⟨l[i], List.getElem_mem hil, rfl⟩)
      have hj := joinF_len (l.take (i + 1))
      rw [List.map_take] at hj
      have hj2 := tlvSize_take (l.map fun f => f.val.length) (i + 1)
      rw [List.take_succ_eq_append_getElem hil, joinF_snoc, List.length_append] at hj
      have hu := padB_len (joinF (l.take i))
      have hu2 : (joinF (l.take i)).length ≤ upN (joinF (l.take i)).length := by unfold upN; omega
      refine AWp.skip ?_
      refine hK3 _ ?_
      refine AWp.seqK fun K4 hK4 => ?_
      refine AWp.block ?_
      refine AWp.regionM fun K5 hK5 => ?_
      refine ARun2.indexM (i) (frmA false l[i]) ?_ ?_
      · exact frmsA_at _ _ _ hil
      refine ARun2.endm (hK5 _ ?_)
      refine AWp.regionM fun K6 hK6 => ?_
      refine ARun2.callM (put_c l[i] hti (by omega)) ?_
      refine ARun2.endm (hK6 _ ?_)
      refine AWp.seqK fun K7 hK7 => ?_
      refine AWp.regionW ?_
      refine AWp.condLM (fun c1 => ?_) (fun c1 => ?_)
      · skip
        have hf : fitF l[i] = false := by simpa using c1
        have hr : l.all fitF = false := by rw [List.all_eq_false]; exact ⟨l[i], List.getElem_mem hil, by simp [hf]⟩
        have hr2 : joinX l = [] := by unfold joinX; rw [hr]; rfl
        refine AWp.regionW ?_
        refine AWp.ret ?_
        try simp only [thenQ, blockQ, noGo]
        refine bodyQ.m ?_
        clear hK7 K7 hK6 K6 hK5 K5 hK4 K4 hK3 K3 hK2 K2 hK1 K1
        rw [hr, hr2]
        first | done | exact Wk.go
      · skip
        have hf : fitF l[i] = true := by simpa using c1
        rw [hf, if_pos rfl]
        refine AWp.skip ?_
        refine hK7 _ ?_
        refine AWp.regionN fun K8 hK8 => ?_
        refine ARun2.callOM [] (padBytes_o (joinF (l.take i)) (by omega)) ?_
        refine ARun2.appendM ?_ ?_ ?_
        · rw [YtmcedkcehcacpaaGreatDoor.Facts.eb31, bys_len, bys_len]; omega
        · rw [bys_len, bys_len]; omega
        refine ARun2.endm (hK8 _ ?_)
        refine hK4 _ ?_
        refine AWp.pubD 1 ?_
        refine AWp.regionV ?_
        refine hK2 _ (i + 1) (⟨hil, by rw [List.take_succ_eq_append_getElem hil, List.all_append, hi.2]; simp [hf]⟩) (by omega) ?_
        refine Le.m 0 ?_ ?_
        · first | with_reducible rfl | (simp only [push_cast, reduceIte, Nat.reduceEqDiff, Nat.reduceLT, Nat.reduceAdd, Nat.reduceSub, Nat.reduceMul, Nat.reduceLeDiff, Nat.reducePow, Int.reduceLT, Int.reduceToNat, reduceCtorEq, Int.reduceNeg, Int.reduceEq, Nat.reduceBEq, Nat.reduceBNe, Int.reduceBEq, Int.reduceBNe, String.reduceEq]; first | done | rfl | (simp (disch := omega) only [w_nat, w_add, w_addl, w_addr, w_sub, w_subl, w_mul, w_mull, w_mulr, w_u32, w_u16, w_u8, w_u32a, N_zero]; first | done | rfl))
        · simp only [push_cast, reduceIte, Nat.reduceEqDiff, Nat.reduceLT, Nat.reduceAdd, Nat.reduceSub, Nat.reduceMul, Nat.reduceLeDiff, Nat.reducePow, Int.reduceLT, Int.reduceToNat, reduceCtorEq, Int.reduceNeg, Int.reduceEq, Nat.reduceBEq, Nat.reduceBNe, Int.reduceBEq, Int.reduceBNe, String.reduceEq]
          try simp (disch := omega) only [w_nat, w_add, w_addl, w_addr, w_sub, w_subl, w_mul, w_mull, w_mulr, w_u32, w_u16, w_u8, w_u32a, N_zero]
          rw [List.take_succ_eq_append_getElem hil, joinF_snoc, bys_append]
    · skip
      have hil : i = l.length := by have := hi.1; simp at c0; omega
      subst hil
      have hr : l.all fitF = true := by have := hi.2; rwa [List.take_length] at this
      have hr2 : joinX l = joinF l := by unfold joinX; rw [if_pos hr]
      rw [List.take_length]
      refine AWp.exit ?_
      try simp only [thenQ, blockQ, noGo, reduceIte, Nat.reduceEqDiff]
      refine hK1 _ ?_
      refine AWp.regionW ?_
      refine AWp.ret ?_
      try simp only [thenQ, blockQ, noGo]
      refine bodyQ.m ?_
      clear hK3 K3 hK2 K2 hK1 K1
      rw [hr, hr2]
      first | done | exact Wk.go
end Go.Proofs.YtmcedkcehcacpaaGreatDoor.C
/- node: Clone, Same. -/
set_option linter.unusedVariables false
set_option linter.unusedSimpArgs false
namespace Go.Abs
theorem nodesA_snoc (b : Bool) (l : List GNode) (n : GNode) : nodesA b (l ++ [n]) = nodesA b l ++ [nodeA b n] := by rw [nodesA_map, nodesA_map, List.map_append]; rfl
mutual
/-- all that a node holds -/
def GNode.sz : GNode → Nat
  | .mk _ d k => d.length + szs k + 1
def szs : List GNode → Nat
  | [] => 0
  | n :: l => n.sz + szs l
end
theorem GNode.sz_eq (n : GNode) : n.sz = n.data.length + szs n.kids + 1 := by cases n; simp [GNode.sz, GNode.kids, GNode.data]
theorem szs_mem : ∀ {l : List GNode} {n : GNode}, n ∈ l → n.sz ≤ szs l
  | [], n, h => by simp at h
  | m :: l, n, h => by
    rcases List.mem_cons.1 h with h | h
    · subst h; simp only [szs]; omega
    · have := szs_mem h; simp only [szs]; omega
theorem szs_len : ∀ l : List GNode, l.length ≤ szs l
  | [] => by simp [szs]
  | n :: l => by
    have := szs_len l
    have := n.sz_eq
    simp only [szs, List.length_cons]; omega
theorem szs_lt {n m : GNode} (h : m ∈ n.kids) : m.sz < n.sz := by
  have := szs_mem h; rw [GNode.sz_eq n]; omega
mutual
/-- are two nodes the same? -/
def sameN : GNode → GNode → Bool
  | .mk t d k, .mk t' d' k' => t == t' && (decide (d = d') && sameL k k')
def sameL : List GNode → List GNode → Bool
  | [], [] => true
  | n :: l, m :: r => sameN n m && sameL l r
  | _, _ => false
end
theorem sameN_eq (n m : GNode) : sameN n m = (n.ty == m.ty && (decide (n.data = m.data) && sameL n.kids m.kids)) := by cases n; cases m; rw [sameN]; rfl
mutual
theorem sameN_iff : ∀ n m : GNode, sameN n m = true ↔ n = m
  | .mk t d k, .mk t' d' k' => by
    have := sameL_iff k k'
    simp [sameN, this]
theorem sameL_iff : ∀ l r : List GNode, sameL l r = true ↔ l = r
  | [], [] => by simp [sameL]
  | n :: l, m :: r => by
    have h1 := sameN_iff n m
    have h2 := sameL_iff l r
    simp [sameL, h1, h2]
  | [], m :: r => by simp [sameL]
  | n :: l, [] => by simp [sameL]
end
theorem sameL_len {l r : List GNode} (h : l.length ≠ r.length) : sameL l r = false := by
  cases hs : sameL l r with
  | false => rfl
  | true => rw [sameL_iff] at hs; subst hs; simp at h
theorem sameL_take {l r : List GNode} {i : Nat} (hl : i < l.length) (hr : i < r.length) (h0 : sameL (l.take i) (r.take i) = true) (h : sameN l[i] r[i] = true) : sameL (l.take (i + 1)) (r.take (i + 1)) = true := by
  rw [sameL_iff] at *
  rw [sameN_iff] at h
  rw [List.take_succ_eq_append_getElem hl, List.take_succ_eq_append_getElem hr, h0, h]
theorem sameL_at {l r : List GNode} {i : Nat} (hl : i < l.length) (hr : i < r.length) (h : sameN l[i] r[i] = false) : sameL l r = false := by
  cases hs : sameL l r with
  | false => rfl
  | true =>
    rw [sameL_iff] at hs; subst hs
    have : sameN l[i] l[i] = true := (sameN_iff _ _).2 rfl
    rw [this] at h; cases h
end Go.Abs
namespace Go.Proofs.YtmcedkcehcacpaaGreatDoor.C
open Go.Abs
theorem equalFunc_c (l r : List GNode) (hl : l.length ≤ 2 ^ 40) (ih : ∀ n ∈ l, ∀ m ∈ r, PC Tryz.prog 21 [nodeA false n, nodeA false m] (bool (sameN n m))) :
    PC Tryz.prog 41 [.sl false 3 (nodesA false l), .sl false 3 (nodesA false r), .fn (.func 21) [] []] (bool (sameL l r)) := by
  refine PC.of_bodyW (by simp only [push_cast]) Tryz.func41 rfl (by rw [Tryz.ntmps41]; simp) ?_
  refine AWp.regionW ?_
  refine AWp.seqK fun K1 hK1 => ?_
  refine AWp.regionW ?_
  refine AWp.condLM (fun c0 => ?_) (fun c0 => ?_)
  · skip
    have hne : l.length ≠ r.length := by simpa using c0
    refine AWp.regionW ?_
    refine AWp.ret ?_
    try simp only [thenQ, blockQ, noGo]
    refine bodyQ.m ?_
    clear hK1 K1
    rw [sameL_len hne]
    first | done | exact Hand.go
  · skip
    have he : l.length = r.length := by simpa using c0
    refine AWp.skip ?_
    refine hK1 _ ?_
    refine AWp.seqK fun K2 hK2 => ?_
    refine AWp.regionW ?_
    refine AWp.block ?_
    refine AWp.loopK0 [1, 2, 15, 16] (fun (i : Nat) => [(17, nat i)]) (fun i => i ≤ l.length ∧ sameL (l.take i) (r.take i) = true) (fun i => l.length - i) (0) ?_ ⟨Nat.zero_le _, rfl⟩ ?_
    · skip
      refine Le.m 0 ?_ ?_
      · first | with_reducible rfl | (simp only [push_cast, reduceIte, Nat.reduceEqDiff, Nat.reduceLT, Nat.reduceAdd, Nat.reduceSub, Nat.reduceMul, Nat.reduceLeDiff, Nat.reducePow, Int.reduceLT, Int.reduceToNat, reduceCtorEq, Int.reduceNeg, Int.reduceEq, Nat.reduceBEq, Nat.reduceBNe, Int.reduceBEq, Int.reduceBNe, String.reduceEq]; first | done | rfl | (simp (disch := omega) only [w_nat, w_add, w_addl, w_addr, w_sub, w_subl, w_mul, w_mull, w_mulr, w_u32, w_u16, w_u8, w_u32a, N_zero]; first | done | rfl))
      · first | (simp only [push_cast, reduceIte, Nat.reduceEqDiff, Nat.reduceLT, Nat.reduceAdd, Nat.reduceSub, Nat.reduceMul, Nat.reduceLeDiff, Nat.reducePow, Int.reduceLT, Int.reduceToNat, reduceCtorEq, Int.reduceNeg, Int.reduceEq, Nat.reduceBEq, Nat.reduceBNe, Int.reduceBEq, Int.reduceBNe, String.reduceEq]; first | done | rfl | (simp (disch := omega) only [w_nat, w_add, w_addl, w_addr, w_sub, w_subl, w_mul, w_mull, w_mulr, w_u32, w_u16, w_u8, w_u32a, N_zero]; first | done | rfl))
    · intro i hi K3 hK3
      refine AWp.regionW ?_
      refine AWp.seqK fun K4 hK4 => ?_
      refine AWp.condLM (fun c1 => ?_) (fun c1 => ?_)
      · skip
        have hil : i < l.length := by simpa using c1
        have hir : i < r.length := by omega
        refine AWp.skip ?_
        refine hK4 _ ?_
        refine AWp.seqK fun K5 hK5 => ?_
        refine AWp.block ?_
        refine AWp.regionM fun K6 hK6 => ?_
        refine ARun2.indexM (i) (nodeA false l[i]) ?_ ?_
        · exact nodesA_at _ _ _ hil
        refine ARun2.endm (hK6 _ ?_)
        refine AWp.regionM fun K7 hK7 => ?_
        refine ARun2.indexM (i) (nodeA false r[i]) ?_ ?_
        · exact nodesA_at _ _ _ hir
        refine ARun2.endm (hK7 _ ?_)
        refine AWp.regionM fun K8 hK8 => ?_
        refine ARun2.callVM (ih l[i] (List.getElem_mem hil) r[i] (List.getElem_mem hir)) ?_
        refine ARun2.endm (hK8 _ ?_)
        refine AWp.condLM (fun c2 => ?_) (fun c2 => ?_)
        · skip
          have h5 : sameN l[i] r[i] = false := by simpa using c2
          refine AWp.regionW ?_
          refine AWp.ret ?_
          try simp only [thenQ, blockQ, noGo]
          refine bodyQ.m ?_
          clear hK8 K8 hK7 K7 hK6 K6 hK5 K5 hK4 K4 hK3 K3 hK2 K2 hK1 K1
          rw [sameL_at hil hir h5]
          first | done | exact Hand.go
        · skip
          have h5 : sameN l[i] r[i] = true := by simpa using c2
          refine AWp.skip ?_
          refine hK5 _ ?_
          refine AWp.regionV ?_
          refine hK3 _ (i + 1) (⟨by omega, sameL_take hil hir hi.2 h5⟩) (by omega) ?_
          refine Le.m 0 ?_ ?_
          · first | with_reducible rfl | (simp only [push_cast, reduceIte, Nat.reduceEqDiff, Nat.reduceLT, Nat.reduceAdd, Nat.reduceSub, Nat.reduceMul, Nat.reduceLeDiff, Nat.reducePow, Int.reduceLT, Int.reduceToNat, reduceCtorEq, Int.reduceNeg, Int.reduceEq, Nat.reduceBEq, Nat.reduceBNe, Int.reduceBEq, Int.reduceBNe, String.reduceEq]; first | done | rfl | (simp (disch := omega) only [w_nat, w_add, w_addl, w_addr, w_sub, w_subl, w_mul, w_mull, w_mulr, w_u32, w_u16, w_u8, w_u32a, N_zero]; first | done | rfl))
          · first | (simp only [push_cast, reduceIte, Nat.reduceEqDiff, Nat.reduceLT, Nat.reduceAdd, Nat.reduceSub, Nat.reduceMul, Nat.reduceLeDiff, Nat.reducePow, Int.reduceLT, Int.reduceToNat, reduceCtorEq, Int.reduceNeg, Int.reduceEq, Nat.reduceBEq, Nat.reduceBNe, Int.reduceBEq, Int.reduceBNe, String.reduceEq]; first | done | rfl | (simp (disch := omega) only [w_nat, w_add, w_addl, w_addr, w_sub, w_subl, w_mul, w_mull, w_mulr, w_u32, w_u16, w_u8, w_u32a, N_zero]; first | done | rfl))
      · skip
        have hil : i = l.length := by have := hi.1; simp at c1; omega
        have hs : sameL l r = true := by have := hi.2; rwa [hil, List.take_length, he, List.take_length] at this
        refine AWp.exit ?_
        try simp only [thenQ, blockQ, noGo, reduceIte, Nat.reduceEqDiff]
        refine hK2 _ ?_
        refine AWp.regionW ?_
        refine AWp.ret ?_
        try simp only [thenQ, blockQ, noGo]
        refine bodyQ.m ?_
        clear hK4 K4 hK3 K3 hK2 K2 hK1 K1
        rw [hs]
        first | done | exact Hand.go
theorem same_step (n m : GNode) (hs : n.sz ≤ 2 ^ 40) (ih : ∀ a b : GNode, a.sz < n.sz → PC Tryz.prog 21 [nodeA false a, nodeA false b] (bool (sameN a b))) : PC Tryz.prog 21 [nodeA false n, nodeA false m] (bool (sameN n m)) := by
  have hsz := n.sz_eq
  have hlen := szs_len n.kids
  have hq := equalFunc_c n.kids m.kids (by omega) (fun a ha b hb => ih a b (szs_lt ha))
  refine PC.of_bodyW (by simp only [push_cast]) Tryz.func21 rfl (by rw [Tryz.ntmps21]; simp) ?_
  refine AWp.regionW ?_
  refine AWp.regionA fun K1 hK1 => ?_
  refine ARun.segm 6 fun KS hKS => ?_
  refine ARun2.endm (hKS _ ?_); clear hKS KS
  apply ARun.grpM 5 5 true 15 [2, 3, 10]
  · intro g5 KG hKG
    refine ARun2.gom ?_
    refine ARun2.callM (equal_c n.data m.data) ?_
    exact ARun2.endm (hKG _ Le.grpM)
  refine ARun.segm 2 fun KS hKS => ?_
  refine ARun2.endm (hKS _ ?_); clear hKS KS
  apply ARun.grpM 5 12 true 22 [17]
  · intro g12 KG hKG
    refine ARun2.gom ?_
    refine ARun2.callM (hq) ?_
    exact ARun2.endm (hKG _ Le.grpM)
  refine ARun2.gom ?_
  refine ARun2.endm (hK1 _ ?_)
  refine AWp.ret ?_
  try simp only [thenQ, blockQ, noGo]
  refine bodyQ.m ?_
  clear hK1 K1
  simp only [sameN_eq, Bool.and_assoc]
  first | done | exact Hand.go
theorem same_w : ∀ (w : Nat) (n m : GNode), n.sz ≤ w → n.sz ≤ 2 ^ 40 → PC Tryz.prog 21 [nodeA false n, nodeA false m] (bool (sameN n m)) := by
  intro w
  induction w with
  | zero => intro n m h; have := n.sz_eq; omega
  | succ w ih => exact fun n m hw hs => same_step n m hs (fun a b h => ih a b (by omega) (by omega))
theorem same_c (n m : GNode) (hs : n.sz ≤ 2 ^ 40) : PC Tryz.prog 21 [nodeA false n, nodeA false m] (bool (sameN n m)) := same_w _ n m (Nat.le_refl _) hs
theorem nclone_step (n : GNode) (hs : n.sz ≤ 2 ^ 40) (ih : ∀ a : GNode, a.sz < n.sz → PC Tryz.prog 22 [nodeA false a] (nodeA false a)) : PC Tryz.prog 22 [nodeA false n] (nodeA false n) := by
  have hsz := n.sz_eq
  have hlen := szs_len n.kids
  refine PC.of_bodyW (by simp only [push_cast]) Tryz.func22 rfl (by rw [Tryz.ntmps22]; simp) ?_
  refine AWp.regionW ?_
  refine AWp.drS [[(1, none)], [(6, some 0)], [(1, none)], [(8, some 2)], [(9, some 3)], [(7, some 1), (10, some 4)], []] fun G hG => ?_
  refine Dr.sim ?_
  try simp only [List.cons_append, List.nil_append]
  refine Dr.sim ?_
  try simp only [List.cons_append, List.nil_append]
  refine Dr.sim ?_
  try simp only [List.cons_append, List.nil_append]
  refine Dr.sim ?_
  try simp only [List.cons_append, List.nil_append]
  refine Dr.call (clone_c n.data (by omega)) ?_
  try simp only [List.cons_append, List.nil_append]
  refine Dr.sim ?_
  try simp only [List.cons_append, List.nil_append]
  refine Dr.al ?_
  try simp only [List.cons_append, List.nil_append]
  refine Dr.finA (n := 7) 6 [(11, 5), (3, 6)] [1, 2] hG YtmcedkcehcacpaaGreatDoor.Facts.mixed fun KD hKD => ?_
  refine ARun2.endm (hKD _ ?_); clear hKD KD hG G
  refine AWp.seqK fun K1 hK1 => ?_
  refine AWp.regionW ?_
  refine AWp.block ?_
  refine AWp.nilBox 2 2 33 3 rfl rfl ?_
  simp only [push_cast, reduceIte, Nat.reduceEqDiff, Nat.reduceLT, Nat.reduceAdd, Nat.reduceSub, Nat.reduceMul, Nat.reduceLeDiff, Nat.reducePow, Int.reduceLT, Int.reduceToNat, reduceCtorEq, Int.reduceNeg, Int.reduceEq, Nat.reduceBEq, Nat.reduceBNe, Int.reduceBEq, Int.reduceBNe, String.reduceEq]
  refine AWp.loopK [2, 3, 13, 14] (fun (i : Nat) => [(15, nat i)]) (fun i => [.box 33 [u16 n.ty, .sl false 1 (bys n.data), .sl false 3 (nodesA false n.kids)], .box 33 [.val (.int .u16 0), .val (.slice none 0 0), .val (.slice none 0 0)], .box 33 [u16 n.ty, .sl true 1 (bys n.data), .own 3], .row 33 3 (nodesA false (n.kids.take i))]) (fun i => i ≤ n.kids.length) (fun i => n.kids.length - i) (0) ?_ (Nat.zero_le _) ?_
  · skip
    refine Le.m 4 ?_ ?_
    · first | with_reducible rfl | (simp only [push_cast, reduceIte, Nat.reduceEqDiff, Nat.reduceLT, Nat.reduceAdd, Nat.reduceSub, Nat.reduceMul, Nat.reduceLeDiff, Nat.reducePow, Int.reduceLT, Int.reduceToNat, reduceCtorEq, Int.reduceNeg, Int.reduceEq, Nat.reduceBEq, Nat.reduceBNe, Int.reduceBEq, Int.reduceBNe, String.reduceEq]; first | done | rfl | (simp (disch := omega) only [w_nat, w_add, w_addl, w_addr, w_sub, w_subl, w_mul, w_mull, w_mulr, w_u32, w_u16, w_u8, w_u32a, N_zero]; first | done | rfl))
    · first | (simp only [push_cast, reduceIte, Nat.reduceEqDiff, Nat.reduceLT, Nat.reduceAdd, Nat.reduceSub, Nat.reduceMul, Nat.reduceLeDiff, Nat.reducePow, Int.reduceLT, Int.reduceToNat, reduceCtorEq, Int.reduceNeg, Int.reduceEq, Nat.reduceBEq, Nat.reduceBNe, Int.reduceBEq, Int.reduceBNe, String.reduceEq]; first | done | rfl | (simp (disch := omega) only [w_nat, w_add, w_addl, w_addr, w_sub, w_subl, w_mul, w_mull, w_mulr, w_u32, w_u16, w_u8, w_u32a, N_zero]; first | done | rfl))
  · intro i hi K2 hK2
    refine AWp.regionW ?_
    refine AWp.seqK fun K3 hK3 => ?_
    refine AWp.condLM (fun c0 => ?_) (fun c0 => ?_)
    · skip
      have hil : i < n.kids.length := by simpa using c0
      refine AWp.skip ?_
      refine hK3 _ ?_
      refine AWp.seqK fun K4 hK4 => ?_
      refine AWp.block ?_
      refine AWp.regionM fun K5 hK5 => ?_
      refine ARun2.indexM (i) (nodeA false n.kids[i]) ?_ ?_
      · exact nodesA_at _ _ _ hil
      refine ARun2.endm (hK5 _ ?_)
      refine AWp.drE [[(3, none)], [(19, some 0)], [(5, none)], [(21, some 2)], [(22, some 3)]] fun G hG => ?_
      refine Dr.sim ?_
      try simp only [List.cons_append, List.nil_append]
      refine Dr.sim ?_
      try simp only [List.cons_append, List.nil_append]
      refine Dr.sim ?_
      try simp only [List.cons_append, List.nil_append]
      refine Dr.call (ih n.kids[i] (szs_lt (List.getElem_mem hil))) ?_
      try simp only [List.cons_append, List.nil_append]
      refine Dr.build ?_
      try simp only [List.cons_append, List.nil_append]
      refine Dr.finN (n := 5) [(20, 1), (23, 4)] [2, 3, 13, 14, 15] hG YtmcedkcehcacpaaGreatDoor.Facts.mixed fun KD hKD => ?_
      refine ARun2.appendM ?_ ?_ ?_
      · rw [YtmcedkcehcacpaaGreatDoor.Facts.eb22, nodesA_len, List.length_take, List.length_cons, List.length_nil]; omega
      · rw [nodesA_len, List.length_take, List.length_cons, List.length_nil]; omega
      refine ARun2.endm (hKD _ ?_); clear hKD KD hG G
      refine hK4 _ ?_
      refine AWp.regionV ?_
      refine hK2 _ (i + 1) (by omega) (by omega) ?_
      refine Le.m 4 ?_ ?_
      · try simp only [push_cast, reduceIte, Nat.reduceEqDiff, Nat.reduceLT, Nat.reduceAdd, Nat.reduceSub, Nat.reduceMul, Nat.reduceLeDiff, Nat.reducePow, Int.reduceLT, Int.reduceToNat, reduceCtorEq, Int.reduceNeg, Int.reduceEq, Nat.reduceBEq, Nat.reduceBNe, Int.reduceBEq, Int.reduceBNe, String.reduceEq]
        try simp (disch := omega) only [w_nat, w_add, w_addl, w_addr, w_sub, w_subl, w_mul, w_mull, w_mulr, w_u32, w_u16, w_u8, w_u32a, N_zero]
        first | done | skip
        rw [List.take_succ_eq_append_getElem hil, nodesA_snoc, nodeA_eq]
      · first | (simp only [push_cast, reduceIte, Nat.reduceEqDiff, Nat.reduceLT, Nat.reduceAdd, Nat.reduceSub, Nat.reduceMul, Nat.reduceLeDiff, Nat.reducePow, Int.reduceLT, Int.reduceToNat, reduceCtorEq, Int.reduceNeg, Int.reduceEq, Nat.reduceBEq, Nat.reduceBNe, Int.reduceBEq, Int.reduceBNe, String.reduceEq]; first | done | rfl | (simp (disch := omega) only [w_nat, w_add, w_addl, w_addr, w_sub, w_subl, w_mul, w_mull, w_mulr, w_u32, w_u16, w_u8, w_u32a, N_zero]; first | done | rfl))
    · skip
      have hil : i = n.kids.length := by simp at c0; omega
      subst hil
      refine AWp.exit ?_
      try simp only [thenQ, blockQ, noGo, reduceIte, Nat.reduceEqDiff]
      refine hK1 _ ?_
      refine AWp.pubD 3 ?_
      refine AWp.regionW ?_
      refine AWp.ret ?_
      try simp only [thenQ, blockQ, noGo]
      refine bodyQ.m ?_
      clear hK3 K3 hK2 K2 hK1 K1
      rw [List.take_length]
      first | done | exact Hand.go
theorem nclone_w : ∀ (w : Nat) (n : GNode), n.sz ≤ w → n.sz ≤ 2 ^ 40 → PC Tryz.prog 22 [nodeA false n] (nodeA false n) := by
  intro w
  induction w with
  | zero => intro n h; have := n.sz_eq; omega
  | succ w ih => exact fun n hw hs => nclone_step n hs (fun a h => ih a (by omega) (by omega))
theorem nclone_c (n : GNode) (hs : n.sz ≤ 2 ^ 40) : PC Tryz.prog 22 [nodeA false n] (nodeA false n) := nclone_w _ n (Nat.le_refl _) hs
end Go.Proofs.YtmcedkcehcacpaaGreatDoor.C
namespace Go.Abs
mutual
/-- types of nodes are numbers of 16 bits -/
def GNode.tyOk : GNode → Bool
  | .mk t _ k => decide (t < 65536) && tysOk k
def tysOk : List GNode → Bool
  | [] => true
  | n :: l => n.tyOk && tysOk l
end
theorem GNode.tyOk_eq (n : GNode) : n.tyOk = (decide (n.ty < 65536) && tysOk n.kids) := by cases n; rw [GNode.tyOk]; rfl
theorem tysOk_mem : ∀ {l : List GNode}, tysOk l = true → ∀ n ∈ l, n.tyOk = true
  | [], _, n, h => by simp at h
  | m :: l, h, n, hm => by
    simp only [tysOk, Bool.and_eq_true] at h
    rcases List.mem_cons.1 hm with rfl | hm
    · exact h.1
    · exact tysOk_mem h.2 n hm
theorem GNode.tyOk_kids {n : GNode} (h : n.tyOk = true) : tysOk n.kids = true := by rw [GNode.tyOk_eq] at h; simp at h; exact h.2
theorem GNode.tyOk_ty {n : GNode} (h : n.tyOk = true) : n.ty < 65536 := by rw [GNode.tyOk_eq] at h; simp at h; exact h.1
end Go.Abs
/- Nodes read: one, parse, Parse. -/
set_option linter.unusedVariables false
set_option linter.unusedSimpArgs false
namespace Go.Proofs.YtmcedkcehcacpaaGreatDoor.C
open Go.Abs
/-- the nodes of frames -/
def goF (one : Frm → Nat → GNode × Er) (i : Nat) : List (Nat × Frm) → List GNode × Er
  | [] => ([], .ok)
  | p :: l => if (one p.2 (i + p.1)).2 = .ok then (if (goF one i l).2 = .ok then ((one p.2 (i + p.1)).1 :: (goF one i l).1, .ok) else ([], (goF one i l).2)) else ([], (one p.2 (i + p.1)).2)
theorem goF_snoc {one : Frm → Nat → GNode × Er} {i : Nat} {p : Nat × Frm} : ∀ {l : List (Nat × Frm)}, (goF one i l).2 = .ok → (one p.2 (i + p.1)).2 = .ok → goF one i (l ++ [p]) = ((goF one i l).1 ++ [(one p.2 (i + p.1)).1], .ok)
  | [], h, h2 => by simp [goF, h2]
  | q :: l, h, h2 => by
    simp only [goF] at h
    split at h
    · rename_i hq
      split at h
      · rename_i hl
        simp only [List.cons_append, goF, hq, if_true, hl, goF_snoc hl h2]
      · rename_i hl; exact absurd h hl
    · rename_i hq; exact absurd h hq
theorem goF_err {one : Frm → Nat → GNode × Er} {i : Nat} {p : Nat × Frm} {r : List (Nat × Frm)} : ∀ {l : List (Nat × Frm)}, (goF one i l).2 = .ok → (one p.2 (i + p.1)).2 ≠ .ok → goF one i (l ++ p :: r) = ([], (one p.2 (i + p.1)).2)
  | [], h, h2 => by simp [goF, h2]
  | q :: l, h, h2 => by
    simp only [goF] at h
    split at h
    · rename_i hq
      split at h
      · rename_i hl
        simp only [List.cons_append, goF, hq, if_true, goF_err (r := r) hl h2, if_neg h2]
      · rename_i hl; exact absurd h hl
    · rename_i hq; exact absurd h hq
/-- the bytes of a frame that are a node's own -/
def dataOf (c : Nat) (f : Frm) : List UInt8 := if (shapeOf c f.ty).kids ≠ 0 ∧ (shapeOf c f.ty).least ≤ f.val.length then f.val.take (shapeOf c f.ty).least else f.val
/-- the node of a frame; rec: the nodes inside, one deeper -/
def oneF (rec : Nat → List UInt8 → Nat → List GNode × Er) (c : Nat) (f : Frm) (i : Nat) : GNode × Er :=
  if shapeHas c f.ty = false then (.mk f.ty f.val [], .ok)
  else if fitsN (shapeOf c f.ty) (dataOf c f).length = false then (.zero, .flt 7 i)
  else if countedN c f.ty (dataOf c f) = true then (.zero, .flt 8 (i + 4))
  else if (shapeOf c f.ty).kids = 0 then (.mk f.ty (dataOf c f) [], .ok)
  else if (rec (insideN (shapeOf c f.ty).kids).1 (f.val.drop (shapeOf c f.ty).least) (i + 4 + (shapeOf c f.ty).least)).2 ≠ .ok then
    (.zero, (rec (insideN (shapeOf c f.ty).kids).1 (f.val.drop (shapeOf c f.ty).least) (i + 4 + (shapeOf c f.ty).least)).2)
  else if kidsOk (shapeOf c f.ty) (rec (insideN (shapeOf c f.ty).kids).1 (f.val.drop (shapeOf c f.ty).least) (i + 4 + (shapeOf c f.ty).least)).1 = false then (.zero, .flt 7 i)
  else (.mk f.ty (dataOf c f) (rec (insideN (shapeOf c f.ty).kids).1 (f.val.drop (shapeOf c f.ty).least) (i + 4 + (shapeOf c f.ty).least)).1, .ok)
/-- the nodes of a list of bytes, m levels deep -/
def parseF : Nat → Nat → List UInt8 → Nat → List GNode × Er
  | m, c, b, i => if (scan b b.length 0).2 = .ok then goF (fun f i => match m with
      | 0 => (.zero, .flt 9 i)
      | m + 1 => oneF (parseF m) c f i) i (scan b b.length 0).1
    else ([], (scan b b.length 0).2.shift i)
def oneD (m c : Nat) (f : Frm) (i : Nat) : GNode × Er := match m with
  | 0 => (.zero, .flt 9 i)
  | m + 1 => oneF (parseF m) c f i
theorem parseF_eq (m c : Nat) (b : List UInt8) (i : Nat) : parseF m c b i = if (scan b b.length 0).2 = .ok then goF (oneD m c) i (scan b b.length 0).1 else ([], (scan b b.length 0).2.shift i) := by
  rw [parseF]; rfl
theorem one_deep (c d : Nat) (f : Frm) (i : Nat) (hd : 4 < d) (hd2 : d < 2 ^ 60) : PC Tryz.prog 59 [nat c, frmA true f, nat i, nat d] (.tup [nodeA true .zero, erA (.flt 9 i)]) := by
  refine PC.of_bodyK (by simp only [push_cast]) Tryz.func59 rfl (by rw [Tryz.ntmps59]; simp) ?_
  refine AWp.regionW ?_
  refine AWp.seqK fun K1 hK1 => ?_
  refine AWp.regionW ?_
  refine AWp.condT ?_ (by simp only [push_cast]; simp; omega)
  refine AWp.regionM fun K2 hK2 => ?_
  refine ARun2.callM (fnew_c 9 i) ?_
  refine ARun2.endm (hK2 _ ?_)
  refine AWp.ret ?_
  try simp only [thenQ, blockQ, noGo]
  refine bodyQ.m ?_
  clear hK2 K2 hK1 K1
  simp only [GNode.zero, nodeA, nodesA]
  first | done | exact Wk.go
theorem shape_kids4 (c t : Nat) : (shapeOf c t).kids ≤ 4 := by
  have key : ∀ l : List ShForm, (∀ f ∈ l, f.kids ≤ 4) → (((l.find? fun f => f.ty == t).map fun f => { f with cls := c }).getD zeroForm).kids ≤ 4 := by
    intro l hl
    cases hf : l.find? (fun f => f.ty == t) with
    | none => simp [zeroForm]
    | some f => simpa using hl f (List.mem_of_find?_eq_some hf)
  refine key (formsN c) ?_
  match c with
  | 0 => intro f hf; simp [formsN] at hf
  | 1 => decide
  | 2 => decide
  | _ + 3 => intro f hf; simp [formsN] at hf
theorem inside_cls {k : Nat} (h4 : k ≤ 4) (h0 : k ≠ 0) : (insideN k).1 = 1 ∨ (insideN k).1 = 2 := by
  have : k = 1 ∨ k = 2 ∨ k = 3 ∨ k = 4 := by omega
  rcases this with rfl | rfl | rfl | rfl <;> simp [insideN]
theorem fits_least {f : ShForm} {n : Nat} (h : fitsN f n = true) : f.least ≤ n := by
  unfold fitsN at h; simp at h; exact h.1.1
theorem dataOf_len (c : Nat) (f : Frm) : (dataOf c f).length ≤ f.val.length := by
  unfold dataOf; split
  · rw [List.length_take]; omega
  · exact Nat.le_refl _
theorem readN_fit {b : List UInt8} {i : Nat} (hi : i < b.length) (h : (readN b i).2.2 = .ok) : i + 4 + (readN b i).1.val.length ≤ b.length := by
  unfold readN at h ⊢
  split at h
  · rename_i hc
    rw [if_pos hc]
    split at h
    · rename_i he; rw [if_pos he]; simp only [List.length_take, List.length_drop]; omega
    · rename_i he
      rw [if_neg he]
      split at h
      · rename_i hs; rw [if_pos hs]; simp only [List.length_take, List.length_drop]; omega
      · cases h
  · cases h
theorem readN_ty (b : List UInt8) (i : Nat) : (readN b i).1.ty < 65536 := by
  unfold readN
  split
  · split
    · exact peek2_lt _ _
    · split
      · exact peek2_lt _ _
      · simp [frm0]
  · simp [frm0]
theorem scan_fit (b : List UInt8) : ∀ (k i : Nat), ∀ p ∈ (scan b k i).1, p.1 + 4 + p.2.val.length ≤ b.length ∧ p.2.ty < 65536
  | 0, i, p, h => by simp [scan] at h
  | k + 1, i, p, h => by
    rw [scan] at h
    split at h
    · rename_i hi
      cases he : (readN b i).2.2 with
      | ok =>
        simp only [he] at h
        rcases List.mem_cons.1 h with rfl | h
        · exact ⟨readN_fit hi he, readN_ty b i⟩
        · exact scan_fit b k _ p h
      | code c => simp [he] at h
      | flt c j => simp [he] at h
    · simp at h
theorem one_step (m c d : Nat) (hc : c = 1 ∨ c = 2) (hd : d ≤ 4) (f : Frm) (i : Nat) (hi : i + 4 + f.val.length ≤ 2 ^ 40)
    (ih : ∀ (c : Nat) (b : List UInt8) (i : Nat), (c = 1 ∨ c = 2) → i + b.length ≤ 2 ^ 40 → PC Tryz.prog 35 [nat c, .sl false 1 (bys b), nat i, nat (d + 1)] (.tup [.sl true 3 (nodesA true (parseF m c b i).1), erA (parseF m c b i).2]))
    (ihl : ∀ (c : Nat) (b : List UInt8) (i : Nat), (parseF m c b i).1.length ≤ b.length) :
    PC Tryz.prog 59 [nat c, frmA true f, nat i, nat d] (.tup [nodeA true (oneF (parseF m) c f i).1, erA (oneF (parseF m) c f i).2]) := by
  obtain ⟨S, hS⟩ : ∃ S, S = shapeOf c f.ty := ⟨_, rfl⟩
  have h4 := shape_kids4 c f.ty
  have hk60 := form_kids c f.ty
  have hdl := dataOf_len c f
  have hO : oneF (parseF m) c f i = oneF (parseF m) c f i := rfl
  conv at hO => rhs; unfold oneF
  rw [← hS] at h4 hk60 hO
  have hdo : dataOf c f = if S.kids ≠ 0 ∧ S.least ≤ f.val.length then f.val.take S.least else f.val := by unfold dataOf; rw [hS]
  have hof := of_c c f.ty hc
  rw [← hS] at hof
  have hfo := form_ok c f.ty
  rw [← hS] at hfo
  generalize oneF (parseF m) c f i = O at hO
  refine PC.of_bodyK (by simp only [push_cast]) Tryz.func59 rfl (by rw [Tryz.ntmps59]; simp) ?_
  refine AWp.regionW ?_
  refine AWp.seqK fun K1 hK1 => ?_
  refine AWp.regionW ?_
  refine AWp.condF ?_ (by simp only [push_cast]; simp; omega)
  refine AWp.skip ?_
  refine hK1 _ ?_
  refine AWp.regionW ?_
  refine AWp.regionM fun K2 hK2 => ?_
  refine ARun2.callM (hof) ?_
  refine ARun2.endm (hK2 _ ?_)
  refine AWp.seqK fun K3 hK3 => ?_
  refine AWp.regionW ?_
  refine AWp.condLM (fun c1 => ?_) (fun c1 => ?_)
  · skip
    have hh : shapeHas c f.ty = false := by simpa using c1
    rw [if_pos hh] at hO
    refine AWp.regionW ?_
    refine AWp.ret ?_
    try simp only [thenQ, blockQ, noGo]
    refine bodyQ.m ?_
    clear hK3 K3 hK2 K2 hK1 K1
    subst hO; simp only [GNode.zero, nodeA_eq, GNode.ty, GNode.data, GNode.kids]
    first | done | exact Wk.go
  · skip
    have hh : shapeHas c f.ty = true := by simpa using c1
    rw [if_neg (by rw [hh]; simp)] at hO
    obtain ⟨u1, u2, u3⟩ := hfo hh
    refine AWp.skip ?_
    refine hK3 _ ?_
    refine AWp.seqK fun K4 hK4 => ?_
    refine AWp.regionA fun K5 hK5 => ?_
    refine ARun.segm 4 fun KS hKS => ?_
    refine ARun2.endm (hKS _ ?_); clear hKS KS
    apply ARun.grpM 6 3 true 47 [0, 2, 3, 5, 8, 10, 11, 41]
    · intro g3 KG hKG
      refine ARun2.gom ?_
      exact ARun2.endm (hKG _ Le.grpM)
    refine ARun2.gom ?_
    refine ARun2.endm (hK5 _ ?_)
    refine AWp.condLM (fun c2 => ?_) (fun c2 => ?_)
    · skip
      have hd0 : dataOf c f = f.val.take S.least := by rw [hdo, if_pos (by simp at c2; exact c2)]
      have hle : S.least ≤ f.val.length := by simp at c2; exact c2.2
      refine AWp.regionN fun K6 hK6 => ?_
      refine ARun2.sliceHi3M S.least (by rw [bys_len]; exact hle) ?_
      refine ARun2.endm (hK6 _ ?_)
      rw [← hd0]
      refine hK4 _ ?_
      refine AWp.seqK fun K7 hK7 => ?_
      refine AWp.block ?_
      refine AWp.regionM fun K8 hK8 => ?_
      refine ARun2.callM (fits_c S (dataOf c f).length (by omega) u3 u1 u2) ?_
      refine ARun2.endm (hK8 _ ?_)
      refine AWp.condLM (fun c3 => ?_) (fun c3 => ?_)
      · skip
        have hf : fitsN S (dataOf c f).length = false := by simpa using c3
        rw [if_pos hf] at hO
        refine AWp.regionM fun K9 hK9 => ?_
        refine ARun2.callM (fnew_c 7 i) ?_
        refine ARun2.endm (hK9 _ ?_)
        refine AWp.ret ?_
        try simp only [thenQ, blockQ, noGo]
        refine bodyQ.m ?_
        clear hK9 K9 hK8 K8 hK7 K7 hK6 K6 hK5 K5 hK4 K4 hK3 K3 hK2 K2 hK1 K1
        subst hO; simp only [GNode.zero, nodeA_eq, GNode.ty, GNode.data, GNode.kids]
        first | done | exact Wk.go
      · skip
        have hf : fitsN S (dataOf c f).length = true := by simpa using c3
        rw [if_neg (by rw [hf]; simp)] at hO
        refine AWp.regionM fun K10 hK10 => ?_
        refine ARun2.callM (counted_c c f.ty (dataOf c f) (by omega)) ?_
        refine ARun2.endm (hK10 _ ?_)
        refine AWp.condLM (fun c4 => ?_) (fun c4 => ?_)
        · skip
          have hcn := c4
          rw [if_pos hcn] at hO
          refine AWp.regionM fun K11 hK11 => ?_
          refine ARun2.callM (fnew_c 8 (i + 4)) ?_
          refine ARun2.endm (hK11 _ ?_)
          refine AWp.ret ?_
          try simp only [thenQ, blockQ, noGo]
          refine bodyQ.m ?_
          clear hK11 K11 hK10 K10 hK8 K8 hK7 K7 hK6 K6 hK5 K5 hK4 K4 hK3 K3 hK2 K2 hK1 K1
          subst hO; simp only [GNode.zero, nodeA_eq, GNode.ty, GNode.data, GNode.kids]
          first | done | exact Wk.go
        · skip
          have hcn := c4
          rw [if_neg (by rw [hcn]; simp)] at hO
          refine AWp.regionW ?_
          refine AWp.condLM (fun c5 => ?_) (fun c5 => ?_)
          · skip
            have hk0 : S.kids = 0 := by simpa using c5
            rw [if_pos hk0] at hO
            refine AWp.regionW ?_
            refine AWp.ret ?_
            try simp only [thenQ, blockQ, noGo]
            refine bodyQ.m ?_
            clear hK10 K10 hK8 K8 hK7 K7 hK6 K6 hK5 K5 hK4 K4 hK3 K3 hK2 K2 hK1 K1
            subst hO; simp only [GNode.zero, nodeA_eq, GNode.ty, GNode.data, GNode.kids]
            first | done | exact Wk.go
          · skip
            have hk0 : S.kids ≠ 0 := by simpa using c5
            rw [if_neg hk0] at hO
            have ihr := ih (insideN S.kids).1 (f.val.drop S.least) (i + 4 + S.least) (inside_cls h4 hk0) (by rw [List.length_drop]; omega)
            have ihn := ihl (insideN S.kids).1 (f.val.drop S.least) (i + 4 + S.least)
            rw [List.length_drop] at ihn
            obtain ⟨r, hr⟩ : ∃ r, r = parseF m (insideN S.kids).1 (f.val.drop S.least) (i + 4 + S.least) := ⟨_, rfl⟩
            rw [← hr] at hO ihr ihn
            refine AWp.skip ?_
            refine hK7 _ ?_
            refine AWp.regionM fun K12 hK12 => ?_
            refine ARun2.callM (inside_c S.kids hk60) ?_
            refine ARun2.endm (hK12 _ ?_)
            refine AWp.drS [[(13, none)], [(5, none)], [(92, some 1)], [(11, none)], [(94, some 3)], [(93, some 2), (95, some 4)], [(2, none)], [(97, some 6)], [(11, none)], [(99, some 8)], [(98, some 7), (100, some 9)], [(3, none)], [(102, some 11)], [(91, some 0), (96, some 5), (101, some 10), (103, some 12)], [(104, some 13)], [(90, some 14)], [(90, some 14)], [(105, some 15)], [(106, some 16)]] fun G hG => ?_
            refine Dr.sim ?_
            try simp only [List.cons_append, List.nil_append]
            refine Dr.sim ?_
            try simp only [List.cons_append, List.nil_append]
            refine Dr.sim ?_
            try simp only [List.cons_append, List.nil_append]
            refine Dr.sim ?_
            try simp only [List.cons_append, List.nil_append]
            refine Dr.sim ?_
            try simp only [List.cons_append, List.nil_append]
            refine Dr.sliceLo (S.least) ?_ ?_
            · rw [bys_len]; exact hle
            try simp only [List.cons_append, List.nil_append]
            refine Dr.sim ?_
            try simp only [List.cons_append, List.nil_append]
            refine Dr.sim ?_
            try simp only [List.cons_append, List.nil_append]
            refine Dr.sim ?_
            try simp only [List.cons_append, List.nil_append]
            refine Dr.sim ?_
            try simp only [List.cons_append, List.nil_append]
            refine Dr.sim ?_
            try simp only [List.cons_append, List.nil_append]
            refine Dr.sim ?_
            try simp only [List.cons_append, List.nil_append]
            refine Dr.sim ?_
            try simp only [List.cons_append, List.nil_append]
            refine Dr.call (ihr) ?_
            try simp only [List.cons_append, List.nil_append]
            refine Dr.sim ?_
            try simp only [List.cons_append, List.nil_append]
            refine Dr.sim ?_
            try simp only [List.cons_append, List.nil_append]
            refine Dr.sim ?_
            try simp only [List.cons_append, List.nil_append]
            refine Dr.sim ?_
            try simp only [List.cons_append, List.nil_append]
            refine Dr.sim ?_
            try simp only [List.cons_append, List.nil_append]
            refine Dr.finM (n := 19) [(16, 17), (17, 18)] [2, 8, 10, 11] hG YtmcedkcehcacpaaGreatDoor.Facts.mixed fun KD hKD => ?_
            refine ARun2.endm (hKD _ ?_); clear hKD KD hG G
            refine AWp.seqK fun K13 hK13 => ?_
            refine AWp.regionW ?_
            refine AWp.condLM (fun c6 => ?_) (fun c6 => ?_)
            · skip
              have he : r.2 ≠ .ok := by intro h; rw [h] at c6; cases c6
              rw [if_pos he] at hO
              refine AWp.regionW ?_
              refine AWp.ret ?_
              try simp only [thenQ, blockQ, noGo]
              refine bodyQ.m ?_
              clear hK13 K13 hK12 K12 hK10 K10 hK8 K8 hK7 K7 hK6 K6 hK5 K5 hK4 K4 hK3 K3 hK2 K2 hK1 K1
              subst hO; simp only [GNode.zero, nodeA_eq, GNode.ty, GNode.data, GNode.kids]
              first | done | exact Wk.go
            · skip
              have he : r.2 = .ok := by rw [← isOk_iff]; simpa using c6
              rw [if_neg (by simpa using he)] at hO
              refine AWp.skip ?_
              refine hK13 _ ?_
              refine AWp.regionW ?_
              refine AWp.seqK fun K14 hK14 => ?_
              refine AWp.regionM fun K15 hK15 => ?_
              refine ARun2.callM (kids_c S r.1 (by omega) hk60) ?_
              refine ARun2.endm (hK15 _ ?_)
              refine AWp.condLM (fun c7 => ?_) (fun c7 => ?_)
              · skip
                have hkk : kidsOk S r.1 = false := by simpa using c7
                rw [if_pos hkk] at hO
                refine AWp.regionM fun K16 hK16 => ?_
                refine ARun2.callM (fnew_c 7 i) ?_
                refine ARun2.endm (hK16 _ ?_)
                refine AWp.ret ?_
                try simp only [thenQ, blockQ, noGo]
                refine bodyQ.m ?_
                clear hK16 K16 hK15 K15 hK14 K14 hK13 K13 hK12 K12 hK10 K10 hK8 K8 hK7 K7 hK6 K6 hK5 K5 hK4 K4 hK3 K3 hK2 K2 hK1 K1
                subst hO; simp only [GNode.zero, nodeA_eq, GNode.ty, GNode.data, GNode.kids]
                first | done | exact Wk.go
              · skip
                have hkk : kidsOk S r.1 = true := by simpa using c7
                rw [if_neg (by rw [hkk]; simp)] at hO
                refine AWp.skip ?_
                refine hK14 _ ?_
                refine AWp.regionW ?_
                refine AWp.ret ?_
                try simp only [thenQ, blockQ, noGo]
                refine bodyQ.m ?_
                clear hK15 K15 hK14 K14 hK13 K13 hK12 K12 hK10 K10 hK8 K8 hK7 K7 hK6 K6 hK5 K5 hK4 K4 hK3 K3 hK2 K2 hK1 K1
                subst hO; simp only [GNode.zero, nodeA_eq, GNode.ty, GNode.data, GNode.kids]
                first | done | exact Wk.go
    · skip
      have hd0 : dataOf c f = f.val := by rw [hdo, if_neg (by simp at c2; intro h; have := c2 h.1; omega)]
      rw [hd0] at hO
      refine AWp.skip ?_
      refine hK4 _ ?_
      refine AWp.seqK fun K17 hK17 => ?_
      refine AWp.block ?_
      refine AWp.regionM fun K18 hK18 => ?_
      refine ARun2.callM (fits_c S f.val.length (by omega) u3 u1 u2) ?_
      refine ARun2.endm (hK18 _ ?_)
      refine AWp.condLM (fun c3 => ?_) (fun c3 => ?_)
      · skip
        have hf : fitsN S f.val.length = false := by simpa using c3
        rw [if_pos hf] at hO
        refine AWp.regionM fun K19 hK19 => ?_
        refine ARun2.callM (fnew_c 7 i) ?_
        refine ARun2.endm (hK19 _ ?_)
        refine AWp.ret ?_
        try simp only [thenQ, blockQ, noGo]
        refine bodyQ.m ?_
        clear hK19 K19 hK18 K18 hK17 K17 hK5 K5 hK4 K4 hK3 K3 hK2 K2 hK1 K1
        subst hO; simp only [GNode.zero, nodeA_eq, GNode.ty, GNode.data, GNode.kids]
        first | done | exact Wk.go
      · skip
        have hf : fitsN S f.val.length = true := by simpa using c3
        rw [if_neg (by rw [hf]; simp)] at hO
        refine AWp.regionM fun K20 hK20 => ?_
        refine ARun2.callM (counted_c c f.ty f.val (by omega)) ?_
        refine ARun2.endm (hK20 _ ?_)
        refine AWp.condLM (fun c4 => ?_) (fun c4 => ?_)
        · skip
          have hcn := c4
          rw [if_pos hcn] at hO
          refine AWp.regionM fun K21 hK21 => ?_
          refine ARun2.callM (fnew_c 8 (i + 4)) ?_
          refine ARun2.endm (hK21 _ ?_)
          refine AWp.ret ?_
          try simp only [thenQ, blockQ, noGo]
          refine bodyQ.m ?_
          clear hK21 K21 hK20 K20 hK18 K18 hK17 K17 hK5 K5 hK4 K4 hK3 K3 hK2 K2 hK1 K1
          subst hO; simp only [GNode.zero, nodeA_eq, GNode.ty, GNode.data, GNode.kids]
          first | done | exact Wk.go
        · skip
          have hcn := c4
          rw [if_neg (by rw [hcn]; simp)] at hO
          refine AWp.regionW ?_
          refine AWp.condLM (fun c5 => ?_) (fun c5 => ?_)
          · skip
            have hk0 : S.kids = 0 := by simpa using c5
            rw [if_pos hk0] at hO
            refine AWp.regionW ?_
            refine AWp.ret ?_
            try simp only [thenQ, blockQ, noGo]
            refine bodyQ.m ?_
            clear hK20 K20 hK18 K18 hK17 K17 hK5 K5 hK4 K4 hK3 K3 hK2 K2 hK1 K1
            subst hO; simp only [GNode.zero, nodeA_eq, GNode.ty, GNode.data, GNode.kids]
            first | done | exact Wk.go
          · skip
            have hk0 : S.kids ≠ 0 := by simpa using c5
            have hle := fits_least hf
            simp at c2
            have := c2 hk0
            omega
theorem splitN_er (b : List UInt8) : (splitN b).2 = (scan b b.length 0).2 := by
  unfold splitN; split
  · rename_i h; exact h.symm
  · rfl
theorem readN_at (b : List UInt8) (i : Nat) (hi : i ≤ b.length) : (readN b i).2.2.atOf.1 ≤ b.length := by
  unfold readN
  split
  · split
    · exact Nat.zero_le _
    · split
      · exact Nat.zero_le _
      · show i + _ ≤ _; omega
  · exact hi
theorem scan_at (b : List UInt8) : ∀ (k i : Nat), (scan b k i).2.atOf.1 ≤ b.length
  | 0, i => Nat.zero_le _
  | k + 1, i => by
    rw [scan]
    split
    · rename_i hi
      have h := readN_at b i (by omega)
      cases he : (readN b i).2.2 with
      | ok => exact scan_at b k _
      | code c => rw [he] at h; exact h
      | flt c j => rw [he] at h; exact h
    · exact Nat.zero_le _
theorem scan_len (b : List UInt8) : ∀ (k i : Nat), i ≤ b.length → (scan b k i).1.length ≤ b.length - i
  | 0, i, _ => Nat.zero_le _
  | k + 1, i, hle => by
    rw [scan]
    split
    · rename_i hi
      cases he : (readN b i).2.2 with
      | ok =>
        obtain ⟨n1, n2⟩ := readN_next he
        have := scan_len b k (readN b i).2.1 n2
        simp only [List.length_cons]; omega
      | code c => exact Nat.zero_le _
      | flt c j => exact Nat.zero_le _
    · exact Nat.zero_le _
theorem goF_len (one : Frm → Nat → GNode × Er) (i : Nat) : ∀ l : List (Nat × Frm), (goF one i l).1.length ≤ l.length
  | [] => Nat.zero_le _
  | p :: l => by
    have := goF_len one i l
    simp only [goF]
    split
    · split
      · simp only [List.length_cons]; omega
      · exact Nat.zero_le _
    · exact Nat.zero_le _
theorem parseF_len (m c : Nat) (b : List UInt8) (i : Nat) : (parseF m c b i).1.length ≤ b.length := by
  rw [parseF_eq]
  split
  · exact Nat.le_trans (goF_len _ _ _) (by have := scan_len b b.length 0 (Nat.zero_le _); omega)
  · exact Nat.zero_le _
theorem ysOf_len (l : List (Nat × Frm)) : (ysOf l).length = l.length := by simp [ysOf]
theorem parse_step (m c d : Nat) (hc : c = 1 ∨ c = 2) (hd : d < 2 ^ 60) (b : List UInt8) (i : Nat) (hi : i + b.length ≤ 2 ^ 40)
    (hone : ∀ (f : Frm) (j : Nat), j + 4 + f.val.length ≤ 2 ^ 40 → PC Tryz.prog 59 [nat c, frmA true f, nat j, nat d] (.tup [nodeA true (oneD m c f j).1, erA (oneD m c f j).2])) :
    PC Tryz.prog 35 [nat c, .sl false 1 (bys b), nat i, nat d] (.tup [.sl true 3 (nodesA true (parseF m c b i).1), erA (parseF m c b i).2]) := by
  have hsat := scan_at b b.length 0
  have hsf := scan_fit b b.length 0
  have hsl := scan_len b b.length 0 (Nat.zero_le _)
  have hsp := splitN_er b
  have hall := all_iter b (by omega)
  have hO := parseF_eq m c b i
  generalize parseF m c b i = O at hO
  generalize hfe : (scan b b.length 0).1 = fs at hsf hsl hall hO
  generalize (scan b b.length 0).2 = er at hsat hsp hO
  refine PC.of_bodyK (by simp only [push_cast]) Tryz.func35 rfl (by rw [Tryz.ntmps35]; simp) ?_
  refine AWp.regionW ?_
  refine AWp.seqK fun K1 hK1 => ?_
  refine AWp.regionM fun K2 hK2 => ?_
  refine ARun2.callM (split_c b (by omega)) ?_
  refine ARun2.endm (hK2 _ ?_)
  rw [hsp]
  refine AWp.regionW ?_
  refine AWp.condLM (fun c0 => ?_) (fun c0 => ?_)
  · skip
    have he : er ≠ .ok := by intro h; rw [h] at c0; cases c0
    rw [if_neg he] at hO
    refine AWp.regionM fun K3 hK3 => ?_
    refine ARun2.callM (shift_c er i (by omega) (by omega)) ?_
    refine ARun2.endm (hK3 _ ?_)
    refine AWp.ret ?_
    try simp only [thenQ, blockQ, noGo]
    refine bodyQ.m ?_
    clear hK3 K3 hK2 K2 hK1 K1
    subst hO; try rw [hk1]
    first | done | exact Wk.go
  · skip
    have he : er = .ok := by rw [← isOk_iff]; simpa using c0
    rw [if_pos he] at hO
    refine AWp.skip ?_
    refine hK1 _ ?_
    refine AWp.regionW ?_
    refine AWp.nilBox 5 0 33 3 rfl rfl ?_
    simp only [push_cast, reduceIte, Nat.reduceEqDiff, Nat.reduceLT, Nat.reduceAdd, Nat.reduceSub, Nat.reduceMul, Nat.reduceLeDiff, Nat.reducePow, Int.reduceLT, Int.reduceToNat, reduceCtorEq, Int.reduceNeg, Int.reduceEq, Nat.reduceBEq, Nat.reduceBNe, Int.reduceBEq, Int.reduceBNe, String.reduceEq]
    refine AWp.seqK fun K4 hK4 => ?_
    refine AWp.regionM fun K5 hK5 => ?_
    refine ARun2.callM (all_c b) ?_
    refine ARun2.endm (hK5 _ ?_)
    refine AWp.block ?_
    refine AWp.rangeFuncM (hall) [4, 6, 7, 8, 9, 12] (fun pre ob tr go => (goF (oneD m c) i (fs.take pre.length)).2 = .ok ∧ pre.length ≤ fs.length ∧ ob = [.box 3 [nat c], .box 3 [nat i], .box 3 [nat d], .box 22 [.val (.slice none 0 0)], .box 28 [.val .nilIface], .box 22 [.own 6], .row 33 3 (nodesA true (goF (oneD m c) i (fs.take pre.length)).1)]) (fun e ob tr go => e = .ret ∧ ∃ er l, O = ([], er) ∧ ob = [.box 3 [nat c], .box 3 [nat i], .box 3 [nat d], .box 22 [.val (.slice none 0 0)], .box 28 [erA er], .box 22 [.own 6], .row 33 3 l]) ?_ ?_ ?_ ?_ ?_
    · intro x hx
      simp only [ysOf, List.mem_map] at hx
      obtain ⟨q, _, rfl⟩ := hx
      rfl
    · exact ⟨rfl, Nat.zero_le _, rfl⟩
    · rintro pre x post ob tr go hxs ⟨hk1, hk2, rfl⟩
      have hpl : pre.length < fs.length := by rw [← ysOf_len fs, hxs]; simp
      have hx : (ysOf fs)[pre.length]? = some x := by rw [hxs]; simp
      rw [ysOf, List.getElem?_map, List.getElem?_eq_getElem hpl] at hx
      simp only [Option.map_some, Option.some.injEq] at hx
      subst hx
      obtain ⟨hp1, hp2⟩ := hsf fs[pre.length] (List.getElem_mem hpl)
      have hfd : fs = fs.take pre.length ++ fs[pre.length] :: fs.drop (pre.length + 1) := by rw [← List.drop_eq_getElem_cons hpl, List.take_append_drop]
      have hgl := goF_len (oneD m c) i (fs.take pre.length)
      rw [List.length_take] at hgl
      obtain ⟨q, hqe⟩ : ∃ q, fs[pre.length] = q := ⟨_, rfl⟩
      rw [hqe] at hfd hp1 hp2 ⊢
      refine AWp.regionW ?_
      refine AWp.regionV ?_
      change AWp _ _ _ _
      refine AWp.block ?_
      refine AWp.regionM fun K6 hK6 => ?_
      refine ARun2.callM (hone q.2 (i + q.1) (by omega)) ?_
      refine ARun2.endm (hK6 _ ?_)
      refine AWp.seqK fun K7 hK7 => ?_
      refine AWp.regionW ?_
      refine AWp.condLM (fun c1 => ?_) (fun c1 => ?_)
      · skip
        have hne : (oneD m c q.2 (i + q.1)).2 ≠ .ok := by intro h; rw [h] at c1; cases c1
        have hr : O = ([], (oneD m c q.2 (i + q.1)).2) := by rw [hO, hfd]; exact goF_err hk1 hne
        refine AWp.regionW ?_
        refine AWp.ret ?_
        try simp only [thenQ, blockQ, noGo]
        refine ⟨_, (Le.keep (fr' := []) trivial).trans (Le.cut 7 (by first | exact Nat.le_refl _ | decide) rfl (by simp only [push_cast, reduceIte, Nat.reduceEqDiff, Nat.reduceLT, Nat.reduceAdd, Nat.reduceSub, Nat.reduceMul, Nat.reduceLeDiff, Nat.reducePow, Int.reduceLT, Int.reduceToNat, reduceCtorEq, Int.reduceNeg, Int.reduceEq, Nat.reduceBEq, Nat.reduceBNe, Int.reduceBEq, Int.reduceBNe, String.reduceEq])), ?_⟩
        exact ⟨rfl, _, _, hr, rfl⟩
      · skip
        have heq : (oneD m c q.2 (i + q.1)).2 = .ok := by rw [← isOk_iff]; simpa using c1
        refine AWp.skip ?_
        refine hK7 _ ?_
        refine AWp.drE [[(12, none)], [(15, none)], [(44, some 0)], []] fun G hG => ?_
        refine Dr.sim ?_
        try simp only [List.cons_append, List.nil_append]
        refine Dr.sim ?_
        try simp only [List.cons_append, List.nil_append]
        refine Dr.sim ?_
        try simp only [List.cons_append, List.nil_append]
        refine Dr.build ?_
        try simp only [List.cons_append, List.nil_append]
        refine Dr.finTN (n := 4) 4 [(44, 0), (45, 1), (46, 2), (47, 3)] [8, 9, 12] hG YtmcedkcehcacpaaGreatDoor.Facts.mixed fun KD hKD => ?_
        clear hG G
        refine AAny.one 4 ?_
        refine ARun.opM ?_
        refine ARun2.appendM ?_ ?_ ?_
        · rw [YtmcedkcehcacpaaGreatDoor.Facts.eb22, nodesA_len, List.length_cons, List.length_nil]; omega
        · rw [nodesA_len, List.length_cons, List.length_nil]; omega
        refine ARun2.endm ?_
        refine AAny.two 5 7 ?_ ?_
        ·
          refine ARun.opM ?_
          refine ARun2.indexZM (xs := nodesA true (goF (oneD m c) i (fs.take pre.length)).1 ++ [.agg [.val (.int .u16 0), .val (.slice none 0 0), .val (.slice none 0 0)]]) (goF (oneD m c) i (fs.take pre.length)).1.length (by rw [List.length_append, nodesA_len]; simp) ?_
          refine ARun2.endm ?_
          refine AAny.two 6 7 ?_ ?_
          ·
            refine ARun.opM ?_
            refine ARun2.storeZM (nodesA true (goF (oneD m c) i (fs.take pre.length)).1 ++ [.agg [.val (.int .u16 0), .val (.slice none 0 0), .val (.slice none 0 0)]]) (goF (oneD m c) i (fs.take pre.length)).1.length (nodeA true (oneD m c q.2 (i + q.1)).1) (nodesA true (goF (oneD m c) i (fs.take pre.length)).1 ++ [nodeA true (oneD m c q.2 (i + q.1)).1]) (by rw [List.length_append, nodesA_len]; simp) (by rw [List.set_append_right _ _ (by rw [nodesA_len]; exact Nat.le_refl _), nodesA_len, Nat.sub_self, List.set_cons_zero]) ?_
            refine ARun2.endm ?_
            refine AAny.one 7 ?_
            refine ARun.opM ?_
            refine ARun2.endm ?_
            refine AAny.fin (hKD _ ?_); clear hKD KD
            refine ⟨_, (Le.keep (fr' := []) trivial).trans (Le.cut 7 (by first | exact Nat.le_refl _ | decide) rfl (by simp only [push_cast, reduceIte, Nat.reduceEqDiff, Nat.reduceLT, Nat.reduceAdd, Nat.reduceSub, Nat.reduceMul, Nat.reduceLeDiff, Nat.reducePow, Int.reduceLT, Int.reduceToNat, reduceCtorEq, Int.reduceNeg, Int.reduceEq, Nat.reduceBEq, Nat.reduceBNe, Int.reduceBEq, Int.reduceBNe, String.reduceEq])), ?_⟩
            have ht : fs.take (pre ++ [[nat q.1, frmA true q.2]]).length = fs.take pre.length ++ [q] := by
              rw [List.length_append, List.length_cons, List.length_nil, List.take_succ_eq_append_getElem hpl, hqe]
            have hs := goF_snoc hk1 heq
            rw [← ht] at hs
            refine ⟨by rw [hs], by rw [List.length_append]; simp; omega, ?_⟩
            rw [hs, nodesA_snoc, nodeA_eq]
            rfl
          ·
            refine ARun.opM ?_
            refine ARun2.endm ?_
            refine AAny.one 6 ?_
            refine ARun.opM ?_
            refine ARun2.storeZM (nodesA true (goF (oneD m c) i (fs.take pre.length)).1 ++ [.agg [.val (.int .u16 0), .val (.slice none 0 0), .val (.slice none 0 0)]]) (goF (oneD m c) i (fs.take pre.length)).1.length (nodeA true (oneD m c q.2 (i + q.1)).1) (nodesA true (goF (oneD m c) i (fs.take pre.length)).1 ++ [nodeA true (oneD m c q.2 (i + q.1)).1]) (by rw [List.length_append, nodesA_len]; simp) (by rw [List.set_append_right _ _ (by rw [nodesA_len]; exact Nat.le_refl _), nodesA_len, Nat.sub_self, List.set_cons_zero]) ?_
            refine ARun2.endm ?_
            refine AAny.fin (hKD _ ?_); clear hKD KD
            refine ⟨_, (Le.keep (fr' := []) trivial).trans (Le.cut 7 (by first | exact Nat.le_refl _ | decide) rfl (by simp only [push_cast, reduceIte, Nat.reduceEqDiff, Nat.reduceLT, Nat.reduceAdd, Nat.reduceSub, Nat.reduceMul, Nat.reduceLeDiff, Nat.reducePow, Int.reduceLT, Int.reduceToNat, reduceCtorEq, Int.reduceNeg, Int.reduceEq, Nat.reduceBEq, Nat.reduceBNe, Int.reduceBEq, Int.reduceBNe, String.reduceEq])), ?_⟩
            have ht : fs.take (pre ++ [[nat q.1, frmA true q.2]]).length = fs.take pre.length ++ [q] := by
              rw [List.length_append, List.length_cons, List.length_nil, List.take_succ_eq_append_getElem hpl, hqe]
            have hs := goF_snoc hk1 heq
            rw [← ht] at hs
            refine ⟨by rw [hs], by rw [List.length_append]; simp; omega, ?_⟩
            rw [hs, nodesA_snoc, nodeA_eq]
            rfl
        ·
          refine ARun.opM ?_
          refine ARun2.endm ?_
          refine AAny.one 5 ?_
          refine ARun.opM ?_
          refine ARun2.indexZM (xs := nodesA true (goF (oneD m c) i (fs.take pre.length)).1 ++ [.agg [.val (.int .u16 0), .val (.slice none 0 0), .val (.slice none 0 0)]]) (goF (oneD m c) i (fs.take pre.length)).1.length (by rw [List.length_append, nodesA_len]; simp) ?_
          refine ARun2.endm ?_
          refine AAny.one 6 ?_
          refine ARun.opM ?_
          refine ARun2.storeZM (nodesA true (goF (oneD m c) i (fs.take pre.length)).1 ++ [.agg [.val (.int .u16 0), .val (.slice none 0 0), .val (.slice none 0 0)]]) (goF (oneD m c) i (fs.take pre.length)).1.length (nodeA true (oneD m c q.2 (i + q.1)).1) (nodesA true (goF (oneD m c) i (fs.take pre.length)).1 ++ [nodeA true (oneD m c q.2 (i + q.1)).1]) (by rw [List.length_append, nodesA_len]; simp) (by rw [List.set_append_right _ _ (by rw [nodesA_len]; exact Nat.le_refl _), nodesA_len, Nat.sub_self, List.set_cons_zero]) ?_
          refine ARun2.endm ?_
          refine AAny.fin (hKD _ ?_); clear hKD KD
          refine ⟨_, (Le.keep (fr' := []) trivial).trans (Le.cut 7 (by first | exact Nat.le_refl _ | decide) rfl (by simp only [push_cast, reduceIte, Nat.reduceEqDiff, Nat.reduceLT, Nat.reduceAdd, Nat.reduceSub, Nat.reduceMul, Nat.reduceLeDiff, Nat.reducePow, Int.reduceLT, Int.reduceToNat, reduceCtorEq, Int.reduceNeg, Int.reduceEq, Nat.reduceBEq, Nat.reduceBNe, Int.reduceBEq, Int.reduceBNe, String.reduceEq])), ?_⟩
          have ht : fs.take (pre ++ [[nat q.1, frmA true q.2]]).length = fs.take pre.length ++ [q] := by
            rw [List.length_append, List.length_cons, List.length_nil, List.take_succ_eq_append_getElem hpl, hqe]
          have hs := goF_snoc hk1 heq
          rw [← ht] at hs
          refine ⟨by rw [hs], by rw [List.length_append]; simp; omega, ?_⟩
          rw [hs, nodesA_snoc, nodeA_eq]
          rfl
    · rintro ob tr go df ⟨hk1, _, rfl⟩
      rw [ysOf_len, List.take_length] at hk1 ⊢
      refine hK4 _ ?_
      refine AWp.pubD 6 ?_
      refine AWp.regionW ?_
      refine AWp.ret ?_
      try simp only [thenQ, blockQ, noGo]
      refine bodyQ.m ?_
      clear hK5 K5 hK4 K4 hK2 K2 hK1 K1
      subst hO; try rw [hk1]
      first | done | exact Wk.go
    · rintro e ob tr go df ⟨rfl, er, l, hr, rfl⟩
      try simp only [thenQ, blockQ, noGo]
      refine bodyQ.m ?_
      rw [hr]
      first | done | exact Wk.go
theorem parse_all : ∀ (m d c : Nat) (b : List UInt8) (i : Nat), d + m = 5 → (c = 1 ∨ c = 2) → i + b.length ≤ 2 ^ 40 →
    PC Tryz.prog 35 [nat c, .sl false 1 (bys b), nat i, nat d] (.tup [.sl true 3 (nodesA true (parseF m c b i).1), erA (parseF m c b i).2]) := by
  intro m
  induction m with
  | zero =>
    intro d c b i hdm hc hi
    refine parse_step 0 c d hc (by omega) b i hi fun f j hj => ?_
    exact one_deep c d f j (by omega) (by omega)
  | succ m ih =>
    intro d c b i hdm hc hi
    refine parse_step (m + 1) c d hc (by omega) b i hi fun f j hj => ?_
    exact one_step m c d hc (by omega) f j hj (fun c b i hc hi => ih (d + 1) c b i (by omega) hc hi) (fun c b i => parseF_len m c b i)
theorem parse_c (c : Nat) (b : List UInt8) (hc : c = 1 ∨ c = 2) (hl : b.length ≤ 2 ^ 40) : PC Tryz.prog 15 [nat c, .sl false 1 (bys b)] (.tup [.sl true 3 (nodesA true (parseF 4 c b 0).1), erA (parseF 4 c b 0).2]) := by
  have h := parse_all 4 1 c b 0 rfl hc (by omega)
  refine PC.of_bodyK (by simp only [push_cast]) Tryz.func15 rfl (by rw [Tryz.ntmps15]; simp) ?_
  refine AWp.regionW ?_
  refine AWp.regionM fun K1 hK1 => ?_
  refine ARun2.callM (h) ?_
  refine ARun2.endm (hK1 _ ?_)
  refine AWp.ret ?_
  try simp only [thenQ, blockQ, noGo]
  refine bodyQ.m ?_
  clear hK1 K1
  first | done | exact Wk.go
end Go.Proofs.YtmcedkcehcacpaaGreatDoor.C
/- Nodes written: frames, Encode. -/
set_option linter.unusedVariables false
set_option linter.unusedSimpArgs false
namespace Go.Proofs.YtmcedkcehcacpaaGreatDoor.C
open Go.Abs
mutual
def frameN : GNode → Frm
  | .mk t d k => ⟨t, d ++ joinX (framesN k)⟩
def framesN : List GNode → List Frm
  | [] => []
  | n :: l => frameN n :: framesN l
end
theorem framesN_map : ∀ l : List GNode, framesN l = l.map frameN
  | [] => rfl
  | n :: l => by rw [framesN, framesN_map l]; rfl
theorem frameN_eq (n : GNode) : frameN n = ⟨n.ty, n.data ++ joinX (framesN n.kids)⟩ := by cases n; rw [frameN]; rfl
theorem framesN_len (l : List GNode) : (framesN l).length = l.length := by rw [framesN_map]; simp
theorem upN_mono {a b : Nat} (h : a ≤ b) : upN a ≤ upN b := by unfold upN gapN; omega
theorem sumUp_mono {α : Type} (f g : α → Nat) : ∀ (l : List α) (s s' : Nat), s ≤ s' → (∀ x ∈ l, f x ≤ g x) → sumUp s (l.map f) ≤ sumUp s' (l.map g)
  | [], s, s', h, _ => h
  | x :: l, s, s', h, hl => by
    simp only [List.map_cons, sumUp]
    refine sumUp_mono f g l _ _ ?_ fun y hy => hl y (by simp [hy])
    have := upN_mono h
    have := hl x (by simp)
    omega
theorem framesT_of {l : List GNode} (h : ∀ x ∈ l, (frameN x).val.length ≤ vlen x) : tlvSize ((framesN l).map fun f => f.val.length) ≤ nSize l := by
  unfold nSize tlvSize
  rw [framesN_map, nLens_map, List.map_map, List.map_map, List.map_map]
  exact sumUp_mono _ _ l 0 0 (Nat.le_refl _) fun x hx => by simp only [Function.comp]; have := h x hx; omega
theorem joinX_le (l : List Frm) : (joinX l).length ≤ tlvSize (l.map fun f => f.val.length) := by
  unfold joinX
  split
  · rw [joinF_len]; exact Nat.le_refl _
  · simp
mutual
theorem frameN_le : ∀ n : GNode, (frameN n).val.length ≤ vlen n
  | .mk t d k => by
    have h1 := framesT_of (framesL_le k)
    have h2 := joinX_le (framesN k)
    simp only [frameN, vlen, List.length_append]
    unfold nSize at h1
    omega
theorem framesL_le : ∀ (l : List GNode), ∀ x ∈ l, (frameN x).val.length ≤ vlen x
  | [], x, h => by simp at h
  | n :: l, x, h => (List.mem_cons.1 h).elim (fun e => e ▸ frameN_le n) (fun h => framesL_le l x h)
end
theorem framesT_le (l : List GNode) : tlvSize ((framesN l).map fun f => f.val.length) ≤ nSize l := framesT_of (framesL_le l)
theorem framesN_le (l : List GNode) : (joinX (framesN l)).length ≤ nSize l := Nat.le_trans (joinX_le _) (framesT_le l)
theorem framesN_snoc (l : List GNode) (n : GNode) : framesN (l ++ [n]) = framesN l ++ [frameN n] := by rw [framesN_map, framesN_map]; simp
@[push_cast] theorem errA_zero : errA 0 = .val .nilIface := rfl
theorem frameN_ty (n : GNode) : (frameN n).ty = n.ty := by rw [frameN_eq]
theorem frames_step (w : Nat) (ih : ∀ l : List GNode, wts l < w → nSize l ≤ 2 ^ 30 → tysOk l = true → PC Tryz.prog 32 [.sl false 3 (nodesA false l)] (.sl true 2 (frmsA true (framesN l)))) (l : List GNode) (hw : wts l ≤ w) (hs : nSize l ≤ 2 ^ 30) (ht : tysOk l = true) :
    PC Tryz.prog 32 [.sl false 3 (nodesA false l)] (.sl true 2 (frmsA true (framesN l))) := by
  have hlen := nSize_len l
  refine PC.of_bodyK (by simp only [push_cast]) Tryz.func32 rfl (by rw [Tryz.ntmps32]; simp) ?_
  refine AWp.regionW ?_
  refine AWp.regionW ?_
  refine AWp.seqK fun K1 hK1 => ?_
  refine AWp.regionW ?_
  refine AWp.block ?_
  -- SLOTS THAT TURN AND ARE NOT TOLD: [3]
  refine AWp.nilOwn 3 71 2 (by simp only [push_cast, reduceIte, Nat.reduceEqDiff, Nat.reduceLT, Nat.reduceAdd, Nat.reduceSub, Nat.reduceMul, Nat.reduceLeDiff, Nat.reducePow, Int.reduceLT, Int.reduceToNat, reduceCtorEq, Int.reduceNeg, Int.reduceEq, Nat.reduceBEq, Nat.reduceBNe, Int.reduceBEq, Int.reduceBNe, String.reduceEq]) ?_
  simp only [push_cast, reduceIte, Nat.reduceEqDiff, Nat.reduceLT, Nat.reduceAdd, Nat.reduceSub, Nat.reduceMul, Nat.reduceLeDiff, Nat.reducePow, Int.reduceLT, Int.reduceToNat, reduceCtorEq, Int.reduceNeg, Int.reduceEq, Nat.reduceBEq, Nat.reduceBNe, Int.reduceBEq, Int.reduceBNe, String.reduceEq]
  refine AWp.loopK [3, 8, 9] (fun (i : Nat) => [(10, nat i)]) (fun i => [.row 71 2 (frmsA true (framesN (l.take i)))]) (fun i => i ≤ l.length) (fun i => l.length - i) (0) ?_ (Nat.zero_le _) ?_
  · skip
    refine Le.m 1 ?_ ?_
    · try simp only [push_cast, reduceIte, Nat.reduceEqDiff, Nat.reduceLT, Nat.reduceAdd, Nat.reduceSub, Nat.reduceMul, Nat.reduceLeDiff, Nat.reducePow, Int.reduceLT, Int.reduceToNat, reduceCtorEq, Int.reduceNeg, Int.reduceEq, Nat.reduceBEq, Nat.reduceBNe, Int.reduceBEq, Int.reduceBNe, String.reduceEq]
      try simp (disch := omega) only [w_nat, w_add, w_addl, w_addr, w_sub, w_subl, w_mul, w_mull, w_mulr, w_u32, w_u16, w_u8, w_u32a, N_zero]
      first | done | skip
      rfl
    · first | (simp only [push_cast, reduceIte, Nat.reduceEqDiff, Nat.reduceLT, Nat.reduceAdd, Nat.reduceSub, Nat.reduceMul, Nat.reduceLeDiff, Nat.reducePow, Int.reduceLT, Int.reduceToNat, reduceCtorEq, Int.reduceNeg, Int.reduceEq, Nat.reduceBEq, Nat.reduceBNe, Int.reduceBEq, Int.reduceBNe, String.reduceEq]; first | done | rfl | (simp (disch := omega) only [w_nat, w_add, w_addl, w_addr, w_sub, w_subl, w_mul, w_mull, w_mulr, w_u32, w_u16, w_u8, w_u32a, N_zero]; first | done | rfl))
  · intro i hi K2 hK2
    refine AWp.regionW ?_
    refine AWp.seqK fun K3 hK3 => ?_
    refine AWp.condLM (fun c0 => ?_) (fun c0 => ?_)
    · skip
      have hil : i < l.length := by simpa using c0
      have hm := List.getElem_mem hil
      have hv := vlen_mem hm
      have he := vlen_eq l[i]
      have hk := nSize_kids hm
      have hkl := nSize_len l[i].kids
      have hkt := GNode.tyOk_kids (tysOk_mem ht _ hm)
      have hfl := framesN_le l[i].kids
      refine AWp.skip ?_
      refine hK3 _ ?_
      refine AWp.seqK fun K4 hK4 => ?_
      refine AWp.block ?_
      refine AWp.regionM fun K5 hK5 => ?_
      refine ARun2.indexM (i) (nodeA false l[i]) ?_ ?_
      · exact nodesA_at _ _ _ hil
      refine ARun2.endm (hK5 _ ?_)
      refine AWp.regionM fun K6 hK6 => ?_
      refine ARun2.callM (ih l[i].kids (by have := kids_lt hm; omega) (by omega) hkt) ?_
      refine ARun2.callM (join_c (framesN l[i].kids) (by intro f hf; rw [framesN_map] at hf; obtain ⟨n, hn, rfl⟩ := List.mem_map.1 hf; rw [frameN_ty]; exact GNode.tyOk_ty (tysOk_mem hkt _ hn)) (by have := framesT_le l[i].kids; omega) (by rw [framesN_len]; omega)) ?_
      refine ARun2.endm (hK6 _ ?_)
      have hj := wjoin_c [l[i].data, joinX (framesN l[i].kids)] (by simp [lens]; omega) (by simp)
      rw [show [l[i].data, joinX (framesN l[i].kids)].flatten = l[i].data ++ joinX (framesN l[i].kids) by simp] at hj
      refine AWp.drE [[(3, none)], [(5, none)], [(22, some 1)], [(5, none)], [(24, some 3)], [(6, none)], [(25, some 4), (26, some 5)], [(27, some 6)], [(23, some 2), (28, some 7)], [(29, some 8)]] fun G hG => ?_
      refine Dr.sim ?_
      try simp only [List.cons_append, List.nil_append]
      refine Dr.sim ?_
      try simp only [List.cons_append, List.nil_append]
      refine Dr.sim ?_
      try simp only [List.cons_append, List.nil_append]
      refine Dr.sim ?_
      try simp only [List.cons_append, List.nil_append]
      refine Dr.sim ?_
      try simp only [List.cons_append, List.nil_append]
      refine Dr.sim ?_
      try simp only [List.cons_append, List.nil_append]
      refine Dr.build ?_
      try simp only [List.cons_append, List.nil_append]
      refine Dr.call (hj) ?_
      try simp only [List.cons_append, List.nil_append]
      refine Dr.sim ?_
      try simp only [List.cons_append, List.nil_append]
      refine Dr.build ?_
      try simp only [List.cons_append, List.nil_append]
      refine Dr.finN (n := 10) [(21, 0), (30, 9)] [8, 9, 10] hG YtmcedkcehcacpaaGreatDoor.Facts.mixed fun KD hKD => ?_
      refine ARun2.appendM ?_ ?_ ?_
      · rw [YtmcedkcehcacpaaGreatDoor.Facts.eb68, frmsA_len, framesN_len, List.length_take, List.length_cons, List.length_nil]; omega
      · rw [frmsA_len, framesN_len, List.length_take, List.length_cons, List.length_nil]; omega
      refine ARun2.endm (hKD _ ?_); clear hKD KD hG G
      refine hK4 _ ?_
      refine AWp.regionV ?_
      refine hK2 _ (i + 1) (by omega) (by omega) ?_
      refine Le.m 1 ?_ ?_
      · try simp only [push_cast, reduceIte, Nat.reduceEqDiff, Nat.reduceLT, Nat.reduceAdd, Nat.reduceSub, Nat.reduceMul, Nat.reduceLeDiff, Nat.reducePow, Int.reduceLT, Int.reduceToNat, reduceCtorEq, Int.reduceNeg, Int.reduceEq, Nat.reduceBEq, Nat.reduceBNe, Int.reduceBEq, Int.reduceBNe, String.reduceEq]
        try simp (disch := omega) only [w_nat, w_add, w_addl, w_addr, w_sub, w_subl, w_mul, w_mull, w_mulr, w_u32, w_u16, w_u8, w_u32a, N_zero]
        first | done | skip
        rw [List.take_succ_eq_append_getElem hil, framesN_snoc, frmsA_snoc, frameN_eq l[i]]; rfl
      · first | (simp only [push_cast, reduceIte, Nat.reduceEqDiff, Nat.reduceLT, Nat.reduceAdd, Nat.reduceSub, Nat.reduceMul, Nat.reduceLeDiff, Nat.reducePow, Int.reduceLT, Int.reduceToNat, reduceCtorEq, Int.reduceNeg, Int.reduceEq, Nat.reduceBEq, Nat.reduceBNe, Int.reduceBEq, Int.reduceBNe, String.reduceEq]; first | done | rfl | (simp (disch := omega) only [w_nat, w_add, w_addl, w_addr, w_sub, w_subl, w_mul, w_mull, w_mulr, w_u32, w_u16, w_u8, w_u32a, N_zero]; first | done | rfl))
    · skip
      have hil : i = l.length := by simp at c0; omega
      subst hil
      refine AWp.exit ?_
      try simp only [thenQ, blockQ, noGo, reduceIte, Nat.reduceEqDiff]
      refine hK1 _ ?_
      refine AWp.pubD 0 ?_
      refine AWp.regionW ?_
      refine AWp.ret ?_
      try simp only [thenQ, blockQ, noGo]
      refine bodyQ.m ?_
      clear hK3 K3 hK2 K2 hK1 K1
      rw [List.take_length]
      first | done | exact Wk.go
theorem frames_w : ∀ (w : Nat) (l : List GNode), wts l ≤ w → nSize l ≤ 2 ^ 30 → tysOk l = true → PC Tryz.prog 32 [.sl false 3 (nodesA false l)] (.sl true 2 (frmsA true (framesN l))) := by
  intro w
  induction w with
  | zero => exact frames_step 0 (fun l h => by omega)
  | succ w ih => exact frames_step (w + 1) (fun l h => ih l (by omega))
theorem frames_c (l : List GNode) (hs : nSize l ≤ 2 ^ 30) (ht : tysOk l = true) : PC Tryz.prog 32 [.sl false 3 (nodesA false l)] (.sl true 2 (frmsA true (framesN l))) := frames_w _ l (Nat.le_refl _) hs ht
/-- the bytes of nodes -/
def encN (l : List GNode) : List UInt8 := joinX (framesN l)
theorem encode_c (c : Nat) (l : List GNode) (hc : c = 1 ∨ c = 2) (hs : nSize l ≤ 2 ^ 30) (ht : tysOk l = true) : PC Tryz.prog 12 [nat c, .sl false 3 (nodesA false l)]
    (.tup [.sl true 1 (bys (if checkL c 1 l = 0 then encN l else [])), errA (checkL c 1 l)]) := by
  have hlen := nSize_len l
  refine PC.of_bodyK (by simp only [push_cast]) Tryz.func12 rfl (by rw [Tryz.ntmps12]; simp) ?_
  refine AWp.regionW ?_
  refine AWp.seqK fun K1 hK1 => ?_
  refine AWp.regionW ?_
  refine AWp.block ?_
  refine AWp.loopK0 [0, 1, 11, 12] (fun (i : Nat) => [(13, nat i)]) (fun i => i ≤ l.length ∧ checkL c 1 (l.take i) = 0) (fun i => l.length - i) (0) ?_ ⟨Nat.zero_le _, rfl⟩ ?_
  · skip
    refine Le.m 0 ?_ ?_
    · first | with_reducible rfl | (simp only [push_cast, reduceIte, Nat.reduceEqDiff, Nat.reduceLT, Nat.reduceAdd, Nat.reduceSub, Nat.reduceMul, Nat.reduceLeDiff, Nat.reducePow, Int.reduceLT, Int.reduceToNat, reduceCtorEq, Int.reduceNeg, Int.reduceEq, Nat.reduceBEq, Nat.reduceBNe, Int.reduceBEq, Int.reduceBNe, String.reduceEq]; first | done | rfl | (simp (disch := omega) only [w_nat, w_add, w_addl, w_addr, w_sub, w_subl, w_mul, w_mull, w_mulr, w_u32, w_u16, w_u8, w_u32a, N_zero]; first | done | rfl))
    · first | (simp only [push_cast, reduceIte, Nat.reduceEqDiff, Nat.reduceLT, Nat.reduceAdd, Nat.reduceSub, Nat.reduceMul, Nat.reduceLeDiff, Nat.reducePow, Int.reduceLT, Int.reduceToNat, reduceCtorEq, Int.reduceNeg, Int.reduceEq, Nat.reduceBEq, Nat.reduceBNe, Int.reduceBEq, Int.reduceBNe, String.reduceEq]; first | done | rfl | (simp (disch := omega) only [w_nat, w_add, w_addl, w_addr, w_sub, w_subl, w_mul, w_mull, w_mulr, w_u32, w_u16, w_u8, w_u32a, N_zero]; first | done | rfl))
  · intro i hi K2 hK2
    refine AWp.regionW ?_
    refine AWp.seqK fun K3 hK3 => ?_
    refine AWp.condLM (fun c0 => ?_) (fun c0 => ?_)
    · skip
      have hil : i < l.length := by simpa using c0
      have hm := List.getElem_mem hil
      have hn1 := nSize_one hm
      refine AWp.skip ?_
      refine hK3 _ ?_
      refine AWp.seqK fun K4 hK4 => ?_
      refine AWp.block ?_
      refine AWp.regionM fun K5 hK5 => ?_
      refine ARun2.indexM (i) (nodeA false l[i]) ?_ ?_
      · exact nodesA_at _ _ _ hil
      refine ARun2.endm (hK5 _ ?_)
      refine AWp.regionM fun K6 hK6 => ?_
      refine ARun2.callM (check_c c l[i] hc (by omega)) ?_
      refine ARun2.endm (hK6 _ ?_)
      refine AWp.regionW ?_
      refine AWp.condLM (fun c1 => ?_) (fun c1 => ?_)
      · skip
        have hne : checkN c 1 l[i] ≠ 0 := by simpa using c1
        have hr := checkL_at c 1 l i hil hi.2 hne
        have hr2 : (if checkL c 1 l = 0 then encN l else []) = [] := by rw [hr, if_neg hne]
        refine AWp.regionW ?_
        refine AWp.ret ?_
        try simp only [thenQ, blockQ, noGo]
        refine bodyQ.m ?_
        clear hK6 K6 hK5 K5 hK4 K4 hK3 K3 hK2 K2 hK1 K1
        rw [hr2, hr]; try rw [encN]
        first | done | exact Wk.go
      · skip
        have heq : checkN c 1 l[i] = 0 := by simpa using c1
        refine AWp.skip ?_
        refine hK4 _ ?_
        refine AWp.regionV ?_
        refine hK2 _ (i + 1) (⟨hil, by rw [List.take_succ_eq_append_getElem hil, checkL_snoc, hi.2]; simpa using heq⟩) (by omega) ?_
        refine Le.m 0 ?_ ?_
        · first | with_reducible rfl | (simp only [push_cast, reduceIte, Nat.reduceEqDiff, Nat.reduceLT, Nat.reduceAdd, Nat.reduceSub, Nat.reduceMul, Nat.reduceLeDiff, Nat.reducePow, Int.reduceLT, Int.reduceToNat, reduceCtorEq, Int.reduceNeg, Int.reduceEq, Nat.reduceBEq, Nat.reduceBNe, Int.reduceBEq, Int.reduceBNe, String.reduceEq]; first | done | rfl | (simp (disch := omega) only [w_nat, w_add, w_addl, w_addr, w_sub, w_subl, w_mul, w_mull, w_mulr, w_u32, w_u16, w_u8, w_u32a, N_zero]; first | done | rfl))
        · first | (simp only [push_cast, reduceIte, Nat.reduceEqDiff, Nat.reduceLT, Nat.reduceAdd, Nat.reduceSub, Nat.reduceMul, Nat.reduceLeDiff, Nat.reducePow, Int.reduceLT, Int.reduceToNat, reduceCtorEq, Int.reduceNeg, Int.reduceEq, Nat.reduceBEq, Nat.reduceBNe, Int.reduceBEq, Int.reduceBNe, String.reduceEq]; first | done | rfl | (simp (disch := omega) only [w_nat, w_add, w_addl, w_addr, w_sub, w_subl, w_mul, w_mull, w_mulr, w_u32, w_u16, w_u8, w_u32a, N_zero]; first | done | rfl))
    · skip
      have hil : i = l.length := by have := hi.1; simp at c0; omega
      subst hil
      have hr : checkL c 1 l = 0 := by have := hi.2; rwa [List.take_length] at this
      have hr2 : (if checkL c 1 l = 0 then encN l else []) = encN l := if_pos hr
      refine AWp.exit ?_
      try simp only [thenQ, blockQ, noGo, reduceIte, Nat.reduceEqDiff]
      refine hK1 _ ?_
      refine AWp.regionM fun K7 hK7 => ?_
      refine ARun2.callM (frames_c l hs ht) ?_
      refine ARun2.callM (join_c (framesN l) (by intro f hf; rw [framesN_map] at hf; obtain ⟨n, hn, rfl⟩ := List.mem_map.1 hf; rw [frameN_ty]; exact GNode.tyOk_ty (tysOk_mem ht _ hn)) (by have := framesT_le l; omega) (by rw [framesN_len]; omega)) ?_
      refine ARun2.endm (hK7 _ ?_)
      refine AWp.regionW ?_
      refine AWp.ret ?_
      try simp only [thenQ, blockQ, noGo]
      refine bodyQ.m ?_
      clear hK7 K7 hK3 K3 hK2 K2 hK1 K1
      rw [hr2, hr]; try rw [encN]
      first | done | exact Wk.go
end Go.Proofs.YtmcedkcehcacpaaGreatDoor.C
/- Two values of an interface compared, where one holds a number. No condition. -/
namespace Go.Abs
set_option linter.unusedVariables false
set_option linter.unusedSectionVars false
set_option linter.unusedSimpArgs false
/-- a type of numbers that may be compared -/
def isIn (P : Program) (T : TypeId) : Bool := match P.underlying T, P.info? T with
  | some (.int _), some i => i.comparable
  | _, _ => false
def isIf (P : Program) (T : TypeId) : Bool := match P.underlying T with
  | some (.interface _) => true
  | _ => false
def ifcEq (e : AV) (t : TypeId) (k : IntKind) (n : Int) : Option Bool := match e with
  | .val .nilIface => some false
  | .ifc t' u => if t' = t then (match u with
    | .val (.int k' m) => if k' = k then some (m == n) else none
    | _ => none) else some false
  | _ => none
section
variable {P : Program} {ops : Array Oper} {E : Env} {s s' : AS} {ρ : List Value} {B : Nat → Prop} {a : Act} {w w' : World} {o : Oper} {rest : List Oper} {Q : AS → Prop} {R : Exit → AS → Prop} {nds : List (List (Nat × Option Nat))} {vals : List AV} {G : Prop}
theorem isIn_spec {T : TypeId} (h : isIn P T = true) : ∃ k i, P.underlying T = some (.int k) ∧ P.info? T = some i ∧ i.comparable = true := by
  unfold isIn at h
  split at h
  · rename_i k i h1 h2; exact ⟨k, i, h1, h2, h⟩
  · cases h
theorem isIf_spec {T : TypeId} (h : isIf P T = true) : ∃ ms, P.underlying T = some (.interface ms) := by
  unfold isIf at h
  split at h
  · rename_i ms hm; exact ⟨ms, hm⟩
  · cases h
theorem ifcEq_run {T t : TypeId} {k : IntKind} {n : Int} {e : AV} {v : Value} {b : Bool} (hT : isIf P T = true) (ht : isIn P t = true) (hv : Rel w B E.bs ρ e v) (he : ifcEq e t k n = some b) : (Op.equal T v (.iface t (.int k n))).run P w = .ok b w := by
  obtain ⟨ms, hu⟩ := isIf_spec hT
  obtain ⟨kk, i, h1, h2, h3⟩ := isIn_spec ht
  have key : ∀ d, (Op.equalIn (d + 2) T v (.iface t (.int k n))).run P w = .ok b w := by
    intro d
    unfold ifcEq at he
    split at he
    · cases he
      have : v = .nilIface := hv.val_eq
      subst this
      simp [Op.equalIn, run_underlying hu]
    · rename_i t' u
      cases hv with
      | ifc hv =>
        rename_i v'
        by_cases htt : t' = t
        · subst htt
          rw [if_pos rfl] at he
          split at he
          · rename_i k' m
            split at he
            · rename_i hkk
              subst hkk
              cases he
              have : v' = .int k' m := hv.val_eq
              subst this
              simp [Op.equalIn, run_underlying hu, run_underlying h1, typeInfo, h2, h3]
            · cases he
          · cases he
        · rw [if_neg htt] at he
          cases he
          simp [Op.equalIn, run_underlying hu, htt]
    · cases he
  exact key 9998
theorem AOp.ifcEq {op : BinOp} {T X t : TypeId} {k : IntKind} {n : Int} {e : AV} {x y : Operand} {b : Bool} (ho : o.op = .binOp op T x y X) (hop : op = .eql ∨ op = .neq) (hT : isIf P T = true) (ht : isIn P t = true) (hx : s.ev x = e) (hy : s.ev y = .ifc t (.val (.int k n))) (he : Abs.ifcEq e t k n = some b)
    (K : ARun P ops rest (s.put o.dst (.val (.bool (if op = .eql then b else !b)))) Q) : AOp P ops o rest s Q := by
  refine AOp.pure1 (fun E ρ B a w hs => ⟨.bool (if op = .eql then b else !b), ?_, .val _⟩) K
  have e1 := hx ▸ hs.ev x
  have e2 : a.eval y = .iface t (.int k n) := by
    have key : ∀ u, Rel w B E.bs ρ (.ifc t (.val (.int k n))) u → u = .iface t (.int k n) := by
      intro u h
      cases h with
      | ifc h => rw [h.val_eq]
    exact key _ (hy ▸ hs.ev y)
  have hq := ifcEq_run (E := E) hT ht e1 he
  have hg : (eqGuard op T x y (a.eval x) (.iface t (.int k n))).run P w = .ok () w := by
    rcases hop with rfl | rfl <;> (cases a.eval x <;> simp [eqGuard])
  have hb : ∀ v, (∃ b, Abs.ifcEq e t k n = some b) → Rel w B E.bs ρ e v → (binOp .eql T v (.iface t (.int k n)) = (do pure (.bool (← Op.equal T v (.iface t (.int k n))))) ∧ binOp .neq T v (.iface t (.int k n)) = (do pure (.bool (!(← Op.equal T v (.iface t (.int k n))))))) := by
    intro v hb hv
    cases v <;> first | exact ⟨rfl, rfl⟩ | skip
  obtain ⟨b1, b2⟩ := hb (a.eval x) ⟨b, he⟩ e1
  simp only [execOp, ho, e2]
  rcases hop with rfl | rfl
  · simp [b1, hg, hq]
  · simp [b2, hg, hq]
theorem ARun2.ifcEqM {op : BinOp} {T X t : TypeId} {k : IntKind} {n : Int} {e : AV} {x y : Operand} {p : List Oper × AS} (b : Bool) (he : Abs.ifcEq e t k n = some b) (K : ARun2 P ops p Q) (ho : o.op = .binOp op T x y X := by rfl) (hop : op = .eql ∨ op = .neq := by first | exact .inl rfl | exact .inr rfl) (hT : isIf P T = true := by kernel_rfl) (ht : isIn P t = true := by kernel_rfl)
    (hg : gd ops s o = some true := by first | with_reducible rfl | (simp only [push_cast, reduceIte, Nat.reduceEqDiff, Nat.reduceLT, Nat.reduceAdd, Nat.reduceSub, Nat.reduceMul, Nat.reduceLeDiff, Nat.reducePow, Int.reduceLT, Int.reduceToNat, reduceCtorEq, Int.reduceNeg, Int.reduceEq, Nat.reduceBEq, Nat.reduceBNe, Int.reduceBEq, Int.reduceBNe, String.reduceEq]; first | done | rfl | (simp (disch := omega) only [w_nat, w_add, w_addl, w_addr, w_sub, w_subl, w_mul, w_mull, w_mulr, w_u32, w_u16, w_u8, w_u32a, N_zero]; first | done | rfl | (simp only [push_cast, reduceIte, Nat.reduceEqDiff, Nat.reduceLT, Nat.reduceAdd, Nat.reduceSub, Nat.reduceMul, Nat.reduceLeDiff, Nat.reducePow, Int.reduceLT, Int.reduceToNat, reduceCtorEq, Int.reduceNeg, Int.reduceEq, Nat.reduceBEq, Nat.reduceBNe, Int.reduceBEq, Int.reduceBNe, String.reduceEq]; first | done | rfl)))) (hx : s.ev x = e := by first | with_reducible rfl | (simp only [push_cast, reduceIte, Nat.reduceEqDiff, Nat.reduceLT, Nat.reduceAdd, Nat.reduceSub, Nat.reduceMul, Nat.reduceLeDiff, Nat.reducePow, Int.reduceLT, Int.reduceToNat, reduceCtorEq, Int.reduceNeg, Int.reduceEq, Nat.reduceBEq, Nat.reduceBNe, Int.reduceBEq, Int.reduceBNe, String.reduceEq]; first | done | rfl | (simp (disch := omega) only [w_nat, w_add, w_addl, w_addr, w_sub, w_subl, w_mul, w_mull, w_mulr, w_u32, w_u16, w_u8, w_u32a, N_zero]; first | done | rfl | (simp only [push_cast, reduceIte, Nat.reduceEqDiff, Nat.reduceLT, Nat.reduceAdd, Nat.reduceSub, Nat.reduceMul, Nat.reduceLeDiff, Nat.reducePow, Int.reduceLT, Int.reduceToNat, reduceCtorEq, Int.reduceNeg, Int.reduceEq, Nat.reduceBEq, Nat.reduceBNe, Int.reduceBEq, Int.reduceBNe, String.reduceEq]; first | done | rfl)))) (hy : s.ev y = .ifc t (.val (.int k n)) := by first | with_reducible rfl | (simp only [push_cast, reduceIte, Nat.reduceEqDiff, Nat.reduceLT, Nat.reduceAdd, Nat.reduceSub, Nat.reduceMul, Nat.reduceLeDiff, Nat.reducePow, Int.reduceLT, Int.reduceToNat, reduceCtorEq, Int.reduceNeg, Int.reduceEq, Nat.reduceBEq, Nat.reduceBNe, Int.reduceBEq, Int.reduceBNe, String.reduceEq]; first | done | rfl | (simp (disch := omega) only [w_nat, w_add, w_addl, w_addr, w_sub, w_subl, w_mul, w_mull, w_mulr, w_u32, w_u16, w_u8, w_u32a, N_zero]; first | done | rfl | (simp only [push_cast, reduceIte, Nat.reduceEqDiff, Nat.reduceLT, Nat.reduceAdd, Nat.reduceSub, Nat.reduceMul, Nat.reduceLeDiff, Nat.reducePow, Int.reduceLT, Int.reduceToNat, reduceCtorEq, Int.reduceNeg, Int.reduceEq, Nat.reduceBEq, Nat.reduceBNe, Int.reduceBEq, Int.reduceBNe, String.reduceEq]; first | done | rfl))))
    (h : srun P ops rest (s.put o.dst (.val (.bool (if op = .eql then b else !b)))) = p := by
        try simp only [push_cast, reduceIte, Nat.reduceEqDiff, Nat.reduceLT, Nat.reduceAdd, Nat.reduceSub, Nat.reduceMul, Nat.reduceLeDiff, Nat.reducePow, Int.reduceLT, Int.reduceToNat, reduceCtorEq, Int.reduceNeg, Int.reduceEq, Nat.reduceBEq, Nat.reduceBNe, Int.reduceBEq, Int.reduceBNe, String.reduceEq]
        try simp (disch := omega) only [w_nat, w_add, w_addl, w_addr, w_sub, w_subl, w_mul, w_mull, w_mulr, w_u32, w_u16, w_u8, w_u32a, N_zero]
        try simp only [push_cast, reduceIte, Nat.reduceEqDiff, Nat.reduceLT, Nat.reduceAdd, Nat.reduceSub, Nat.reduceMul, Nat.reduceLeDiff, Nat.reducePow, Int.reduceLT, Int.reduceToNat, reduceCtorEq, Int.reduceNeg, Int.reduceEq, Nat.reduceBEq, Nat.reduceBNe, Int.reduceBEq, Int.reduceBNe, String.reduceEq]
        rfl) : ARun2 P ops (o :: rest, s) Q :=
  ARun.exec hg (AOp.ifcEq ho hop hT ht hx hy he (ARun.srun (h ▸ K)))
end
end Go.Abs
/- cause: right, Number, Value, Missing, Types, Chunk. -/
set_option linter.unusedVariables false
set_option linter.unusedSimpArgs false
namespace Go.Abs
@[push_cast] theorem GNode.ty_mk (t : Nat) (d : List UInt8) (k : List GNode) : (GNode.mk t d k).ty = t := rfl
@[push_cast] theorem GNode.data_mk (t : Nat) (d : List UInt8) (k : List GNode) : (GNode.mk t d k).data = d := rfl
@[push_cast] theorem GNode.kids_mk (t : Nat) (d : List UInt8) (k : List GNode) : (GNode.mk t d k).kids = k := rfl
@[push_cast] theorem GNode.zero_mk : GNode.zero = .mk 0 [] [] := rfl
end Go.Abs
namespace Go.Proofs.YtmcedkcehcacpaaGreatDoor.C
open Go.Abs
end Go.Proofs.YtmcedkcehcacpaaGreatDoor.C
/- cause: Value, Missing, Types, Chunk. -/
set_option linter.unusedVariables false
set_option linter.unusedSimpArgs false
namespace Go.Proofs.YtmcedkcehcacpaaGreatDoor.C
open Go.Abs
theorem beN_lt2 (l : List UInt8) (k : Nat) (h : l.length ≤ k) : beN l < 256 ^ k := by
  have := beN_lt l
  exact Nat.lt_of_lt_of_le this (Nat.pow_le_pow_right (by omega) h)
@[push_cast] theorem plL_app (l m : List AV) : AV.plL (l ++ m) = (AV.plL l && AV.plL m) := by
  rw [Bool.eq_iff_iff, Bool.and_eq_true, AV.plL_iff, AV.plL_iff, AV.plL_iff]
  simp only [List.mem_append]
  exact ⟨fun h => ⟨fun x hx => h x (.inl hx), fun x hx => h x (.inr hx)⟩, fun h x hx => hx.elim (h.1 x) (h.2 x)⟩
end Go.Proofs.YtmcedkcehcacpaaGreatDoor.C
/- cause: Missing, Types, Chunk. -/
set_option linter.unusedVariables false
set_option linter.unusedSimpArgs false
namespace Go.Proofs.YtmcedkcehcacpaaGreatDoor.C
open Go.Abs
end Go.Proofs.YtmcedkcehcacpaaGreatDoor.C
/- The reference: Same, Missing. -/
set_option linter.unusedVariables false
set_option linter.unusedSimpArgs false
namespace Go.Proofs.YtmcedkcehcacpaaGreatDoor.C
open Go.Abs
theorem take_step {α : Type} {l m : List α} {i : Nat} (hl : i < l.length) (hm : i < m.length) (h0 : l.take i = m.take i) (h : l[i] = m[i]) : l.take (i + 1) = m.take (i + 1) := by
  rw [List.take_succ_eq_append_getElem hl, List.take_succ_eq_append_getElem hm, h0, h]
theorem ne_at {α : Type} {l m : List α} {i : Nat} (hl : i < l.length) (hm : i < m.length) (h : l[i] ≠ m[i]) : l ≠ m := by
  rintro rfl; exact h rfl
theorem bys_at (l : List UInt8) (i : Nat) (h : i < l.length) : (bys l)[i]? = some (.val (.int .u8 (N l[i].toNat))) := by simp [bys, h]
theorem same01_c (l m : List UInt8) (hl : l.length ≤ 2 ^ 40) : PC Tryz.prog 16 [.sl false 1 (bys l), .sl false 1 (bys m)] (bool (decide (l = m))) := by
  refine PC.of_bodyW (by simp only [push_cast]) Tryz.func16 rfl (by rw [Tryz.ntmps16]; simp) ?_
  refine AWp.regionW ?_
  refine AWp.seqK fun K1 hK1 => ?_
  refine AWp.regionW ?_
  refine AWp.condLM (fun c0 => ?_) (fun c0 => ?_)
  · skip
    have hne : decide (l = m) = false := decide_eq_false (by rintro rfl; simp at c0)
    refine AWp.regionW ?_
    refine AWp.ret ?_
    try simp only [thenQ, blockQ, noGo]
    refine bodyQ.m ?_
    clear hK1 K1
    rw [hne]
    first | done | exact Hand.go
  · skip
    have he : l.length = m.length := by simpa using c0
    refine AWp.skip ?_
    refine hK1 _ ?_
    refine AWp.seqK fun K2 hK2 => ?_
    refine AWp.regionW ?_
    refine AWp.block ?_
    refine AWp.loopK0 [0, 1] (fun (i : Nat) => [(5, nat i)]) (fun i => i ≤ l.length ∧ l.take i = m.take i) (fun i => l.length - i) (0) ?_ ⟨Nat.zero_le _, rfl⟩ ?_
    · skip
      refine Le.m 0 ?_ ?_
      · first | with_reducible rfl | (simp only [push_cast, reduceIte, Nat.reduceEqDiff, Nat.reduceLT, Nat.reduceAdd, Nat.reduceSub, Nat.reduceMul, Nat.reduceLeDiff, Nat.reducePow, Int.reduceLT, Int.reduceToNat, reduceCtorEq, Int.reduceNeg, Int.reduceEq, Nat.reduceBEq, Nat.reduceBNe, Int.reduceBEq, Int.reduceBNe, String.reduceEq]; first | done | rfl | (simp (disch := omega) only [w_nat, w_add, w_addl, w_addr, w_sub, w_subl, w_mul, w_mull, w_mulr, w_u32, w_u16, w_u8, w_u32a, N_zero]; first | done | rfl))
      · first | (simp only [push_cast, reduceIte, Nat.reduceEqDiff, Nat.reduceLT, Nat.reduceAdd, Nat.reduceSub, Nat.reduceMul, Nat.reduceLeDiff, Nat.reducePow, Int.reduceLT, Int.reduceToNat, reduceCtorEq, Int.reduceNeg, Int.reduceEq, Nat.reduceBEq, Nat.reduceBNe, Int.reduceBEq, Int.reduceBNe, String.reduceEq]; first | done | rfl | (simp (disch := omega) only [w_nat, w_add, w_addl, w_addr, w_sub, w_subl, w_mul, w_mull, w_mulr, w_u32, w_u16, w_u8, w_u32a, N_zero]; first | done | rfl))
    · intro i hi K3 hK3
      refine AWp.seqK fun K4 hK4 => ?_
      refine AWp.regionW ?_
      refine AWp.condLM (fun c1 => ?_) (fun c1 => ?_)
      · skip
        have hil : i < l.length := by simpa using c1
        have hir : i < m.length := by omega
        refine AWp.skip ?_
        refine hK4 _ ?_
        refine AWp.seqK fun K5 hK5 => ?_
        refine AWp.block ?_
        refine AWp.drS [[(0, none)], [(5, none)], [(17, some 0), (18, some 1)], [(19, some 2)], [(1, none)], [(5, none)], [(21, some 4), (22, some 5)], [(23, some 6)], [(20, some 3), (24, some 7)]] fun G hG => ?_
        refine Dr.sim ?_
        try simp only [List.cons_append, List.nil_append]
        refine Dr.sim ?_
        try simp only [List.cons_append, List.nil_append]
        refine Dr.idx (i) (.val (.int .u8 (N l[i].toNat))) ?_ ?_
        · exact bys_at _ _ hil
        try simp only [List.cons_append, List.nil_append]
        refine Dr.sim ?_
        try simp only [List.cons_append, List.nil_append]
        refine Dr.sim ?_
        try simp only [List.cons_append, List.nil_append]
        refine Dr.sim ?_
        try simp only [List.cons_append, List.nil_append]
        refine Dr.idx (i) (.val (.int .u8 (N m[i].toNat))) ?_ ?_
        · exact bys_at _ _ hir
        try simp only [List.cons_append, List.nil_append]
        refine Dr.sim ?_
        try simp only [List.cons_append, List.nil_append]
        refine Dr.sim ?_
        try simp only [List.cons_append, List.nil_append]
        refine Dr.finM (n := 9) [(25, 8)] [0, 1, 5] hG YtmcedkcehcacpaaGreatDoor.Facts.mixed fun KD hKD => ?_
        refine ARun2.endm (hKD _ ?_); clear hKD KD hG G
        refine AWp.condLM (fun c2 => ?_) (fun c2 => ?_)
        · skip
          have hne : decide (l = m) = false := decide_eq_false (ne_at hil hir (by intro e; rw [e] at c2; simp at c2))
          refine AWp.regionW ?_
          refine AWp.ret ?_
          try simp only [thenQ, blockQ, noGo]
          refine bodyQ.m ?_
          clear hK5 K5 hK4 K4 hK3 K3 hK2 K2 hK1 K1
          rw [hne]
          first | done | exact Hand.go
        · skip
          have hx : l[i] = m[i] := by apply UInt8.toNat_inj.1; simpa using c2
          refine AWp.skip ?_
          refine hK5 _ ?_
          refine AWp.regionV ?_
          refine hK3 _ (i + 1) (⟨by omega, take_step hil hir hi.2 hx⟩) (by omega) ?_
          refine Le.m 0 ?_ ?_
          · first | with_reducible rfl | (simp only [push_cast, reduceIte, Nat.reduceEqDiff, Nat.reduceLT, Nat.reduceAdd, Nat.reduceSub, Nat.reduceMul, Nat.reduceLeDiff, Nat.reducePow, Int.reduceLT, Int.reduceToNat, reduceCtorEq, Int.reduceNeg, Int.reduceEq, Nat.reduceBEq, Nat.reduceBNe, Int.reduceBEq, Int.reduceBNe, String.reduceEq]; first | done | rfl | (simp (disch := omega) only [w_nat, w_add, w_addl, w_addr, w_sub, w_subl, w_mul, w_mull, w_mulr, w_u32, w_u16, w_u8, w_u32a, N_zero]; first | done | rfl))
          · first | (simp only [push_cast, reduceIte, Nat.reduceEqDiff, Nat.reduceLT, Nat.reduceAdd, Nat.reduceSub, Nat.reduceMul, Nat.reduceLeDiff, Nat.reducePow, Int.reduceLT, Int.reduceToNat, reduceCtorEq, Int.reduceNeg, Int.reduceEq, Nat.reduceBEq, Nat.reduceBNe, Int.reduceBEq, Int.reduceBNe, String.reduceEq]; first | done | rfl | (simp (disch := omega) only [w_nat, w_add, w_addl, w_addr, w_sub, w_subl, w_mul, w_mull, w_mulr, w_u32, w_u16, w_u8, w_u32a, N_zero]; first | done | rfl))
      · skip
        have hil : i = l.length := by have := hi.1; simp at c1; omega
        have hq : decide (l = m) = true := decide_eq_true (by have := hi.2; rwa [hil, List.take_length, he, List.take_length] at this)
        refine AWp.exit ?_
        try simp only [thenQ, blockQ, noGo, reduceIte, Nat.reduceEqDiff]
        refine hK2 _ ?_
        refine AWp.regionW ?_
        refine AWp.ret ?_
        try simp only [thenQ, blockQ, noGo]
        refine bodyQ.m ?_
        clear hK4 K4 hK3 K3 hK2 K2 hK1 K1
        rw [hq]
        first | done | exact Hand.go
theorem same08_step (l r : List GNode) (hs : szs l ≤ 2 ^ 40) (ih : ∀ a ∈ l, ∀ b : GNode, PC Tryz.prog 18 [.sl false 3 (nodesA false a.kids), .sl false 3 (nodesA false b.kids)] (bool (sameL a.kids b.kids))) :
    PC Tryz.prog 18 [.sl false 3 (nodesA false l), .sl false 3 (nodesA false r)] (bool (sameL l r)) := by
  have hlen := szs_len l
  refine PC.of_bodyW (by simp only [push_cast]) Tryz.func18 rfl (by rw [Tryz.ntmps18]; simp) ?_
  refine AWp.regionW ?_
  refine AWp.seqK fun K1 hK1 => ?_
  refine AWp.regionW ?_
  refine AWp.condLM (fun c0 => ?_) (fun c0 => ?_)
  · skip
    have hne : l.length ≠ r.length := by simpa using c0
    refine AWp.regionW ?_
    refine AWp.ret ?_
    try simp only [thenQ, blockQ, noGo]
    refine bodyQ.m ?_
    clear hK1 K1
    rw [sameL_len hne]
    first | done | exact Hand.go
  · skip
    have he : l.length = r.length := by simpa using c0
    refine AWp.skip ?_
    refine hK1 _ ?_
    refine AWp.seqK fun K2 hK2 => ?_
    refine AWp.regionW ?_
    refine AWp.block ?_
    refine AWp.loopK0 [0, 1] (fun (i : Nat) => [(5, nat i)]) (fun i => i ≤ l.length ∧ sameL (l.take i) (r.take i) = true) (fun i => l.length - i) (0) ?_ ⟨Nat.zero_le _, rfl⟩ ?_
    · skip
      refine Le.m 0 ?_ ?_
      · first | with_reducible rfl | (simp only [push_cast, reduceIte, Nat.reduceEqDiff, Nat.reduceLT, Nat.reduceAdd, Nat.reduceSub, Nat.reduceMul, Nat.reduceLeDiff, Nat.reducePow, Int.reduceLT, Int.reduceToNat, reduceCtorEq, Int.reduceNeg, Int.reduceEq, Nat.reduceBEq, Nat.reduceBNe, Int.reduceBEq, Int.reduceBNe, String.reduceEq]; first | done | rfl | (simp (disch := omega) only [w_nat, w_add, w_addl, w_addr, w_sub, w_subl, w_mul, w_mull, w_mulr, w_u32, w_u16, w_u8, w_u32a, N_zero]; first | done | rfl))
      · first | (simp only [push_cast, reduceIte, Nat.reduceEqDiff, Nat.reduceLT, Nat.reduceAdd, Nat.reduceSub, Nat.reduceMul, Nat.reduceLeDiff, Nat.reducePow, Int.reduceLT, Int.reduceToNat, reduceCtorEq, Int.reduceNeg, Int.reduceEq, Nat.reduceBEq, Nat.reduceBNe, Int.reduceBEq, Int.reduceBNe, String.reduceEq]; first | done | rfl | (simp (disch := omega) only [w_nat, w_add, w_addl, w_addr, w_sub, w_subl, w_mul, w_mull, w_mulr, w_u32, w_u16, w_u8, w_u32a, N_zero]; first | done | rfl))
    · intro i hi K3 hK3
      refine AWp.seqK fun K4 hK4 => ?_
      refine AWp.regionW ?_
      refine AWp.condLM (fun c1 => ?_) (fun c1 => ?_)
      · skip
        have hil : i < l.length := by simpa using c1
        have hir : i < r.length := by omega
        have hm := List.getElem_mem hil
        have hsz := szs_mem hm
        have hse := GNode.sz_eq l[i]
        refine AWp.skip ?_
        refine hK4 _ ?_
        refine AWp.seqK fun K5 hK5 => ?_
        refine AWp.block ?_
        refine AWp.drS [[(0, none)], [(5, none)], [(17, some 0), (18, some 1)], [(19, some 2)], [(20, some 3)], [(1, none)], [(5, none)], [(22, some 5), (23, some 6)], [(24, some 7)], [(25, some 8)], [(21, some 4), (26, some 9)], [(27, some 10)], [(0, none), (28, some 11)], [(5, none), (28, some 11)], [(29, some 12), (30, some 13), (28, some 11)], [(31, some 14), (28, some 11)], [(32, some 15), (28, some 11)], [(1, none), (28, some 11)], [(5, none), (28, some 11)], [(34, some 17), (35, some 18), (28, some 11)], [(36, some 19), (28, some 11)], [(37, some 20), (28, some 11)], [(33, some 16), (38, some 21), (28, some 11)], [(39, some 22), (28, some 11)], [(28, some 11), (40, some 23)], [(41, some 24)], [(0, none), (42, some 25)], [(5, none), (42, some 25)], [(43, some 26), (44, some 27), (42, some 25)], [(45, some 28), (42, some 25)], [(46, some 29), (42, some 25)], [(1, none), (42, some 25)], [(5, none), (42, some 25)], [(48, some 31), (49, some 32), (42, some 25)], [(50, some 33), (42, some 25)], [(51, some 34), (42, some 25)], [(47, some 30), (52, some 35), (42, some 25)], [(53, some 36), (42, some 25)], [(42, some 25), (54, some 37)]] fun G hG => ?_
        refine Dr.sim ?_
        try simp only [List.cons_append, List.nil_append]
        refine Dr.sim ?_
        try simp only [List.cons_append, List.nil_append]
        refine Dr.idx (i) (nodeA false l[i]) ?_ ?_
        · exact nodesA_at _ _ _ hil
        try simp only [List.cons_append, List.nil_append]
        refine Dr.sim ?_
        try simp only [List.cons_append, List.nil_append]
        refine Dr.sim ?_
        try simp only [List.cons_append, List.nil_append]
        refine Dr.sim ?_
        try simp only [List.cons_append, List.nil_append]
        refine Dr.sim ?_
        try simp only [List.cons_append, List.nil_append]
        refine Dr.idx (i) (nodeA false r[i]) ?_ ?_
        · exact nodesA_at _ _ _ hir
        try simp only [List.cons_append, List.nil_append]
        refine Dr.sim ?_
        try simp only [List.cons_append, List.nil_append]
        refine Dr.sim ?_
        try simp only [List.cons_append, List.nil_append]
        refine Dr.sim ?_
        try simp only [List.cons_append, List.nil_append]
        refine Dr.sim ?_
        try simp only [List.cons_append, List.nil_append]
        refine Dr.simg ?_
        try simp only [List.cons_append, List.nil_append]
        refine Dr.simg ?_
        try simp only [List.cons_append, List.nil_append]
        refine Dr.idxg (i) (nodeA false l[i]) ?_ ?_
        · intro g11
          exact nodesA_at _ _ _ hil
        try simp only [List.cons_append, List.nil_append]
        refine Dr.simg ?_
        try simp only [List.cons_append, List.nil_append]
        refine Dr.simg ?_
        try simp only [List.cons_append, List.nil_append]
        refine Dr.simg ?_
        try simp only [List.cons_append, List.nil_append]
        refine Dr.simg ?_
        try simp only [List.cons_append, List.nil_append]
        refine Dr.idxg (i) (nodeA false r[i]) ?_ ?_
        · intro g11
          exact nodesA_at _ _ _ hir
        try simp only [List.cons_append, List.nil_append]
        refine Dr.simg ?_
        try simp only [List.cons_append, List.nil_append]
        refine Dr.simg ?_
        try simp only [List.cons_append, List.nil_append]
        refine Dr.callg (fun g11 => same01_c l[i].data r[i].data (by omega)) ?_
        try simp only [List.cons_append, List.nil_append]
        refine Dr.simg ?_
        try simp only [List.cons_append, List.nil_append]
        refine Dr.sim ?_
        try simp only [List.cons_append, List.nil_append]
        refine Dr.sim ?_
        try simp only [List.cons_append, List.nil_append]
        refine Dr.simg ?_
        try simp only [List.cons_append, List.nil_append]
        refine Dr.simg ?_
        try simp only [List.cons_append, List.nil_append]
        refine Dr.idxg (i) (nodeA false l[i]) ?_ ?_
        · intro g25
          exact nodesA_at _ _ _ hil
        try simp only [List.cons_append, List.nil_append]
        refine Dr.simg ?_
        try simp only [List.cons_append, List.nil_append]
        refine Dr.simg ?_
        try simp only [List.cons_append, List.nil_append]
        refine Dr.simg ?_
        try simp only [List.cons_append, List.nil_append]
        refine Dr.simg ?_
        try simp only [List.cons_append, List.nil_append]
        refine Dr.idxg (i) (nodeA false r[i]) ?_ ?_
        · intro g25
          exact nodesA_at _ _ _ hir
        try simp only [List.cons_append, List.nil_append]
        refine Dr.simg ?_
        try simp only [List.cons_append, List.nil_append]
        refine Dr.simg ?_
        try simp only [List.cons_append, List.nil_append]
        refine Dr.callg (fun g25 => ih l[i] hm r[i]) ?_
        try simp only [List.cons_append, List.nil_append]
        refine Dr.simg ?_
        try simp only [List.cons_append, List.nil_append]
        refine Dr.sim ?_
        try simp only [List.cons_append, List.nil_append]
        refine Dr.finM (n := 39) [(55, 38)] [0, 1, 5] hG YtmcedkcehcacpaaGreatDoor.Facts.mixed fun KD hKD => ?_
        refine ARun2.endm (hKD _ ?_); clear hKD KD hG G
        refine AWp.condLM (fun c2 => ?_) (fun c2 => ?_)
        · skip
          have h5 : sameN l[i] r[i] = false := by rw [sameN_eq]; revert c2; cases h1 : l[i].ty == r[i].ty <;> cases h2 : decide (l[i].data = r[i].data) <;> cases h3 : sameL l[i].kids r[i].kids <;> simp_all
          refine AWp.regionW ?_
          refine AWp.ret ?_
          try simp only [thenQ, blockQ, noGo]
          refine bodyQ.m ?_
          clear hK5 K5 hK4 K4 hK3 K3 hK2 K2 hK1 K1
          rw [sameL_at hil hir h5]
          first | done | exact Hand.go
        · skip
          have h5 : sameN l[i] r[i] = true := by rw [sameN_eq]; revert c2; cases h1 : l[i].ty == r[i].ty <;> cases h2 : decide (l[i].data = r[i].data) <;> cases h3 : sameL l[i].kids r[i].kids <;> simp_all
          refine AWp.skip ?_
          refine hK5 _ ?_
          refine AWp.regionV ?_
          refine hK3 _ (i + 1) (⟨by omega, sameL_take hil hir hi.2 h5⟩) (by omega) ?_
          refine Le.m 0 ?_ ?_
          · first | with_reducible rfl | (simp only [push_cast, reduceIte, Nat.reduceEqDiff, Nat.reduceLT, Nat.reduceAdd, Nat.reduceSub, Nat.reduceMul, Nat.reduceLeDiff, Nat.reducePow, Int.reduceLT, Int.reduceToNat, reduceCtorEq, Int.reduceNeg, Int.reduceEq, Nat.reduceBEq, Nat.reduceBNe, Int.reduceBEq, Int.reduceBNe, String.reduceEq]; first | done | rfl | (simp (disch := omega) only [w_nat, w_add, w_addl, w_addr, w_sub, w_subl, w_mul, w_mull, w_mulr, w_u32, w_u16, w_u8, w_u32a, N_zero]; first | done | rfl))
          · first | (simp only [push_cast, reduceIte, Nat.reduceEqDiff, Nat.reduceLT, Nat.reduceAdd, Nat.reduceSub, Nat.reduceMul, Nat.reduceLeDiff, Nat.reducePow, Int.reduceLT, Int.reduceToNat, reduceCtorEq, Int.reduceNeg, Int.reduceEq, Nat.reduceBEq, Nat.reduceBNe, Int.reduceBEq, Int.reduceBNe, String.reduceEq]; first | done | rfl | (simp (disch := omega) only [w_nat, w_add, w_addl, w_addr, w_sub, w_subl, w_mul, w_mull, w_mulr, w_u32, w_u16, w_u8, w_u32a, N_zero]; first | done | rfl))
      · skip
        have hil : i = l.length := by have := hi.1; simp at c1; omega
        have hs : sameL l r = true := by have := hi.2; rwa [hil, List.take_length, he, List.take_length] at this
        refine AWp.exit ?_
        try simp only [thenQ, blockQ, noGo, reduceIte, Nat.reduceEqDiff]
        refine hK2 _ ?_
        refine AWp.regionW ?_
        refine AWp.ret ?_
        try simp only [thenQ, blockQ, noGo]
        refine bodyQ.m ?_
        clear hK4 K4 hK3 K3 hK2 K2 hK1 K1
        rw [hs]
        first | done | exact Hand.go
theorem same08_w : ∀ (w : Nat) (l r : List GNode), szs l ≤ w → szs l ≤ 2 ^ 40 → PC Tryz.prog 18 [.sl false 3 (nodesA false l), .sl false 3 (nodesA false r)] (bool (sameL l r)) := by
  have kl : ∀ (a : GNode) (l : List GNode), a ∈ l → szs a.kids < szs l := by
    intro a l ha
    have := szs_mem ha; rw [GNode.sz_eq] at this; omega
  intro w
  induction w with
  | zero => exact fun l r hw hs => same08_step l r hs (fun a ha b => by have := kl a l ha; omega)
  | succ w ih => exact fun l r hw hs => same08_step l r hs (fun a ha b => by have := kl a l ha; exact ih _ _ (by omega) (by omega))
theorem same08_c (l r : List GNode) (hs : szs l ≤ 2 ^ 40) : PC Tryz.prog 18 [.sl false 3 (nodesA false l), .sl false 3 (nodesA false r)] (bool (sameL l r)) := same08_w _ l r (Nat.le_refl _) hs
/-- the two bytes of a number -/
def twoB (t : Nat) : List UInt8 := [UInt8.ofNat (t / 256), UInt8.ofNat t]
end Go.Proofs.YtmcedkcehcacpaaGreatDoor.C
/- wharflaw08: coded, told, node.Walk (the iterator itself), awake. -/
set_option linter.unusedVariables false
set_option linter.unusedSimpArgs false
namespace Go.Proofs.YtmcedkcehcacpaaGreatDoor.C
open Go.Abs
theorem ifcEq_err (e c : Nat) (hc : c ≠ 0) : ifcEq (errA e) 57 .i64 (N c) = some (e == c) := by
  unfold errA
  by_cases he : e = 0
  · subst he
    have : (0 == c) = false := by simpa using Ne.symm hc
    rw [this]; rfl
  · have h1 : (e == 0) = false := by simpa using he
    rw [h1]
    simp only [cond_false, ifcEq, if_true, Option.some.injEq, N]
    rw [Bool.eq_iff_iff]; simp; omega
theorem coded_c (e c : Nat) : PC Tryz.prog 8 [errA e, nat c] (bool (e == c)) := by
  refine PC.of_bodyW (by simp only [push_cast]) Tryz.func8 rfl (by rw [Tryz.ntmps8]; simp) ?_
  refine AWp.regionW ?_
  refine AWp.seqK fun K1 hK1 => ?_
  refine AWp.regionW ?_
  refine AWp.condLM (fun c0 => ?_) (fun c0 => ?_)
  · skip
    have hc : c = 0 := by simpa using c0
    subst hc
    refine AWp.regionW ?_
    refine AWp.ret ?_
    try simp only [thenQ, blockQ, noGo]
    refine bodyQ.m ?_
    clear hK1 K1
    first | done | exact Hand.go
  · skip
    have hc : c ≠ 0 := by simpa using c0
    refine AWp.skip ?_
    refine hK1 _ ?_
    refine AWp.regionM fun K2 hK2 => ?_
    refine ARun2.ifcEqM (e == c) (ifcEq_err e c hc) ?_
    refine ARun2.endm (hK2 _ ?_)
    refine AWp.ret ?_
    try simp only [thenQ, blockQ, noGo]
    refine bodyQ.m ?_
    clear hK2 K2 hK1 K1
    first | done | exact Hand.go
def toldN (e : Er) (c i : Nat) : Bool := bif c == 0 then e.isOk else (e.codeOf.2 && e.codeOf.1 == c && e.atOf.2 && e.atOf.1 == i)
theorem told_c (e : Er) (c i : Nat) : PC Tryz.prog 20 [erA e, nat c, nat i] (bool (toldN e c i)) := by
  have hT : toldN e c i = toldN e c i := rfl
  conv at hT => rhs; unfold toldN
  generalize toldN e c i = T at hT
  have h1 := code_c e
  have h2 := at_c e
  generalize e.codeOf.1 = x at h1 hT
  generalize e.codeOf.2 = y at h1 hT
  generalize e.atOf.1 = u at h2 hT
  generalize e.atOf.2 = v at h2 hT
  refine PC.of_bodyW (by simp only [push_cast]) Tryz.func20 rfl (by rw [Tryz.ntmps20]; simp) ?_
  refine AWp.regionW ?_
  refine AWp.seqK fun K1 hK1 => ?_
  refine AWp.regionW ?_
  refine AWp.condLM (fun c0 => ?_) (fun c0 => ?_)
  · skip
    have hc : (c == 0) = true := by simpa using c0
    rw [hc] at hT
    refine AWp.regionW ?_
    refine AWp.ret ?_
    try simp only [thenQ, blockQ, noGo]
    refine bodyQ.m ?_
    clear hK1 K1
    subst hT; simp only [cond_true, cond_false]
    first | done | exact Hand.go
  · skip
    have hc : (c == 0) = false := by simpa using c0
    rw [hc] at hT
    refine AWp.skip ?_
    refine hK1 _ ?_
    refine AWp.regionM fun K2 hK2 => ?_
    refine ARun2.callM (h1) ?_
    refine ARun2.endm (hK2 _ ?_)
    refine AWp.regionM fun K3 hK3 => ?_
    refine ARun2.callM (h2) ?_
    refine ARun2.endm (hK3 _ ?_)
    refine AWp.regionA fun K4 hK4 => ?_
    refine ARun.segm 2 fun KS hKS => ?_
    refine ARun2.endm (hKS _ ?_); clear hKS KS
    apply ARun.grpM 3 1 true 29 [2, 9, 10, 26]
    · intro g1 KG hKG
      refine ARun2.gom ?_
      exact ARun2.endm (hKG _ Le.grpM)
    refine ARun.segm 2 fun KS hKS => ?_
    refine ARun2.endm (hKS _ ?_); clear hKS KS
    apply ARun.grpM 1 6 true 32 [2, 9, 31]
    · intro g6 KG hKG
      refine ARun2.gom ?_
      exact ARun2.endm (hKG _ Le.grpM)
    refine ARun.segm 2 fun KS hKS => ?_
    refine ARun2.endm (hKS _ ?_); clear hKS KS
    apply ARun.grpM 3 9 true 37 [34]
    · intro g9 KG hKG
      refine ARun2.gom ?_
      exact ARun2.endm (hKG _ Le.grpM)
    refine ARun2.gom ?_
    refine ARun2.endm (hK4 _ ?_)
    refine AWp.ret ?_
    try simp only [thenQ, blockQ, noGo]
    refine bodyQ.m ?_
    clear hK4 K4 hK3 K3 hK2 K2 hK1 K1
    subst hT; simp only [cond_true, cond_false]
    first | done | exact Hand.go
theorem nwalk_c (l : List GNode) : PC Tryz.prog 23 [.sl false 3 (nodesA false l)] (.fn (.func 43) [] [.ref true (.agg [.sl false 3 (nodesA false l)])]) := by
  refine PC.of_body (by simp only [push_cast]) Tryz.func23 rfl (by rw [Tryz.ntmps23]; simp) ?_
  refine AWp.regionW ?_
  refine AWp.regionW ?_
  refine AWp.pubBox 0 rfl (Nat.le_refl _) rfl (by simp) ?_
  simp only [push_cast, reduceIte, Nat.reduceEqDiff, Nat.reduceLT, Nat.reduceAdd, Nat.reduceSub, Nat.reduceMul, Nat.reduceLeDiff, Nat.reducePow, Int.reduceLT, Int.reduceToNat, reduceCtorEq, Int.reduceNeg, Int.reduceEq, Nat.reduceBEq, Nat.reduceBNe, Int.reduceBEq, Int.reduceBNe, String.reduceEq]
  refine AWp.ret ?_
  try simp only [thenQ, blockQ, noGo]
  refine bodyQ.m ?_
  rfl
theorem awake08_c : PC Tryz.prog 5 [] (bool true) := by
  have e1 : PC Tryz.prog 12 [nat 1, .sl false 3 (nodesA false [.mk 8 [] [.mk 32768 [] []]])] (.tup [.sl true 1 (bys [0, 8, 0, 8, 128, 0, 0, 4]), .val .nilIface]) := encode_c 1 [.mk 8 [] [.mk 32768 [] []]] (.inl rfl) (by decide) (by decide)
  have e2 : PC Tryz.prog 15 [nat 1, .sl false 1 (bys [0, 8, 0, 8, 128, 0, 0, 4])] (.tup [.sl true 3 (nodesA true [.mk 8 [] [.mk 32768 [] []]]), .val .nilIface]) := by
    have h := parse_c 1 [0, 8, 0, 8, 128, 0, 0, 4] (.inl rfl) (by decide)
    have p : parseF 4 1 [0, 8, 0, 8, 128, 0, 0, 4] 0 = ([.mk 8 [] [.mk 32768 [] []]], .ok) := by kernel_rfl
    rw [p] at h
    exact h
  have e3 : PC Tryz.prog 15 [nat 1, .sl false 1 [u8 0, u8 8, u8 0, u8 4]] (.tup [.sl true 3 [], erA (.flt 7 0)]) := by
    have h := parse_c 1 [0, 8, 0, 4] (.inl rfl) (by decide)
    have p : parseF 4 1 [0, 8, 0, 4] 0 = ([], .flt 7 0) := by kernel_rfl
    rw [p] at h
    exact h
  have e4 : PC Tryz.prog 16 [.sl false 1 (bys [0, 8, 0, 8, 128, 0, 0, 4]), .sl false 1 [u8 0, u8 8, u8 0, u8 8, u8 128, u8 0, u8 0, u8 4]] (bool true) := same01_c [0, 8, 0, 8, 128, 0, 0, 4] [0, 8, 0, 8, 128, 0, 0, 4] (by decide)
  have e5 : PC Tryz.prog 21 [nodeA false (.mk 8 [] [.mk 32768 [] []]), nodeA false (.mk 8 [] [.mk 32768 [] []])] (bool true) := same_c (.mk 8 [] [.mk 32768 [] []]) (.mk 8 [] [.mk 32768 [] []]) (by decide)
  have e6 : PC Tryz.prog 20 [erA (.flt 7 0), nat 7, nat 0] (bool true) := told_c (.flt 7 0) 7 0
  have e7 : PC Tryz.prog 9 [nat 1, nodeA false (.mk 8 [] [.mk 32768 [] []])] (.val .nilIface) := check_c 1 (.mk 8 [] [.mk 32768 [] []]) (.inl rfl) (by decide)
  have e8 : PC Tryz.prog 9 [nat 1, nodeA false (.mk 5 [] [])] (errA 7) := check_c 1 (.mk 5 [] []) (.inl rfl) (by decide)
  have e9 : PC Tryz.prog 8 [errA 7, nat 7] (bool true) := coded_c 7 7
  have e10 : PC Tryz.prog 13 [.sl false 3 (nodesA false [.mk 8 [] [.mk 32768 [] []]])] (nat 8) := size_c [.mk 8 [] [.mk 32768 [] []]] (by decide)
  have e11 : PC Tryz.prog 22 [nodeA false (.mk 8 [] [.mk 32768 [] []])] (nodeA false (.mk 8 [] [.mk 32768 [] []])) := nclone_c _ (by decide)
  have e12 := nwalk_c [.mk 8 [] [.mk 32768 [] []]]
  refine PC.of_bodyW (by simp only [push_cast]) Tryz.func5 rfl (by rw [Tryz.ntmps5]; simp) ?_
  refine AWp.regionW ?_
  refine AWp.regionW ?_
  refine AWp.regionM fun K1 hK1 => ?_
  refine ARun2.callM (e1) ?_
  refine ARun2.endm (hK1 _ ?_)
  refine AWp.regionM fun K2 hK2 => ?_
  refine ARun2.callM (e2) ?_
  refine ARun2.endm (hK2 _ ?_)
  refine AWp.regionM fun K3 hK3 => ?_
  refine ARun2.callM (e3) ?_
  refine ARun2.endm (hK3 _ ?_)
  refine AWp.seqK fun K4 hK4 => ?_
  refine AWp.regionW ?_
  refine AWp.condF ?_
  refine AWp.skip ?_
  refine hK4 _ ?_
  refine AWp.drS [[(2, none)], [], [(30, some 0), (31, some 1)], [(32, some 2)], [(3, none), (33, some 3)], [(34, some 4), (33, some 3)], [(33, some 3), (35, some 5)], [(36, some 6)], [(5, none), (37, some 7)], [(38, some 8), (37, some 7)], [(37, some 7), (39, some 9)], [(40, some 10)], [(4, none), (41, some 11)], [(42, some 12), (41, some 11)], [(43, some 13), (41, some 11)], [(1, none), (41, some 11)], [(44, some 14), (45, some 15), (41, some 11)], [(41, some 11), (46, some 16)], [(47, some 17)], [(7, none), (48, some 18)], [(49, some 19), (48, some 18)], [(48, some 18), (50, some 20)], [(51, some 21)], [(1, none), (52, some 22)], [(53, some 23), (52, some 22)], [(54, some 24), (52, some 22)], [(52, some 22), (55, some 25)], [(56, some 26)], [(57, some 27)], [(58, some 28), (57, some 27)], [(59, some 29), (57, some 27)], [(57, some 27), (60, some 30)], [(61, some 31)], [(1, none), (62, some 32)], [(63, some 33), (62, some 32)], [(64, some 34), (62, some 32)], [(65, some 35), (62, some 32)], [(62, some 32), (66, some 36)], [(67, some 37)], [(1, none), (68, some 38)], [(69, some 39), (68, some 38)], [(1, none), (68, some 38)], [(70, some 40), (71, some 41), (68, some 38)], [(68, some 38), (72, some 42)], [(73, some 43)], [(1, none), (74, some 44)], [(75, some 45), (74, some 44)], [(76, some 46), (74, some 44)], [(77, some 47), (74, some 44)], [(74, some 44), (78, some 48)], [(79, some 49)]] fun G hG => ?_
  refine Dr.sim ?_
  try simp only [List.cons_append, List.nil_append]
  refine Dr.build ?_
  try simp only [List.cons_append, List.nil_append]
  refine Dr.call (e4) ?_
  try simp only [List.cons_append, List.nil_append]
  refine Dr.sim ?_
  try simp only [List.cons_append, List.nil_append]
  refine Dr.sim ?_
  try simp only [List.cons_append, List.nil_append]
  refine Dr.sim ?_
  try simp only [List.cons_append, List.nil_append]
  refine Dr.sim ?_
  try simp only [List.cons_append, List.nil_append]
  refine Dr.sim ?_
  try simp only [List.cons_append, List.nil_append]
  refine Dr.sim ?_
  try simp only [List.cons_append, List.nil_append]
  refine Dr.sim ?_
  try simp only [List.cons_append, List.nil_append]
  refine Dr.sim ?_
  try simp only [List.cons_append, List.nil_append]
  refine Dr.sim ?_
  try simp only [List.cons_append, List.nil_append]
  refine Dr.sim ?_
  try simp only [List.cons_append, List.nil_append]
  refine Dr.idx (0) (nodeA true (.mk 8 [] [.mk 32768 [] []])) ?_ ?_
  · exact rfl
  try simp only [List.cons_append, List.nil_append]
  refine Dr.sim ?_
  try simp only [List.cons_append, List.nil_append]
  refine Dr.sim ?_
  try simp only [List.cons_append, List.nil_append]
  refine Dr.call (e5) ?_
  try simp only [List.cons_append, List.nil_append]
  refine Dr.sim ?_
  try simp only [List.cons_append, List.nil_append]
  refine Dr.sim ?_
  try simp only [List.cons_append, List.nil_append]
  refine Dr.sim ?_
  try simp only [List.cons_append, List.nil_append]
  refine Dr.call (e6) ?_
  try simp only [List.cons_append, List.nil_append]
  refine Dr.sim ?_
  try simp only [List.cons_append, List.nil_append]
  refine Dr.sim ?_
  try simp only [List.cons_append, List.nil_append]
  refine Dr.sim ?_
  try simp only [List.cons_append, List.nil_append]
  refine Dr.call (e7) ?_
  try simp only [List.cons_append, List.nil_append]
  refine Dr.sim ?_
  try simp only [List.cons_append, List.nil_append]
  refine Dr.sim ?_
  try simp only [List.cons_append, List.nil_append]
  refine Dr.sim ?_
  try simp only [List.cons_append, List.nil_append]
  refine Dr.sim ?_
  try simp only [List.cons_append, List.nil_append]
  refine Dr.call (e8) ?_
  try simp only [List.cons_append, List.nil_append]
  refine Dr.call (e9) ?_
  try simp only [List.cons_append, List.nil_append]
  refine Dr.sim ?_
  try simp only [List.cons_append, List.nil_append]
  refine Dr.sim ?_
  try simp only [List.cons_append, List.nil_append]
  refine Dr.sim ?_
  try simp only [List.cons_append, List.nil_append]
  refine Dr.build ?_
  try simp only [List.cons_append, List.nil_append]
  refine Dr.call (e10) ?_
  try simp only [List.cons_append, List.nil_append]
  refine Dr.sim ?_
  try simp only [List.cons_append, List.nil_append]
  refine Dr.sim ?_
  try simp only [List.cons_append, List.nil_append]
  refine Dr.sim ?_
  try simp only [List.cons_append, List.nil_append]
  refine Dr.sim ?_
  try simp only [List.cons_append, List.nil_append]
  refine Dr.call (e11) ?_
  try simp only [List.cons_append, List.nil_append]
  refine Dr.sim ?_
  try simp only [List.cons_append, List.nil_append]
  refine Dr.call (e5) ?_
  try simp only [List.cons_append, List.nil_append]
  refine Dr.sim ?_
  try simp only [List.cons_append, List.nil_append]
  refine Dr.sim ?_
  try simp only [List.cons_append, List.nil_append]
  refine Dr.sim ?_
  try simp only [List.cons_append, List.nil_append]
  refine Dr.build ?_
  try simp only [List.cons_append, List.nil_append]
  refine Dr.call (e12) ?_
  try simp only [List.cons_append, List.nil_append]
  refine Dr.sim ?_
  try simp only [List.cons_append, List.nil_append]
  refine Dr.sim ?_
  try simp only [List.cons_append, List.nil_append]
  refine Dr.sim ?_
  try simp only [List.cons_append, List.nil_append]
  refine Dr.finM (n := 51) [(0, 50)] [] hG YtmcedkcehcacpaaGreatDoor.Facts.mixed fun KD hKD => ?_
  refine ARun2.endm (hKD _ ?_); clear hKD KD hG G
  refine AWp.ret ?_
  try simp only [thenQ, blockQ, noGo]
  refine bodyQ.m ?_
  clear hK4 K4 hK3 K3 hK2 K2 hK1 K1
  first | done | exact Hand.go
end Go.Proofs.YtmcedkcehcacpaaGreatDoor.C
/- Plain laws on causes. -/
set_option linter.unusedVariables false
set_option linter.unusedSimpArgs false
namespace Go.Proofs.YtmcedkcehcacpaaGreatDoor.C
open Go.Abs
theorem putB2 (x : Nat) : putB 2 x = twoB x := by
  simp [putB, twoB, List.range_succ]
end Go.Proofs.YtmcedkcehcacpaaGreatDoor.C
/- The reference: Gap, Number, Counted, Inside, Fits, wanted, Table, Of. -/
set_option linter.unusedVariables false
set_option linter.unusedSimpArgs false
namespace Go.Proofs.YtmcedkcehcacpaaGreatDoor.C
open Go.Abs
theorem gap03_c (n : Nat) (h : n < 2 ^ 60) : PC Tryz.prog 34 [nat n] (nat (gapN n)) := by
  refine PC.of_bodyW (by simp only [push_cast]) Tryz.func34 rfl (by rw [Tryz.ntmps34]; simp) ?_
  refine AWp.regionW ?_
  refine AWp.regionW ?_
  refine AWp.seqK fun K1 hK1 => ?_
  refine AWp.block ?_
  refine AWp.loopK0 [0] (fun (i : Nat) => [(3, nat i)]) (fun i => i ≤ gapN n ∧ i ≤ 3) (fun i => gapN n - i) (0) ?_ ⟨Nat.zero_le _, by omega⟩ ?_
  · skip
    refine Le.m 0 ?_ ?_
    · first | with_reducible rfl | (simp only [push_cast, reduceIte, Nat.reduceEqDiff, Nat.reduceLT, Nat.reduceAdd, Nat.reduceSub, Nat.reduceMul, Nat.reduceLeDiff, Nat.reducePow, Int.reduceLT, Int.reduceToNat, reduceCtorEq, Int.reduceNeg, Int.reduceEq, Nat.reduceBEq, Nat.reduceBNe, Int.reduceBEq, Int.reduceBNe, String.reduceEq]; first | done | rfl | (simp (disch := omega) only [w_nat, w_add, w_addl, w_addr, w_sub, w_subl, w_mul, w_mull, w_mulr, w_u32, w_u16, w_u8, w_u32a, N_zero]; first | done | rfl))
    · first | (simp only [push_cast, reduceIte, Nat.reduceEqDiff, Nat.reduceLT, Nat.reduceAdd, Nat.reduceSub, Nat.reduceMul, Nat.reduceLeDiff, Nat.reducePow, Int.reduceLT, Int.reduceToNat, reduceCtorEq, Int.reduceNeg, Int.reduceEq, Nat.reduceBEq, Nat.reduceBNe, Int.reduceBEq, Int.reduceBNe, String.reduceEq]; first | done | rfl | (simp (disch := omega) only [w_nat, w_add, w_addl, w_addr, w_sub, w_subl, w_mul, w_mull, w_mulr, w_u32, w_u16, w_u8, w_u32a, N_zero]; first | done | rfl))
  · intro i hi K2 hK2
    refine AWp.seqK fun K3 hK3 => ?_
    refine AWp.regionW ?_
    refine AWp.condLM (fun c0 => ?_) (fun c0 => ?_)
    · skip
      have h0 : i < gapN n := by have := hi.1; simp at c0; unfold gapN at *; omega
      refine AWp.skip ?_
      refine hK3 _ ?_
      refine AWp.block ?_
      refine AWp.regionV ?_
      refine hK2 _ (i + 1) (⟨h0, by have := gapN_le n; omega⟩) (by omega) ?_
      refine Le.m 0 ?_ ?_
      · first | with_reducible rfl | (simp only [push_cast, reduceIte, Nat.reduceEqDiff, Nat.reduceLT, Nat.reduceAdd, Nat.reduceSub, Nat.reduceMul, Nat.reduceLeDiff, Nat.reducePow, Int.reduceLT, Int.reduceToNat, reduceCtorEq, Int.reduceNeg, Int.reduceEq, Nat.reduceBEq, Nat.reduceBNe, Int.reduceBEq, Int.reduceBNe, String.reduceEq]; first | done | rfl | (simp (disch := omega) only [w_nat, w_add, w_addl, w_addr, w_sub, w_subl, w_mul, w_mull, w_mulr, w_u32, w_u16, w_u8, w_u32a, N_zero]; first | done | rfl))
      · first | (simp only [push_cast, reduceIte, Nat.reduceEqDiff, Nat.reduceLT, Nat.reduceAdd, Nat.reduceSub, Nat.reduceMul, Nat.reduceLeDiff, Nat.reducePow, Int.reduceLT, Int.reduceToNat, reduceCtorEq, Int.reduceNeg, Int.reduceEq, Nat.reduceBEq, Nat.reduceBNe, Int.reduceBEq, Int.reduceBNe, String.reduceEq]; first | done | rfl | (simp (disch := omega) only [w_nat, w_add, w_addl, w_addr, w_sub, w_subl, w_mul, w_mull, w_mulr, w_u32, w_u16, w_u8, w_u32a, N_zero]; first | done | rfl))
    · skip
      have h0 : i = gapN n := by have := hi.1; simp at c0; unfold gapN at *; omega
      refine AWp.exit ?_
      try simp only [thenQ, blockQ, noGo, reduceIte, Nat.reduceEqDiff]
      refine hK1 _ ?_
      refine AWp.regionW ?_
      refine AWp.ret ?_
      try simp only [thenQ, blockQ, noGo]
      refine bodyQ.m ?_
      clear hK3 K3 hK2 K2 hK1 K1
      rw [h0]
      first | done | exact Hand.go
theorem right01_c (k : Nat) : PC Tryz.prog 65 [nat k] (bool (k == 1 || k == 2 || k == 4)) := by
  refine PC.of_bodyW (by simp only [push_cast]) Tryz.func65 rfl (by rw [Tryz.ntmps65]; simp) ?_
  refine AWp.regionW ?_
  refine AWp.regionA fun K1 hK1 => ?_
  refine ARun.segm 3 fun KS hKS => ?_
  refine ARun2.endm (hKS _ ?_); clear hKS KS
  apply ARun.grpM 2 2 false 7 [0, 5]
  · intro g2 KG hKG
    refine ARun2.gom ?_
    exact ARun2.endm (hKG _ Le.grpM)
  refine ARun.segm 2 fun KS hKS => ?_
  refine ARun2.endm (hKS _ ?_); clear hKS KS
  apply ARun.grpM 2 6 false 11 [9]
  · intro g6 KG hKG
    refine ARun2.gom ?_
    exact ARun2.endm (hKG _ Le.grpM)
  refine ARun2.gom ?_
  refine ARun2.endm (hK1 _ ?_)
  refine AWp.ret ?_
  try simp only [thenQ, blockQ, noGo]
  refine bodyQ.m ?_
  clear hK1 K1
  simp only [Bool.or_assoc]
  first | done | exact Hand.go
theorem mul8 {x : Nat} {b : UInt8} (h : x < 2 ^ 24) : IntKind.u32.wrap (IntKind.u32.wrap (N x * 256) + N b.toNat) = N (x * 256 + b.toNat) := by
  have := b.toNat_lt
  rw [IntKind.wrap_u32, IntKind.wrap_u32]; unfold N; omega
theorem number01_c (k : Nat) (l : List UInt8) (i : Nat) (hk : k = 1 ∨ k = 2 ∨ k = 4) (hl : l.length ≤ 2 ^ 40) (hi : i ≤ 2 ^ 40) :
    PC Tryz.prog 51 [.sl false 1 (bys l), nat i, nat k] (.tup [u32 (peekN k l i), bool (decide (i + k ≤ l.length))]) := by
  have hr : (k == 1 || k == 2 || k == 4) = true := by rcases hk with rfl | rfl | rfl <;> rfl
  refine PC.of_bodyW (by simp only [push_cast]) Tryz.func51 rfl (by rw [Tryz.ntmps51]; simp) ?_
  refine AWp.regionW ?_
  refine AWp.seqK fun K1 hK1 => ?_
  refine AWp.regionM fun K2 hK2 => ?_
  refine ARun2.callM (hr ▸ right01_c k) ?_
  refine ARun2.endm (hK2 _ ?_)
  refine AWp.condLM (fun c0 => ?_) (fun c0 => ?_)
  · skip
    have h0 : ¬ i + k ≤ l.length := by simpa using c0
    have e : peekN k l i = 0 := if_neg h0
    have e2 : decide (i + k ≤ l.length) = false := decide_eq_false h0
    refine AWp.regionW ?_
    refine AWp.ret ?_
    try simp only [thenQ, blockQ, noGo]
    refine bodyQ.m ?_
    clear hK2 K2 hK1 K1
    rw [e, e2]
    first | done | exact Hand.go
  · skip
    have h0 : i + k ≤ l.length := by simpa using c0
    have e : peekN k l i = beN ((l.drop i).take k) := if_pos h0
    have e2 : decide (i + k ≤ l.length) = true := decide_eq_true h0
    refine AWp.skip ?_
    refine hK1 _ ?_
    refine AWp.regionW ?_
    refine AWp.seqK fun K3 hK3 => ?_
    refine AWp.regionW ?_
    refine AWp.block ?_
    refine AWp.loopK0 [0, 1, 2] (fun (j : Nat) => [(9, nat j), (8, u32 (beN ((l.drop i).take j)))]) (fun j => j ≤ k) (fun j => k - j) (0) ?_ (Nat.zero_le _) ?_
    · skip
      refine Le.m 0 ?_ ?_
      · first | with_reducible rfl | (simp only [push_cast, reduceIte, Nat.reduceEqDiff, Nat.reduceLT, Nat.reduceAdd, Nat.reduceSub, Nat.reduceMul, Nat.reduceLeDiff, Nat.reducePow, Int.reduceLT, Int.reduceToNat, reduceCtorEq, Int.reduceNeg, Int.reduceEq, Nat.reduceBEq, Nat.reduceBNe, Int.reduceBEq, Int.reduceBNe, String.reduceEq]; first | done | rfl | (simp (disch := omega) only [w_nat, w_add, w_addl, w_addr, w_sub, w_subl, w_mul, w_mull, w_mulr, w_u32, w_u16, w_u8, w_u32a, N_zero]; first | done | rfl))
      · first | (simp only [push_cast, reduceIte, Nat.reduceEqDiff, Nat.reduceLT, Nat.reduceAdd, Nat.reduceSub, Nat.reduceMul, Nat.reduceLeDiff, Nat.reducePow, Int.reduceLT, Int.reduceToNat, reduceCtorEq, Int.reduceNeg, Int.reduceEq, Nat.reduceBEq, Nat.reduceBNe, Int.reduceBEq, Int.reduceBNe, String.reduceEq]; first | done | rfl | (simp (disch := omega) only [w_nat, w_add, w_addl, w_addr, w_sub, w_subl, w_mul, w_mull, w_mulr, w_u32, w_u16, w_u8, w_u32a, N_zero]; first | done | rfl))
    · intro j hj K4 hK4
      refine AWp.seqK fun K5 hK5 => ?_
      refine AWp.regionW ?_
      refine AWp.condLM (fun c1 => ?_) (fun c1 => ?_)
      · skip
        have hjk : j < k := by simpa using c1
        have hlt : i + j < l.length := by omega
        have hjd : j < (l.drop i).length := by rw [List.length_drop]; omega
        have hx : beN ((l.drop i).take j) < 2 ^ 24 := Nat.lt_of_lt_of_le (beN_lt2 _ 3 (Nat.le_trans (List.length_take_le _ _) (by omega))) (by decide)
        have hs : beN ((l.drop i).take (j + 1)) = beN ((l.drop i).take j) * 256 + l[i + j].toNat := by
          rw [List.take_succ_eq_append_getElem hjd, beN_snoc, List.getElem_drop]
        refine AWp.skip ?_
        refine hK5 _ ?_
        refine AWp.seqK fun K6 hK6 => ?_
        refine AWp.block ?_
        refine AWp.regionN fun K7 hK7 => ?_
        refine ARun2.indexM (i + j) (.val (.int .u8 (N l[i + j].toNat))) ?_ ?_
        · exact bys_at _ _ hlt
        refine ARun2.endm (hK7 _ ?_)
        refine hK6 _ ?_
        refine AWp.regionV ?_
        refine hK4 _ (j + 1) (by omega) (by omega) ?_
        refine Le.m 0 ?_ ?_
        · first | with_reducible rfl | (simp only [push_cast, reduceIte, Nat.reduceEqDiff, Nat.reduceLT, Nat.reduceAdd, Nat.reduceSub, Nat.reduceMul, Nat.reduceLeDiff, Nat.reducePow, Int.reduceLT, Int.reduceToNat, reduceCtorEq, Int.reduceNeg, Int.reduceEq, Nat.reduceBEq, Nat.reduceBNe, Int.reduceBEq, Int.reduceBNe, String.reduceEq]; first | done | rfl | (simp (disch := omega) only [w_nat, w_add, w_addl, w_addr, w_sub, w_subl, w_mul, w_mull, w_mulr, w_u32, w_u16, w_u8, w_u32a, N_zero]; first | done | rfl))
        · simp only [push_cast, reduceIte, Nat.reduceEqDiff, Nat.reduceLT, Nat.reduceAdd, Nat.reduceSub, Nat.reduceMul, Nat.reduceLeDiff, Nat.reducePow, Int.reduceLT, Int.reduceToNat, reduceCtorEq, Int.reduceNeg, Int.reduceEq, Nat.reduceBEq, Nat.reduceBNe, Int.reduceBEq, Int.reduceBNe, String.reduceEq]
          try simp (disch := omega) only [w_nat, w_add, w_addl, w_addr, w_sub, w_subl, w_mul, w_mull, w_mulr, w_u32, w_u16, w_u8, w_u32a, N_zero]
          rw [mul8 hx, hs]
      · skip
        have hjk : j = k := by simp at c1; omega
        subst hjk
        refine AWp.exit ?_
        try simp only [thenQ, blockQ, noGo, reduceIte, Nat.reduceEqDiff]
        refine hK3 _ ?_
        refine AWp.regionW ?_
        refine AWp.ret ?_
        try simp only [thenQ, blockQ, noGo]
        refine bodyQ.m ?_
        clear hK5 K5 hK4 K4 hK3 K3 hK2 K2 hK1 K1
        rw [e, e2]
        first | done | exact Hand.go
/-- is the number in the data right? -/
def countedR (d : List UInt8) : Bool := decide (4 ≤ d.length ∧ 2 * peekN 4 d 0 = d.length - 4)
theorem counted08_c (d : List UInt8) (hl : d.length ≤ 2 ^ 40) : PC Tryz.prog 29 [.sl false 1 (bys d)] (bool (countedR d)) := by
  have hp := peekN_lt 4 d 0 (by omega)
  have hc : (N (2 * peekN 4 d 0) == IntKind.i64.wrap (N d.length - 4)) = countedR d := by
    unfold countedR
    rw [IntKind.wrap_i64, Bool.eq_iff_iff, beq_iff_eq, decide_eq_true_iff]
    unfold N; omega
  refine PC.of_bodyW (by simp only [push_cast]) Tryz.func29 rfl (by rw [Tryz.ntmps29]; simp) ?_
  refine AWp.regionW ?_
  refine AWp.regionM fun K1 hK1 => ?_
  refine ARun2.callM (number01_c 4 d 0 (by omega) hl (by omega)) ?_
  refine ARun2.endm (hK1 _ ?_)
  refine AWp.regionW ?_
  refine AWp.ret ?_
  try simp only [thenQ, blockQ, noGo]
  refine bodyQ.m ?_
  clear hK1 K1
  rw [hc]
  first | done | exact Hand.go
theorem inside08_c (k : Nat) (hk : k ≤ 4) : PC Tryz.prog 30 [nat k] (nat (insideN k).1) := by
  have hq : (insideN k).1 = if k = 3 then 2 else if k = 0 then 0 else 1 := by
    have h : k = 0 ∨ k = 1 ∨ k = 2 ∨ k = 3 ∨ k = 4 := by omega
    rcases h with rfl | rfl | rfl | rfl | rfl <;> rfl
  refine PC.of_bodyW (by simp only [push_cast]) Tryz.func30 rfl (by rw [Tryz.ntmps30]; simp) ?_
  refine AWp.regionW ?_
  refine AWp.seqK fun K1 hK1 => ?_
  refine AWp.regionW ?_
  refine AWp.condLM (fun c0 => ?_) (fun c0 => ?_)
  · skip
    refine AWp.regionW ?_
    refine AWp.ret ?_
    try simp only [thenQ, blockQ, noGo]
    refine bodyQ.m ?_
    clear hK1 K1
    rw [hq, if_pos (by simpa using c0)]
    first | done | exact Hand.go
  · skip
    refine AWp.skip ?_
    refine hK1 _ ?_
    refine AWp.seqK fun K2 hK2 => ?_
    refine AWp.regionW ?_
    refine AWp.condLM (fun c1 => ?_) (fun c1 => ?_)
    · skip
      refine AWp.regionW ?_
      refine AWp.ret ?_
      try simp only [thenQ, blockQ, noGo]
      refine bodyQ.m ?_
      clear hK2 K2 hK1 K1
      rw [hq, if_neg (by simpa using c0), if_pos (by simpa using c1)]
      first | done | exact Hand.go
    · skip
      refine AWp.skip ?_
      refine hK2 _ ?_
      refine AWp.regionW ?_
      refine AWp.ret ?_
      try simp only [thenQ, blockQ, noGo]
      refine bodyQ.m ?_
      clear hK2 K2 hK1 K1
      rw [hq, if_neg (by simpa using c0), if_neg (by simpa using c1)]
      first | done | exact Hand.go
theorem fits07_c (f : ShForm) (n : Nat) (hn : n < 2 ^ 40) (hl : f.least < 2 ^ 40) (hm : f.most < 2 ^ 40) (hu : 0 < f.unit) (hu2 : f.unit < 2 ^ 40) : PC Tryz.prog 27 [formA f, nat n] (bool (fitsN f n)) := by
  refine PC.of_bodyW (by simp only [push_cast]) Tryz.func27 rfl (by rw [Tryz.ntmps27]; simp) ?_
  refine AWp.regionW ?_
  refine AWp.seqK fun K1 hK1 => ?_
  refine AWp.regionW ?_
  refine AWp.block ?_
  refine AWp.loopK [1, 2] (fun (i : Nat) => [(5, nat (f.least + i * f.unit))]) (fun i => [.box 60 [nat f.cls, u16 f.ty, .val (.string f.name), nat f.least, nat f.most, nat f.unit, nat f.kids]]) (fun i => ∀ j, j < i → f.least + j * f.unit ≠ n) (fun i => f.most + 1 - (f.least + i * f.unit)) (0) ?_ (fun j h => by omega) ?_
  · skip
    refine Le.m 1 ?_ ?_
    · first | with_reducible rfl | (simp only [push_cast, reduceIte, Nat.reduceEqDiff, Nat.reduceLT, Nat.reduceAdd, Nat.reduceSub, Nat.reduceMul, Nat.reduceLeDiff, Nat.reducePow, Int.reduceLT, Int.reduceToNat, reduceCtorEq, Int.reduceNeg, Int.reduceEq, Nat.reduceBEq, Nat.reduceBNe, Int.reduceBEq, Int.reduceBNe, String.reduceEq]; first | done | rfl | (simp (disch := omega) only [w_nat, w_add, w_addl, w_addr, w_sub, w_subl, w_mul, w_mull, w_mulr, w_u32, w_u16, w_u8, w_u32a, N_zero]; first | done | rfl))
    · simp only [push_cast, reduceIte, Nat.reduceEqDiff, Nat.reduceLT, Nat.reduceAdd, Nat.reduceSub, Nat.reduceMul, Nat.reduceLeDiff, Nat.reducePow, Int.reduceLT, Int.reduceToNat, reduceCtorEq, Int.reduceNeg, Int.reduceEq, Nat.reduceBEq, Nat.reduceBNe, Int.reduceBEq, Int.reduceBNe, String.reduceEq]
      try simp (disch := omega) only [w_nat, w_add, w_addl, w_addr, w_sub, w_subl, w_mul, w_mull, w_mulr, w_u32, w_u16, w_u8, w_u32a, N_zero]
      simp only [Nat.zero_mul, Nat.add_zero]
  · intro i hi K2 hK2
    refine AWp.seqK fun K3 hK3 => ?_
    refine AWp.regionW ?_
    refine AWp.condLM (fun c0 => ?_) (fun c0 => ?_)
    · skip
      have h0 : f.least + i * f.unit ≤ f.most := by simpa using c0
      have hs : (i + 1) * f.unit = i * f.unit + f.unit := by rw [Nat.add_mul, Nat.one_mul]
      refine AWp.skip ?_
      refine hK3 _ ?_
      refine AWp.seqK fun K4 hK4 => ?_
      refine AWp.block ?_
      refine AWp.regionW ?_
      refine AWp.condLM (fun c1 => ?_) (fun c1 => ?_)
      · skip
        have h1 : f.least + i * f.unit = n := by simpa using c1
        have hf : fitsN f n = true := by
          have e : n - f.least = i * f.unit := by omega
          unfold fitsN
          rw [e, Nat.mul_mod_left]
          simp
          omega
        refine AWp.regionW ?_
        refine AWp.ret ?_
        try simp only [thenQ, blockQ, noGo]
        refine bodyQ.m ?_
        clear hK4 K4 hK3 K3 hK2 K2 hK1 K1
        rw [hf]
        first | done | exact Hand.go
      · skip
        have h1 : f.least + i * f.unit ≠ n := by simpa using c1
        refine AWp.skip ?_
        refine hK4 _ ?_
        refine AWp.regionV ?_
        refine hK2 _ (i + 1) ((fun j hj => (Nat.lt_or_ge j i).elim (fun h => hi j h) (fun h => (show j = i by omega) ▸ h1))) (by omega) ?_
        refine Le.m 1 ?_ ?_
        · first | with_reducible rfl | (simp only [push_cast, reduceIte, Nat.reduceEqDiff, Nat.reduceLT, Nat.reduceAdd, Nat.reduceSub, Nat.reduceMul, Nat.reduceLeDiff, Nat.reducePow, Int.reduceLT, Int.reduceToNat, reduceCtorEq, Int.reduceNeg, Int.reduceEq, Nat.reduceBEq, Nat.reduceBNe, Int.reduceBEq, Int.reduceBNe, String.reduceEq]; first | done | rfl | (simp (disch := omega) only [w_nat, w_add, w_addl, w_addr, w_sub, w_subl, w_mul, w_mull, w_mulr, w_u32, w_u16, w_u8, w_u32a, N_zero]; first | done | rfl))
        · simp only [push_cast, reduceIte, Nat.reduceEqDiff, Nat.reduceLT, Nat.reduceAdd, Nat.reduceSub, Nat.reduceMul, Nat.reduceLeDiff, Nat.reducePow, Int.reduceLT, Int.reduceToNat, reduceCtorEq, Int.reduceNeg, Int.reduceEq, Nat.reduceBEq, Nat.reduceBNe, Int.reduceBEq, Int.reduceBNe, String.reduceEq]
          try simp (disch := omega) only [w_nat, w_add, w_addl, w_addr, w_sub, w_subl, w_mul, w_mull, w_mulr, w_u32, w_u16, w_u8, w_u32a, N_zero]
          rw [hs, ← Nat.add_assoc]
    · skip
      have h0 : f.most < f.least + i * f.unit := by simpa using c0
      have hf : fitsN f n = false := by
        unfold fitsN
        by_cases h2 : f.least ≤ n ∧ n ≤ f.most
        · have h3 : (n - f.least) % f.unit ≠ 0 := by
            intro h3
            obtain ⟨j, hj⟩ := Nat.dvd_of_mod_eq_zero h3
            rw [Nat.mul_comm] at hj
            have hlt : j < i := by
              rcases Nat.lt_or_ge j i with h | h
              · exact h
              · have := Nat.mul_le_mul_right f.unit h
                omega
            exact hi j hlt (by omega)
          simp [h3]
        · rcases Nat.lt_or_ge n f.least with h4 | h4
          · simp; omega
          · simp; omega
      refine AWp.exit ?_
      try simp only [thenQ, blockQ, noGo, reduceIte, Nat.reduceEqDiff]
      refine hK1 _ ?_
      refine AWp.regionW ?_
      refine AWp.ret ?_
      try simp only [thenQ, blockQ, noGo]
      refine bodyQ.m ?_
      clear hK3 K3 hK2 K2 hK1 K1
      rw [hf]
      first | done | exact Hand.go
end Go.Proofs.YtmcedkcehcacpaaGreatDoor.C
/- The reference: wanted, Table, Of, Size. -/
set_option linter.unusedVariables false
set_option linter.unusedSimpArgs false
namespace Go.Proofs.YtmcedkcehcacpaaGreatDoor.C
open Go.Abs
theorem kidsOk_eq (f : ShForm) (l : List GNode) (hf : f.kids ≤ 4) : kidsOk f l =
    if f.kids = 0 then l.length == 0 else if f.kids = 1 then l.length == 1 else if f.kids = 4 then (l.length == 1 && ((l.headD default).ty == 5 || (l.headD default).ty == 6)) else (decide (1 ≤ l.length) && decide (l.length ≤ 16384)) := by
  have key : ∀ k n : Nat, k ≤ 4 → ∀ b : Bool, (decide ((insideN k).2.1 ≤ n) && decide (n ≤ (insideN k).2.2) && (k != 4 || b)) = if k = 0 then n == 0 else if k = 1 then n == 1 else if k = 4 then (n == 1 && b) else (decide (1 ≤ n) && decide (n ≤ 16384)) := by
    intro k n hk b
    have h : k = 0 ∨ k = 1 ∨ k = 2 ∨ k = 3 ∨ k = 4 := by omega
    have h1 : (decide (1 ≤ n) && decide (n ≤ 1)) = (n == 1) := by rw [Bool.eq_iff_iff]; simp; omega
    rcases h with rfl | rfl | rfl | rfl | rfl
    · rw [Bool.eq_iff_iff]; simp [insideN]
    · rw [Bool.eq_iff_iff]; simp [insideN]; omega
    · simp [insideN]
    · simp [insideN]
    · simp [insideN, ← h1]
  unfold kidsOk
  rw [Bool.or_assoc]
  exact key _ _ hf _
theorem wanted_c (f : ShForm) (l : List GNode) (hl : l.length ≤ 2 ^ 40) (hf : f.kids ≤ 4) : PC Tryz.prog 28 [formA f, .sl false 3 (nodesA false l)] (bool (kidsOk f l)) := by
  have hq := kidsOk_eq f l hf
  refine PC.of_bodyW (by simp only [push_cast]) Tryz.func28 rfl (by rw [Tryz.ntmps28]; simp) ?_
  refine AWp.regionW ?_
  refine AWp.seqK fun K1 hK1 => ?_
  refine AWp.regionW ?_
  refine AWp.block ?_
  refine AWp.regionW ?_
  refine AWp.condLM (fun c0 => ?_) (fun c0 => ?_)
  · skip
    have h0 : f.kids = 0 := by simpa using c0
    refine AWp.regionW ?_
    refine AWp.ret ?_
    try simp only [thenQ, blockQ, noGo]
    refine bodyQ.m ?_
    clear hK1 K1
    rw [hq, if_pos h0]
    first | done | exact Hand.go
  · skip
    have h0 : ¬ f.kids = 0 := by simpa using c0
    refine AWp.regionW ?_
    refine AWp.condLM (fun c1 => ?_) (fun c1 => ?_)
    · skip
      have h1 : f.kids = 1 := by simpa using c1
      refine AWp.regionW ?_
      refine AWp.ret ?_
      try simp only [thenQ, blockQ, noGo]
      refine bodyQ.m ?_
      clear hK1 K1
      rw [hq, if_neg h0, if_pos h1]
      first | done | exact Hand.go
    · skip
      have h1 : ¬ f.kids = 1 := by simpa using c1
      refine AWp.regionW ?_
      refine AWp.condLM (fun c2 => ?_) (fun c2 => ?_)
      · skip
        have h2 : f.kids = 4 := by simpa using c2
        refine AWp.regionA fun K2 hK2 => ?_
        refine ARun.segm 4 fun KS hKS => ?_
        refine ARun2.endm (hKS _ ?_); clear hKS KS
        apply ARun.grpM 12 3 true 34 [22]
        · intro g3 KG hKG
          have hne : 0 < l.length := by have := beq_iff_eq.1 g3; omega
          refine ARun.segm 6 fun KS hKS => ?_
          refine ARun2.indexM (0) (nodeA false (l.headD default)) ?_ ?_
          · exact nodesA_head _ _ hne
          refine ARun2.endm (hKS _ ?_); clear hKS KS
          apply ARun.grpM 5 9 false 33 [22, 28]
          · intro g9 KG hKG
            refine ARun2.gom ?_
            refine ARun2.indexM (0) (nodeA false (l.headD default)) ?_ ?_
            · exact nodesA_head _ _ hne
            exact ARun2.endm (hKG _ Le.grpM)
          refine ARun2.gom ?_
          exact ARun2.endm (hKG _ Le.grpM)
        refine ARun2.gom ?_
        refine ARun2.endm (hK2 _ ?_)
        refine AWp.ret ?_
        try simp only [thenQ, blockQ, noGo]
        refine bodyQ.m ?_
        clear hK2 K2 hK1 K1
        rw [hq, if_neg h0, if_neg h1, if_pos h2]
        first | done | exact Hand.go
      · skip
        have h2 : ¬ f.kids = 4 := by simpa using c2
        refine AWp.skip ?_
        refine hK1 _ ?_
        refine AWp.regionA fun K3 hK3 => ?_
        refine ARun.segm 4 fun KS hKS => ?_
        refine ARun2.endm (hKS _ ?_); clear hKS KS
        apply ARun.grpM 3 3 true 42 [39]
        · intro g3 KG hKG
          refine ARun2.gom ?_
          exact ARun2.endm (hKG _ Le.grpM)
        refine ARun2.gom ?_
        refine ARun2.endm (hK3 _ ?_)
        refine AWp.ret ?_
        try simp only [thenQ, blockQ, noGo]
        refine bodyQ.m ?_
        clear hK3 K3 hK1 K1
        rw [hq, if_neg h0, if_neg h1, if_neg h2]
        first | done | exact Hand.go
def refForms : List ShForm := paramForms.map (fun f => { f with cls := 1 }) ++ causeForms.map (fun f => { f with cls := 2 })
set_option maxRecDepth 100000 in
set_option maxHeartbeats 1000000 in
theorem table07_c : PC Tryz.prog 50 [] (.sl false 7 (formsA refForms)) := by
  refine PC.of_bodyW (by simp only [push_cast]) Tryz.func50 rfl (by rw [Tryz.ntmps50]; simp) ?_
  refine AWp.regionW ?_
  refine AWp.regionW ?_
  refine AWp.regionW ?_
  refine AWp.ret ?_
  try simp only [thenQ, blockQ, noGo]
  refine bodyQ.m ?_
  simp only [refForms, formsA, paramForms, causeForms, List.map_cons, List.map_nil, List.cons_append, List.nil_append]
  first | done | exact Hand.go
theorem refOf_eq (c t : Nat) (hc : c = 1 ∨ c = 2) : (refForms.find? fun f => f.cls == c && f.ty == t).getD zeroForm = shapeOf c t := by
  have key : ∀ (l : List ShForm) (c' : Nat), (l.map (fun f => { f with cls := c' })).find? (fun f => f.cls == c && f.ty == t) = if c' = c then (l.find? fun f => f.ty == t).map (fun f => { f with cls := c' }) else none := by
    intro l c'
    induction l with
    | nil => simp
    | cons a l ih =>
      by_cases h : c' = c
      · subst h
        simp only [if_true] at ih
        by_cases ht : a.ty = t
        · simp [List.find?_cons, ht]
        · have ht' : (a.ty == t) = false := by simpa using ht
          simp [List.find?_cons, ht', ih]
      · have hcc : (c' == c) = false := by simpa using h
        simp only [if_neg h] at ih ⊢
        simp [List.find?_cons, hcc, ih]
  unfold refForms shapeOf
  rw [List.find?_append, key, key]
  rcases hc with rfl | rfl
  · simp [formsN]
  · simp [formsN]
theorem of07_c (c t : Nat) (hc : c = 1 ∨ c = 2) : PC Tryz.prog 26 [nat c, u16 t] (formA (shapeOf c t)) := by
  have hlen : refForms.length ≤ 2 ^ 40 := by decide
  have hq := refOf_eq c t hc
  refine PC.of_bodyW (by simp only [push_cast]) Tryz.func26 rfl (by rw [Tryz.ntmps26]; simp) ?_
  refine AWp.regionW ?_
  refine AWp.regionM fun K1 hK1 => ?_
  refine ARun2.callM (table07_c) ?_
  refine ARun2.endm (hK1 _ ?_)
  refine AWp.seqK fun K2 hK2 => ?_
  refine AWp.regionW ?_
  refine AWp.block ?_
  refine AWp.loopK0 [0, 1, 4, 5] (fun (i : Nat) => [(6, nat i)]) (fun i => i ≤ refForms.length ∧ refForms.find? (fun f => f.cls == c && f.ty == t) = (refForms.drop i).find? fun f => f.cls == c && f.ty == t) (fun i => refForms.length - i) (0) ?_ ⟨Nat.zero_le _, rfl⟩ ?_
  · skip
    refine Le.m 1 ?_ ?_
    · first | with_reducible rfl | (simp only [push_cast, reduceIte, Nat.reduceEqDiff, Nat.reduceLT, Nat.reduceAdd, Nat.reduceSub, Nat.reduceMul, Nat.reduceLeDiff, Nat.reducePow, Int.reduceLT, Int.reduceToNat, reduceCtorEq, Int.reduceNeg, Int.reduceEq, Nat.reduceBEq, Nat.reduceBNe, Int.reduceBEq, Int.reduceBNe, String.reduceEq]; first | done | rfl | (simp (disch := omega) only [w_nat, w_add, w_addl, w_addr, w_sub, w_subl, w_mul, w_mull, w_mulr, w_u32, w_u16, w_u8, w_u32a, N_zero]; first | done | rfl))
    · first | (simp only [push_cast, reduceIte, Nat.reduceEqDiff, Nat.reduceLT, Nat.reduceAdd, Nat.reduceSub, Nat.reduceMul, Nat.reduceLeDiff, Nat.reducePow, Int.reduceLT, Int.reduceToNat, reduceCtorEq, Int.reduceNeg, Int.reduceEq, Nat.reduceBEq, Nat.reduceBNe, Int.reduceBEq, Int.reduceBNe, String.reduceEq]; first | done | rfl | (simp (disch := omega) only [w_nat, w_add, w_addl, w_addr, w_sub, w_subl, w_mul, w_mull, w_mulr, w_u32, w_u16, w_u8, w_u32a, N_zero]; first | done | rfl))
  · intro i hi K3 hK3
    refine AWp.seqK fun K4 hK4 => ?_
    refine AWp.regionW ?_
    refine AWp.condLM (fun c0 => ?_) (fun c0 => ?_)
    · skip
      have hil : i < refForms.length := by simpa using c0
      have hd : refForms.drop i = refForms[i] :: refForms.drop (i + 1) := List.drop_eq_getElem_cons hil
      refine AWp.skip ?_
      refine hK4 _ ?_
      refine AWp.seqK fun K5 hK5 => ?_
      refine AWp.block ?_
      refine AWp.regionA fun K6 hK6 => ?_
      refine ARun.segm 8 fun KS hKS => ?_
      refine ARun2.indexM (i) (formA refForms[i]) ?_ ?_
      · exact formsA_at _ _ hil
      refine ARun2.endm (hKS _ ?_); clear hKS KS
      apply ARun.grpM 7 7 true 28 [0, 1, 4, 5, 6, 21]
      · intro g7 KG hKG
        refine ARun2.gom ?_
        refine ARun2.indexM (i) (formA refForms[i]) ?_ ?_
        · exact formsA_at _ _ hil
        exact ARun2.endm (hKG _ Le.grpM)
      refine ARun2.gom ?_
      refine ARun2.endm (hK6 _ ?_)
      refine AWp.condLM (fun c1 => ?_) (fun c1 => ?_)
      · skip
        have h1 : (refForms[i].cls == c && refForms[i].ty == t) = true := by simpa using c1
        have hv : shapeOf c t = refForms[i] := by rw [← hq, hi.2, hd, List.find?_cons, h1]; rfl
        refine AWp.regionM fun K7 hK7 => ?_
        refine ARun2.indexM (i) (formA refForms[i]) ?_ ?_
        · exact formsA_at _ _ hil
        refine ARun2.endm (hK7 _ ?_)
        refine AWp.ret ?_
        try simp only [thenQ, blockQ, noGo]
        refine bodyQ.m ?_
        clear hK7 K7 hK6 K6 hK5 K5 hK4 K4 hK3 K3 hK2 K2 hK1 K1
        rw [hv]
        first | done | exact Hand.go
      · skip
        have h1 : (refForms[i].cls == c && refForms[i].ty == t) = false := by simpa using c1
        refine AWp.skip ?_
        refine hK5 _ ?_
        refine AWp.regionV ?_
        refine hK3 _ (i + 1) (⟨by omega, by rw [hi.2, hd, List.find?_cons, h1]⟩) (by omega) ?_
        refine Le.m 1 ?_ ?_
        · first | with_reducible rfl | (simp only [push_cast, reduceIte, Nat.reduceEqDiff, Nat.reduceLT, Nat.reduceAdd, Nat.reduceSub, Nat.reduceMul, Nat.reduceLeDiff, Nat.reducePow, Int.reduceLT, Int.reduceToNat, reduceCtorEq, Int.reduceNeg, Int.reduceEq, Nat.reduceBEq, Nat.reduceBNe, Int.reduceBEq, Int.reduceBNe, String.reduceEq]; first | done | rfl | (simp (disch := omega) only [w_nat, w_add, w_addl, w_addr, w_sub, w_subl, w_mul, w_mull, w_mulr, w_u32, w_u16, w_u8, w_u32a, N_zero]; first | done | rfl))
        · first | (simp only [push_cast, reduceIte, Nat.reduceEqDiff, Nat.reduceLT, Nat.reduceAdd, Nat.reduceSub, Nat.reduceMul, Nat.reduceLeDiff, Nat.reducePow, Int.reduceLT, Int.reduceToNat, reduceCtorEq, Int.reduceNeg, Int.reduceEq, Nat.reduceBEq, Nat.reduceBNe, Int.reduceBEq, Int.reduceBNe, String.reduceEq]; first | done | rfl | (simp (disch := omega) only [w_nat, w_add, w_addl, w_addr, w_sub, w_subl, w_mul, w_mull, w_mulr, w_u32, w_u16, w_u8, w_u32a, N_zero]; first | done | rfl))
    · skip
      have hil : refForms.length ≤ i := by simpa using c0
      have hv : shapeOf c t = zeroForm := by rw [← hq, hi.2, List.drop_of_length_le hil]; rfl
      refine AWp.exit ?_
      try simp only [thenQ, blockQ, noGo, reduceIte, Nat.reduceEqDiff]
      refine hK2 _ ?_
      refine AWp.regionW ?_
      refine AWp.ret ?_
      try simp only [thenQ, blockQ, noGo]
      refine bodyQ.m ?_
      clear hK4 K4 hK3 K3 hK2 K2 hK1 K1
      rw [hv]
      first | done | exact Hand.go
end Go.Proofs.YtmcedkcehcacpaaGreatDoor.C
/- The reference: Check, Count, Value, Types. -/
set_option linter.unusedVariables false
set_option linter.unusedSimpArgs false
namespace Go.Proofs.YtmcedkcehcacpaaGreatDoor.C
open Go.Abs
theorem form_small (c t : Nat) : (shapeOf c t).kids ≤ 4 ∧ (shapeOf c t).least < 2 ^ 40 ∧ (shapeOf c t).most < 2 ^ 40 ∧ (shapeOf c t).unit < 2 ^ 40 ∧ (shapeHas c t = true → (shapeOf c t).cls = c ∧ 0 < (shapeOf c t).unit) ∧ (shapeHas c t = false → shapeOf c t = zeroForm) := by
  have key : ∀ l : List ShForm, (∀ f ∈ l, f.kids ≤ 4 ∧ f.least < 2 ^ 40 ∧ f.most < 2 ^ 40 ∧ f.unit < 2 ^ 40 ∧ 0 < f.unit) →
      let g := (((l.find? fun f => f.ty == t).map fun f => { f with cls := c }).getD zeroForm)
      g.kids ≤ 4 ∧ g.least < 2 ^ 40 ∧ g.most < 2 ^ 40 ∧ g.unit < 2 ^ 40 ∧ ((l.find? fun f => f.ty == t).isSome = true → g.cls = c ∧ 0 < g.unit) ∧ ((l.find? fun f => f.ty == t).isSome = false → g = zeroForm) := by
    intro l hl
    cases hf : l.find? (fun f => f.ty == t) with
    | none => simp [zeroForm]
    | some f =>
      have := hl f (List.mem_of_find?_eq_some hf)
      simp
      omega
  refine key (formsN c) ?_
  match c with
  | 0 => intro f hf; simp [formsN] at hf
  | 1 => decide
  | 2 => decide
  | _ + 3 => intro f hf; simp [formsN] at hf
theorem counted_eq (c t : Nat) (d : List UInt8) (k : List GNode) (h : badN c t d.length k = false) (hc : c = 2) (ht : t = 2) : (!countedR d) = countedN c t d := by
  subst hc; subst ht
  have hf : fitsN (shapeOf 2 2) d.length = true := by
    unfold badN at h
    have : shapeHas 2 2 = true := rfl
    rw [this] at h
    cases hq : fitsN (shapeOf 2 2) d.length with
    | true => rfl
    | false => rw [hq] at h; simp at h
  have hl : 6 ≤ d.length ∧ (d.length - 6) % 2 = 0 := by
    have e : shapeOf 2 2 = ⟨2, 2, ⟨#[109, 105, 115, 115, 105, 110, 103, 45, 112, 97, 114, 97, 109, 101, 116, 101, 114]⟩, 6, 65531, 2, 0⟩ := rfl
    rw [e] at hf
    unfold fitsN at hf
    simp only [Bool.and_eq_true, decide_eq_true_eq, beq_iff_eq] at hf
    exact ⟨hf.1.1, hf.2⟩
  unfold countedR countedN
  rw [Bool.eq_iff_iff]
  simp
  omega
end Go.Proofs.YtmcedkcehcacpaaGreatDoor.C
/- The reference: Count, Few, Value, Types. -/
set_option linter.unusedVariables false
set_option linter.unusedSimpArgs false
namespace Go.Proofs.YtmcedkcehcacpaaGreatDoor.C
open Go.Abs
end Go.Proofs.YtmcedkcehcacpaaGreatDoor.C
/- Regions that draw their order, in whose head a row of the call's own is made and grown. No condition. -/
namespace Go.Abs
set_option linter.unusedVariables false
set_option linter.unusedSectionVars false
set_option linter.unusedSimpArgs false
set_option linter.unnecessarySimpa false
theorem Chg.rfl' (D B : Nat → Prop) (w : World) : Chg D B w D B w :=
  ⟨rfl, rfl, rfl, Nat.le_refl _, fun _ _ _ => rfl, fun _ h => .inl h, fun _ h => h, fun _ h => .inl h⟩
theorem Chg.trans' {D B D1 B1 D2 B2 : Nat → Prop} {w w1 w2 : World} (h : Chg D B w D1 B1 w1) (k : Chg D1 B1 w1 D2 B2 w2) : Chg D B w D2 B2 w2 := by
  refine ⟨k.os.trans h.os, k.tape.trans h.tape, k.output.trans h.output, Nat.le_trans h.size k.size, fun b hb hd => ?_, fun b hb => ?_, fun b hb => k.bsub b (h.bsub b hb), fun b hb => ?_⟩
  · refine (k.block b (Nat.lt_of_lt_of_le hb h.size) fun hd1 => ?_).trans (h.block b hb hd)
    rcases h.dsub b hd1 with h' | h'
    · exact hd h'
    · omega
  · rcases k.dsub b hb with h' | h'
    · exact h.dsub b h'
    · exact .inr (Nat.le_trans h.size h')
  · rcases k.bnew b hb with h' | h' | h'
    · exact h.bnew b h'
    · exact .inr (h.dsub b h')
    · exact .inr (.inr (Nat.le_trans h.size h'))
/-- who looks on sees besides what was changed since -/
def Env.spy (E : Env) (D0 B0 : Nat → Prop) (w : World) : Env := { E with J := fun tr go D B w' => E.J tr go D B w' ∧ Chg D0 B0 w D B w' }
section
variable {P : Program} {ops : Array Oper} {E : Env} {s s' : AS} {ρ ρ' : List Value} {B B' : Nat → Prop} {a a' : Act} {w w' : World} {o : Oper} {rest : List Oper} {Q : AS → Prop} {R : Exit → AS → Prop} {nds : List (List (Nat × Option Nat))} {vals : List AV} {G : Prop}
theorem RW.spied {D0 B0 : Nat → Prop} {w0 : World} {ob : List Ob} (h : RW E ob ρ B w) : RW (E.spy D0 B0 w0) ob ρ B w :=
  ⟨h.ep, h.os, h.tape, h.output, h.size, h.block, h.pre, h.bsub, h.bnew, h.blt, h.len, h.obs, h.dis, h.prv⟩
theorem RW.unspied {D0 B0 : Nat → Prop} {w0 : World} {ob : List Ob} (h : RW (E.spy D0 B0 w0) ob ρ B w) : RW E ob ρ B w :=
  ⟨h.ep, h.os, h.tape, h.output, h.size, h.block, h.pre, h.bsub, h.bnew, h.blt, h.len, h.obs, h.dis, h.prv⟩
theorem RS.spied (h : RS E s ρ B a w) : RS (E.spy (fun b => Dof s.ob ρ b ∨ b ∈ s.df) B w) s ρ B a w := by
  refine ⟨h.rw_.spied, h.m, h.n, h.df, ⟨⟨h.jj.j, Chg.rfl' _ _ _⟩, ?_, h.jj.nodup, h.jj.mks⟩, h.rf⟩
  intro tr go D B w D' B' w' hj hc hb
  exact ⟨h.jj.stab tr go D B w D' B' w' hj.1 hc hb, hj.2.trans' hc⟩
theorem RS.unspied {D0 B0 : Nat → Prop} {w0 : World} (hst : E.Stab) (h : RS (E.spy D0 B0 w0) s ρ B a w) : RS E s ρ B a w ∧ Chg D0 B0 w0 (fun b => Dof s.ob ρ b ∨ b ∈ s.df) B w :=
  ⟨⟨h.rw_.unspied, h.m, h.n, h.df, ⟨h.jj.j.1, hst, h.jj.nodup, h.jj.mks⟩, h.rf⟩, h.jj.j.2⟩
/-- an operation of a chain: the call's new object stands at X, then at X' -/
def CSpec (P : Program) (ops : Array Oper) (o : Oper) (s : AS) (X X' : List Ob) (x : AV) : Prop :=
  ∀ (E : Env), E.Ok P → ∀ (ρ : List Value) (B : Nat → Prop) (a : Act) (w : World), RS E { s with ob := s.ob ++ X } ρ B a w → ∀ (K : Act → World → Prop) (Q' : Exit → Act → World → Prop),
    (∀ v w' ρ' B', RJ E s (s.ob ++ X') ρ' B' w' → (∀ b, B b → B' b) → (∀ b, B b → w'.heap[b]? = w.heap[b]?) → (∀ (j : Nat) (u : Value), j < s.ob.length → ρ[j]? = some u → ρ'[j]? = some u) → Rel w' B' E.bs ρ' x v → K (a.put o.dst v) w') →
    if Region.wanted o (yielded ops a.tmps) then owp E.rnd P o a w K Q' else K (a.put o.dst undef) w
theorem CSpec.own {T e : TypeId} {sz : Nat} (hg : gd ops s o = some true) (ho : o.op = .buildSlice T 0 #[]) (hz : elSz P T = some sz) (he : elT P T = some e) : CSpec P ops o s [] [.row e sz []] (.own s.ob.length) := by
  intro E hE ρ B a w hs K Q' hK
  have hs' : RS E s ρ B a w := by simpa using hs
  refine ASpec.own hg ho hz he E ρ B a w hs' K Q' fun v w' u h1 h2 h3 => ?_
  exact hK v w' _ B h1 (fun _ h => h) h2 (fun j u _ h => get_append_some h) h3
theorem inval_ids {k : Nat} {x : AV} (h : x.idsOk (fun j => decide (j < k)) = true) : AV.inval k x = x := by
  unfold AV.inval
  rw [if_pos (idsOk_mono (fun j hj => by simp only [decide_eq_true_eq] at hj; simp only [bne_iff_ne, ne_eq]; omega) _ h)]
theorem ob_inval_ids {k : Nat} {o : Ob} (h : obIds (fun j => decide (j < k)) o = true) : Ob.inval k o = o := by
  cases o with
  | box T cs =>
    simp only [Ob.inval, Ob.box.injEq, true_and]
    simp only [obIds] at h
    refine (List.map_congr_left (g := id) fun x hx => inval_ids ?_).trans (List.map_id _)
    exact (AV.idsOkL_iff _ _).1 h x hx
  | row T sz xs =>
    simp only [obIds] at h
    simp only [Ob.inval]
    rw [if_pos (idsOkL_mono (fun j hj => by simp only [decide_eq_true_eq] at hj; simp only [bne_iff_ne, ne_eq]; omega) _ h)]
  | mp es => rfl
  | gone => rfl
/-- the row is grown -/
theorem CSpec.append {T T2 : TypeId} {x y : Operand} {sz : Nat} {e : TypeId} {xs ys : List AV} (hg : gd ops s o = some true) (ho : o.op = .call { callee := .builtin .append, args := #[x, y], argTypes := #[T, T2] }) (hx : s.ev x = .own s.ob.length)
    (hz : elSz P T = some sz) (hT : elT P T = some e) (h2 : isSlc P T2 = true ∨ isStr P T2 = true) (hsrc : srcOf s sz (s.ev y) = some ys) (hb : 2 * (xs.length + ys.length) * elB P T ≤ 2 ^ 48) (hsm : xs.length + ys.length ≤ 2 ^ 60)
    (hid : AV.idsOkL (· != s.ob.length) xs = true) (hid2 : AV.idsOkL (· != s.ob.length) ys = true) (hob : s.ob.all (obIds (fun j => decide (j < s.ob.length))) = true) : CSpec P ops o s [.row e sz xs] [.row e sz (xs ++ ys)] (.own s.ob.length) := by
  intro E hE ρ B a w hs K Q' hK
  rw [if_pos (gd_wanted (s := { s with ob := s.ob ++ [.row e sz xs] }) hg hs)]
  have hs1 := hs.spied
  have hev : AS.ev { s with ob := s.ob ++ [.row e sz xs] } = s.ev := funext fun y => by cases y <;> rfl
  have hxr := hs.ev x
  rw [hev, hx] at hxr
  have hyr := hs1.ev y
  rw [hev] at hyr
  generalize hu : a.eval x = u at hxr
  cases hxr with
  | own hp h1c =>
    have hk : (s.ob ++ [Ob.row e sz xs])[s.ob.length]? = some (.row e sz xs) := by simp
    obtain ⟨v', w', h1, h3, h4⟩ := append_core (P := P) (ty := o.type) (T := T) (T2 := T2) (k := s.ob.length) hs1 hz (elT_spec hT) h2 hk hp (srcOf_new hsrc) hyr hb hsm hid hid2
    obtain ⟨h3', hc⟩ := h3.unspied hs.jj.stab
    have hmap : s.ob.map (Ob.inval s.ob.length) = s.ob := by
      refine (List.map_congr_left (g := id) fun q hq => ob_inval_ids ?_).trans (List.map_id _)
      exact List.all_eq_true.1 hob q hq
    have hrow : Ob.inval s.ob.length (.row e sz xs) = .row e sz xs := by simp only [Ob.inval]; rw [if_pos hid]
    have e1 : ((s.ob ++ [Ob.row e sz xs]).map (Ob.inval s.ob.length)).set s.ob.length (.row e sz (xs ++ ys)) = s.ob ++ [.row e sz (xs ++ ys)] := by
      rw [List.map_append, hmap, List.map_cons, List.map_nil, hrow, List.set_append_right _ _ (Nat.le_refl _), Nat.sub_self, List.set_cons_zero]
    have hj : RJ E s (s.ob ++ [.row e sz (xs ++ ys)]) (ρ.set s.ob.length v') B w' := by
      have := h3'.rj
      rw [← e1]; exact this
    have hrun : (execOp a.eval o).run P w = .ok (.value v') w' := by simp [execOp, ho, resolve, invoke, builtin, hu, h1]
    have hkρ := get_lt hp
    refine owp_value hrun (hK v' w' _ B hj (fun _ h => h) (fun b hb => hc.block b (hs.rw_.blt b hb) fun hd => ?_) (fun j u hj' hu' => ?_) (.own ?_ h4))
    · rcases hd with ⟨k, o2, v2, a1, a2, a3, a4⟩ | hd
      · exact (hs.rw_.prv k o2 v2 b a1 a2 a3 a4).1 hb
      · exact (hs.jj.mks b hd).2.2.1 hb
    · rw [List.getElem?_set_ne (by omega)]; exact hu'
    · rw [List.getElem?_set_self hkρ]
/-! ### the head -/
/-! ### in the walk -/
/-- the chain's operations, one after the other: the object stands at X, at last at XL -/
def CL (P : Program) (ops : Array Oper) (s : AS) (nds1 : List (List (Nat × Option Nat))) (vals : List AV) : List Nat → List Ob → List Ob → Prop
  | [], X, XL => X = XL
  | i :: r, X, XL => ∃ X', (∀ o, ops[i]? = some o → CSpec P ops o { s with fr := needFr s.fr vals (nds1.getD i []) } X X' (vals.getD i .any)) ∧ CL P ops s nds1 vals r X' XL
theorem CL.obs {nds1 : List (List (Nat × Option Nat))} : ∀ {ci : List Nat} {X XL : List Ob}, CL P ops s nds1 vals ci X XL → ∃ obs : Nat → List Ob, obs 0 = X ∧ obs ci.length = XL ∧
    ∀ l o, l < ci.length → ops[ci.getD l 0]? = some o → CSpec P ops o { s with fr := needFr s.fr vals (nds1.getD (ci.getD l 0) []) } (obs l) (obs (l + 1)) (vals.getD (ci.getD l 0) .any)
  | [], X, XL, h => ⟨fun _ => X, rfl, h, fun l o hl => by simp at hl⟩
  | i :: r, X, XL, ⟨X', h1, h2⟩ => by
    obtain ⟨obs, a1, a2, a3⟩ := CL.obs h2
    refine ⟨fun l => match l with | 0 => X | l + 1 => obs l, rfl, a2, fun l o hl ho => ?_⟩
    cases l with
    | zero =>
      have := h1 o (by simpa using ho)
      simp only [List.getD_cons_zero]
      rw [a1]; exact this
    | succ l =>
      simp only [List.getD_cons_succ] at ho ⊢
      exact a3 l o (by simpa using hl) ho
section cl
variable {nds1 : List (List (Nat × Option Nat))} {X XL : List Ob} {i : Nat} {r : List Nat}
theorem CL.nil : CL P ops s nds1 vals [] X X := rfl
theorem CL.own {T e : TypeId} {sz : Nat} (k : CL P ops s nds1 vals r [.row e sz []] XL) (hol : ops[i]? = some o := by first | with_reducible rfl | (simp only [push_cast, reduceIte, Nat.reduceEqDiff, Nat.reduceLT, Nat.reduceAdd, Nat.reduceSub, Nat.reduceMul, Nat.reduceLeDiff, Nat.reducePow, Int.reduceLT, Int.reduceToNat, reduceCtorEq, Int.reduceNeg, Int.reduceEq, Nat.reduceBEq, Nat.reduceBNe, Int.reduceBEq, Int.reduceBNe, String.reduceEq]; first | done | rfl | (simp (disch := omega) only [w_nat, w_add, w_addl, w_addr, w_sub, w_subl, w_mul, w_mull, w_mulr, w_u32, w_u16, w_u8, w_u32a, N_zero]; first | done | rfl | (simp only [push_cast, reduceIte, Nat.reduceEqDiff, Nat.reduceLT, Nat.reduceAdd, Nat.reduceSub, Nat.reduceMul, Nat.reduceLeDiff, Nat.reducePow, Int.reduceLT, Int.reduceToNat, reduceCtorEq, Int.reduceNeg, Int.reduceEq, Nat.reduceBEq, Nat.reduceBNe, Int.reduceBEq, Int.reduceBNe, String.reduceEq]; first | done | rfl)))) (ho : o.op = .buildSlice T 0 #[] := by rfl) (hg : gd ops { s with fr := needFr s.fr vals (nds1.getD i []) } o = some true := by first | with_reducible rfl | (simp only [push_cast, reduceIte, Nat.reduceEqDiff, Nat.reduceLT, Nat.reduceAdd, Nat.reduceSub, Nat.reduceMul, Nat.reduceLeDiff, Nat.reducePow, Int.reduceLT, Int.reduceToNat, reduceCtorEq, Int.reduceNeg, Int.reduceEq, Nat.reduceBEq, Nat.reduceBNe, Int.reduceBEq, Int.reduceBNe, String.reduceEq]; first | done | rfl | (simp (disch := omega) only [w_nat, w_add, w_addl, w_addr, w_sub, w_subl, w_mul, w_mull, w_mulr, w_u32, w_u16, w_u8, w_u32a, N_zero]; first | done | rfl | (simp only [push_cast, reduceIte, Nat.reduceEqDiff, Nat.reduceLT, Nat.reduceAdd, Nat.reduceSub, Nat.reduceMul, Nat.reduceLeDiff, Nat.reducePow, Int.reduceLT, Int.reduceToNat, reduceCtorEq, Int.reduceNeg, Int.reduceEq, Nat.reduceBEq, Nat.reduceBNe, Int.reduceBEq, Int.reduceBNe, String.reduceEq]; first | done | rfl))))
    (hz : elSz P T = some sz := by first | with_reducible rfl | (simp only [push_cast, reduceIte, Nat.reduceEqDiff, Nat.reduceLT, Nat.reduceAdd, Nat.reduceSub, Nat.reduceMul, Nat.reduceLeDiff, Nat.reducePow, Int.reduceLT, Int.reduceToNat, reduceCtorEq, Int.reduceNeg, Int.reduceEq, Nat.reduceBEq, Nat.reduceBNe, Int.reduceBEq, Int.reduceBNe, String.reduceEq]; first | done | rfl | (simp (disch := omega) only [w_nat, w_add, w_addl, w_addr, w_sub, w_subl, w_mul, w_mull, w_mulr, w_u32, w_u16, w_u8, w_u32a, N_zero]; first | done | rfl | (simp only [push_cast, reduceIte, Nat.reduceEqDiff, Nat.reduceLT, Nat.reduceAdd, Nat.reduceSub, Nat.reduceMul, Nat.reduceLeDiff, Nat.reducePow, Int.reduceLT, Int.reduceToNat, reduceCtorEq, Int.reduceNeg, Int.reduceEq, Nat.reduceBEq, Nat.reduceBNe, Int.reduceBEq, Int.reduceBNe, String.reduceEq]; first | done | rfl)))) (he : elT P T = some e := by first | with_reducible rfl | (simp only [push_cast, reduceIte, Nat.reduceEqDiff, Nat.reduceLT, Nat.reduceAdd, Nat.reduceSub, Nat.reduceMul, Nat.reduceLeDiff, Nat.reducePow, Int.reduceLT, Int.reduceToNat, reduceCtorEq, Int.reduceNeg, Int.reduceEq, Nat.reduceBEq, Nat.reduceBNe, Int.reduceBEq, Int.reduceBNe, String.reduceEq]; first | done | rfl | (simp (disch := omega) only [w_nat, w_add, w_addl, w_addr, w_sub, w_subl, w_mul, w_mull, w_mulr, w_u32, w_u16, w_u8, w_u32a, N_zero]; first | done | rfl | (simp only [push_cast, reduceIte, Nat.reduceEqDiff, Nat.reduceLT, Nat.reduceAdd, Nat.reduceSub, Nat.reduceMul, Nat.reduceLeDiff, Nat.reducePow, Int.reduceLT, Int.reduceToNat, reduceCtorEq, Int.reduceNeg, Int.reduceEq, Nat.reduceBEq, Nat.reduceBNe, Int.reduceBEq, Int.reduceBNe, String.reduceEq]; first | done | rfl)))) (hv : vals.getD i .any = .own s.ob.length := by rfl) : CL P ops s nds1 vals (i :: r) [] XL :=
  ⟨_, fun o' ho' => by
    have : o' = o := Option.some.inj (ho'.symm.trans hol)
    subst this
    rw [hv]
    exact CSpec.own hg ho hz he, k⟩
end cl
/-- the tail's checks -/
def tailB (ops : Array Oper) (n : Nat) : Bool := decide (n ≤ ops.size) && (decide (n = ops.size) || (((List.range n).all fun i => Region.waitsFor .any ops n i || (List.range n).any fun j => decide (i < j) && Region.waitsFor .any ops j i) &&
  ((List.range ops.size).all fun j => decide (j ≤ n) || (List.range j).any fun i => decide (n ≤ i) && Region.waitsFor .any ops j i)))
theorem tailB.tail {n : Nat} (h : tailB ops n = true) {listed : Array Bool} (inv : HeadInv .any ops n listed) (hex : ∃ i, i < n ∧ listed.getD i true = false) : ∀ t, n ≤ t → t ∉ Region.ready .any ops listed := by
  simp only [tailB, Bool.and_eq_true, decide_eq_true_eq, Bool.or_eq_true] at h
  obtain ⟨hn, h⟩ := h
  rcases h with h | ⟨hs, hc⟩
  · intro t ht hr
    obtain ⟨_, ot, hot, _⟩ := mem_ready.1 hr
    have := (Array.getElem?_eq_some_iff.1 hot).1
    omega
  · have key : ∀ (d i : Nat), n - i = d → i < n → listed.getD i true = false → ∀ t, n ≤ t → t ∉ Region.ready .any ops listed := by
      intro d
      induction d using Nat.strongRecOn with
      | _ d ih =>
        intro i hd hi hun t ht hr
        obtain ⟨_, ot, hot, hall⟩ := mem_ready.1 hr
        have htlt : t < ops.size := (Array.getElem?_eq_some_iff.1 hot).1
        by_cases htn : t = n
        · subst htn
          have h1 := List.all_eq_true.1 hs i (List.mem_range.2 hi)
          simp only [Bool.or_eq_true] at h1
          rcases h1 with h1 | h1
          · obtain ⟨oj, hoj, e, he, hb, hon⟩ := Region.waitsFor_spec h1
            have : oj = ot := Option.some.inj (hoj.symm.trans hot)
            subst this
            have h2 := hall e he hb
            rw [hon, getD_both hun] at h2
            cases h2
          · obtain ⟨j, hj, hj2⟩ := List.any_eq_true.1 h1
            simp only [Bool.and_eq_true, decide_eq_true_eq] at hj2
            obtain ⟨oj, hoj, e, he, hb, hon⟩ := Region.waitsFor_spec hj2.2
            have hjlt := List.mem_range.1 hj
            cases hl : listed.getD j false with
            | true =>
              have h2 := inv.closed j oj hoj hl e he hb
              rw [hon, getD_both hun] at h2
              cases h2
            | false =>
              have hjs : j < listed.size := by rw [inv.size]; omega
              exact ih (t - j) (by omega) j rfl (by omega) (getD_in hjs hl) t (Nat.le_refl _) hr
        · have h1 := List.all_eq_true.1 hc t (List.mem_range.2 htlt)
          simp only [Bool.or_eq_true, decide_eq_true_eq] at h1
          rcases h1 with h1 | h1
          · omega
          · obtain ⟨i', hi', h1⟩ := List.any_eq_true.1 h1
            simp only [Bool.and_eq_true, decide_eq_true_eq] at h1
            obtain ⟨o', ho', e, he, hb, hon⟩ := Region.waitsFor_spec h1.2
            have : o' = ot := Option.some.inj (ho'.symm.trans hot)
            subst this
            have h2 := hall e he hb
            have := List.mem_range.1 hi'
            rw [hon, getD_both (inv.tail i' h1.1 (by omega))] at h2
            cases h2
    obtain ⟨i, hin, hil⟩ := hex
    exact key _ i rfl hin hil
def ciB : List Nat → Nat → Bool
  | [], _ => false
  | j :: r, i => (j == i) || ciB r i
def valIds (p : Nat → Bool) (ci : List Nat) : Nat → List AV → Bool
  | _, [] => true
  | i, x :: r => (ciB ci i || x.idsOk p) && valIds p ci (i + 1) r
attribute [push_cast] ciB valIds Bool.true_or Bool.false_or
end
end Go.Abs
/- The reference's bytes of nodes: wharfref03.Bytes, wharfref08.Bytes. -/
set_option linter.unusedVariables false
set_option linter.unusedSimpArgs false
namespace Go.Proofs.YtmcedkcehcacpaaGreatDoor.C
open Go.Abs
mutual
/-- a node's value in the reference -/
def refV : GNode → List UInt8
  | .mk _ d k => d ++ joinF (refFs k)
def refFs : List GNode → List Frm
  | [] => []
  | n :: l => ⟨n.ty, refV n⟩ :: refFs l
end
theorem refV_eq (n : GNode) : refV n = n.data ++ joinF (refFs n.kids) := by cases n; simp [refV, GNode.data, GNode.kids]
theorem refFs_map : ∀ l : List GNode, refFs l = l.map fun n => ⟨n.ty, refV n⟩
  | [] => by simp [refFs]
  | n :: l => by simp [refFs, refFs_map l]
mutual
theorem refV_len : ∀ n : GNode, (refV n).length = vlen n
  | .mk t d k => by rw [refV, List.length_append, joinF_len, vlen, refFs_len k]
theorem refFs_len : ∀ l : List GNode, ((refFs l).map fun f => f.val.length) = nLens l
  | [] => by simp [refFs, nLens]
  | n :: l => by simp [refFs, nLens, refV_len n, refFs_len l]
end
theorem refB_len (l : List GNode) : (joinF (refFs l)).length = nSize l := by rw [joinF_len, refFs_len]; rfl
end Go.Proofs.YtmcedkcehcacpaaGreatDoor.C
/- What a box holds, told more weakly. No condition. -/
namespace Go.Abs
set_option linter.unusedVariables false
set_option linter.unusedSectionVars false
set_option linter.unusedSimpArgs false
section
variable {P : Program} {ops : Array Oper} {E : Env} {s s' : AS} {o : Oper} {rest : List Oper} {Q : AS → Prop} {R : Exit → AS → Prop}
theorem Le.subBox (k : Nat) {T : TypeId} {cs cs' : List AV} (hk : s.ob[k]? = some (.box T cs)) (h : HandL [] cs cs') (ho : cs'.all AV.oc = true) : Le s { s with ob := s.ob.set k (.box T cs') } := by
  intro E ρ B a w hs
  have r := hs.rw_
  obtain ⟨b, vs, fz, r1, r2, r3, r4, r5⟩ := r.obs k _ hk
  have h' : SubXL [] cs cs' := h
  have hro : RO w B E.bs ρ k (.box T cs') := ⟨b, vs, fz, r1, r2, r3, h'.rel (Nat.le_refl _) (by intro i k hik; simp at hik) r4, fun c hc => List.all_eq_true.1 ho c hc⟩
  have get : ∀ {i' : Nat} {o1 : Ob}, (s.ob.set k (.box T cs'))[i']? = some o1 → ∃ o2, s.ob[i']? = some o2 ∧ (o1.live = true → o2.live = true) := by
    intro i' o1 h1
    by_cases hik : k = i'
    · subst hik; exact ⟨_, hk, fun _ => rfl⟩
    · rw [List.getElem?_set_ne hik] at h1; exact ⟨o1, h1, fun h => h⟩
  have hrw : RW E (s.ob.set k (.box T cs')) ρ B w := by
    refine { ep := r.ep, os := r.os, tape := r.tape, output := r.output, size := r.size, block := r.block, pre := r.pre, bsub := r.bsub, bnew := r.bnew, blt := r.blt, len := by simpa using r.len, obs := ?_, dis := ?_, prv := ?_ }
    · intro j o hj
      by_cases hjk : k = j
      · subst hjk
        rw [List.getElem?_set_self (get_lt hk)] at hj
        have := Option.some.inj hj
        subst this
        exact hro
      · rw [List.getElem?_set_ne hjk] at hj; exact r.obs j o hj
    · intro i' j o o' u v b hij h1 l1 h2 l2
      obtain ⟨x1, y1, z1⟩ := get h1
      obtain ⟨x2, y2, z2⟩ := get h2
      exact r.dis i' j x1 x2 u v b hij y1 (z1 l1) y2 (z2 l2)
    · intro j o v b h1 l1
      obtain ⟨x1, y1, z1⟩ := get h1
      exact r.prv j x1 v b y1 (z1 l1)
  refine ⟨ρ, B, hrw, hs.m, hs.n, hs.df, ?_, hs.rf⟩
  exact hs.jj.chg ⟨rfl, rfl, rfl, Nat.le_refl _, fun _ _ _ => rfl, fun b hd => .inl (Dof.set hk rfl b hd), fun _ h => h, fun _ h => .inl h⟩ hrw.bd
/-- the box's content cs' is told; cs: what it is now -/
theorem AWp.subBox {c : Code} (k : Nat) (cs' : List AV) {T : TypeId} {cs : List AV} {ob' : List Ob} (h : HandL [] cs cs') (K : AWp P c { s with ob := ob' } R) (hk : s.ob[k]? = some (.box T cs) := by rfl) (ho : cs'.all AV.oc = true := by first | with_reducible rfl | (simp only [push_cast, reduceIte, Nat.reduceEqDiff, Nat.reduceLT, Nat.reduceAdd, Nat.reduceSub, Nat.reduceMul, Nat.reduceLeDiff, Nat.reducePow, Int.reduceLT, Int.reduceToNat, reduceCtorEq, Int.reduceNeg, Int.reduceEq, Nat.reduceBEq, Nat.reduceBNe, Int.reduceBEq, Int.reduceBNe, String.reduceEq]; first | done | rfl | (simp (disch := omega) only [w_nat, w_add, w_addl, w_addr, w_sub, w_subl, w_mul, w_mull, w_mulr, w_u32, w_u16, w_u8, w_u32a, N_zero]; first | done | rfl | (simp only [push_cast, reduceIte, Nat.reduceEqDiff, Nat.reduceLT, Nat.reduceAdd, Nat.reduceSub, Nat.reduceMul, Nat.reduceLeDiff, Nat.reducePow, Int.reduceLT, Int.reduceToNat, reduceCtorEq, Int.reduceNeg, Int.reduceEq, Nat.reduceBEq, Nat.reduceBNe, Int.reduceBEq, Int.reduceBNe, String.reduceEq]; first | done | rfl)))) (he : s.ob.set k (.box T cs') = ob' := by rfl) : AWp P c s R :=
  AWp.weak (Le.subBox k hk h ho) (he ▸ K)
end
end Go.Abs
/- wharflaw08: NodeDepths. -/
set_option linter.unusedVariables false
set_option linter.unusedSimpArgs false
namespace Go.Proofs.YtmcedkcehcacpaaGreatDoor.C
open Go.Abs
end Go.Proofs.YtmcedkcehcacpaaGreatDoor.C
/- Nodes written and read again: the plain law. -/
set_option linter.unusedVariables false
set_option linter.unusedSimpArgs false
namespace Go.Proofs.YtmcedkcehcacpaaGreatDoor.C
open Go.Abs
/-! ### frames, one after the other -/
theorem padB_mod (l : List UInt8) : (padB l).length % 4 = 0 := by rw [padB_len]; unfold upN gapN; omega
theorem padB_app (A X : List UInt8) (h : A.length % 4 = 0) : padB (A ++ X) = A ++ padB X := by
  have : gapN (A ++ X).length = gapN X.length := by rw [List.length_append]; unfold gapN; omega
  unfold padB; rw [this, List.append_assoc]
theorem join_app (A : List UInt8) (h : A.length % 4 = 0) : ∀ (l : List Frm) (X : List UInt8), l.foldl (fun out f => padB out ++ putF f) (A ++ X) = A ++ l.foldl (fun out f => padB out ++ putF f) X
  | [], X => rfl
  | f :: l, X => by rw [List.foldl_cons, List.foldl_cons, padB_app A X h, List.append_assoc, join_app A h l]
theorem padB_nil : padB [] = [] := by simp [padB, gapN]
theorem joinF_one (f : Frm) : joinF [f] = putF f := by simp [joinF, padB_nil]
theorem joinF_two (f g : Frm) (l : List Frm) : joinF (f :: g :: l) = padB (putF f) ++ joinF (g :: l) := by
  unfold joinF
  rw [List.foldl_cons, List.foldl_cons, padB_nil, List.nil_append, join_app _ (padB_mod _), List.foldl_cons, padB_nil, List.nil_append]
theorem checkL_mem {c dp : Nat} : ∀ {l : List GNode}, checkL c dp l = 0 → ∀ n ∈ l, checkN c dp n = 0
  | [], h, n, hn => by simp at hn
  | m :: l, h, n, hn => by
    rw [checkL] at h
    split at h
    · rename_i hm; exact absurd h hm
    · rename_i hm
      rcases List.mem_cons.1 hn with rfl | hn
      · simpa using hm
      · exact checkL_mem h n hn
theorem checkN_zero {c dp : Nat} {n : GNode} (h : checkN c dp n = 0) : dp ≤ 4 ∧ badN c n.ty n.data.length n.kids = false ∧ countedN c n.ty n.data = false ∧ checkL (insideN (shapeOf c n.ty).kids).1 (dp + 1) n.kids = 0 ∧ nSize [n] ≤ 65535 := by
  rw [checkN_eq] at h
  split at h
  · cases h
  · rename_i h1
    split at h
    · cases h
    · rename_i h2
      split at h
      · cases h
      · rename_i h3
        split at h
        · rename_i h4; exact absurd h h4
        · rename_i h4
          split at h
          · cases h
          · rename_i h5
            exact ⟨by omega, by simpa using h2, by simpa using h3, by simpa using h4, by omega⟩
theorem size_one (n : GNode) : nSize [n] = 4 + vlen n := by simp [nSize, nLens, tlvSize, sumUp, upN, gapN]
theorem enc_rt : ∀ (w dp c : Nat) (l : List GNode), wts l ≤ w → checkL c dp l = 0 → encN l = joinF (refFs l)
  | w, dp, c, l, hw, h => by
    have key : ∀ n ∈ l, frameN n = ⟨n.ty, refV n⟩ := by
      intro n hn
      have hz := checkN_zero (checkL_mem h n hn)
      have hlt := kids_lt hn
      match w with
      | 0 => omega
      | w + 1 =>
        have := enc_rt w (dp + 1) _ n.kids (by omega) hz.2.2.2.1
        unfold encN at this
        rw [frameN_eq, this, ← refV_eq]
    have e : framesN l = refFs l := by
      rw [framesN_map, refFs_map]
      exact List.map_congr_left key
    unfold encN joinX
    rw [e, if_pos]
    rw [List.all_eq_true]
    intro f hf
    rw [refFs_map] at hf
    obtain ⟨n, hn, rfl⟩ := List.mem_map.1 hf
    have hz := (checkN_zero (checkL_mem h n hn)).2.2.2.2
    rw [size_one] at hz
    have := refV_len n
    simp [fitF]; omega
end Go.Proofs.YtmcedkcehcacpaaGreatDoor.C
/- wharflaw08: NodeMatchesReference. -/
set_option linter.unusedVariables false
set_option linter.unusedSimpArgs false
namespace Go.Proofs.YtmcedkcehcacpaaGreatDoor.C
open Go.Abs
theorem right08_c (z : Int) : PC Tryz.prog 6 [.val (.int .i64 z)] (bool (z == 1 || z == 2)) := by
  refine PC.of_bodyW (by simp only [push_cast]) Tryz.func6 rfl (by rw [Tryz.ntmps6]; simp) ?_
  refine AWp.regionW ?_
  refine AWp.regionA fun K1 hK1 => ?_
  refine ARun.segm 3 fun KS hKS => ?_
  refine ARun2.endm (hKS _ ?_); clear hKS KS
  apply ARun.grpM 2 2 false 7 [5]
  · intro g2 KG hKG
    refine ARun2.gom ?_
    exact ARun2.endm (hKG _ Le.grpM)
  refine ARun2.gom ?_
  refine ARun2.endm (hK1 _ ?_)
  refine AWp.ret ?_
  try simp only [thenQ, blockQ, noGo]
  refine bodyQ.m ?_
  clear hK1 K1
  first | done | exact Hand.go
end Go.Proofs.YtmcedkcehcacpaaGreatDoor.C
/- The reference: Types; plain laws on values. -/
set_option linter.unusedVariables false
set_option linter.unusedSimpArgs false
namespace Go.Proofs.YtmcedkcehcacpaaGreatDoor.C
open Go.Abs
theorem putB2_be (a b : UInt8) : putB 2 (beN [a, b]) = [a, b] := by
  have ha := a.toNat_lt
  have hb := b.toNat_lt
  rw [putB2, twoB]
  have e : beN [a, b] = a.toNat * 256 + b.toNat := by simp [beN]
  rw [e]
  congr 1
  · apply UInt8.toNat_inj.1; rw [UInt8.toNat_ofNat']; omega
  · congr 1; apply UInt8.toNat_inj.1; rw [UInt8.toNat_ofNat']; omega
end Go.Proofs.YtmcedkcehcacpaaGreatDoor.C
/- Bytes read as nodes are the bytes of these nodes, which are right: the plain law. -/
set_option linter.unusedVariables false
set_option linter.unusedSimpArgs false
namespace Go.Proofs.YtmcedkcehcacpaaGreatDoor.C
open Go.Abs
theorem putB4_2 (a b c d : UInt8) (r : List UInt8) (v : List UInt8) (hv : v = r) (hn : beN [c, d] = 4 + r.length) : putF ⟨beN [a, b], v⟩ = a :: b :: c :: d :: r := by
  subst hv
  simp only [putF, putB2_be, ← hn]
  rfl
theorem zeroB_iff (l : List UInt8) : zeroB l = true ↔ l = List.replicate l.length 0 := by
  unfold zeroB
  rw [List.all_eq_true, List.eq_replicate_iff]
  simp
theorem read_back (A X : List UInt8) (hA : A.length % 4 = 0) (hX : X ≠ []) (he : (readN (A ++ X) A.length).2.2 = .ok) :
    (X = putF (readN (A ++ X) A.length).1 ∧ (readN (A ++ X) A.length).2.1 = (A ++ X).length) ∨
    (∃ Y, Y ≠ [] ∧ X = padB (putF (readN (A ++ X) A.length).1) ++ Y ∧ (readN (A ++ X) A.length).2.1 = (A ++ padB (putF (readN (A ++ X) A.length).1)).length) := by
  have hd : (A ++ X).drop A.length = X := by rw [List.drop_append_of_le_length (Nat.le_refl _), List.drop_of_length_le (Nat.le_refl _), List.nil_append]
  have hl : (A ++ X).length = A.length + X.length := List.length_append
  unfold readN at he ⊢
  rw [hd, hl] at he ⊢
  split at he
  case isFalse => cases he
  rename_i hc
  rw [if_pos hc]
  obtain ⟨c1, c2, c3⟩ := hc
  obtain ⟨a, b, c, d, r, rfl⟩ : ∃ a b c d r, X = a :: b :: c :: d :: r := by
    match X, hX, c1 with
    | a :: b :: c :: d :: r, _, _ => exact ⟨a, b, c, d, r, rfl⟩
    | [a], _, h => simp at h
    | [a, b], _, h => simp at h
    | [a, b, c], _, h => simp at h
  have p2 : peekN 2 (a :: b :: c :: d :: r) 2 = beN [c, d] := by unfold peekN; rw [if_pos (by simp)]; rfl
  have p0 : peekN 2 (a :: b :: c :: d :: r) 0 = beN [a, b] := by unfold peekN; rw [if_pos (by simp)]; rfl
  have hrl : (a :: b :: c :: d :: r).length = 4 + r.length := by simp; omega
  rw [p2] at c2 c3 he ⊢
  rw [p0]
  rw [hrl] at c1 c3 he ⊢
  obtain ⟨n, hn⟩ : ∃ n, n = beN [c, d] := ⟨_, rfl⟩
  rw [← hn] at c2 c3 he ⊢
  have hv : ((a :: b :: c :: d :: r).drop 4).take (n - 4) = r.take (n - 4) := rfl
  rw [hv]
  have hpf : putF ⟨beN [a, b], r.take (n - 4)⟩ = (a :: b :: c :: d :: r).take n := by
    rw [putB4_2 a b c d (r.take (n - 4)) _ rfl (by rw [← hn, List.length_take]; omega)]
    obtain ⟨k, rfl⟩ : ∃ k, n = 4 + k := ⟨n - 4, by omega⟩
    rw [show 4 + k - 4 = k by omega, show 4 + k = k + 1 + 1 + 1 + 1 by omega]
    simp only [List.take_succ_cons]
  split at he
  · rename_i h1
    rw [if_pos h1]
    left
    refine ⟨?_, h1⟩
    show _ = putF ⟨beN [a, b], r.take (n - 4)⟩
    rw [hpf, List.take_of_length_le (by rw [hrl]; omega)]
  · rename_i h1
    rw [if_neg h1]
    split at he
    case isFalse => cases he
    rename_i h2
    rw [if_pos h2]
    right
    obtain ⟨h2, h3⟩ := h2
    obtain ⟨X, hXe⟩ : ∃ X, X = a :: b :: c :: d :: r := ⟨_, rfl⟩
    rw [← hXe] at h2 h3 hpf ⊢
    have hXl : X.length = 4 + r.length := by rw [hXe]; exact hrl
    have hnx : nextN (A ++ X) (A.length + n) = some (upN (A.length + n)) ∧ upN (A.length + n) ≤ (A ++ X).length ∧ zeroB (((A ++ X).take (upN (A.length + n))).drop (A.length + n)) = true := by
      unfold nextN at h2 ⊢
      split at h2
      · rename_i hc; exact ⟨by rw [if_pos hc], hc.2.1, hc.2.2⟩
      · simp at h2
    obtain ⟨q1, q2, q3⟩ := hnx
    rw [q1, Option.getD_some] at h3 ⊢
    have hu : upN (A.length + n) = A.length + upN n := by unfold upN gapN; omega
    have hun : upN n = n + gapN n := rfl
    have hlen : (X.take n).length = n := by rw [List.length_take]; omega
    rw [List.length_append] at q2
    have hpad : padB (X.take n) = X.take (upN n) := by
      unfold padB
      rw [hlen, hun, List.take_add]
      congr 1
      have hz : ((A ++ X).take (upN (A.length + n))).drop (A.length + n) = (X.drop n).take (gapN n) := by
        rw [hu, List.take_append, List.take_of_length_le (by omega), show A.length + upN n - A.length = upN n by omega, List.drop_append, List.drop_of_length_le (by omega), List.nil_append, show A.length + n - A.length = n by omega, List.drop_take, hun, show n + gapN n - n = gapN n by omega]
      rw [hz, zeroB_iff] at q3
      rw [q3, List.length_take, List.length_drop, Nat.min_eq_left (by omega)]
    refine ⟨X.drop (upN n), ?_, ?_, ?_⟩
    · intro h0
      have := congrArg List.length h0
      simp at this
      omega
    · show X = padB (putF ⟨beN [a, b], r.take (n - 4)⟩) ++ _
      rw [hpf, hpad, List.take_append_drop]
    · show _ = (A ++ padB (putF ⟨beN [a, b], r.take (n - 4)⟩)).length
      rw [hpf, List.length_append, padB_len, hlen, hu]
theorem scan_back : ∀ (k : Nat) (A X : List UInt8), A.length % 4 = 0 → X.length ≤ k → (scan (A ++ X) k A.length).2 = .ok → joinF ((scan (A ++ X) k A.length).1.map (·.2)) = X
  | 0, A, X, hA, hk, h => by
    obtain rfl : X = [] := List.eq_nil_of_length_eq_zero (by omega)
    rfl
  | k + 1, A, X, hA, hk, h => by
    rw [scan] at h ⊢
    by_cases hX : X = []
    · subst hX
      rw [if_neg (by simp)]; rfl
    · have hpos : 0 < X.length := List.length_pos_iff.2 hX
      rw [if_pos (by simp; omega)] at h ⊢
      cases he : (readN (A ++ X) A.length).2.2 with
      | code c => simp [he] at h
      | flt c j => simp [he] at h
      | ok =>
        simp only [he] at h ⊢
        rcases read_back A X hA hX he with ⟨h1, h2⟩ | ⟨Y, h1, h2, h3⟩
        · have hs : scan (A ++ X) k (A ++ X).length = ([], .ok) := by
            cases k with
            | zero => rfl
            | succ k => rw [scan, if_neg (by omega)]
          rw [h2, hs]
          simp only [List.map_cons, List.map_nil]
          rw [joinF_one]; exact h1.symm
        · generalize hr : readN (A ++ X) A.length = q at h1 h2 h3 h he
          rw [h3] at h ⊢
          have e : A ++ X = (A ++ padB (putF q.1)) ++ Y := by rw [h2, List.append_assoc]
          rw [e] at h ⊢
          have hl : (putF q.1).length = 4 + q.1.val.length := putF_len _
          have hp := padB_len (putF q.1)
          have hXl : X.length = (padB (putF q.1)).length + Y.length := by rw [h2, List.length_append]
          have hu : (putF q.1).length ≤ upN (putF q.1).length := by unfold upN; omega
          have ih := scan_back k (A ++ padB (putF q.1)) Y (by rw [List.length_append]; have := padB_mod (putF q.1); omega) (by omega) h
          cases hz : (scan ((A ++ padB (putF q.1)) ++ Y) k (A ++ padB (putF q.1)).length).1 with
          | nil => rw [hz] at ih; exact absurd ih.symm h1
          | cons p l =>
            rw [hz] at ih
            simp only [List.map_cons] at ih ⊢
            rw [joinF_two, ih]; exact h2.symm
theorem readN_val (b : List UInt8) (i : Nat) : (readN b i).1.val.length ≤ 65531 := by
  have hp := peek2_lt (b.drop i) 2
  unfold readN
  split
  · split
    · simp only [List.length_take]; omega
    · split
      · simp only [List.length_take]; omega
      · simp [frm0]
  · simp [frm0]
theorem scan_val (b : List UInt8) : ∀ (k i : Nat), ∀ p ∈ (scan b k i).1, p.2.val.length ≤ 65531 ∧ p.2.ty < 65536
  | 0, i, p, h => by simp [scan] at h
  | k + 1, i, p, h => by
    rw [scan] at h
    split at h
    · rename_i hi
      cases he : (readN b i).2.2 with
      | ok =>
        simp only [he] at h
        rcases List.mem_cons.1 h with rfl | h
        · exact ⟨readN_val b i, readN_ty b i⟩
        · exact scan_val b k _ p h
      | code c => simp [he] at h
      | flt c j => simp [he] at h
    · simp at h
/-- what is known of nodes that were read -/
def Back (c dp : Nat) (l : List GNode) (b : List UInt8) : Prop := checkL c dp l = 0 ∧ joinF (refFs l) = b ∧ tysOk l = true
theorem kidsOk_nil {f : ShForm} (h : f.kids = 0) : kidsOk f [] = true := by unfold kidsOk; rw [h]; rfl
theorem one_back (m c dp : Nat) (hdp : dp ≤ 4) (f : Frm) (i : Nat) (hf : f.val.length ≤ 65531) (hty : f.ty < 65536)
    (ih : ∀ (c : Nat) (b : List UInt8) (i : Nat), (c = 1 ∨ c = 2) → (parseF m c b i).2 = .ok → Back c (dp + 1) (parseF m c b i).1 b)
    (h : (oneF (parseF m) c f i).2 = .ok) : checkN c dp (oneF (parseF m) c f i).1 = 0 ∧ (⟨(oneF (parseF m) c f i).1.ty, refV (oneF (parseF m) c f i).1⟩ : Frm) = f ∧ (oneF (parseF m) c f i).1.tyOk = true := by
  have key : ∀ (d : List UInt8) (k : List GNode), badN c f.ty d.length k = false → countedN c f.ty d = false → checkL (insideN (shapeOf c f.ty).kids).1 (dp + 1) k = 0 → d ++ joinF (refFs k) = f.val → tysOk k = true →
      checkN c dp (.mk f.ty d k) = 0 ∧ (⟨(GNode.mk f.ty d k).ty, refV (.mk f.ty d k)⟩ : Frm) = f ∧ (GNode.mk f.ty d k).tyOk = true := by
    intro d k h1 h2 h3 h4 h5
    have hv : refV (.mk f.ty d k) = f.val := by rw [refV]; exact h4
    have hs : nSize [GNode.mk f.ty d k] = 4 + f.val.length := by rw [size_one, ← refV_len, hv]
    refine ⟨?_, ?_, ?_⟩
    · rw [checkN_eq]
      simp only [GNode.ty, GNode.data, GNode.kids]
      have hs' : ¬ 65535 < nSize [GNode.mk f.ty d k] := by rw [hs]; omega
      have hdp' : ¬ 4 < dp := by omega
      simp [h1, h2, h3, hs', hdp']
    · rw [hv]; rfl
    · rw [GNode.tyOk_eq]; simp [GNode.ty, GNode.kids, h5, hty]
  unfold oneF at h ⊢
  split at h
  · rename_i hs
    rw [if_pos hs]
    refine key f.val [] ?_ ?_ rfl (by simp [refFs, joinF]) rfl
    · unfold badN; rw [hs]; simp
    · unfold countedN
      cases hz : (c == 2 && (f.ty == 2 && (!decide (4 ≤ f.val.length) || peekN 4 f.val 0 != (f.val.length - 4) / 2))) with
      | false => rfl
      | true =>
        exfalso
        simp only [Bool.and_eq_true, beq_iff_eq] at hz
        rw [hz.1, hz.2.1] at hs
        cases hs
  · rename_i hs
    have hs' : shapeHas c f.ty = true := by simpa using hs
    rw [if_neg hs]
    split at h
    · cases h
    · rename_i hft
      have hft' : fitsN (shapeOf c f.ty) (dataOf c f).length = true := by simpa using hft
      rw [if_neg hft]
      split at h
      · cases h
      · rename_i hct
        rw [if_neg hct]
        have hct' : countedN c f.ty (dataOf c f) = false := by simpa using hct
        split at h
        · rename_i hk0
          rw [if_pos hk0]
          have hd : dataOf c f = f.val := by unfold dataOf; rw [if_neg (by simp [hk0])]
          refine key (dataOf c f) [] ?_ hct' rfl (by simp [refFs, joinF, hd]) rfl
          unfold badN; rw [hs', hft', kidsOk_nil hk0]; simp
        · rename_i hk0
          rw [if_neg hk0]
          have hcl := inside_cls (shape_kids4 c f.ty) hk0
          obtain ⟨R, hR⟩ : ∃ R, R = parseF m (insideN (shapeOf c f.ty).kids).1 (f.val.drop (shapeOf c f.ty).least) (i + 4 + (shapeOf c f.ty).least) := ⟨_, rfl⟩
          have hih := ih (insideN (shapeOf c f.ty).kids).1 (f.val.drop (shapeOf c f.ty).least) (i + 4 + (shapeOf c f.ty).least) hcl
          rw [← hR] at h hih ⊢
          split at h
          · rename_i hno; exact absurd h hno
          · rename_i hok
            have hok' : R.2 = .ok := by simpa using hok
            rw [if_neg hok]
            split at h
            · cases h
            · rename_i hkk
              have hkk' : kidsOk (shapeOf c f.ty) R.1 = true := by simpa using hkk
              rw [if_neg hkk]
              obtain ⟨b1, b2, b3⟩ := hih hok'
              have hle := fits_least hft'
              have hdl := dataOf_len c f
              have hd : dataOf c f = f.val.take (shapeOf c f.ty).least := by unfold dataOf; rw [if_pos ⟨hk0, by omega⟩]
              refine key (dataOf c f) R.1 ?_ hct' b1 ?_ b3
              · unfold badN; rw [hs', hft', hkk']; simp
              · rw [b2, hd, List.take_append_drop]
theorem goF_back (one : Frm → Nat → GNode × Er) (i c dp : Nat) : ∀ (l : List (Nat × Frm)), (∀ p ∈ l, (one p.2 (i + p.1)).2 = .ok → checkN c dp (one p.2 (i + p.1)).1 = 0 ∧ (⟨(one p.2 (i + p.1)).1.ty, refV (one p.2 (i + p.1)).1⟩ : Frm) = p.2 ∧ (one p.2 (i + p.1)).1.tyOk = true) →
    (goF one i l).2 = .ok → checkL c dp (goF one i l).1 = 0 ∧ refFs (goF one i l).1 = l.map (·.2) ∧ tysOk (goF one i l).1 = true
  | [], _, _ => ⟨rfl, by simp [goF, refFs], rfl⟩
  | p :: l, hp, h => by
    simp only [goF] at h ⊢
    split at h
    · rename_i h1
      split at h
      · rename_i h2
        rw [if_pos h1, if_pos h2]
        obtain ⟨a1, a2, a3⟩ := hp p (by simp) h1
        obtain ⟨b1, b2, b3⟩ := goF_back one i c dp l (fun q hq => hp q (by simp [hq])) h2
        refine ⟨by rw [checkL, a1]; simpa using b1, ?_, by rw [tysOk, a3, b3]; rfl⟩
        simp only [refFs, List.map_cons, b2, a2]
      · rename_i h2; exact absurd h h2
    · rename_i h1; exact absurd h h1
theorem parse_back : ∀ (m dp c : Nat) (b : List UInt8) (i : Nat), dp + m = 5 → (c = 1 ∨ c = 2) → (parseF m c b i).2 = .ok → Back c dp (parseF m c b i).1 b := by
  intro m
  induction m with
  | zero =>
    intro dp c b i hdm hc h
    rw [parseF_eq] at h ⊢
    split at h
    · rename_i hs
      rw [if_pos hs]
      have hb := scan_back b.length [] b rfl (Nat.le_refl _) hs
      have := goF_back (oneD 0 c) i c dp (scan b b.length 0).1 (fun p _ hp => by cases hp) h
      exact ⟨this.1, by rw [this.2.1]; exact hb, this.2.2⟩
    · rename_i hs
      cases he : (scan b b.length 0).2 <;> simp [he, Er.shift] at h hs
  | succ m ih =>
    intro dp c b i hdm hc h
    rw [parseF_eq] at h ⊢
    split at h
    · rename_i hs
      rw [if_pos hs]
      have hb := scan_back b.length [] b rfl (Nat.le_refl _) hs
      have hv := scan_val b b.length 0
      have := goF_back (oneD (m + 1) c) i c dp (scan b b.length 0).1 (fun p hp h1 => one_back m c dp (by omega) p.2 _ (hv p hp).1 (hv p hp).2 (fun c b i hc h => ih (dp + 1) c b i (by omega) hc h) h1) h
      exact ⟨this.1, by rw [this.2.1]; exact hb, this.2.2⟩
    · rename_i hs
      cases he : (scan b b.length 0).2 <;> simp [he, Er.shift] at h hs
end Go.Proofs.YtmcedkcehcacpaaGreatDoor.C
/- x[lo:hi] in a drawn head. No condition. -/
namespace Go.Abs
set_option linter.unusedVariables false
set_option linter.unusedSectionVars false
section
variable {P : Program} {ops : Array Oper} {E : Env} {s s' : AS} {o : Oper} {rest : List Oper} {Q : AS → Prop} {R : Exit → AS → Prop} {nds : List (List (Nat × Option Nat))} {vals : List AV} {G : Prop}
theorem Dr.slice {T : TypeId} {x lo hi : Operand} {nw : Bool} {sz : Nat} {xs : List AV} {kk k' : IntKind} (m n : Nat) (hmn : m ≤ n) (hnl : n ≤ xs.length) (k : Dr P ops s nds (vals ++ [.sl nw sz ((xs.take n).drop m)]) G) (hn : ndsB nds = true := by first | rfl | decide) (hol : ops[vals.length]? = some o := by first | with_reducible rfl | (simp only [push_cast, reduceIte, Nat.reduceEqDiff, Nat.reduceLT, Nat.reduceAdd, Nat.reduceSub, Nat.reduceMul, Nat.reduceLeDiff, Nat.reducePow, Int.reduceLT, Int.reduceToNat, reduceCtorEq, Int.reduceNeg, Int.reduceEq, Nat.reduceBEq, Nat.reduceBNe, Int.reduceBEq, Int.reduceBNe, String.reduceEq]; first | done | rfl | (simp (disch := omega) only [w_nat, w_add, w_addl, w_addr, w_sub, w_subl, w_mul, w_mull, w_mulr, w_u32, w_u16, w_u8, w_u32a, N_zero]; first | done | rfl | (simp only [push_cast, reduceIte, Nat.reduceEqDiff, Nat.reduceLT, Nat.reduceAdd, Nat.reduceSub, Nat.reduceMul, Nat.reduceLeDiff, Nat.reducePow, Int.reduceLT, Int.reduceToNat, reduceCtorEq, Int.reduceNeg, Int.reduceEq, Nat.reduceBEq, Nat.reduceBNe, Int.reduceBEq, Int.reduceBNe, String.reduceEq]; first | done | rfl))))
    (ho : o.op = .slice T x (some lo) (some hi) none := by rfl) (hg : gd ops { s with fr := needFr s.fr vals (nds.getD vals.length []) } o = some true := by first | with_reducible rfl | (simp only [push_cast, reduceIte, Nat.reduceEqDiff, Nat.reduceLT, Nat.reduceAdd, Nat.reduceSub, Nat.reduceMul, Nat.reduceLeDiff, Nat.reducePow, Int.reduceLT, Int.reduceToNat, reduceCtorEq, Int.reduceNeg, Int.reduceEq, Nat.reduceBEq, Nat.reduceBNe, Int.reduceBEq, Int.reduceBNe, String.reduceEq]; first | done | rfl | (simp (disch := omega) only [w_nat, w_add, w_addl, w_addr, w_sub, w_subl, w_mul, w_mull, w_mulr, w_u32, w_u16, w_u8, w_u32a, N_zero]; first | done | rfl | (simp only [push_cast, reduceIte, Nat.reduceEqDiff, Nat.reduceLT, Nat.reduceAdd, Nat.reduceSub, Nat.reduceMul, Nat.reduceLeDiff, Nat.reducePow, Int.reduceLT, Int.reduceToNat, reduceCtorEq, Int.reduceNeg, Int.reduceEq, Nat.reduceBEq, Nat.reduceBNe, Int.reduceBEq, Int.reduceBNe, String.reduceEq]; first | done | rfl)))) (hx : AS.ev { s with fr := needFr s.fr vals (nds.getD vals.length []) } x = .sl nw sz xs := by first | with_reducible rfl | (simp only [push_cast, reduceIte, Nat.reduceEqDiff, Nat.reduceLT, Nat.reduceAdd, Nat.reduceSub, Nat.reduceMul, Nat.reduceLeDiff, Nat.reducePow, Int.reduceLT, Int.reduceToNat, reduceCtorEq, Int.reduceNeg, Int.reduceEq, Nat.reduceBEq, Nat.reduceBNe, Int.reduceBEq, Int.reduceBNe, String.reduceEq]; first | done | rfl | (simp (disch := omega) only [w_nat, w_add, w_addl, w_addr, w_sub, w_subl, w_mul, w_mull, w_mulr, w_u32, w_u16, w_u8, w_u32a, N_zero]; first | done | rfl | (simp only [push_cast, reduceIte, Nat.reduceEqDiff, Nat.reduceLT, Nat.reduceAdd, Nat.reduceSub, Nat.reduceMul, Nat.reduceLeDiff, Nat.reducePow, Int.reduceLT, Int.reduceToNat, reduceCtorEq, Int.reduceNeg, Int.reduceEq, Nat.reduceBEq, Nat.reduceBNe, Int.reduceBEq, Int.reduceBNe, String.reduceEq]; first | done | rfl))))
    (hl : AS.ev { s with fr := needFr s.fr vals (nds.getD vals.length []) } lo = .val (.int kk (N m)) := by first | with_reducible rfl | (simp only [push_cast, reduceIte, Nat.reduceEqDiff, Nat.reduceLT, Nat.reduceAdd, Nat.reduceSub, Nat.reduceMul, Nat.reduceLeDiff, Nat.reducePow, Int.reduceLT, Int.reduceToNat, reduceCtorEq, Int.reduceNeg, Int.reduceEq, Nat.reduceBEq, Nat.reduceBNe, Int.reduceBEq, Int.reduceBNe, String.reduceEq]; first | done | rfl | (simp (disch := omega) only [w_nat, w_add, w_addl, w_addr, w_sub, w_subl, w_mul, w_mull, w_mulr, w_u32, w_u16, w_u8, w_u32a, N_zero]; first | done | rfl | (simp only [push_cast, reduceIte, Nat.reduceEqDiff, Nat.reduceLT, Nat.reduceAdd, Nat.reduceSub, Nat.reduceMul, Nat.reduceLeDiff, Nat.reducePow, Int.reduceLT, Int.reduceToNat, reduceCtorEq, Int.reduceNeg, Int.reduceEq, Nat.reduceBEq, Nat.reduceBNe, Int.reduceBEq, Int.reduceBNe, String.reduceEq]; first | done | rfl)))) (hh : AS.ev { s with fr := needFr s.fr vals (nds.getD vals.length []) } hi = .val (.int k' (N n)) := by first | with_reducible rfl | (simp only [push_cast, reduceIte, Nat.reduceEqDiff, Nat.reduceLT, Nat.reduceAdd, Nat.reduceSub, Nat.reduceMul, Nat.reduceLeDiff, Nat.reducePow, Int.reduceLT, Int.reduceToNat, reduceCtorEq, Int.reduceNeg, Int.reduceEq, Nat.reduceBEq, Nat.reduceBNe, Int.reduceBEq, Int.reduceBNe, String.reduceEq]; first | done | rfl | (simp (disch := omega) only [w_nat, w_add, w_addl, w_addr, w_sub, w_subl, w_mul, w_mull, w_mulr, w_u32, w_u16, w_u8, w_u32a, N_zero]; first | done | rfl | (simp only [push_cast, reduceIte, Nat.reduceEqDiff, Nat.reduceLT, Nat.reduceAdd, Nat.reduceSub, Nat.reduceMul, Nat.reduceLeDiff, Nat.reducePow, Int.reduceLT, Int.reduceToNat, reduceCtorEq, Int.reduceNeg, Int.reduceEq, Nat.reduceBEq, Nat.reduceBNe, Int.reduceBEq, Int.reduceBNe, String.reduceEq]; first | done | rfl)))) (hz : elSz P T = some sz := by first | with_reducible rfl | (simp only [push_cast, reduceIte, Nat.reduceEqDiff, Nat.reduceLT, Nat.reduceAdd, Nat.reduceSub, Nat.reduceMul, Nat.reduceLeDiff, Nat.reducePow, Int.reduceLT, Int.reduceToNat, reduceCtorEq, Int.reduceNeg, Int.reduceEq, Nat.reduceBEq, Nat.reduceBNe, Int.reduceBEq, Int.reduceBNe, String.reduceEq]; first | done | rfl | (simp (disch := omega) only [w_nat, w_add, w_addl, w_addr, w_sub, w_subl, w_mul, w_mull, w_mulr, w_u32, w_u16, w_u8, w_u32a, N_zero]; first | done | rfl | (simp only [push_cast, reduceIte, Nat.reduceEqDiff, Nat.reduceLT, Nat.reduceAdd, Nat.reduceSub, Nat.reduceMul, Nat.reduceLeDiff, Nat.reducePow, Int.reduceLT, Int.reduceToNat, reduceCtorEq, Int.reduceNeg, Int.reduceEq, Nat.reduceBEq, Nat.reduceBNe, Int.reduceBEq, Int.reduceBNe, String.reduceEq]; first | done | rfl)))) : Dr P ops s nds vals G := by
  refine Dr.step hn hol (NSpec.cast ?_ (NSpec.slice (l := N m) (h := N n) hg ho hx (by rw [Option.map_some, hl]; rfl) (fun h => by cases h) (by rw [Option.map_some, hh]; rfl) (fun h => by cases h) hz (Int.natCast_nonneg m) (Int.ofNat_le.2 hmn) (Int.ofNat_le.2 hnl))) k
  rw [N_toNat, N_toNat]
end
end Go.Abs
/- The reference's reading: wharfref06.Split, wharfref08.Parse. -/
set_option linter.unusedVariables false
set_option linter.unusedSimpArgs false
namespace Go.Proofs.YtmcedkcehcacpaaGreatDoor.C
open Go.Abs
theorem zeroB_take {l : List UInt8} {i : Nat} (hil : i < l.length) (h : zeroB (l.take i) = true) (h0 : l[i] = 0) : zeroB (l.take (i + 1)) = true := by
  unfold zeroB at *
  rw [List.take_succ_eq_append_getElem hil, List.all_append, h]
  simp [h0]
theorem zeroB_no {l : List UInt8} {i : Nat} (hil : i < l.length) (h0 : l[i] ≠ 0) : zeroB l = false := by
  unfold zeroB
  rw [List.all_eq_false]
  exact ⟨l[i], List.getElem_mem hil, by simpa using h0⟩
theorem zero03_c (l : List UInt8) (hl : l.length ≤ 2 ^ 40) : PC Tryz.prog 60 [.sl false 1 (bys l)] (bool (zeroB l)) := by
  refine PC.of_bodyW (by simp only [push_cast]) Tryz.func60 rfl (by rw [Tryz.ntmps60]; simp) ?_
  refine AWp.regionW ?_
  refine AWp.seqK fun K1 hK1 => ?_
  refine AWp.regionW ?_
  refine AWp.block ?_
  refine AWp.loopK0 [0] (fun (i : Nat) => [(3, nat i)]) (fun i => i ≤ l.length ∧ zeroB (l.take i) = true) (fun i => l.length - i) (0) ?_ ⟨Nat.zero_le _, rfl⟩ ?_
  · skip
    refine Le.m 0 ?_ ?_
    · first | with_reducible rfl | (simp only [push_cast, reduceIte, Nat.reduceEqDiff, Nat.reduceLT, Nat.reduceAdd, Nat.reduceSub, Nat.reduceMul, Nat.reduceLeDiff, Nat.reducePow, Int.reduceLT, Int.reduceToNat, reduceCtorEq, Int.reduceNeg, Int.reduceEq, Nat.reduceBEq, Nat.reduceBNe, Int.reduceBEq, Int.reduceBNe, String.reduceEq]; first | done | rfl | (simp (disch := omega) only [w_nat, w_add, w_addl, w_addr, w_sub, w_subl, w_mul, w_mull, w_mulr, w_u32, w_u16, w_u8, w_u32a, N_zero]; first | done | rfl))
    · first | (simp only [push_cast, reduceIte, Nat.reduceEqDiff, Nat.reduceLT, Nat.reduceAdd, Nat.reduceSub, Nat.reduceMul, Nat.reduceLeDiff, Nat.reducePow, Int.reduceLT, Int.reduceToNat, reduceCtorEq, Int.reduceNeg, Int.reduceEq, Nat.reduceBEq, Nat.reduceBNe, Int.reduceBEq, Int.reduceBNe, String.reduceEq]; first | done | rfl | (simp (disch := omega) only [w_nat, w_add, w_addl, w_addr, w_sub, w_subl, w_mul, w_mull, w_mulr, w_u32, w_u16, w_u8, w_u32a, N_zero]; first | done | rfl))
  · intro i hi K2 hK2
    refine AWp.seqK fun K3 hK3 => ?_
    refine AWp.regionW ?_
    refine AWp.condLM (fun c0 => ?_) (fun c0 => ?_)
    · skip
      have hil : i < l.length := by simpa using c0
      refine AWp.skip ?_
      refine hK3 _ ?_
      refine AWp.seqK fun K4 hK4 => ?_
      refine AWp.block ?_
      refine AWp.regionM fun K5 hK5 => ?_
      refine ARun2.indexM (i) (.val (.int .u8 (N l[i].toNat))) ?_ ?_
      · rw [bys_get, List.getElem?_eq_getElem hil]; rfl
      refine ARun2.endm (hK5 _ ?_)
      refine AWp.condLM (fun c1 => ?_) (fun c1 => ?_)
      · skip
        have hne : l[i] ≠ 0 := by
          intro h; rw [h] at c1; simp [N] at c1
        have hz := zeroB_no hil hne
        refine AWp.regionW ?_
        refine AWp.ret ?_
        try simp only [thenQ, blockQ, noGo]
        refine bodyQ.m ?_
        clear hK5 K5 hK4 K4 hK3 K3 hK2 K2 hK1 K1
        rw [hz]
        first | done | exact Hand.go
      · skip
        have heq : l[i] = 0 := by
          apply UInt8.toNat_inj.1; simp [N] at c1; simpa using c1
        refine AWp.skip ?_
        refine hK4 _ ?_
        refine AWp.regionV ?_
        refine hK2 _ (i + 1) (⟨hil, zeroB_take hil hi.2 heq⟩) (by omega) ?_
        refine Le.m 0 ?_ ?_
        · first | with_reducible rfl | (simp only [push_cast, reduceIte, Nat.reduceEqDiff, Nat.reduceLT, Nat.reduceAdd, Nat.reduceSub, Nat.reduceMul, Nat.reduceLeDiff, Nat.reducePow, Int.reduceLT, Int.reduceToNat, reduceCtorEq, Int.reduceNeg, Int.reduceEq, Nat.reduceBEq, Nat.reduceBNe, Int.reduceBEq, Int.reduceBNe, String.reduceEq]; first | done | rfl | (simp (disch := omega) only [w_nat, w_add, w_addl, w_addr, w_sub, w_subl, w_mul, w_mull, w_mulr, w_u32, w_u16, w_u8, w_u32a, N_zero]; first | done | rfl))
        · first | (simp only [push_cast, reduceIte, Nat.reduceEqDiff, Nat.reduceLT, Nat.reduceAdd, Nat.reduceSub, Nat.reduceMul, Nat.reduceLeDiff, Nat.reducePow, Int.reduceLT, Int.reduceToNat, reduceCtorEq, Int.reduceNeg, Int.reduceEq, Nat.reduceBEq, Nat.reduceBNe, Int.reduceBEq, Int.reduceBNe, String.reduceEq]; first | done | rfl | (simp (disch := omega) only [w_nat, w_add, w_addl, w_addr, w_sub, w_subl, w_mul, w_mull, w_mulr, w_u32, w_u16, w_u8, w_u32a, N_zero]; first | done | rfl))
    · skip
      have hil : i = l.length := by have := hi.1; simp at c0; omega
      have hz : zeroB l = true := by have := hi.2; rwa [hil, List.take_length] at this
      refine AWp.exit ?_
      try simp only [thenQ, blockQ, noGo, reduceIte, Nat.reduceEqDiff]
      refine hK1 _ ?_
      refine AWp.regionW ?_
      refine AWp.ret ?_
      try simp only [thenQ, blockQ, noGo]
      refine bodyQ.m ?_
      clear hK3 K3 hK2 K2 hK1 K1
      rw [hz]
      first | done | exact Hand.go
theorem peekN_drop (k : Nat) (b : List UInt8) (i j : Nat) (h : i ≤ b.length) : peekN k (b.drop i) j = peekN k b (i + j) := by
  unfold peekN
  rw [List.length_drop, List.drop_drop]
  by_cases hc : i + j + k ≤ b.length
  · rw [if_pos hc, if_pos (by omega)]
  · rw [if_neg hc, if_neg (by omega)]
theorem readN_ref (b : List UInt8) (i : Nat) (h4 : i + 4 ≤ b.length) (hi4 : i % 4 = 0) (n : Nat) (hn : peekN 2 b (i + 2) = n) :
    ((n < 4 ∨ b.length < i + n) → readN b i = (frm0, 0, .flt 4 i)) ∧
    (4 ≤ n → i + n = b.length → readN b i = (⟨peekN 2 b i, (b.take (i + n)).drop (i + 4)⟩, i + n, .ok)) ∧
    (4 ≤ n → i + n < b.length → (b.length ≤ i + n + gapN n ∨ zeroB ((b.take (i + n + gapN n)).drop (i + n)) = false) → readN b i = (frm0, 0, .flt 5 (i + n))) ∧
    (4 ≤ n → i + n < b.length → i + n + gapN n < b.length → zeroB ((b.take (i + n + gapN n)).drop (i + n)) = true → readN b i = (⟨peekN 2 b i, (b.take (i + n)).drop (i + 4)⟩, i + n + gapN n, .ok)) := by
  have e2 := peekN_drop 2 b i 2 (by omega)
  have e0 := peekN_drop 2 b i 0 (by omega)
  rw [Nat.add_zero] at e0
  have hv : ((b.drop i).drop 4).take (n - 4) = (b.take (i + n)).drop (i + 4) := by
    rw [List.drop_drop, List.drop_take, show i + n - (i + 4) = n - 4 by omega]
  have hu : upN (i + n) = i + n + gapN n := by unfold upN gapN; omega
  unfold readN
  rw [e2, e0, hn, hv]
  refine ⟨fun h => ?_, fun h1 h2 => ?_, fun h1 h2 h3 => ?_, fun h1 h2 h3 h5 => ?_⟩
  · rw [if_neg (by omega)]
  · rw [if_pos (by omega), if_pos h2]
  · rw [if_pos (by omega), if_neg (by omega), if_neg]
    rintro ⟨k1, k2⟩
    unfold nextN at k1 k2
    rw [hu] at k1 k2
    split at k1
    · rename_i hc
      rw [if_pos hc, Option.getD_some] at k2
      rcases h3 with h3 | h3
      · omega
      · rw [h3] at hc; simp at hc
    · simp at k1
  · rw [if_pos (by omega), if_neg (by omega)]
    have hnx : nextN b (i + n) = some (i + n + gapN n) := by
      unfold nextN
      rw [hu, if_pos ⟨by omega, by omega, h5⟩]
    rw [hnx, if_pos ⟨rfl, by rw [Option.getD_some]; omega⟩]
    rfl
theorem readN_short (b : List UInt8) (i : Nat) (h4 : ¬ i + 4 ≤ b.length) : readN b i = (frm0, 0, .flt 4 i) := by
  unfold readN; rw [if_neg (by omega)]
theorem nats_at (l : List Nat) (i : Nat) (h : i < l.length) : (nats l)[i]? = some (nat l[i]) := by simp [nats, h]
theorem nats_snoc (l : List Nat) (n : Nat) : nats (l ++ [n]) = nats l ++ [nat n] := by simp [nats]
theorem split06_c (b : List UInt8) (hl : b.length ≤ 2 ^ 40) : PC Tryz.prog 37 [.sl false 1 (bys b)]
    (.agg [.sl false 2 (frmsA false ((scan b b.length 0).1.map (·.2))), .sl false 1 (nats ((scan b b.length 0).1.map (·.1))), nat (scan b b.length 0).2.codeOf.1, nat (scan b b.length 0).2.atOf.1]) := by
  obtain ⟨O, hO⟩ : ∃ O, O = scan b b.length 0 := ⟨_, rfl⟩
  rw [← hO]
  refine PC.of_bodyW (by simp only [push_cast]) Tryz.func37 rfl (by rw [Tryz.ntmps37]; simp) ?_
  refine AWp.regionW ?_
  refine AWp.regionW ?_
  refine AWp.regionW ?_
  refine AWp.seqK fun K1 hK1 => ?_
  refine AWp.block ?_
  refine AWp.nilBox 1 0 81 2 rfl rfl ?_
  simp only [push_cast, reduceIte, Nat.reduceEqDiff, Nat.reduceLT, Nat.reduceAdd, Nat.reduceSub, Nat.reduceMul, Nat.reduceLeDiff, Nat.reducePow, Int.reduceLT, Int.reduceToNat, reduceCtorEq, Int.reduceNeg, Int.reduceEq, Nat.reduceBEq, Nat.reduceBNe, Int.reduceBEq, Int.reduceBNe, String.reduceEq]
  refine AWp.nilBox 1 1 3 1 rfl rfl ?_
  simp only [push_cast, reduceIte, Nat.reduceEqDiff, Nat.reduceLT, Nat.reduceAdd, Nat.reduceSub, Nat.reduceMul, Nat.reduceLeDiff, Nat.reducePow, Int.reduceLT, Int.reduceToNat, reduceCtorEq, Int.reduceNeg, Int.reduceEq, Nat.reduceBEq, Nat.reduceBNe, Int.reduceBEq, Int.reduceBNe, String.reduceEq]
  refine AWp.loopK [0, 2, 3] (fun (g : List (Nat × Frm) × Nat × Nat) => [(4, nat g.2.2)]) (fun g => [.box 79 [.val (.slice none 0 0), .val (.slice none 0 0), nat 0, nat 0], .box 79 [.own 2, .own 3, nat 0, nat 0], .row 81 2 (frmsA false (g.1.map (·.2))), .row 3 1 (nats (g.1.map (·.1)))]) (fun g => scanInv b g.1 g.2.1 g.2.2 ∧ (g.2.2 < b.length → g.2.2 % 4 = 0)) (fun g => b.length - g.2.2) (([], b.length, 0)) ?_ ⟨scanInv_0 b, fun _ => rfl⟩ ?_
  · skip
    refine Le.m 4 ?_ ?_
    · first | with_reducible rfl | (simp only [push_cast, reduceIte, Nat.reduceEqDiff, Nat.reduceLT, Nat.reduceAdd, Nat.reduceSub, Nat.reduceMul, Nat.reduceLeDiff, Nat.reducePow, Int.reduceLT, Int.reduceToNat, reduceCtorEq, Int.reduceNeg, Int.reduceEq, Nat.reduceBEq, Nat.reduceBNe, Int.reduceBEq, Int.reduceBNe, String.reduceEq]; first | done | rfl | (simp (disch := omega) only [w_nat, w_add, w_addl, w_addr, w_sub, w_subl, w_mul, w_mull, w_mulr, w_u32, w_u16, w_u8, w_u32a, N_zero]; first | done | rfl))
    · first | (simp only [push_cast, reduceIte, Nat.reduceEqDiff, Nat.reduceLT, Nat.reduceAdd, Nat.reduceSub, Nat.reduceMul, Nat.reduceLeDiff, Nat.reducePow, Int.reduceLT, Int.reduceToNat, reduceCtorEq, Int.reduceNeg, Int.reduceEq, Nat.reduceBEq, Nat.reduceBNe, Int.reduceBEq, Int.reduceBNe, String.reduceEq]; first | done | rfl | (simp (disch := omega) only [w_nat, w_add, w_addl, w_addr, w_sub, w_subl, w_mul, w_mull, w_mulr, w_u32, w_u16, w_u8, w_u32a, N_zero]; first | done | rfl))
  · intro g hg K2 hK2
    obtain ⟨p, k, i⟩ := g
    dsimp only at hg ⊢
    obtain ⟨hg, hi4⟩ := hg
    refine AWp.seqK fun K3 hK3 => ?_
    refine AWp.regionW ?_
    refine AWp.condLM (fun c0 => ?_) (fun c0 => ?_)
    · skip
      have hil : i < b.length := by simpa using c0
      refine AWp.skip ?_
      refine hK3 _ ?_
      refine AWp.block ?_
      refine AWp.seqK fun K4 hK4 => ?_
      refine AWp.regionW ?_
      refine AWp.condLM (fun c1 => ?_) (fun c1 => ?_)
      · skip
        have h4 : ¬ i + 4 ≤ b.length := by simpa using c1
        have hr := readN_short b i h4
        have hs := scanInv_err hg hil (by rw [hr]; intro h; cases h)
        rw [hr] at hs
        refine AWp.regionW ?_
        refine AWp.regionW ?_
        refine AWp.pubD 2 ?_
        refine AWp.pubD 3 ?_
        refine AWp.regionW ?_
        refine AWp.ret ?_
        try simp only [thenQ, blockQ, noGo]
        refine bodyQ.m ?_
        clear hK4 K4 hK3 K3 hK2 K2 hK1 K1
        rw [hs] at hO; subst hO
        first | done | exact Hand.go
      · skip
        have h4 : i + 4 ≤ b.length := by simpa using c1
        refine AWp.skip ?_
        refine hK4 _ ?_
        refine AWp.regionM fun K5 hK5 => ?_
        refine ARun2.callM (number01_c 2 b i (by omega) hl (by omega)) ?_
        refine ARun2.endm (hK5 _ ?_)
        refine AWp.regionM fun K6 hK6 => ?_
        refine ARun2.callM (number01_c 2 b (i + 2) (by omega) hl (by omega)) ?_
        refine ARun2.endm (hK6 _ ?_)
        obtain ⟨n, hn⟩ : ∃ n, peekN 2 b (i + 2) = n := ⟨_, rfl⟩
        obtain ⟨q1, q2, q3, q4⟩ := readN_ref b i h4 (hi4 hil) n hn
        have hn16 := peek2_lt b (i + 2)
        have ht16 := peek2_lt b i
        have hg3 := gapN_le n
        rw [hn] at hn16 ⊢
        refine AWp.regionW ?_
        refine AWp.seqK fun K7 hK7 => ?_
        refine AWp.regionA fun K8 hK8 => ?_
        refine ARun.segm 3 fun KS hKS => ?_
        refine ARun2.endm (hKS _ ?_); clear hKS KS
        apply ARun.grpM 6 2 false 50 [0, 2, 3, 4, 5, 9, 44]
        · intro g2 KG hKG
          refine ARun2.gom ?_
          exact ARun2.endm (hKG _ Le.grpM)
        refine ARun2.gom ?_
        refine ARun2.endm (hK8 _ ?_)
        refine AWp.condLM (fun c2 => ?_) (fun c2 => ?_)
        · skip
          have hr := q1 (by simp at c2; omega)
          have hs := scanInv_err hg hil (by rw [hr]; intro h; cases h)
          rw [hr] at hs
          refine AWp.regionW ?_
          refine AWp.regionW ?_
          refine AWp.pubD 2 ?_
          refine AWp.pubD 3 ?_
          refine AWp.regionW ?_
          refine AWp.ret ?_
          try simp only [thenQ, blockQ, noGo]
          refine bodyQ.m ?_
          clear hK8 K8 hK7 K7 hK6 K6 hK5 K5 hK4 K4 hK3 K3 hK2 K2 hK1 K1
          rw [hs] at hO; subst hO
          first | done | exact Hand.go
        · skip
          have hn4 : 4 ≤ n ∧ i + n ≤ b.length := by simp at c2; omega
          refine AWp.skip ?_
          refine hK7 _ ?_
          refine AWp.regionW ?_
          refine AWp.regionW ?_
          refine AWp.seqK fun K9 hK9 => ?_
          refine AWp.regionW ?_
          refine AWp.condLM (fun c3 => ?_) (fun c3 => ?_)
          · skip
            have hlt : i + n < b.length := by simpa using c3
            refine AWp.regionM fun K10 hK10 => ?_
            refine ARun2.callM (gap03_c n (by omega)) ?_
            refine ARun2.endm (hK10 _ ?_)
            refine AWp.seqK fun K11 hK11 => ?_
            refine AWp.regionA fun K12 hK12 => ?_
            refine ARun.segm 5 fun KS hKS => ?_
            refine ARun2.endm (hKS _ ?_); clear hKS KS
            apply ARun.grpM 6 4 false 78 [0, 2, 3, 4, 5, 10, 12, 72]
            · intro g4 KG hKG
              have hk : i + n + gapN n < b.length := by simpa using g4
              refine ARun2.gom ?_
              refine ARun2.sliceM (i + n) (i + n + gapN n) ?_ ?_ ?_
              · omega
              · rw [bys_len]; omega
              refine ARun2.callM (zero03_c ((b.take (i + n + gapN n)).drop (i + n)) (by rw [List.length_drop, List.length_take]; omega)) ?_
              exact ARun2.endm (hKG _ Le.grpM)
            refine ARun2.gom ?_
            refine ARun2.endm (hK12 _ ?_)
            refine AWp.condLM (fun c4 => ?_) (fun c4 => ?_)
            · skip
              have hr := q3 hn4.1 hlt (by simp at c4; exact c4.elim .inl (fun c => .inr (by first | exact c | exact c.2)))
              have hs := scanInv_err hg hil (by rw [hr]; intro h; cases h)
              rw [hr] at hs
              refine AWp.regionW ?_
              refine AWp.regionW ?_
              refine AWp.pubD 2 ?_
              refine AWp.pubD 3 ?_
              refine AWp.regionW ?_
              refine AWp.ret ?_
              try simp only [thenQ, blockQ, noGo]
              refine bodyQ.m ?_
              clear hK12 K12 hK11 K11 hK10 K10 hK9 K9 hK8 K8 hK7 K7 hK6 K6 hK5 K5 hK4 K4 hK3 K3 hK2 K2 hK1 K1
              rw [hs] at hO; subst hO
              first | done | exact Hand.go
            · skip
              have hr := q4 hn4.1 hlt (by simp at c4; omega) (by simp at c4; exact c4.2)
              refine AWp.skip ?_
              refine hK11 _ ?_
              refine AWp.regionV ?_
              refine hK9 _ ?_
              have hst := scanInv_step hg hil (by rw [hr])
              have hpl := hg.2.2.2
              have hnx := readN_next (b := b) (i := i) (by rw [hr])
              rw [hr] at hst hnx
              refine AWp.drS [[(3, none)], [(85, some 0)], [(5, none)], [(87, some 2)], [(0, none)], [(4, none)], [(90, some 5)], [(10, none)], [(89, some 4), (91, some 6), (92, some 7)], [(88, some 3), (93, some 8)], [(94, some 9)]] fun G hG => ?_
              refine Dr.sim ?_
              try simp only [List.cons_append, List.nil_append]
              refine Dr.sim ?_
              try simp only [List.cons_append, List.nil_append]
              refine Dr.sim ?_
              try simp only [List.cons_append, List.nil_append]
              refine Dr.sim ?_
              try simp only [List.cons_append, List.nil_append]
              refine Dr.sim ?_
              try simp only [List.cons_append, List.nil_append]
              refine Dr.sim ?_
              try simp only [List.cons_append, List.nil_append]
              refine Dr.sim ?_
              try simp only [List.cons_append, List.nil_append]
              refine Dr.sim ?_
              try simp only [List.cons_append, List.nil_append]
              refine Dr.slice (i + 4) (i + n) ?_ ?_ ?_
              · omega
              · rw [bys_len]; omega
              try simp only [List.cons_append, List.nil_append]
              refine Dr.sim ?_
              try simp only [List.cons_append, List.nil_append]
              refine Dr.build ?_
              try simp only [List.cons_append, List.nil_append]
              refine Dr.finM (n := 11) [(86, 1), (95, 10)] [0, 2, 3, 4, 11] hG YtmcedkcehcacpaaGreatDoor.Facts.mixed fun KD hKD => ?_
              refine ARun2.appendM ?_ ?_ ?_
              · rw [YtmcedkcehcacpaaGreatDoor.Facts.eb76, frmsA_len, List.length_map, List.length_cons, List.length_nil]; omega
              · rw [frmsA_len, List.length_map, List.length_cons, List.length_nil]; omega
              refine ARun2.endm (hKD _ ?_); clear hKD KD hG G
              refine AWp.regionM fun K13 hK13 => ?_
              refine ARun2.appendM ?_ ?_ ?_
              · rw [YtmcedkcehcacpaaGreatDoor.Facts.eb77, nats_len, List.length_map, List.length_cons, List.length_nil]; omega
              · rw [nats_len, List.length_map, List.length_cons, List.length_nil]; omega
              refine ARun2.endm (hK13 _ ?_)
              refine AWp.regionV ?_
              refine hK2 _ ((p ++ [(i, ⟨peekN 2 b i, (b.take (i + n)).drop (i + 4)⟩)], k - 1, i + n + gapN n)) (⟨hst, fun _ => by have := hi4 hil; show (i + n + gapN n) % 4 = 0; unfold gapN; omega⟩) (by show b.length - (i + n + gapN n) < b.length - i; omega) ?_
              refine Le.m 4 ?_ ?_
              · try simp only [push_cast, reduceIte, Nat.reduceEqDiff, Nat.reduceLT, Nat.reduceAdd, Nat.reduceSub, Nat.reduceMul, Nat.reduceLeDiff, Nat.reducePow, Int.reduceLT, Int.reduceToNat, reduceCtorEq, Int.reduceNeg, Int.reduceEq, Nat.reduceBEq, Nat.reduceBNe, Int.reduceBEq, Int.reduceBNe, String.reduceEq]
                try simp (disch := omega) only [w_nat, w_add, w_addl, w_addr, w_sub, w_subl, w_mul, w_mull, w_mulr, w_u32, w_u16, w_u8, w_u32a, N_zero]
                first | done | skip
                rw [List.map_append, List.map_append, List.map_cons, List.map_cons, List.map_nil, List.map_nil, frmsA_snoc, nats_snoc]; rfl
              · first | (simp only [push_cast, reduceIte, Nat.reduceEqDiff, Nat.reduceLT, Nat.reduceAdd, Nat.reduceSub, Nat.reduceMul, Nat.reduceLeDiff, Nat.reducePow, Int.reduceLT, Int.reduceToNat, reduceCtorEq, Int.reduceNeg, Int.reduceEq, Nat.reduceBEq, Nat.reduceBNe, Int.reduceBEq, Int.reduceBNe, String.reduceEq]; first | done | rfl | (simp (disch := omega) only [w_nat, w_add, w_addl, w_addr, w_sub, w_subl, w_mul, w_mull, w_mulr, w_u32, w_u16, w_u8, w_u32a, N_zero]; first | done | rfl))
          · skip
            have he : i + n = b.length := by simp at c3; omega
            have hr := q2 hn4.1 he
            refine AWp.skip ?_
            refine hK9 _ ?_
            have hst := scanInv_step hg hil (by rw [hr])
            have hpl := hg.2.2.2
            have hnx := readN_next (b := b) (i := i) (by rw [hr])
            rw [hr] at hst hnx
            refine AWp.drS [[(3, none)], [(85, some 0)], [(5, none)], [(87, some 2)], [(0, none)], [(4, none)], [(90, some 5)], [(10, none)], [(89, some 4), (91, some 6), (92, some 7)], [(88, some 3), (93, some 8)], [(94, some 9)]] fun G hG => ?_
            refine Dr.sim ?_
            try simp only [List.cons_append, List.nil_append]
            refine Dr.sim ?_
            try simp only [List.cons_append, List.nil_append]
            refine Dr.sim ?_
            try simp only [List.cons_append, List.nil_append]
            refine Dr.sim ?_
            try simp only [List.cons_append, List.nil_append]
            refine Dr.sim ?_
            try simp only [List.cons_append, List.nil_append]
            refine Dr.sim ?_
            try simp only [List.cons_append, List.nil_append]
            refine Dr.sim ?_
            try simp only [List.cons_append, List.nil_append]
            refine Dr.sim ?_
            try simp only [List.cons_append, List.nil_append]
            refine Dr.slice (i + 4) (i + n) ?_ ?_ ?_
            · omega
            · rw [bys_len]; omega
            try simp only [List.cons_append, List.nil_append]
            refine Dr.sim ?_
            try simp only [List.cons_append, List.nil_append]
            refine Dr.build ?_
            try simp only [List.cons_append, List.nil_append]
            refine Dr.finM (n := 11) [(86, 1), (95, 10)] [0, 2, 3, 4, 11] hG YtmcedkcehcacpaaGreatDoor.Facts.mixed fun KD hKD => ?_
            refine ARun2.appendM ?_ ?_ ?_
            · rw [YtmcedkcehcacpaaGreatDoor.Facts.eb76, frmsA_len, List.length_map, List.length_cons, List.length_nil]; omega
            · rw [frmsA_len, List.length_map, List.length_cons, List.length_nil]; omega
            refine ARun2.endm (hKD _ ?_); clear hKD KD hG G
            refine AWp.regionM fun K14 hK14 => ?_
            refine ARun2.appendM ?_ ?_ ?_
            · rw [YtmcedkcehcacpaaGreatDoor.Facts.eb77, nats_len, List.length_map, List.length_cons, List.length_nil]; omega
            · rw [nats_len, List.length_map, List.length_cons, List.length_nil]; omega
            refine ARun2.endm (hK14 _ ?_)
            refine AWp.regionV ?_
            refine hK2 _ ((p ++ [(i, ⟨peekN 2 b i, (b.take (i + n)).drop (i + 4)⟩)], k - 1, i + n)) (⟨hst, fun h => absurd h (by show ¬ i + n < b.length; omega)⟩) (by show b.length - (i + n) < b.length - i; omega) ?_
            refine Le.m 4 ?_ ?_
            · try simp only [push_cast, reduceIte, Nat.reduceEqDiff, Nat.reduceLT, Nat.reduceAdd, Nat.reduceSub, Nat.reduceMul, Nat.reduceLeDiff, Nat.reducePow, Int.reduceLT, Int.reduceToNat, reduceCtorEq, Int.reduceNeg, Int.reduceEq, Nat.reduceBEq, Nat.reduceBNe, Int.reduceBEq, Int.reduceBNe, String.reduceEq]
              try simp (disch := omega) only [w_nat, w_add, w_addl, w_addr, w_sub, w_subl, w_mul, w_mull, w_mulr, w_u32, w_u16, w_u8, w_u32a, N_zero]
              first | done | skip
              rw [List.map_append, List.map_append, List.map_cons, List.map_cons, List.map_nil, List.map_nil, frmsA_snoc, nats_snoc]; rfl
            · first | (simp only [push_cast, reduceIte, Nat.reduceEqDiff, Nat.reduceLT, Nat.reduceAdd, Nat.reduceSub, Nat.reduceMul, Nat.reduceLeDiff, Nat.reducePow, Int.reduceLT, Int.reduceToNat, reduceCtorEq, Int.reduceNeg, Int.reduceEq, Nat.reduceBEq, Nat.reduceBNe, Int.reduceBEq, Int.reduceBNe, String.reduceEq]; first | done | rfl | (simp (disch := omega) only [w_nat, w_add, w_addl, w_addr, w_sub, w_subl, w_mul, w_mull, w_mulr, w_u32, w_u16, w_u8, w_u32a, N_zero]; first | done | rfl))
    · skip
      have hil : ¬ i < b.length := by simpa using c0
      have hs := scanInv_end hg hil
      refine AWp.exit ?_
      try simp only [thenQ, blockQ, noGo, reduceIte, Nat.reduceEqDiff]
      refine hK1 _ ?_
      refine AWp.pubD 2 ?_
      refine AWp.pubD 3 ?_
      refine AWp.regionW ?_
      refine AWp.ret ?_
      try simp only [thenQ, blockQ, noGo]
      refine bodyQ.m ?_
      clear hK3 K3 hK2 K2 hK1 K1
      rw [hs] at hO; subst hO
      first | done | exact Hand.go
theorem min_take (l : List UInt8) (k : Nat) : l.take (min k l.length) = if k ≤ l.length then l.take k else l := by
  split
  · rw [Nat.min_eq_left (by assumption)]
  · rw [Nat.min_eq_right (by omega), List.take_length]
theorem counted_par (c t : Nat) (d : List UInt8) (h : shapeHas c t = true → fitsN (shapeOf c t) d.length = true) : (c == 2 && (t == 2 && !countedR d)) = countedN c t d := by
  by_cases hc : c = 2
  · by_cases ht : t = 2
    · subst hc; subst ht
      have hf := h rfl
      have hb : badN 2 2 d.length [] = false := by
        have hs : shapeHas 2 2 = true := rfl
        have hk : kidsOk (shapeOf 2 2) [] = true := rfl
        unfold badN; rw [hs, hf, hk]; rfl
      have := counted_eq 2 2 d [] hb rfl rfl
      rw [this]; rfl
    · unfold countedN
      have : (t == 2) = false := by simpa using ht
      rw [this]; simp
  · unfold countedN
    have : (c == 2) = false := by simpa using hc
    rw [this]; rfl
theorem takePre {α : Type} (fs : List α) (k : Nat) (h : k < fs.length) : fs = fs.take k ++ fs[k] :: fs.drop (k + 1) := by rw [← List.drop_eq_getElem_cons h, List.take_append_drop]
/-- what the reference answers -/
@[push_cast] def resP (r : List GNode × Er) : AV := .agg [.sl false 3 (nodesA false r.1), nat r.2.codeOf.1, nat r.2.atOf.1]
/-- the error has a number, and a place -/
def Er.num : Er → Bool
  | .ok => true
  | .code _ => false
  | .flt c _ => c != 0
theorem readN_num (b : List UInt8) (i : Nat) : (readN b i).2.2.num = true := by
  unfold readN; split
  · split
    · rfl
    · split <;> rfl
  · rfl
theorem scan_num (b : List UInt8) : ∀ (k i : Nat), (scan b k i).2.num = true
  | 0, i => rfl
  | k + 1, i => by
    rw [scan]
    split
    · have h := readN_num b i
      cases he : (readN b i).2.2 with
      | ok => exact scan_num b k _
      | code c => rw [he] at h; exact h
      | flt c j => rw [he] at h; exact h
    · rfl
theorem num_ok {e : Er} (h : e.num = true) : e.codeOf.1 = 0 ↔ e = .ok := by
  cases e with
  | ok => simp [Er.codeOf]
  | code c => cases h
  | flt c i => simp [Er.codeOf, Er.num] at *; exact h
theorem goF_num {one : Frm → Nat → GNode × Er} {i : Nat} : ∀ (l : List (Nat × Frm)), (∀ p ∈ l, (one p.2 (i + p.1)).2.num = true) → (goF one i l).2.num = true
  | [], _ => rfl
  | p :: l, h => by
    have h1 := h p (by simp)
    have h2 := goF_num l fun q hq => h q (by simp [hq])
    simp only [goF]
    split
    · split
      · rfl
      · exact h2
    · exact h1
theorem parseF_num : ∀ (m c : Nat) (b : List UInt8) (i : Nat), (parseF m c b i).2.num = true := by
  intro m
  induction m with
  | zero =>
    intro c b i
    rw [parseF_eq]
    split
    · exact goF_num _ fun p _ => rfl
    · have := scan_num b b.length 0
      cases h : (scan b b.length 0).2 <;> rw [h] at this <;> first | exact this | cases this
  | succ m ih =>
    intro c b i
    rw [parseF_eq]
    split
    · refine goF_num _ fun p _ => ?_
      show (oneF (parseF m) c p.2 _).2.num = true
      unfold oneF
      split
      · rfl
      · split
        · rfl
        · split
          · rfl
          · split
            · rfl
            · split
              · exact ih _ _ _
              · split <;> rfl
    · have := scan_num b b.length 0
      cases h : (scan b b.length 0).2 <;> rw [h] at this <;> first | exact this | cases this
theorem shift_num {e : Er} (h : e.num = true) (hne : e ≠ .ok) (i : Nat) : (e.shift i).codeOf.1 = e.codeOf.1 ∧ (e.shift i).atOf.1 = i + e.atOf.1 := by
  cases e with
  | ok => exact absurd rfl hne
  | code c => cases h
  | flt c j => exact ⟨rfl, Nat.add_comm _ _⟩
theorem goF_nil {one : Frm → Nat → GNode × Er} {i : Nat} : ∀ (l : List (Nat × Frm)), (goF one i l).2 ≠ .ok → (goF one i l).1 = []
  | [], h => rfl
  | p :: l, h => by
    simp only [goF] at h ⊢
    split
    · rename_i h1
      split
      · rename_i h2
        rw [if_pos h1, if_pos h2] at h
        exact absurd rfl h
      · rfl
    · rfl
theorem parseF_nil (m c : Nat) (b : List UInt8) (i : Nat) (h : (parseF m c b i).2 ≠ .ok) : (parseF m c b i).1 = [] := by
  rw [parseF_eq] at h ⊢
  split
  · rename_i hs
    rw [if_pos hs] at h
    exact goF_nil _ h
  · rfl
theorem oneF_eq (rec : Nat → List UInt8 → Nat → List GNode × Er) (c : Nat) (f : Frm) (i : Nat) (S : ShForm) (hS : shapeOf c f.ty = S) : oneF rec c f i =
  if shapeHas c f.ty = false then (.mk f.ty f.val [], .ok)
  else if fitsN S (dataOf c f).length = false then (.zero, .flt 7 i)
  else if countedN c f.ty (dataOf c f) = true then (.zero, .flt 8 (i + 4))
  else if S.kids = 0 then (.mk f.ty (dataOf c f) [], .ok)
  else if (rec (insideN S.kids).1 (f.val.drop S.least) (i + 4 + S.least)).2 ≠ .ok then
    (.zero, (rec (insideN S.kids).1 (f.val.drop S.least) (i + 4 + S.least)).2)
  else if kidsOk S (rec (insideN S.kids).1 (f.val.drop S.least) (i + 4 + S.least)).1 = false then (.zero, .flt 7 i)
  else (.mk f.ty (dataOf c f) (rec (insideN S.kids).1 (f.val.drop S.least) (i + 4 + S.least)).1, .ok) := by
  subst hS; rfl
set_option maxHeartbeats 2000000 in
theorem parse08_step (m c d : Nat) (hdm : d + m = 5) (hc : c = 1 ∨ c = 2) (b : List UInt8) (i : Nat) (hi : i + b.length ≤ 2 ^ 40)
    (ih : ∀ (m' : Nat), m = m' + 1 → ∀ (c : Nat) (b : List UInt8) (i : Nat), (c = 1 ∨ c = 2) → i + b.length ≤ 2 ^ 40 → PC Tryz.prog 19 [nat c, .sl false 1 (bys b), nat i, nat (d + 1)] (resP (parseF m' c b i))) :
    PC Tryz.prog 19 [nat c, .sl false 1 (bys b), nat i, nat d] (resP (parseF m c b i)) := by
  have hsat := scan_at b b.length 0
  have hsf := scan_fit b b.length 0
  have hsl := scan_len b b.length 0 (Nat.zero_le _)
  have hsn := scan_num b b.length 0
  have hsp := split06_c b (by omega)
  have hO := parseF_eq m c b i
  generalize parseF m c b i = O at hO
  generalize (scan b b.length 0).1 = fs at hsf hsl hsp hO
  generalize (scan b b.length 0).2 = er at hsat hsp hO hsn
  refine PC.of_bodyW (by simp only [push_cast]) Tryz.func19 rfl (by rw [Tryz.ntmps19]; simp) ?_
  refine AWp.regionW ?_
  refine AWp.regionM fun K1 hK1 => ?_
  refine ARun2.callM (hsp) ?_
  refine ARun2.endm (hK1 _ ?_)
  refine AWp.seqK fun K2 hK2 => ?_
  refine AWp.regionW ?_
  refine AWp.condLM (fun c0 => ?_) (fun c0 => ?_)
  · skip
    have he : er ≠ .ok := by intro h; rw [h] at c0; cases c0
    rw [if_neg he] at hO
    obtain ⟨s1, s2⟩ := shift_num hsn he i
    refine AWp.regionW ?_
    refine AWp.ret ?_
    try simp only [thenQ, blockQ, noGo]
    refine bodyQ.m ?_
    clear hK2 K2 hK1 K1
    subst hO; simp only [resP, s1, s2]
    first | done | exact Hand.go
  · skip
    have he : er = .ok := by rw [← num_ok hsn]; simpa using c0
    rw [if_pos he] at hO
    subst he
    refine AWp.skip ?_
    refine hK2 _ ?_
    refine AWp.regionW ?_
    refine AWp.seqK fun K3 hK3 => ?_
    refine AWp.regionW ?_
    refine AWp.block ?_
    refine AWp.nilBox 2 0 33 3 rfl rfl ?_
    simp only [push_cast, reduceIte, Nat.reduceEqDiff, Nat.reduceLT, Nat.reduceAdd, Nat.reduceSub, Nat.reduceMul, Nat.reduceLeDiff, Nat.reducePow, Int.reduceLT, Int.reduceToNat, reduceCtorEq, Int.reduceNeg, Int.reduceEq, Nat.reduceBEq, Nat.reduceBNe, Int.reduceBEq, Int.reduceBNe, String.reduceEq]
    refine AWp.loopK [0, 2, 3, 8, 9, 10] (fun (k : Nat) => [(11, nat k)]) (fun k => [.box 47 [.val (.slice none 0 0), nat 0, nat 0], .box 79 [.sl false 2 (frmsA false (fs.map (·.2))), .sl false 1 (nats (fs.map (·.1))), nat 0, nat 0], .box 47 [.own 3, nat 0, nat 0], .row 33 3 (nodesA false (goF (oneD m c) i (fs.take k)).1)]) (fun k => k ≤ fs.length ∧ (goF (oneD m c) i (fs.take k)).2 = .ok) (fun k => fs.length - k) (0) ?_ ⟨Nat.zero_le _, rfl⟩ ?_
    · skip
      refine Le.m 4 ?_ ?_
      · first | with_reducible rfl | (simp only [push_cast, reduceIte, Nat.reduceEqDiff, Nat.reduceLT, Nat.reduceAdd, Nat.reduceSub, Nat.reduceMul, Nat.reduceLeDiff, Nat.reducePow, Int.reduceLT, Int.reduceToNat, reduceCtorEq, Int.reduceNeg, Int.reduceEq, Nat.reduceBEq, Nat.reduceBNe, Int.reduceBEq, Int.reduceBNe, String.reduceEq]; first | done | rfl | (simp (disch := omega) only [w_nat, w_add, w_addl, w_addr, w_sub, w_subl, w_mul, w_mull, w_mulr, w_u32, w_u16, w_u8, w_u32a, N_zero]; first | done | rfl))
      · first | (simp only [push_cast, reduceIte, Nat.reduceEqDiff, Nat.reduceLT, Nat.reduceAdd, Nat.reduceSub, Nat.reduceMul, Nat.reduceLeDiff, Nat.reducePow, Int.reduceLT, Int.reduceToNat, reduceCtorEq, Int.reduceNeg, Int.reduceEq, Nat.reduceBEq, Nat.reduceBNe, Int.reduceBEq, Int.reduceBNe, String.reduceEq]; first | done | rfl | (simp (disch := omega) only [w_nat, w_add, w_addl, w_addr, w_sub, w_subl, w_mul, w_mull, w_mulr, w_u32, w_u16, w_u8, w_u32a, N_zero]; first | done | rfl))
    · intro k hk K4 hK4
      refine AWp.seqK fun K5 hK5 => ?_
      refine AWp.regionW ?_
      refine AWp.condLM (fun c1 => ?_) (fun c1 => ?_)
      · skip
        have hil : k < fs.length := by simpa using c1
        obtain ⟨hk1, hk2⟩ := hk
        have hfd := takePre fs k hil
        have hgl := goF_len (oneD m c) i (fs.take k)
        rw [List.length_take] at hgl
        obtain ⟨hp1, hp2⟩ := hsf fs[k] (List.getElem_mem hil)
        have a1 : (fs.map (·.1)).length = fs.length := List.length_map ..
        have a2 : (fs.map (·.2)).length = fs.length := List.length_map ..
        have a3 := nats_at (fs.map (·.1)) k (by omega)
        have a4 := frmsA_at false (fs.map (·.2)) k (by omega)
        rw [List.getElem_map] at a3 a4
        have ht : fs.take (k + 1) = fs.take k ++ [fs[k]] := List.take_succ_eq_append_getElem hil
        obtain ⟨q, hqe⟩ : ∃ q, fs[k] = q := ⟨_, rfl⟩
        rw [hqe] at hfd hp1 hp2 a3 a4 ht
        have hdl := dataOf_len c q.2
        have hof := of07_c c q.2.ty hc
        obtain ⟨f1, f2, f3, f4, f5, f6⟩ := form_small c q.2.ty
        have hdo : dataOf c q.2 = if (shapeOf c q.2.ty).kids ≠ 0 ∧ (shapeOf c q.2.ty).least ≤ q.2.val.length then q.2.val.take (shapeOf c q.2.ty).least else q.2.val := rfl
        have hcl : decide (0 < (shapeOf c q.2.ty).cls) = shapeHas c q.2.ty := by
          cases h : shapeHas c q.2.ty with
          | true => rw [(f5 h).1]; simp; omega
          | false => rw [f6 h]; rfl
        obtain ⟨S, hS⟩ : ∃ S, shapeOf c q.2.ty = S := ⟨_, rfl⟩
        rw [hS] at hof f1 f2 f3 f4 f5 f6 hdo hcl
        refine AWp.skip ?_
        refine hK5 _ ?_
        refine AWp.seqK fun K6 hK6 => ?_
        refine AWp.block ?_
        refine AWp.regionM fun K7 hK7 => ?_
        refine ARun2.indexM (k) (nat q.1) ?_ ?_
        · exact a3
        refine ARun2.endm (hK7 _ ?_)
        refine AWp.regionM fun K8 hK8 => ?_
        refine ARun2.indexM (k) (frmA false q.2) ?_ ?_
        · exact a4
        refine ARun2.endm (hK8 _ ?_)
        refine AWp.regionM fun K9 hK9 => ?_
        refine ARun2.indexM (k) (frmA false q.2) ?_ ?_
        · exact a4
        refine ARun2.endm (hK9 _ ?_)
        refine AWp.regionM fun K10 hK10 => ?_
        refine ARun2.callM (hof) ?_
        refine ARun2.endm (hK10 _ ?_)
        refine AWp.seqK fun K11 hK11 => ?_
        refine AWp.regionW ?_
        refine AWp.condLM (fun c2 => ?_) (fun c2 => ?_)
        · skip
          have hm : m = 0 := by simp at c2; omega
          have hr : O = ([], .flt 9 (i + q.1)) := by
            subst hm
            rw [hO, hfd]; exact goF_err hk2 (by intro h; cases h)
          refine AWp.regionW ?_
          refine AWp.ret ?_
          try simp only [thenQ, blockQ, noGo]
          refine bodyQ.m ?_
          clear hK11 K11 hK10 K10 hK9 K9 hK8 K8 hK7 K7 hK6 K6 hK5 K5 hK4 K4 hK3 K3 hK2 K2 hK1 K1
          rw [hr]; simp only [resP, Er.codeOf, Er.atOf]
          first | done | exact Hand.go
        · skip
          obtain ⟨m, rfl⟩ : ∃ m', m = m' + 1 := ⟨m - 1, by simp at c2; omega⟩
          have hone : oneD (m + 1) c q.2 (i + q.1) = _ := oneF_eq (parseF m) c q.2 (i + q.1) S hS
          refine AWp.skip ?_
          refine hK11 _ ?_
          refine AWp.seqK fun K12 hK12 => ?_
          refine AWp.regionW ?_
          refine AWp.condLM (fun c3 => ?_) (fun c3 => ?_)
          · skip
            have hk0 : S.kids ≠ 0 := by intro h; rw [h] at c3; cases c3
            have hdm3 : q.2.val.take (min S.least q.2.val.length) = dataOf c q.2 := by rw [min_take, hdo]; simp [hk0]
            have hdm2 : dataOf c q.2 = dataOf c q.2 := rfl
            refine AWp.regionN fun K13 hK13 => ?_
            refine ARun2.iminM ?_
            refine ARun2.sliceHiM (min S.least q.2.val.length) ?_ ?_
            · rw [bys_len]; omega
            refine ARun2.endm (hK13 _ ?_)
            rw [hdm3]
            refine hK12 _ ?_
            refine AWp.seqK fun K14 hK14 => ?_
            refine AWp.regionA fun K15 hK15 => ?_
            refine ARun.segm 4 fun KS hKS => ?_
            refine ARun2.endm (hKS _ ?_); clear hKS KS
            apply ARun.grpM 6 3 true 86 [0, 2, 3, 8, 9, 10, 11, 12, 13, 14, 15, 80]
            · intro g3 KG hKG
              have hhas : shapeHas c q.2.ty = true := by rw [← hcl]; exact g3
              obtain ⟨u1, u2⟩ := f5 hhas
              refine ARun2.gom ?_
              refine ARun2.callM (fits07_c S (dataOf c q.2).length (by omega) f2 f3 u2 f4) ?_
              exact ARun2.endm (hKG _ Le.grpM)
            refine ARun2.gom ?_
            refine ARun2.endm (hK15 _ ?_)
            refine AWp.condLM (fun c4 => ?_) (fun c4 => ?_)
            · skip
              rw [hcl] at c4
              simp at c4
              rw [← hdm2] at hone
              rw [if_neg (by rw [c4.1]; simp), if_pos (by simpa [hdm2] using c4.2)] at hone
              have hr : O = ([], .flt 7 (i + q.1)) := by rw [hO, hfd, goF_err hk2 (by rw [hone]; intro h; cases h), hone]
              refine AWp.regionW ?_
              refine AWp.ret ?_
              try simp only [thenQ, blockQ, noGo]
              refine bodyQ.m ?_
              clear hK15 K15 hK14 K14 hK13 K13 hK12 K12 hK11 K11 hK10 K10 hK9 K9 hK8 K8 hK7 K7 hK6 K6 hK5 K5 hK4 K4 hK3 K3 hK2 K2 hK1 K1
              rw [hr]; simp only [resP, Er.codeOf, Er.atOf]
              first | done | exact Hand.go
            · skip
              rw [hcl] at c4
              have hfit : shapeHas c q.2.ty = true → fitsN S (dataOf c q.2).length = true := by
                intro h; rw [← hdm2]; simpa [h] using c4
              refine AWp.skip ?_
              refine hK14 _ ?_
              refine AWp.seqK fun K16 hK16 => ?_
              refine AWp.regionA fun K17 hK17 => ?_
              refine ARun.segm 3 fun KS hKS => ?_
              refine ARun2.endm (hKS _ ?_); clear hKS KS
              apply ARun.grpM 3 2 true 95 [0, 2, 3, 8, 9, 10, 11, 12, 13, 14, 15, 92]
              · intro g2 KG hKG
                refine ARun2.gom ?_
                exact ARun2.endm (hKG _ Le.grpM)
              refine ARun.segm 2 fun KS hKS => ?_
              refine ARun2.endm (hKS _ ?_); clear hKS KS
              apply ARun.grpM 4 7 true 101 [0, 2, 3, 8, 9, 10, 11, 12, 13, 14, 15, 97]
              · intro g7 KG hKG
                refine ARun2.gom ?_
                refine ARun2.callM (counted08_c (dataOf c q.2) (by omega)) ?_
                exact ARun2.endm (hKG _ Le.grpM)
              refine ARun2.gom ?_
              refine ARun2.endm (hK17 _ ?_)
              refine AWp.condLM (fun c5 => ?_) (fun c5 => ?_)
              · skip
                have hcn : countedN c q.2.ty (dataOf c q.2) = true := by rw [← counted_par c q.2.ty (dataOf c q.2) (by rw [hS]; exact hfit), ← hdm2]; simpa [Bool.and_assoc] using c5
                have hhas : shapeHas c q.2.ty = true := by unfold countedN at hcn; simp at hcn; rw [hcn.1, hcn.2.1]; rfl
                rw [if_neg (by rw [hhas]; simp), if_neg (by rw [hfit hhas]; simp), if_pos hcn] at hone
                have hr : O = ([], .flt 8 (i + q.1 + 4)) := by rw [hO, hfd, goF_err hk2 (by rw [hone]; intro h; cases h), hone]
                refine AWp.regionW ?_
                refine AWp.ret ?_
                try simp only [thenQ, blockQ, noGo]
                refine bodyQ.m ?_
                clear hK17 K17 hK16 K16 hK15 K15 hK14 K14 hK13 K13 hK12 K12 hK11 K11 hK10 K10 hK9 K9 hK8 K8 hK7 K7 hK6 K6 hK5 K5 hK4 K4 hK3 K3 hK2 K2 hK1 K1
                rw [hr]; simp only [resP, Er.codeOf, Er.atOf]
                first | done | exact Hand.go
              · skip
                have hcn : countedN c q.2.ty (dataOf c q.2) = false := by rw [← counted_par c q.2.ty (dataOf c q.2) (by rw [hS]; exact hfit), ← hdm2]; simpa [Bool.and_assoc] using c5
                refine AWp.skip ?_
                refine hK16 _ ?_
                refine AWp.seqK fun K18 hK18 => ?_
                refine AWp.regionW ?_
                refine AWp.condLM (fun c6 => ?_) (fun c6 => ?_)
                · skip
                  have hhas : shapeHas c q.2.ty = true := by
                    cases h : shapeHas c q.2.ty with
                    | true => rfl
                    | false => exact absurd (by rw [f6 h]; rfl) hk0
                  have hle := fits_least (hfit hhas)
                  have ihr := ih m rfl (insideN S.kids).1 (q.2.val.drop S.least) (i + q.1 + 4 + S.least) (inside_cls f1 hk0) (by rw [List.length_drop]; omega)
                  have ihn := parseF_len m (insideN S.kids).1 (q.2.val.drop S.least) (i + q.1 + 4 + S.least)
                  have ihm := parseF_num m (insideN S.kids).1 (q.2.val.drop S.least) (i + q.1 + 4 + S.least)
                  have ihz := parseF_nil m (insideN S.kids).1 (q.2.val.drop S.least) (i + q.1 + 4 + S.least)
                  rw [List.length_drop] at ihn
                  rw [if_neg (by rw [hhas]; simp), if_neg (by rw [hfit hhas]; simp), if_neg (by rw [hcn]; simp), if_neg hk0] at hone
                  obtain ⟨R, hR⟩ : ∃ R, R = parseF m (insideN S.kids).1 (q.2.val.drop S.least) (i + q.1 + 4 + S.least) := ⟨_, rfl⟩
                  rw [← hR] at ihr ihn ihm ihz hone
                  refine AWp.drS [[(15, none)], [(109, some 0)], [(110, some 1)], [(13, none)], [(15, none)], [(113, some 4)], [(112, some 3), (114, some 5)], [(12, none)], [(116, some 7)], [(15, none)], [(118, some 9)], [(117, some 8), (119, some 10)], [(3, none)], [(121, some 12)], [(111, some 2), (115, some 6), (120, some 11), (122, some 13)], []] fun G hG => ?_
                  refine Dr.sim ?_
                  try simp only [List.cons_append, List.nil_append]
                  refine Dr.sim ?_
                  try simp only [List.cons_append, List.nil_append]
                  refine Dr.call (inside08_c S.kids f1) ?_
                  try simp only [List.cons_append, List.nil_append]
                  refine Dr.sim ?_
                  try simp only [List.cons_append, List.nil_append]
                  refine Dr.sim ?_
                  try simp only [List.cons_append, List.nil_append]
                  refine Dr.sim ?_
                  try simp only [List.cons_append, List.nil_append]
                  refine Dr.sliceLo (S.least) ?_ ?_
                  · rw [bys_len]; omega
                  try simp only [List.cons_append, List.nil_append]
                  refine Dr.sim ?_
                  try simp only [List.cons_append, List.nil_append]
                  refine Dr.sim ?_
                  try simp only [List.cons_append, List.nil_append]
                  refine Dr.sim ?_
                  try simp only [List.cons_append, List.nil_append]
                  refine Dr.sim ?_
                  try simp only [List.cons_append, List.nil_append]
                  refine Dr.sim ?_
                  try simp only [List.cons_append, List.nil_append]
                  refine Dr.sim ?_
                  try simp only [List.cons_append, List.nil_append]
                  refine Dr.sim ?_
                  try simp only [List.cons_append, List.nil_append]
                  refine Dr.call (ihr) ?_
                  try simp only [List.cons_append, List.nil_append]
                  refine Dr.al ?_
                  try simp only [List.cons_append, List.nil_append]
                  refine Dr.finA (n := 16) 15 [(123, 14), (16, 15)] [0, 2, 3, 8, 9, 10, 11, 12, 14, 15] hG YtmcedkcehcacpaaGreatDoor.Facts.mixed fun KD hKD => ?_
                  refine ARun2.endm (hKD _ ?_); clear hKD KD hG G
                  refine AWp.seqK fun K19 hK19 => ?_
                  refine AWp.regionW ?_
                  refine AWp.condLM (fun c7 => ?_) (fun c7 => ?_)
                  · skip
                    have he : R.2 ≠ .ok := by intro h; rw [h] at c7; cases c7
                    have hz := ihz he
                    rw [if_pos he] at hone
                    have hr : O = ([], R.2) := by rw [hO, hfd, goF_err hk2 (by rw [hone]; exact he), hone]
                    refine AWp.regionW ?_
                    refine AWp.ret ?_
                    try simp only [thenQ, blockQ, noGo]
                    refine bodyQ.m ?_
                    clear hK19 K19 hK18 K18 hK17 K17 hK16 K16 hK15 K15 hK14 K14 hK13 K13 hK12 K12 hK11 K11 hK10 K10 hK9 K9 hK8 K8 hK7 K7 hK6 K6 hK5 K5 hK4 K4 hK3 K3 hK2 K2 hK1 K1
                    rw [hr, hz]
                    first | done | exact Hand.go
                  · skip
                    have he : R.2 = .ok := by rw [← num_ok ihm]; simpa using c7
                    rw [if_neg (by simpa using he)] at hone
                    refine AWp.skip ?_
                    refine hK19 _ ?_
                    refine AWp.regionW ?_
                    refine AWp.regionM fun K20 hK20 => ?_
                    refine ARun2.callM (wanted_c S R.1 (by omega) f1) ?_
                    refine ARun2.endm (hK20 _ ?_)
                    refine AWp.condLM (fun c8 => ?_) (fun c8 => ?_)
                    · skip
                      have hkk : kidsOk S R.1 = false := by simpa using c8
                      rw [if_pos hkk] at hone
                      have hr : O = ([], .flt 7 (i + q.1)) := by rw [hO, hfd, goF_err hk2 (by rw [hone]; intro h; cases h), hone]
                      refine AWp.regionW ?_
                      refine AWp.ret ?_
                      try simp only [thenQ, blockQ, noGo]
                      refine bodyQ.m ?_
                      clear hK20 K20 hK19 K19 hK18 K18 hK17 K17 hK16 K16 hK15 K15 hK14 K14 hK13 K13 hK12 K12 hK11 K11 hK10 K10 hK9 K9 hK8 K8 hK7 K7 hK6 K6 hK5 K5 hK4 K4 hK3 K3 hK2 K2 hK1 K1
                      rw [hr]; simp only [resP, Er.codeOf, Er.atOf]
                      first | done | exact Hand.go
                    · skip
                      have hkk : kidsOk S R.1 = true := by simpa using c8
                      rw [if_neg (by rw [hkk]; simp)] at hone
                      have hs := goF_snoc hk2 (p := q) (by rw [hone])
                      rw [← ht, hone] at hs
                      refine AWp.skip ?_
                      refine hK18 _ ?_
                      refine AWp.regionN fun K21 hK21 => ?_
                      refine ARun2.appendM ?_ ?_ ?_
                      · rw [YtmcedkcehcacpaaGreatDoor.Facts.eb22, nodesA_len, List.length_cons, List.length_nil]; omega
                      · rw [nodesA_len, List.length_cons, List.length_nil]; omega
                      refine ARun2.endm (hK21 _ ?_)
                      refine hK6 _ ?_
                      refine AWp.regionV ?_
                      refine hK4 _ (k + 1) (⟨hil, by rw [hs]⟩) (by omega) ?_
                      refine Le.m 4 ?_ ?_
                      · try simp only [push_cast, reduceIte, Nat.reduceEqDiff, Nat.reduceLT, Nat.reduceAdd, Nat.reduceSub, Nat.reduceMul, Nat.reduceLeDiff, Nat.reducePow, Int.reduceLT, Int.reduceToNat, reduceCtorEq, Int.reduceNeg, Int.reduceEq, Nat.reduceBEq, Nat.reduceBNe, Int.reduceBEq, Int.reduceBNe, String.reduceEq]
                        try simp (disch := omega) only [w_nat, w_add, w_addl, w_addr, w_sub, w_subl, w_mul, w_mull, w_mulr, w_u32, w_u16, w_u8, w_u32a, N_zero]
                        first | done | skip
                        rw [hs, nodesA_snoc, nodeA_eq]; rfl
                      · first | (simp only [push_cast, reduceIte, Nat.reduceEqDiff, Nat.reduceLT, Nat.reduceAdd, Nat.reduceSub, Nat.reduceMul, Nat.reduceLeDiff, Nat.reducePow, Int.reduceLT, Int.reduceToNat, reduceCtorEq, Int.reduceNeg, Int.reduceEq, Nat.reduceBEq, Nat.reduceBNe, Int.reduceBEq, Int.reduceBNe, String.reduceEq]; first | done | rfl | (simp (disch := omega) only [w_nat, w_add, w_addl, w_addr, w_sub, w_subl, w_mul, w_mull, w_mulr, w_u32, w_u16, w_u8, w_u32a, N_zero]; first | done | rfl))
                · skip
                  exfalso; simp at c6; omega
          · skip
            have hk0 : S.kids = 0 := by simpa using c3
            have hdm2 : q.2.val = dataOf c q.2 := by rw [hdo, if_neg (by simp [hk0])]
            refine AWp.skip ?_
            refine hK12 _ ?_
            refine AWp.seqK fun K22 hK22 => ?_
            refine AWp.regionA fun K23 hK23 => ?_
            refine ARun.segm 4 fun KS hKS => ?_
            refine ARun2.endm (hKS _ ?_); clear hKS KS
            apply ARun.grpM 6 3 true 86 [0, 2, 3, 8, 9, 10, 11, 12, 13, 14, 15, 80]
            · intro g3 KG hKG
              have hhas : shapeHas c q.2.ty = true := by rw [← hcl]; exact g3
              obtain ⟨u1, u2⟩ := f5 hhas
              refine ARun2.gom ?_
              refine ARun2.callM (fits07_c S q.2.val.length (by omega) f2 f3 u2 f4) ?_
              exact ARun2.endm (hKG _ Le.grpM)
            refine ARun2.gom ?_
            refine ARun2.endm (hK23 _ ?_)
            refine AWp.condLM (fun c4 => ?_) (fun c4 => ?_)
            · skip
              rw [hcl] at c4
              simp at c4
              rw [← hdm2] at hone
              rw [if_neg (by rw [c4.1]; simp), if_pos (by simpa [hdm2] using c4.2)] at hone
              have hr : O = ([], .flt 7 (i + q.1)) := by rw [hO, hfd, goF_err hk2 (by rw [hone]; intro h; cases h), hone]
              refine AWp.regionW ?_
              refine AWp.ret ?_
              try simp only [thenQ, blockQ, noGo]
              refine bodyQ.m ?_
              clear hK23 K23 hK22 K22 hK12 K12 hK11 K11 hK10 K10 hK9 K9 hK8 K8 hK7 K7 hK6 K6 hK5 K5 hK4 K4 hK3 K3 hK2 K2 hK1 K1
              rw [hr]; simp only [resP, Er.codeOf, Er.atOf]
              first | done | exact Hand.go
            · skip
              rw [hcl] at c4
              have hfit : shapeHas c q.2.ty = true → fitsN S (dataOf c q.2).length = true := by
                intro h; rw [← hdm2]; simpa [h] using c4
              refine AWp.skip ?_
              refine hK22 _ ?_
              refine AWp.seqK fun K24 hK24 => ?_
              refine AWp.regionA fun K25 hK25 => ?_
              refine ARun.segm 3 fun KS hKS => ?_
              refine ARun2.endm (hKS _ ?_); clear hKS KS
              apply ARun.grpM 3 2 true 95 [0, 2, 3, 8, 9, 10, 11, 12, 13, 14, 15, 92]
              · intro g2 KG hKG
                refine ARun2.gom ?_
                exact ARun2.endm (hKG _ Le.grpM)
              refine ARun.segm 2 fun KS hKS => ?_
              refine ARun2.endm (hKS _ ?_); clear hKS KS
              apply ARun.grpM 4 7 true 101 [0, 2, 3, 8, 9, 10, 11, 12, 13, 14, 15, 97]
              · intro g7 KG hKG
                refine ARun2.gom ?_
                refine ARun2.callM (counted08_c q.2.val (by omega)) ?_
                exact ARun2.endm (hKG _ Le.grpM)
              refine ARun2.gom ?_
              refine ARun2.endm (hK25 _ ?_)
              refine AWp.condLM (fun c5 => ?_) (fun c5 => ?_)
              · skip
                have hcn : countedN c q.2.ty (dataOf c q.2) = true := by rw [← counted_par c q.2.ty (dataOf c q.2) (by rw [hS]; exact hfit), ← hdm2]; simpa [Bool.and_assoc] using c5
                have hhas : shapeHas c q.2.ty = true := by unfold countedN at hcn; simp at hcn; rw [hcn.1, hcn.2.1]; rfl
                rw [if_neg (by rw [hhas]; simp), if_neg (by rw [hfit hhas]; simp), if_pos hcn] at hone
                have hr : O = ([], .flt 8 (i + q.1 + 4)) := by rw [hO, hfd, goF_err hk2 (by rw [hone]; intro h; cases h), hone]
                refine AWp.regionW ?_
                refine AWp.ret ?_
                try simp only [thenQ, blockQ, noGo]
                refine bodyQ.m ?_
                clear hK25 K25 hK24 K24 hK23 K23 hK22 K22 hK12 K12 hK11 K11 hK10 K10 hK9 K9 hK8 K8 hK7 K7 hK6 K6 hK5 K5 hK4 K4 hK3 K3 hK2 K2 hK1 K1
                rw [hr]; simp only [resP, Er.codeOf, Er.atOf]
                first | done | exact Hand.go
              · skip
                have hcn : countedN c q.2.ty (dataOf c q.2) = false := by rw [← counted_par c q.2.ty (dataOf c q.2) (by rw [hS]; exact hfit), ← hdm2]; simpa [Bool.and_assoc] using c5
                refine AWp.skip ?_
                refine hK24 _ ?_
                refine AWp.seqK fun K26 hK26 => ?_
                refine AWp.regionW ?_
                refine AWp.condLM (fun c6 => ?_) (fun c6 => ?_)
                · skip
                  exfalso; rw [hk0] at c6; cases c6
                · skip
                  have hone2 : oneD (m + 1) c q.2 (i + q.1) = (.mk q.2.ty (dataOf c q.2) [], .ok) := by
                    cases h : shapeHas c q.2.ty with
                    | false => rw [hone, if_pos h, ← hdm2]
                    | true => rw [hone, if_neg (by rw [h]; simp), if_neg (by rw [hfit h]; simp), if_neg (by rw [hcn]; simp), if_pos hk0]
                  have hs := goF_snoc hk2 (p := q) (by rw [hone2])
                  rw [← ht, hone2] at hs
                  refine AWp.skip ?_
                  refine hK26 _ ?_
                  refine AWp.subBox 4 [u16 q.2.ty, .sl false 1 (bys q.2.val), .sl false 3 []] ?_ ?_
                  exact Hand.goL
                  refine AWp.regionN fun K27 hK27 => ?_
                  refine ARun2.appendM ?_ ?_ ?_
                  · rw [YtmcedkcehcacpaaGreatDoor.Facts.eb22, nodesA_len, List.length_cons, List.length_nil]; omega
                  · rw [nodesA_len, List.length_cons, List.length_nil]; omega
                  refine ARun2.endm (hK27 _ ?_)
                  refine hK6 _ ?_
                  refine AWp.regionV ?_
                  refine hK4 _ (k + 1) (⟨hil, by rw [hs]⟩) (by omega) ?_
                  refine Le.m 4 ?_ ?_
                  · try simp only [push_cast, reduceIte, Nat.reduceEqDiff, Nat.reduceLT, Nat.reduceAdd, Nat.reduceSub, Nat.reduceMul, Nat.reduceLeDiff, Nat.reducePow, Int.reduceLT, Int.reduceToNat, reduceCtorEq, Int.reduceNeg, Int.reduceEq, Nat.reduceBEq, Nat.reduceBNe, Int.reduceBEq, Int.reduceBNe, String.reduceEq]
                    try simp (disch := omega) only [w_nat, w_add, w_addl, w_addr, w_sub, w_subl, w_mul, w_mull, w_mulr, w_u32, w_u16, w_u8, w_u32a, N_zero]
                    first | done | skip
                    rw [hs, nodesA_snoc, nodeA_eq, ← hdm2]; rfl
                  · first | (simp only [push_cast, reduceIte, Nat.reduceEqDiff, Nat.reduceLT, Nat.reduceAdd, Nat.reduceSub, Nat.reduceMul, Nat.reduceLeDiff, Nat.reducePow, Int.reduceLT, Int.reduceToNat, reduceCtorEq, Int.reduceNeg, Int.reduceEq, Nat.reduceBEq, Nat.reduceBNe, Int.reduceBEq, Int.reduceBNe, String.reduceEq]; first | done | rfl | (simp (disch := omega) only [w_nat, w_add, w_addl, w_addr, w_sub, w_subl, w_mul, w_mull, w_mulr, w_u32, w_u16, w_u8, w_u32a, N_zero]; first | done | rfl))
      · skip
        have hkl : k = fs.length := by have := hk.1; simp at c1; omega
        subst hkl
        have hk2 := hk.2
        rw [List.take_length] at hk2 ⊢
        refine AWp.exit ?_
        try simp only [thenQ, blockQ, noGo, reduceIte, Nat.reduceEqDiff]
        refine hK3 _ ?_
        refine AWp.pubD 3 ?_
        refine AWp.regionW ?_
        refine AWp.ret ?_
        try simp only [thenQ, blockQ, noGo]
        refine bodyQ.m ?_
        clear hK5 K5 hK4 K4 hK3 K3 hK2 K2 hK1 K1
        subst hO; simp only [resP, hk2, Er.codeOf, Er.atOf]
        first | done | exact Hand.go
theorem parse08_w : ∀ (m d c : Nat) (b : List UInt8) (i : Nat), d + m = 5 → (c = 1 ∨ c = 2) → i + b.length ≤ 2 ^ 40 →
    PC Tryz.prog 19 [nat c, .sl false 1 (bys b), nat i, nat d] (resP (parseF m c b i)) := by
  intro m
  induction m with
  | zero => intro d c b i hdm hc hi; exact parse08_step 0 c d hdm hc b i hi (fun m' h => by omega)
  | succ m ih => intro d c b i hdm hc hi; exact parse08_step (m + 1) c d hdm hc b i hi (fun m' h c b i hc hi => by obtain rfl : m = m' := by omega
                                                                                                                   exact ih (d + 1) c b i (by omega) hc hi)
theorem parse08_c (c : Nat) (b : List UInt8) (hc : c = 1 ∨ c = 2) (hl : b.length ≤ 2 ^ 40) : PC Tryz.prog 19 [nat c, .sl false 1 (bys b), nat 0, nat 1] (resP (parseF 4 c b 0)) := parse08_w 4 1 c b 0 rfl hc (by omega)
end Go.Proofs.YtmcedkcehcacpaaGreatDoor.C
/- Bytes counted up, one after the other. -/
set_option linter.unusedVariables false
set_option linter.unusedSimpArgs false
namespace Go.Proofs.YtmcedkcehcacpaaGreatDoor.C
open Go.Abs
/-- i bytes counted up -/
def incN (d : List UInt8) (i : Nat) : List UInt8 := (d.take i).map (· + 1) ++ d.drop i
@[push_cast] theorem incN_len (d : List UInt8) (i : Nat) : (incN d i).length = d.length := by simp [incN]; omega
theorem incN_at (d : List UInt8) (i : Nat) (h : i < d.length) : (incN d i)[i]'(by rw [incN_len]; exact h) = d[i] := by
  have hl : ((d.take i).map (· + 1)).length = i := by simp; omega
  simp only [incN]
  rw [List.getElem_append_right (by omega)]
  simp only [hl, Nat.sub_self, List.getElem_drop, Nat.add_zero]
theorem u8_inc (x : UInt8) : IntKind.u8.wrap (N x.toNat + 1) = N (x + 1).toNat := by
  rw [IntKind.wrap_u8, UInt8.toNat_add]
  have := x.toNat_lt
  show (_ : Int) = N ((x.toNat + 1) % 256)
  unfold N; omega
theorem incN_step (d : List UInt8) (i : Nat) (h : i < d.length) : (bys (incN d i)).set i (.val (.int .u8 (N (d[i] + 1).toNat))) = bys (incN d (i + 1)) := by
  have hl : ((d.take i).map (· + 1)).length = i := by simp; omega
  have e : (incN d i).set i (d[i] + 1) = incN d (i + 1) := by
    unfold incN
    rw [List.set_append_right _ _ (by omega), hl, Nat.sub_self, List.drop_eq_getElem_cons h, List.set_cons_zero, List.take_succ_eq_append_getElem h, List.map_append]
    simp only [List.map_cons, List.map_nil, List.append_assoc, List.cons_append, List.nil_append]
  rw [← e]
  simp [bys, List.map_set]
@[push_cast] theorem bstr_size (d : List UInt8) : (bstr d).size = d.length := by simp [bstr, ByteArray.size]
theorem incN_zero (d : List UInt8) : incN d 0 = d := by simp [incN]
theorem sumUp_ge : ∀ (l : List Nat) (s : Nat), s + l.sum ≤ sumUp s l
  | [], s => by simp [sumUp]
  | n :: l, s => by
    have := sumUp_ge l (upN s + n)
    simp only [sumUp, List.sum_cons, upN] at *
    omega
mutual
theorem sz_vlen : ∀ n : GNode, n.sz ≤ vlen n + 1
  | .mk t d k => by
    have h1 := szs_nLens k
    have h2 := sumUp_ge ((nLens k).map (4 + ·)) 0
    simp only [GNode.sz, vlen, tlvSize]
    omega
theorem szs_nLens : ∀ l : List GNode, szs l ≤ ((nLens l).map (4 + ·)).sum
  | [] => Nat.zero_le _
  | n :: l => by
    have h1 := sz_vlen n
    have h2 := szs_nLens l
    simp only [szs, nLens, List.map_cons, List.sum_cons]
    omega
end
theorem szs_nSize (l : List GNode) : szs l ≤ nSize l := by
  have h1 := szs_nLens l
  have h2 := sumUp_ge ((nLens l).map (4 + ·)) 0
  simp only [nSize, tlvSize]
  omega
end Go.Proofs.YtmcedkcehcacpaaGreatDoor.C
/- What is made anew: Clone, right, Chunk, Message. -/
set_option linter.unusedVariables false
set_option linter.unusedSimpArgs false
namespace Go.Abs
@[push_cast] theorem bys_fresh (l : List UInt8) : AV.freshL (bys l) = true := by
  unfold bys
  induction l with
  | nil => rfl
  | cons x l ih => simp only [List.map_cons, AV.freshL, AV.fresh, ih]; rfl
@[push_cast] theorem bys_ones (l : List UInt8) : (bys l).all AV.one = true := by
  unfold bys
  rw [List.all_eq_true]; intro x hx; simp only [List.mem_map] at hx; obtain ⟨b, _, rfl⟩ := hx; rfl
mutual
theorem nodeA_fresh : ∀ n : GNode, (nodeA true n).fresh = true
  | .mk t d k => by simp only [nodeA, AV.fresh, AV.freshL, bys_fresh, nodesA_fresh k, Bool.and_true]
theorem nodesA_fresh : ∀ l : List GNode, AV.freshL (nodesA true l) = true
  | [] => by simp [nodesA, AV.freshL]
  | n :: l => by simp only [nodesA, AV.freshL, nodeA_fresh n, nodesA_fresh l, Bool.and_true]
end
attribute [push_cast] nodesA_fresh
end Go.Abs
namespace Go.Proofs.YtmcedkcehcacpaaGreatDoor.C
open Go.Abs
end Go.Proofs.YtmcedkcehcacpaaGreatDoor.C
/- wharflaw08: NodeParses. -/
set_option linter.unusedVariables false
set_option linter.unusedSimpArgs false
namespace Go.Proofs.YtmcedkcehcacpaaGreatDoor.C
open Go.Abs
theorem told_num (e : Er) (h : e.num = true) : toldN e e.codeOf.1 e.atOf.1 = true := by
  cases e with
  | ok => rfl
  | code c => cases h
  | flt c i => simp [toldN, Er.codeOf, Er.atOf, Er.num] at *; simp [h]
theorem nodeParses_no (z : Int) (b : List UInt8) (hz : (z == 1 || z == 2) = false) : PC Tryz.prog 4 [.val (.int .i64 z), .sl false 1 (bys b)] (bool true) := by
  have h1 := right08_c z
  rw [hz] at h1
  refine PC.of_bodyW (by simp only [push_cast]) Tryz.func4 rfl (by rw [Tryz.ntmps4]; simp) ?_
  refine AWp.regionW ?_
  refine AWp.seqK fun K1 hK1 => ?_
  refine AWp.regionM fun K2 hK2 => ?_
  refine ARun2.callM (awake08_c) ?_
  refine ARun2.callM (h1) ?_
  skip
  refine ARun2.endm (hK2 _ ?_)
  refine AWp.condT ?_
  refine AWp.regionM fun K3 hK3 => ?_
  refine ARun2.callM (awake08_c) ?_
  refine ARun2.endm (hK3 _ ?_)
  refine AWp.ret ?_
  try simp only [thenQ, blockQ, noGo]
  refine bodyQ.m ?_
  clear hK3 K3 hK2 K2 hK1 K1
  first | done | exact Hand.go
set_option maxHeartbeats 1000000 in
theorem nodeParses_c (c : Nat) (b : List UInt8) (hc : c = 1 ∨ c = 2) : PC Tryz.prog 4 [nat c, .sl false 1 (bys b)] (bool true) := by
  have h1 := right08_c (N c)
  have e1 : (N c == 1 || N c == 2) = true := by unfold N; rcases hc with rfl | rfl <;> rfl
  rw [e1] at h1
  refine PC.of_bodyW (by simp only [push_cast]) Tryz.func4 rfl (by rw [Tryz.ntmps4]; simp) ?_
  refine AWp.regionW ?_
  refine AWp.seqK fun K1 hK1 => ?_
  refine AWp.regionA fun K2 hK2 => ?_
  refine ARun.segm 8 fun KS hKS => ?_
  refine ARun2.callM (awake08_c) ?_
  refine ARun2.callM (h1) ?_
  refine ARun2.endm (hKS _ ?_); clear hKS KS
  apply ARun.grpM 3 7 false 22 [0, 1, 19]
  · intro g7 KG hKG
    refine ARun2.gom ?_
    exact ARun2.endm (hKG _ Le.grpM)
  refine ARun2.gom ?_
  refine ARun2.endm (hK2 _ ?_)
  refine AWp.condLM (fun c0 => ?_) (fun c0 => ?_)
  · skip
    refine AWp.regionM fun K3 hK3 => ?_
    refine ARun2.callM (awake08_c) ?_
    refine ARun2.endm (hK3 _ ?_)
    refine AWp.ret ?_
    try simp only [thenQ, blockQ, noGo]
    refine bodyQ.m ?_
    clear hK3 K3 hK2 K2 hK1 K1
    first | done | exact Hand.go
  · skip
    have hbl : b.length ≤ 2000 := by simpa using c0
    have k1 := parse_c c b hc (by omega)
    have k2 := parse08_c c b hc (by omega)
    have k3 := told_c (parseF 4 c b 0).2 (parseF 4 c b 0).2.codeOf.1 (parseF 4 c b 0).2.atOf.1
    have hn := parseF_num 4 c b 0
    rw [told_num _ hn] at k3
    have hz := parseF_nil 4 c b 0
    have hbk := parse_back 4 1 c b 0 rfl hc
    generalize parseF 4 c b 0 = O at k1 k2 k3 hn hz hbk
    refine AWp.skip ?_
    refine hK1 _ ?_
    refine AWp.regionM fun K4 hK4 => ?_
    refine ARun2.buildOwnM ?_
    refine ARun2.appendM ?_ ?_ ?_
    · rw [YtmcedkcehcacpaaGreatDoor.Facts.eb31, bys_len, List.length_nil]; omega
    · rw [bys_len, List.length_nil]; omega
    refine ARun2.endm (hK4 _ ?_)
    refine AWp.regionM fun K5 hK5 => ?_
    refine ARun2.callLendM 0 k1 ?_
    refine ARun2.endm (hK5 _ ?_)
    refine AWp.regionM fun K6 hK6 => ?_
    refine ARun2.callM (k2) ?_
    refine ARun2.endm (hK6 _ ?_)
    refine AWp.seqK fun K7 hK7 => ?_
    refine AWp.regionM fun K8 hK8 => ?_
    refine ARun2.callM (k3) ?_
    refine ARun2.endm (hK8 _ ?_)
    refine AWp.condF ?_
    refine AWp.skip ?_
    refine hK7 _ ?_
    refine AWp.seqK fun K9 hK9 => ?_
    refine AWp.regionW ?_
    refine AWp.condLM (fun c2 => ?_) (fun c2 => ?_)
    · skip
      have he : O.2 ≠ .ok := by intro h; rw [h] at c2; cases c2
      have hl0 := hz he
      refine AWp.regionW ?_
      refine AWp.ret ?_
      try simp only [thenQ, blockQ, noGo]
      refine bodyQ.m ?_
      clear hK9 K9 hK8 K8 hK7 K7 hK6 K6 hK5 K5 hK4 K4 hK2 K2 hK1 K1
      rw [hl0]
      first | done | exact Hand.go
    · skip
      have he : O.2 = .ok := by rw [← num_ok hn]; simpa using c2
      obtain ⟨b1, b2, b3⟩ := hbk he
      refine AWp.skip ?_
      refine hK9 _ ?_
      refine AWp.seqK fun K10 hK10 => ?_
      refine AWp.regionW ?_
      refine AWp.block ?_
      refine AWp.loopK [0, 1, 5, 6, 8] (fun (i : Nat) => [(9, nat i)]) (fun i => [.row 5 1 (bys (incN b i)), .box 47 [.sl false 3 (nodesA false O.1), nat O.2.codeOf.1, nat O.2.atOf.1]]) (fun i => i ≤ b.length) (fun i => b.length - i) (0) ?_ (Nat.zero_le _) ?_
      · skip
        refine Le.m 2 ?_ ?_
        · try simp only [push_cast, reduceIte, Nat.reduceEqDiff, Nat.reduceLT, Nat.reduceAdd, Nat.reduceSub, Nat.reduceMul, Nat.reduceLeDiff, Nat.reducePow, Int.reduceLT, Int.reduceToNat, reduceCtorEq, Int.reduceNeg, Int.reduceEq, Nat.reduceBEq, Nat.reduceBNe, Int.reduceBEq, Int.reduceBNe, String.reduceEq]
          try simp (disch := omega) only [w_nat, w_add, w_addl, w_addr, w_sub, w_subl, w_mul, w_mull, w_mulr, w_u32, w_u16, w_u8, w_u32a, N_zero]
          first | done | skip
          rw [incN_zero]
        · first | (simp only [push_cast, reduceIte, Nat.reduceEqDiff, Nat.reduceLT, Nat.reduceAdd, Nat.reduceSub, Nat.reduceMul, Nat.reduceLeDiff, Nat.reducePow, Int.reduceLT, Int.reduceToNat, reduceCtorEq, Int.reduceNeg, Int.reduceEq, Nat.reduceBEq, Nat.reduceBNe, Int.reduceBEq, Int.reduceBNe, String.reduceEq]; first | done | rfl | (simp (disch := omega) only [w_nat, w_add, w_addl, w_addr, w_sub, w_subl, w_mul, w_mull, w_mulr, w_u32, w_u16, w_u8, w_u32a, N_zero]; first | done | rfl))
      · intro i hi K11 hK11
        refine AWp.seqK fun K12 hK12 => ?_
        refine AWp.regionW ?_
        refine AWp.condLM (fun c3 => ?_) (fun c3 => ?_)
        · skip
          have hil : i < b.length := by simpa using c3
          refine AWp.skip ?_
          refine hK12 _ ?_
          refine AWp.seqK fun K13 hK13 => ?_
          refine AWp.block ?_
          refine AWp.regionN fun K14 hK14 => ?_
          refine ARun2.indexOwnM (xs := bys (incN b i)) i (by rw [bys_len, incN_len]; exact hil) ?_
          refine ARun2.loadEM (xs := bys (incN b i)) (.val (.int .u8 (N b[i].toNat))) (by rw [bys_at _ _ (by rw [incN_len]; exact hil), incN_at b i hil]) ?_
          refine ARun2.indexOwnM (xs := bys (incN b i)) i (by rw [bys_len, incN_len]; exact hil) ?_
          refine ARun2.storeEM (xs := bys (incN b i)) (by rw [bys_len, incN_len]; exact hil) ?_
          refine ARun2.endm (hK14 _ ?_)
          refine hK13 _ ?_
          refine AWp.regionV ?_
          refine hK11 _ (i + 1) (by omega) (by omega) ?_
          refine Le.m 2 ?_ ?_
          · try simp only [push_cast, reduceIte, Nat.reduceEqDiff, Nat.reduceLT, Nat.reduceAdd, Nat.reduceSub, Nat.reduceMul, Nat.reduceLeDiff, Nat.reducePow, Int.reduceLT, Int.reduceToNat, reduceCtorEq, Int.reduceNeg, Int.reduceEq, Nat.reduceBEq, Nat.reduceBNe, Int.reduceBEq, Int.reduceBNe, String.reduceEq]
            try simp (disch := omega) only [w_nat, w_add, w_addl, w_addr, w_sub, w_subl, w_mul, w_mull, w_mulr, w_u32, w_u16, w_u8, w_u32a, N_zero]
            first | done | skip
            rw [u8_inc, incN_step b i hil]
          · first | (simp only [push_cast, reduceIte, Nat.reduceEqDiff, Nat.reduceLT, Nat.reduceAdd, Nat.reduceSub, Nat.reduceMul, Nat.reduceLeDiff, Nat.reducePow, Int.reduceLT, Int.reduceToNat, reduceCtorEq, Int.reduceNeg, Int.reduceEq, Nat.reduceBEq, Nat.reduceBNe, Int.reduceBEq, Int.reduceBNe, String.reduceEq]; first | done | rfl | (simp (disch := omega) only [w_nat, w_add, w_addl, w_addr, w_sub, w_subl, w_mul, w_mull, w_mulr, w_u32, w_u16, w_u8, w_u32a, N_zero]; first | done | rfl))
        · skip
          have hsz : nSize O.1 = b.length := by rw [← refB_len, b2]
          have h4 := encode_c c O.1 hc (by omega) b3
          rw [b1, enc_rt _ 1 c O.1 (Nat.le_refl _) b1, b2, if_pos rfl] at h4
          have hlen := nSize_len O.1
          have hss := szs_nSize O.1
          have h11 := same08_c O.1 O.1 (by omega)
          rw [(sameL_iff O.1 O.1).2 rfl] at h11
          have h10 := same01_c b b (by omega)
          rw [decide_eq_true rfl] at h10
          refine AWp.exit ?_
          try simp only [thenQ, blockQ, noGo, reduceIte, Nat.reduceEqDiff]
          refine hK10 _ ?_
          refine AWp.regionM fun K15 hK15 => ?_
          refine ARun2.callM (h4) ?_
          refine ARun2.endm (hK15 _ ?_)
          refine AWp.regionA fun K16 hK16 => ?_
          refine ARun.segm 5 fun KS hKS => ?_
          refine ARun2.callM (h11) ?_
          refine ARun2.endm (hKS _ ?_); clear hKS KS
          apply ARun.grpM 2 4 true 74 [1, 10, 72]
          · intro g4 KG hKG
            refine ARun2.gom ?_
            exact ARun2.endm (hKG _ Le.grpM)
          refine ARun.segm 2 fun KS hKS => ?_
          refine ARun2.endm (hKS _ ?_); clear hKS KS
          apply ARun.grpM 3 8 true 79 [76]
          · intro g8 KG hKG
            refine ARun2.gom ?_
            refine ARun2.callM (h10) ?_
            exact ARun2.endm (hKG _ Le.grpM)
          refine ARun2.gom ?_
          refine ARun2.endm (hK16 _ ?_)
          refine AWp.ret ?_
          try simp only [thenQ, blockQ, noGo]
          refine bodyQ.m ?_
          clear hK16 K16 hK15 K15 hK12 K12 hK11 K11 hK10 K10 hK9 K9 hK8 K8 hK7 K7 hK6 K6 hK5 K5 hK4 K4 hK2 K2 hK1 K1
          first | done | exact Hand.go
theorem nodeParses_z (z : Int) (b : List UInt8) : PC Tryz.prog 4 [.val (.int .i64 z), .sl false 1 (bys b)] (bool true) := by
  cases h : (z == 1 || z == 2) with
  | false => exact nodeParses_no z b h
  | true =>
    simp at h
    rcases h with rfl | rfl
    · exact nodeParses_c 1 b (.inl rfl)
    · exact nodeParses_c 2 b (.inr rfl)
end Go.Proofs.YtmcedkcehcacpaaGreatDoor.C
/- From the statement's reading to abstract values, and back. No condition. -/
namespace Go.Abs
open Go.ChangeShapes Go.WideShapes Go.RowKit
set_option linter.unusedVariables false
set_option linter.unusedSectionVars false
set_option linter.unusedSimpArgs false
/-- all that is there when the call begins -/
abbrev Old (W : World) : Nat → Prop := fun b => b < W.heap.size
theorem RW.start (W : World) : RW (E0 W.heap.size W (Old W) []) [] [] (Old W) W :=
  { ep := Nat.le_refl _, os := rfl, tape := rfl, output := rfl, size := Nat.le_refl _, block := fun _ _ _ => rfl, pre := fun k v h => by simp at h, bsub := fun _ h => h, bnew := fun _ h => .inl h,
    blt := fun _ h => h, len := rfl, obs := fun k o h => by simp at h, dis := fun i j o o' u v b _ h => by simp at h, prv := fun k o v b h => by simp at h }
theorem PC.answers {P : Program} {f : FuncId} {ys : List AV} {v : Value} (h : PC P f ys (.val v)) {W : World} (hg : Globs W (Old W) []) {args : Array Value} (ha : RelL W (Old W) W.heap.size [] ys args.toList) :
    Calls P f args W fun e W' => e = .returned v ∧ Below W.heap.size W W' := by
  have := h.2 W.heap.size W [] (Old W) args.toList hg (RW.start W) ha (fun e W' => e = .returned v ∧ Below W.heap.size W W') (by
    rintro r' v' τ' ρ' B' w' ⟨rfl, rfl⟩ hw hr
    cases hr
    exact ⟨rfl, ⟨hw.os, hw.tape, hw.output, hw.size, fun k hk => hw.block k hk ⟨fun ⟨u, hu, _⟩ => by simp at hu, fun h => by cases h⟩⟩⟩)
  simpa using this
section
variable {H : Type} {enc : TypeId × Value → H} {P : Program} {W W' : World}
theorem trodAll_stays (hl : laidOutB P = true) (hb : Below W.heap.size W W') {sp' : Nat → Bool} : ∀ {ts : List TypeId} {vs : List Value} {ds : List (DataW H)} {ps : List MemPlace}, (∀ t ∈ ts, P.readableRec t = true ∧ t < P.types.size) →
    DataW.TrodAll enc P W 0 (fun _ => true) true ts vs ds ps → (∀ p ∈ ps, p.block < W.heap.size) → (∀ p ∈ ps, sp' p.block = true) → DataW.TrodAll enc P W' 0 sp' true ts vs ds ps
  | [], _, _, _, _, h, _, _ => by
    obtain ⟨rfl, rfl, rfl⟩ := trodAll_nil h
    rfl
  | t :: ts, _, _, _, ht, h, hlt, hs => by
    obtain ⟨v, vs1, d, ds1, a, b, rfl, rfl, rfl, h1, h2⟩ := trodAll_cons h
    have := ht t (by simp)
    exact ⟨a, b, WideElems.Trod_stays hl this.1 this.2 h1 (fun x hx => hb.same (hlt x (by simp [hx]))) (fun x hx => hs x (by simp [hx])),
      trodAll_stays hl hb (fun u hu => ht u (by simp [hu])) h2 (fun x hx => hlt x (by simp [hx])) (fun x hx => hs x (by simp [hx])), rfl⟩
/-- a law holds: it answers true, and all that was there is as it was -/
theorem post_true {f : Func} {s : ChangeSpec} {fresh : Bool} {args : Array Value} {ds gs : List (DataW H)} {before : List MemPlace} {tb : TypeId}
    (hW : DataW.Whole enc P f.params.toList s.vars false W args.toList ds gs before) (hv : s.vars = []) (hs : s.fn H (ds ++ gs) = { results := [.lit (.bool true)], args := ds }) (hr : f.resultTypes = #[tb]) (hb : P.underlying tb = some .bool)
    (hl : laidOutB P = true) (ht : (f.params.toList.all fun t => P.readableRec t && decide (t < P.types.size)) = true) (hB : Below W.heap.size W W') :
    s.post enc P f false fresh false false W args (.bool true) W' := by
  have hW0 := hW
  obtain ⟨p, q, hA, hV, rfl, hfz, _⟩ := hW
  rw [hv] at hV
  have hg : gs = [] ∧ q = [] := by
    cases gs with
    | nil => exact ⟨rfl, hV⟩
    | cons g gs => exact hV.elim
  obtain ⟨rfl, rfl⟩ := hg
  have hlt : ∀ x ∈ p ++ [], x.block < W.heap.size := fun x hx => by simpa using hW0.lt x hx
  refine ⟨ds, [], p ++ [], [], p, [], hW0, ?_, ?_, ?_, ?_, fun h => by cases h⟩
  · rw [hs, hr]
    exact trodAll_cons_mk (p := []) (p' := []) (shut_bool hb _) trodAll_mk0
  · rw [hs]
    refine trodAll_stays hl hB (fun t h => ?_) hA (fun x hx => hlt x (by simp [hx])) (fun x hx => by simpa using hlt x (by simp [hx]))
    have := List.all_eq_true.1 ht t h
    simpa using this
  · rw [hs, hv]; exact rfl
  · refine ⟨hB.os, hB.output, fun i hi => ?_⟩
    rw [hB.block i hi]
    cases W.heap[i]? with
    | none => rfl
    | some o => cases o <;> simp
theorem addr_of_cell {w : World} {a : Addr} {v : Value} (h : w.cell? a = some v) : a.spot = none := by
  unfold World.cell? at h
  split at h
  · split at h
    · cases h
    · rename_i hs; cases hh : a.spot <;> simp_all
  · cases h
/-- a slice of numbers, read -/
theorem rel_ints0 {t e : TypeId} {k : IntKind} {v : Value} {d : DataW H} {ps : List MemPlace} {fuel : Nat} (ht : P.underlying t = some (.slice e)) (he : P.underlying e = some (.int k)) (hc : P.cellsOf e = 1)
    (hf : DataW.trod enc P W 0 (fun _ => true) true fuel t [v] = some (d, ps)) :
    ∃ (zs : List Int), Rel W (Old W) W.heap.size [] (.sl false 1 (zs.map fun n => .val (.int k n))) v ∧ (∀ n ∈ zs, (Lit.int k n).wf = true) ∧ ((d = .nil ∧ zs = []) ∨ ∃ rest, d = .slice (lits k zs) rest) := by
  rcases open_ints ht he hc hf with ⟨h1, h2⟩ | ⟨a, len, cap, zs, h1, h2, h3, h4, h5, h6, h7, h8⟩
  · simp only [List.cons.injEq, and_true] at h1
    subst h1
    exact ⟨[], .slE _ _ _ _, by simp, .inl ⟨congrArg Prod.fst h2, rfl⟩⟩
  · simp only [List.cons.injEq, and_true] at h1
    subst h1
    simp only [if_true] at h5
    refine ⟨zs.take len, ?_, fun n hn => h8 n (List.mem_of_mem_take hn), .inr ⟨_, congrArg Prod.fst h6⟩⟩
    have hlen : (zs.take len).length = len := by rw [List.length_take]; omega
    cases hq : zs.take len with
    | nil =>
      rw [hq] at hlen
      simp at hlen
      subst hlen
      exact .slE _ _ _ _
    | cons z l =>
      have hpos : 0 < zs.length := by rw [hq] at hlen; simp at hlen; omega
      have h0 := h7 0 hpos
      have hsp : a.spot = none := addr_of_cell (show W.cell? a = _ from h0)
      obtain ⟨b, o, sp⟩ := a
      simp only at hsp
      subst hsp
      have hblk : b < W.heap.size := by
        have := World.block_lt_of_cell? W _ h0
        simpa [Addr.add] using this
      rw [hq] at hlen
      simp only [List.length_cons] at hlen
      subst hlen
      have hrow := RelRow.mk (w := W) (B := Old W) (bs := W.heap.size) (ρ := []) (nw := false) (b := b) (sz := 1) (o := o) (xs := (z :: l).map fun n => AV.val (.int k n)) (vs := (z :: l).map fun n => Value.int k n) hblk (fun h => by cases h) ?_ ?_ ?_
      · have := Rel.sl (cap := cap) (by simpa using hrow) (by simpa using h3)
        simpa using this
      · have : (((z :: l).map fun n => AV.val (.int k n)).flatMap AV.cells) = ((z :: l).map fun n => Value.int k n).map AV.val := by
          generalize z :: l = m
          induction m with
          | nil => rfl
          | cons x m ih => simp only [List.map_cons, List.flatMap_cons, ih]; rfl
        rw [this]
        have key : ∀ l : List Value, RelL W (Old W) W.heap.size [] (l.map AV.val) l := fun l => by induction l with
          | nil => exact .nil
          | cons x l ih => exact .cons (.val x) ih
        exact key _
      · intro x hx
        simp only [List.mem_map] at hx
        obtain ⟨n, _, rfl⟩ := hx
        exact ⟨rfl, fun c hc => by simp [AV.cells] at hc; subst hc; rfl⟩
      · intro j v hj
        rw [← hq, List.getElem?_map, List.getElem?_take] at hj
        split at hj
        · rename_i hjl
          simp only [Option.map_eq_some_iff] at hj
          obtain ⟨n, hn, rfl⟩ := hj
          have hlt : j < zs.length := by have := List.getElem?_eq_some_iff.1 hn; exact this.1
          have := h7 j hlt
          rw [addr_add] at this
          rw [this, List.getD_eq_getElem?_getD, hn]; rfl
        · simp at hj
end
end Go.Abs
/- Nodes, read. -/
set_option linter.unusedVariables false
set_option linter.unusedSimpArgs false
namespace Go.Proofs.YtmcedkcehcacpaaGreatDoor.C
open Go.Abs Go.ChangeShapes Go.WideShapes Go.ChangeAt Go.RowKit
theorem own : ownKnob Tryz.prog.godebug = none := by kernel_rfl
theorem laidOut : laidOutB Tryz.prog = true := by kernel_rfl
theorem bys_of {zs : List Int} (h : ∀ n ∈ zs, (Lit.int .u8 n).wf = true) : (zs.map fun n => AV.val (.int .u8 n)) = bys (zs.map fun n => UInt8.ofNat n.toNat) := by
  unfold bys
  rw [List.map_map]
  refine List.map_congr_left fun n hn => ?_
  have h2 : 0 ≤ n ∧ n ≤ 255 := by simpa [Lit.wf, IntKind.min, IntKind.max, IntKind.signed, IntKind.bits] using h n hn
  have h3 : N (UInt8.ofNat n.toNat).toNat = n := by
    rw [UInt8.toNat_ofNat']; unfold N; omega
  show AV.val (.int .u8 n) = .val (.int .u8 (N (UInt8.ofNat n.toNat).toNat))
  rw [h3]
theorem bulk_one {H : Type} (d : DataW H) : 1 ≤ Rows.uptoBulk d := by
  cases d with
  | lit l => cases l <;> simp [Rows.uptoBulk]
  | _ => simp [Rows.uptoBulk]
theorem bulk_len {H : Type} : ∀ l : List (DataW H), l.length ≤ Rows.uptoBulkAll l
  | [] => by simp [Rows.uptoBulkAll]
  | x :: r => by
    have h1 := bulk_one x
    have h2 := bulk_len r
    simp only [Rows.uptoBulkAll, List.length_cons]; omega
theorem bulk_lits' {H : Type} (k : IntKind) (zs : List Int) (rest : List (DataW H)) : zs.length + 1 ≤ Rows.uptoBulk (.slice (lits k zs) rest : DataW H) := by
  have := bulk_len (lits k zs : List (DataW H))
  simp only [lits, List.length_map] at this
  simp only [Rows.uptoBulk, lits]
  omega
section
variable {H : Type} {enc : TypeId × Value → H} {W : World}
/-- bytes -/
theorem rel_bytes0 {v : Value} {d : DataW H} {ps : List MemPlace} {fuel : Nat} (hf : DataW.trod enc Tryz.prog W 0 (fun _ => true) true fuel 31 [v] = some (d, ps)) :
    ∃ l : List UInt8, Rel W (Old W) W.heap.size [] (.sl false 1 (bys l)) v ∧ l.length ≤ Rows.uptoBulk d := by
  have hc : Tryz.prog.cellsOf 5 = 1 := by kernel_rfl
  obtain ⟨zs, k0, k1, k2⟩ := rel_ints0 Tryz.underlying31 Tryz.underlying5 hc hf
  rw [bys_of k1] at k0
  refine ⟨_, k0, ?_⟩
  rw [List.length_map]
  rcases k2 with ⟨_, rfl⟩ | ⟨rest, rfl⟩
  · simp
  · have := bulk_lits' .u8 zs rest; omega
set_option maxRecDepth 100000 in
/-- bytes, read -/
theorem rel_bytes {r : Reach} {b0 : Nat} {v : Value} {d : DataW H} {ps : List MemPlace} (hval : Value.okWide Tryz.prog W r b0 31 v) (hd : DataW.Trod enc Tryz.prog W 0 (fun _ => true) true 31 v d ps) :
    ∃ l : List UInt8, Rel W (Old W) W.heap.size [] (.sl false 1 (bys l)) v ∧ l.length ≤ Rows.uptoBulk d := by
  obtain ⟨A, len0, cap0, rfl⟩ := okWide_slice Tryz.underlying31 hval
  obtain ⟨fuel, hf⟩ := hd
  exact rel_bytes0 hf
end
end Go.Proofs.YtmcedkcehcacpaaGreatDoor.C
/- What the rows' list of package-level variables gives: the cell of errors.errorType; a world that meets the list. -/
set_option linter.unusedVariables false
set_option linter.unusedSimpArgs false
namespace Go.Proofs.YtmcedkcehcacpaaGreatDoor.C
open Go.Abs Go.ChangeShapes Go.WideShapes Go.ChangeAt Go.RowKit
theorem etG : Tryz.prog.globalNamed "errors.errorType" = some 0 := by kernel_rfl
theorem etRt : (Tryz.prog.cutTypes.find? (·.1 == "internal/reflectlite.rtype")).map (·.2) = some 152 := by kernel_rfl
theorem etRow : ((List.range Tryz.prog.types.size).filter fun t => Tryz.prog.rowNamed t [101, 114, 114, 111, 114]) = [28] := by kernel_rfl
theorem etHandle : typeHandle Tryz.prog 28 = .pointer (some ⟨1, 28, none⟩) := by kernel_rfl
theorem handle_of_laid {W : World} (h : laidMetH Tryz.prog [("errors.errorType", Rows.laid_errors_errorType)] W) : W.cell? ⟨0, 0, none⟩ = some (.iface 152 (.agg #[.pointer (some ⟨1, 28, none⟩)])) := by
  have h' : laidMet Tryz.prog [] W ∧ handlesMet Tryz.prog [("errors.errorType", Rows.laid_errors_errorType)] W := h
  obtain ⟨name, u, ty, e1, e2, e3, e4, e5⟩ := h'.2 _ (List.mem_singleton.2 rfl)
  have en : name = [101, 114, 114, 111, 114] := (Option.some.inj e1).symm
  subst en
  obtain rfl := Option.some.inj (etRt.symm.trans e2)
  have hm : ty ∈ (List.range Tryz.prog.types.size).filter fun t => Tryz.prog.rowNamed t [101, 114, 114, 111, 114] := List.mem_filter.2 ⟨List.mem_range.2 e3, e4⟩
  rw [etRow] at hm
  obtain rfl := List.mem_singleton.1 hm
  rw [etHandle] at e5
  simpa using World.var?_cell etG e5 0
theorem cell_lt {W : World} {b i : Nat} {v : Value} (h : W.cell? ⟨b, i, none⟩ = some v) : b < W.heap.size := by
  rcases Nat.lt_or_ge b W.heap.size with h' | h'
  · exact h'
  · simp [World.cell?, Array.getElem?_eq_none h'] at h
theorem globs_of_laid {W : World} (h : laidMetH Tryz.prog [("errors.errorType", Rows.laid_errors_errorType)] W) : Globs W (Old W) [] := by
  have h0 := handle_of_laid h
  intro p hp
  obtain rfl : p = (0, [.iface 152 (.agg #[.pointer (some ⟨1, 28, none⟩)])]) := by simpa [glb] using hp
  refine ⟨cell_lt h0, fun v hv => (by cases hv), fun i v hi => ?_⟩
  match i with
  | 0 => simp at hi; subst hi; exact h0
  | i + 1 => simp at hi
noncomputable def laidWorld (os : Os) : World :=
  let w0 := World.holding Tryz.prog os ⟨#[], #[], []⟩
  { w0 with heap := w0.heap.modify 0 fun
      | .cells _ t frozen => .cells #[.iface 152 (.agg #[.pointer (some ⟨1, 28, none⟩)])] t frozen
      | o => o }
theorem laid_met (os : Os) (args : Array Value) : laidMetH Tryz.prog [("errors.errorType", Rows.laid_errors_errorType)] ((laidWorld os).forCall (fun _ _ => 0) ⟨#[], args, []⟩).memory :=
  laidMetH_of_parts (laidMet_nil _ _) (by kernel_rfl)
end Go.Proofs.YtmcedkcehcacpaaGreatDoor.C
