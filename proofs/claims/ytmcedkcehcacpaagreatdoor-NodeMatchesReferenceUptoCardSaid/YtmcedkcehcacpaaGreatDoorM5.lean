/- The reference's bytes of nodes: wharfref03.Bytes, wharfref08.Bytes. -/
import Derived.Test.YtmcedkcehcacpaaGreatDoorM4
import Derived.WalkKit
import Derived.ProofKit
import Derived.OpenShut
import Derived.JoinedCond
import Derived.Carry
import Derived.ChangeSlices
import Derived.Test.YtmcedkcehcacpaaGreatDoorRows
import Derived.Deep.Strs
import Derived.Test.YtmcedkcehcacpaaGreatDoorCards
import Derived.Test.YtmcedkcehcacpaaGreatDoorTie
import Derived.LaidLaws
import Derived.LaidHandle
import Derived.Stop.Joined
import Derived.Deep.DeepHandedRow
import Derived.Lib.LaidTab
set_option linter.unusedVariables false
set_option linter.unusedSimpArgs false
namespace Go.Proofs.YtmcedkcehcacpaaGreatDoor.C
open Go.Abs
theorem ref03_o (l : List UInt8) (hl : l.length ≤ 2 ^ 39) : OC Tryz.prog 36 [.sl false 1 (bys l)] [] (.own 0) [.row 5 1 (bys (padB l))] := by
  refine OC.of_body [0] (by intro k hk; simp at hk) Tryz.func36 rfl (by rw [Tryz.ntmps36]; simp) ?_
  refine AWp.regionW ?_
  refine AWp.regionA fun K1 hK1 => ?_
  refine ARun.ownM ?_
  refine ARun2.gom ?_
  refine ARun2.appendM ?_ ?_ ?_
  · rw [YtmcedkcehcacpaaGreatDoor.Facts.eb31, bys_len, List.length_nil]; omega
  · rw [bys_len, List.length_nil]; omega
  refine ARun2.endm (hK1 _ ?_)
  refine AWp.seqK fun K2 hK2 => ?_
  refine AWp.block ?_
  -- SLOTS THAT TURN AND ARE NOT TOLD: [3]
  refine AWp.loopK [3] (fun (i : Nat) => []) (fun i => [.row 5 1 (bys (l ++ List.replicate i 0))]) (fun i => i ≤ gapN l.length) (fun i => gapN l.length - i) (0) ?_ (Nat.zero_le _) ?_
  · skip
    refine Le.m 1 ?_ ?_
    · try simp only [push_cast, reduceIte, Nat.reduceEqDiff, Nat.reduceLT, Nat.reduceAdd, Nat.reduceSub, Nat.reduceMul, Nat.reduceLeDiff, Nat.reducePow, Int.reduceLT, Int.reduceToNat, reduceCtorEq, Int.reduceNeg, Int.reduceEq, Nat.reduceBEq, Nat.reduceBNe, Int.reduceBEq, Int.reduceBNe, String.reduceEq]
      try simp (disch := omega) only [w_nat, w_add, w_addl, w_addr, w_sub, w_subl, w_mul, w_mull, w_mulr, w_u32, w_u16, w_u8, w_u32a, N_zero]
      first | done | skip
      simp
    · first | (simp only [push_cast, reduceIte, Nat.reduceEqDiff, Nat.reduceLT, Nat.reduceAdd, Nat.reduceSub, Nat.reduceMul, Nat.reduceLeDiff, Nat.reducePow, Int.reduceLT, Int.reduceToNat, reduceCtorEq, Int.reduceNeg, Int.reduceEq, Nat.reduceBEq, Nat.reduceBNe, Int.reduceBEq, Int.reduceBNe, String.reduceEq]; first | done | rfl | (simp (disch := omega) only [w_nat, w_add, w_addl, w_addr, w_sub, w_subl, w_mul, w_mull, w_mulr, w_u32, w_u16, w_u8, w_u32a, N_zero]; first | done | rfl))
  · intro i hi K3 hK3
    refine AWp.seqK fun K4 hK4 => ?_
    refine AWp.regionW ?_
    refine AWp.condLM (fun c0 => ?_) (fun c0 => ?_)
    · skip
      have hil : i < gapN l.length := by have := hi; unfold gapN at *; simp at c0; omega
      have hg4 := gapN_le l.length
      refine AWp.skip ?_
      refine hK4 _ ?_
      refine AWp.block ?_
      refine AWp.regionN fun K5 hK5 => ?_
      refine ARun2.appendM ?_ ?_ ?_
      · rw [YtmcedkcehcacpaaGreatDoor.Facts.eb31, bys_len, List.length_append, List.length_replicate, List.length_cons, List.length_nil]; omega
      · rw [bys_len, List.length_append, List.length_replicate, List.length_cons, List.length_nil]; omega
      refine ARun2.endm (hK5 _ ?_)
      refine hK3 _ (i + 1) (by omega) (by omega) ?_
      refine Le.m 1 ?_ ?_
      · try simp only [push_cast, reduceIte, Nat.reduceEqDiff, Nat.reduceLT, Nat.reduceAdd, Nat.reduceSub, Nat.reduceMul, Nat.reduceLeDiff, Nat.reducePow, Int.reduceLT, Int.reduceToNat, reduceCtorEq, Int.reduceNeg, Int.reduceEq, Nat.reduceBEq, Nat.reduceBNe, Int.reduceBEq, Int.reduceBNe, String.reduceEq]
        try simp (disch := omega) only [w_nat, w_add, w_addl, w_addr, w_sub, w_subl, w_mul, w_mull, w_mulr, w_u32, w_u16, w_u8, w_u32a, N_zero]
        first | done | skip
        rw [List.replicate_succ', ← List.append_assoc, ← bys_snoc]; rfl
      · first | (simp only [push_cast, reduceIte, Nat.reduceEqDiff, Nat.reduceLT, Nat.reduceAdd, Nat.reduceSub, Nat.reduceMul, Nat.reduceLeDiff, Nat.reducePow, Int.reduceLT, Int.reduceToNat, reduceCtorEq, Int.reduceNeg, Int.reduceEq, Nat.reduceBEq, Nat.reduceBNe, Int.reduceBEq, Int.reduceBNe, String.reduceEq]; first | done | rfl | (simp (disch := omega) only [w_nat, w_add, w_addl, w_addr, w_sub, w_subl, w_mul, w_mull, w_mulr, w_u32, w_u16, w_u8, w_u32a, N_zero]; first | done | rfl))
    · skip
      have hil : i = gapN l.length := by have := hi; unfold gapN at *; simp at c0; omega
      subst hil
      refine AWp.exit ?_
      try simp only [thenQ, blockQ, noGo, reduceIte, Nat.reduceEqDiff]
      refine hK2 _ ?_
      refine AWp.regionW ?_
      refine AWp.ret ?_
      try simp only [thenQ, blockQ, noGo]
      refine bodyQ.m ?_
      clear hK4 K4 hK3 K3 hK2 K2 hK1 K1
      refine endO.m ?_ ?_
      · rfl
      · skip
        first | done | exact Hand.go
mutual
/-- a node's value in the reference -/
def refV : GNode → List UInt8
  | .mk _ d k => d ++ joinF (refFs k)
def refFs : List GNode → List Frm
  | [] => []
  | n :: l => ⟨n.ty, refV n⟩ :: refFs l
end
theorem refV_eq (n : GNode) : refV n = n.data ++ joinF (refFs n.kids) := by cases n; simp [refV, GNode.data, GNode.kids]
theorem refFs_map : ∀ l : List GNode, refFs l = l.map fun n => ⟨n.ty, refV n⟩
  | [] => by simp [refFs]
  | n :: l => by simp [refFs, refFs_map l]
theorem refFs_snoc (l : List GNode) (n : GNode) : refFs (l ++ [n]) = refFs l ++ [⟨n.ty, refV n⟩] := by simp [refFs_map]
mutual
theorem refV_len : ∀ n : GNode, (refV n).length = vlen n
  | .mk t d k => by rw [refV, List.length_append, joinF_len, vlen, refFs_len k]
theorem refFs_len : ∀ l : List GNode, ((refFs l).map fun f => f.val.length) = nLens l
  | [] => by simp [refFs, nLens]
  | n :: l => by simp [refFs, nLens, refV_len n, refFs_len l]
end
theorem refB_len (l : List GNode) : (joinF (refFs l)).length = nSize l := by rw [joinF_len, refFs_len]; rfl
theorem nSize_take (l : List GNode) (i : Nat) : nSize (l.take i) ≤ nSize l := by
  unfold nSize; rw [nLens_map, nLens_map, List.map_take]; exact tlvSize_take _ _
theorem u8_wrap (x : Nat) : AV.val (.int .u8 (IntKind.u8.wrap (N x))) = .val (.int .u8 (N (UInt8.ofNat x).toNat)) := by
  rw [UInt8.toNat_ofNat', IntKind.wrap_u8]
  unfold N; congr 2
theorem four_bytes (t n : Nat) : [AV.val (.int .u8 (IntKind.u8.wrap ((N t).fdiv (2 ^ min 8 IntKind.u16.bits)))), .val (.int .u8 (IntKind.u8.wrap (N t))), .val (.int .u8 (IntKind.u8.wrap (N (n / 256)))), .val (.int .u8 (N (n % 256)))] = bys (putB 2 t ++ putB 2 n) := by
  have h1 : (N t).fdiv (2 ^ min 8 IntKind.u16.bits) = N (t / 256) := by
    rw [show min 8 IntKind.u16.bits = 8 from rfl]
    unfold N
    rw [Int.fdiv_eq_ediv_of_nonneg _ (by decide)]
    omega
  have h2 : N (n % 256) = N (UInt8.ofNat n).toNat := by rw [UInt8.toNat_ofNat']
  rw [h1, u8_wrap, u8_wrap, u8_wrap, h2]
  simp [putB, bys, List.range_succ]
theorem refBytes_step (w : Nat) (ih : ∀ l : List GNode, wts l < w → nSize l ≤ 2 ^ 30 → tysOk l = true → PC Tryz.prog 17 [.sl false 3 (nodesA false l)] (.sl true 1 (bys (joinF (refFs l))))) (l : List GNode) (hw : wts l ≤ w) (hs : nSize l ≤ 2 ^ 30) (ht : tysOk l = true) :
    PC Tryz.prog 17 [.sl false 3 (nodesA false l)] (.sl true 1 (bys (joinF (refFs l)))) := by
  have hlen := nSize_len l
  refine PC.of_bodyK (by simp only [push_cast]) Tryz.func17 rfl (by rw [Tryz.ntmps17]; simp) ?_
  refine AWp.regionW ?_
  refine AWp.regionW ?_
  refine AWp.seqK fun K1 hK1 => ?_
  refine AWp.regionW ?_
  refine AWp.block ?_
  refine AWp.nilSl 3 true 1 ?_
  refine AWp.loopK0 [0] (fun (i : Nat) => [(3, .sl true 1 (bys (joinF (refFs (l.take i))))), (4, nat i)]) (fun i => i ≤ l.length) (fun i => l.length - i) (0) ?_ (Nat.zero_le _) ?_
  · skip
    refine Le.m 0 ?_ ?_
    · first | with_reducible rfl | (simp only [push_cast, reduceIte, Nat.reduceEqDiff, Nat.reduceLT, Nat.reduceAdd, Nat.reduceSub, Nat.reduceMul, Nat.reduceLeDiff, Nat.reducePow, Int.reduceLT, Int.reduceToNat, reduceCtorEq, Int.reduceNeg, Int.reduceEq, Nat.reduceBEq, Nat.reduceBNe, Int.reduceBEq, Int.reduceBNe, String.reduceEq]; first | done | rfl | (simp (disch := omega) only [w_nat, w_add, w_addl, w_addr, w_sub, w_subl, w_mul, w_mull, w_mulr, w_u32, w_u16, w_u8, w_u32a, N_zero]; first | done | rfl))
    · first | (simp only [push_cast, reduceIte, Nat.reduceEqDiff, Nat.reduceLT, Nat.reduceAdd, Nat.reduceSub, Nat.reduceMul, Nat.reduceLeDiff, Nat.reducePow, Int.reduceLT, Int.reduceToNat, reduceCtorEq, Int.reduceNeg, Int.reduceEq, Nat.reduceBEq, Nat.reduceBNe, Int.reduceBEq, Int.reduceBNe, String.reduceEq]; first | done | rfl | (simp (disch := omega) only [w_nat, w_add, w_addl, w_addr, w_sub, w_subl, w_mul, w_mull, w_mulr, w_u32, w_u16, w_u8, w_u32a, N_zero]; first | done | rfl))
  · intro i hi K2 hK2
    refine AWp.seqK fun K3 hK3 => ?_
    refine AWp.regionW ?_
    refine AWp.condLM (fun c0 => ?_) (fun c0 => ?_)
    · skip
      have hil : i < l.length := by simpa using c0
      have hm := List.getElem_mem hil
      have hk := nSize_kids hm
      have hv := vlen_mem hm
      have he := vlen_eq l[i]
      have hkt := GNode.tyOk_kids (tysOk_mem ht _ hm)
      have hty := GNode.tyOk_ty (tysOk_mem ht _ hm)
      have hr := refB_len l[i].kids
      have ht1 := refB_len (l.take i)
      have ht2 := nSize_take l i
      have hu := padB_len (joinF (refFs (l.take i)))
      have hg := gapN_le (joinF (refFs (l.take i))).length
      have hu2 : upN (joinF (refFs (l.take i))).length ≤ (joinF (refFs (l.take i))).length + 3 := by unfold upN; omega
      refine AWp.skip ?_
      refine hK3 _ ?_
      refine AWp.seqK fun K4 hK4 => ?_
      refine AWp.block ?_
      refine AWp.drS [[(58, none)], [(0, none)], [(4, none)], [(14, some 1), (15, some 2)], [(16, some 3)], [(17, some 4)], [(58, none)], [(0, none)], [(4, none)], [(20, some 7), (21, some 8)], [(22, some 9)], [(23, some 10)], [(24, some 11)]] fun G hG => ?_
      refine Dr.ownS ?_
      try simp only [List.cons_append, List.nil_append]
      refine Dr.sim ?_
      try simp only [List.cons_append, List.nil_append]
      refine Dr.sim ?_
      try simp only [List.cons_append, List.nil_append]
      refine Dr.idx (i) (nodeA false l[i]) ?_ ?_
      · exact nodesA_at _ _ _ hil
      try simp only [List.cons_append, List.nil_append]
      refine Dr.sim ?_
      try simp only [List.cons_append, List.nil_append]
      refine Dr.sim ?_
      try simp only [List.cons_append, List.nil_append]
      refine Dr.ownS ?_
      try simp only [List.cons_append, List.nil_append]
      refine Dr.sim ?_
      try simp only [List.cons_append, List.nil_append]
      refine Dr.sim ?_
      try simp only [List.cons_append, List.nil_append]
      refine Dr.idx (i) (nodeA false l[i]) ?_ ?_
      · exact nodesA_at _ _ _ hil
      try simp only [List.cons_append, List.nil_append]
      refine Dr.sim ?_
      try simp only [List.cons_append, List.nil_append]
      refine Dr.sim ?_
      try simp only [List.cons_append, List.nil_append]
      refine Dr.call (ih l[i].kids (by have := kids_lt hm; omega) (by omega) hkt) ?_
      try simp only [List.cons_append, List.nil_append]
      refine Dr.finCM (n := 13) [0, 6] 2 [[], [(0, none)], [(4, none)], [(14, some 1), (15, some 2)], [(16, some 3)], [(17, some 4)], [(13, some 0), (18, some 5)], [(0, none)], [(4, none)], [(20, some 7), (21, some 8)], [(22, some 9)], [(23, some 10)], [(24, some 11)]] [(19, 6), (25, 12)] [0, 3, 4] (CL.own (CL.app (hb := by rw [YtmcedkcehcacpaaGreatDoor.Facts.eb31, bys_len, List.length_nil]; omega) (hsm := by rw [bys_len, List.length_nil]; omega) CL.nil)) hG YtmcedkcehcacpaaGreatDoor.Facts.mixed fun KD hKD => ?_
      clear hG G
      refine AAny.one 13 ?_
      refine ARun.opM ?_
      refine ARun2.appendM ?_ ?_ ?_
      · rw [YtmcedkcehcacpaaGreatDoor.Facts.eb31, bys_len, bys_len]; omega
      · rw [bys_len, bys_len]; omega
      refine ARun2.endm ?_
      refine AAny.one 14 ?_
      refine ARun.opM ?_
      refine ARun2.endm ?_
      refine AAny.fin (hKD _ ?_); clear hKD KD
      refine AWp.regionW ?_
      refine AWp.regionM fun K5 hK5 => ?_
      refine ARun2.callOM [] (ref03_o (joinF (refFs (l.take i))) (by omega)) ?_
      refine ARun2.endm (hK5 _ ?_)
      refine AWp.drS [[(3, none)], [(0, none)], [(4, none)], [(33, some 1), (34, some 2)], [(35, some 3)], [(36, some 4)], [(37, some 5)], [(38, some 6)], [(0, none)], [(4, none)], [(40, some 8), (41, some 9)], [(42, some 10)], [(43, some 11)], [(44, some 12)], [(6, none)], [(46, some 14)], [(47, some 15)], [(6, none)], [(49, some 17)], [(50, some 18)], [(39, some 7), (45, some 13), (48, some 16), (51, some 19)]] fun G hG => ?_
      refine Dr.sim ?_
      try simp only [List.cons_append, List.nil_append]
      refine Dr.sim ?_
      try simp only [List.cons_append, List.nil_append]
      refine Dr.sim ?_
      try simp only [List.cons_append, List.nil_append]
      refine Dr.idx (i) (nodeA false l[i]) ?_ ?_
      · exact nodesA_at _ _ _ hil
      try simp only [List.cons_append, List.nil_append]
      refine Dr.sim ?_
      try simp only [List.cons_append, List.nil_append]
      refine Dr.sim ?_
      try simp only [List.cons_append, List.nil_append]
      refine Dr.sim ?_
      try simp only [List.cons_append, List.nil_append]
      refine Dr.sim ?_
      try simp only [List.cons_append, List.nil_append]
      refine Dr.sim ?_
      try simp only [List.cons_append, List.nil_append]
      refine Dr.sim ?_
      try simp only [List.cons_append, List.nil_append]
      refine Dr.idx (i) (nodeA false l[i]) ?_ ?_
      · exact nodesA_at _ _ _ hil
      try simp only [List.cons_append, List.nil_append]
      refine Dr.sim ?_
      try simp only [List.cons_append, List.nil_append]
      refine Dr.sim ?_
      try simp only [List.cons_append, List.nil_append]
      refine Dr.sim ?_
      try simp only [List.cons_append, List.nil_append]
      refine Dr.sim ?_
      try simp only [List.cons_append, List.nil_append]
      refine Dr.sim ?_
      try simp only [List.cons_append, List.nil_append]
      refine Dr.sim ?_
      try simp only [List.cons_append, List.nil_append]
      refine Dr.sim ?_
      try simp only [List.cons_append, List.nil_append]
      refine Dr.sim ?_
      try simp only [List.cons_append, List.nil_append]
      refine Dr.sim ?_
      try simp only [List.cons_append, List.nil_append]
      refine Dr.build ?_
      try simp only [List.cons_append, List.nil_append]
      refine Dr.finM (n := 21) [(32, 0), (52, 20)] [0, 4, 5] hG YtmcedkcehcacpaaGreatDoor.Facts.mixed fun KD hKD => ?_
      refine ARun2.appendM ?_ ?_ ?_
      · rw [YtmcedkcehcacpaaGreatDoor.Facts.eb31, bys_len]; simp; omega
      · rw [bys_len]; simp; omega
      refine ARun2.endm (hKD _ ?_); clear hKD KD hG G
      rw [four_bytes]
      refine AWp.regionN fun K6 hK6 => ?_
      refine ARun2.appendM ?_ ?_ ?_
      · rw [YtmcedkcehcacpaaGreatDoor.Facts.eb31]; simp only [List.length_append, bys_len, putB_len, padB_len]; omega
      · simp only [List.length_append, bys_len, putB_len, padB_len]; omega
      refine ARun2.endm (hK6 _ ?_)
      refine hK4 _ ?_
      refine AWp.pubD 1 ?_
      refine AWp.regionV ?_
      refine hK2 _ (i + 1) (by omega) (by omega) ?_
      refine Le.m 0 ?_ ?_
      · first | with_reducible rfl | (simp only [push_cast, reduceIte, Nat.reduceEqDiff, Nat.reduceLT, Nat.reduceAdd, Nat.reduceSub, Nat.reduceMul, Nat.reduceLeDiff, Nat.reducePow, Int.reduceLT, Int.reduceToNat, reduceCtorEq, Int.reduceNeg, Int.reduceEq, Nat.reduceBEq, Nat.reduceBNe, Int.reduceBEq, Int.reduceBNe, String.reduceEq]; first | done | rfl | (simp (disch := omega) only [w_nat, w_add, w_addl, w_addr, w_sub, w_subl, w_mul, w_mull, w_mulr, w_u32, w_u16, w_u8, w_u32a, N_zero]; first | done | rfl))
      · simp only [push_cast, reduceIte, Nat.reduceEqDiff, Nat.reduceLT, Nat.reduceAdd, Nat.reduceSub, Nat.reduceMul, Nat.reduceLeDiff, Nat.reducePow, Int.reduceLT, Int.reduceToNat, reduceCtorEq, Int.reduceNeg, Int.reduceEq, Nat.reduceBEq, Nat.reduceBNe, Int.reduceBEq, Int.reduceBNe, String.reduceEq]
        try simp (disch := omega) only [w_nat, w_add, w_addl, w_addr, w_sub, w_subl, w_mul, w_mull, w_mulr, w_u32, w_u16, w_u8, w_u32a, N_zero]
        simp only [bys_append]
        rw [List.take_succ_eq_append_getElem hil, refFs_snoc, joinF_snoc]
        simp only [putF, refV_eq, List.length_append, List.append_assoc]
    · skip
      have hil : i = l.length := by have := hi; simp at c0; omega
      subst hil
      rw [List.take_length]
      refine AWp.exit ?_
      try simp only [thenQ, blockQ, noGo, reduceIte, Nat.reduceEqDiff]
      refine hK1 _ ?_
      refine AWp.regionW ?_
      refine AWp.ret ?_
      try simp only [thenQ, blockQ, noGo]
      refine bodyQ.m ?_
      clear hK3 K3 hK2 K2 hK1 K1
      first | done | exact Wk.go
theorem refBytes_w : ∀ (w : Nat) (l : List GNode), wts l ≤ w → nSize l ≤ 2 ^ 30 → tysOk l = true → PC Tryz.prog 17 [.sl false 3 (nodesA false l)] (.sl true 1 (bys (joinF (refFs l)))) := by
  intro w
  induction w with
  | zero => exact refBytes_step 0 (fun l h => by omega)
  | succ w ih => exact refBytes_step (w + 1) (fun l h => ih l (by omega))
theorem refBytes_c (l : List GNode) (hs : nSize l ≤ 2 ^ 30) (ht : tysOk l = true) : PC Tryz.prog 17 [.sl false 3 (nodesA false l)] (.sl true 1 (bys (joinF (refFs l)))) := refBytes_w _ l (Nat.le_refl _) hs ht
end Go.Proofs.YtmcedkcehcacpaaGreatDoor.C
/- What a box holds, told more weakly. No condition. -/
namespace Go.Abs
set_option linter.unusedVariables false
set_option linter.unusedSectionVars false
set_option linter.unusedSimpArgs false
section
variable {P : Program} {ops : Array Oper} {E : Env} {s s' : AS} {o : Oper} {rest : List Oper} {Q : AS → Prop} {R : Exit → AS → Prop}
end
end Go.Abs
/- wharflaw08: NodeDepths. -/
set_option linter.unusedVariables false
set_option linter.unusedSimpArgs false
namespace Go.Proofs.YtmcedkcehcacpaaGreatDoor.C
open Go.Abs
theorem beN_put2 (n : Nat) (h : n < 65536) : beN (putB 2 n) = n := by
  simp [putB, beN, List.range_succ]
  omega
end Go.Proofs.YtmcedkcehcacpaaGreatDoor.C
/- Nodes written and read again: the plain law. -/
set_option linter.unusedVariables false
set_option linter.unusedSimpArgs false
namespace Go.Proofs.YtmcedkcehcacpaaGreatDoor.C
open Go.Abs
/-! ### frames, one after the other -/
theorem padB_mod (l : List UInt8) : (padB l).length % 4 = 0 := by rw [padB_len]; unfold upN gapN; omega
theorem padB_app (A X : List UInt8) (h : A.length % 4 = 0) : padB (A ++ X) = A ++ padB X := by
  have : gapN (A ++ X).length = gapN X.length := by rw [List.length_append]; unfold gapN; omega
  unfold padB; rw [this, List.append_assoc]
theorem join_app (A : List UInt8) (h : A.length % 4 = 0) : ∀ (l : List Frm) (X : List UInt8), l.foldl (fun out f => padB out ++ putF f) (A ++ X) = A ++ l.foldl (fun out f => padB out ++ putF f) X
  | [], X => rfl
  | f :: l, X => by rw [List.foldl_cons, List.foldl_cons, padB_app A X h, List.append_assoc, join_app A h l]
theorem padB_nil : padB [] = [] := by simp [padB, gapN]
theorem joinF_one (f : Frm) : joinF [f] = putF f := by simp [joinF, padB_nil]
theorem joinF_two (f g : Frm) (l : List Frm) : joinF (f :: g :: l) = padB (putF f) ++ joinF (g :: l) := by
  unfold joinF
  rw [List.foldl_cons, List.foldl_cons, padB_nil, List.nil_append, join_app _ (padB_mod _), List.foldl_cons, padB_nil, List.nil_append]
theorem joinF_head (f : Frm) (l : List Frm) : ∃ r, joinF (f :: l) = putF f ++ r := by
  cases l with
  | nil => exact ⟨[], by rw [joinF_one, List.append_nil]⟩
  | cons g l => exact ⟨List.replicate (gapN (putF f).length) 0 ++ joinF (g :: l), by rw [joinF_two]; unfold padB; rw [List.append_assoc]⟩
theorem joinF_pos (f : Frm) (l : List Frm) : 4 ≤ (joinF (f :: l)).length := by
  obtain ⟨r, h⟩ := joinF_head f l
  rw [h, List.length_append, putF_len]; omega
theorem peek_head (f : Frm) (r : List UInt8) (ht : f.ty < 65536) (hl : f.val.length ≤ 65531) : peekN 2 (putF f ++ r) 2 = 4 + f.val.length ∧ peekN 2 (putF f ++ r) 0 = f.ty ∧ ((putF f ++ r).drop 4).take f.val.length = f.val := by
  have hlen := putF_len f
  have h2 : (putB 2 f.ty).length = 2 := putB_len 2 f.ty
  have h3 : (putB 2 (4 + f.val.length)).length = 2 := putB_len 2 _
  have e : putF f ++ r = putB 2 f.ty ++ (putB 2 (4 + f.val.length) ++ (f.val ++ r)) := by unfold putF; simp [List.append_assoc]
  have el : (putF f ++ r).length = 4 + f.val.length + r.length := by rw [List.length_append, hlen]
  refine ⟨?_, ?_, ?_⟩
  · unfold peekN
    rw [if_pos (by omega), e, List.drop_append_of_le_length (by omega), List.drop_of_length_le (by omega), List.nil_append, List.take_append_of_le_length (by omega), List.take_of_length_le (by omega), beN_put2 _ (by omega)]
  · unfold peekN
    rw [if_pos (by omega), e, List.drop_zero, List.take_append_of_le_length (by omega), List.take_of_length_le (by omega), beN_put2 _ ht]
  · rw [e, ← List.append_assoc, List.drop_append_of_le_length (by rw [List.length_append]; omega), List.drop_of_length_le (by rw [List.length_append]; omega), List.nil_append, List.take_append_of_le_length (by omega), List.take_of_length_le (by omega)]
theorem read_last (A : List UInt8) (f : Frm) (ht : f.ty < 65536) (hl : f.val.length ≤ 65531) : readN (A ++ putF f) A.length = (f, (A ++ putF f).length, .ok) := by
  have hlen := putF_len f
  obtain ⟨p1, p2, p3⟩ := peek_head f [] ht hl
  rw [List.append_nil] at p1 p2 p3
  unfold readN
  rw [List.drop_append_of_le_length (Nat.le_refl _), List.drop_of_length_le (Nat.le_refl _), List.nil_append, p1, p2, List.length_append, hlen, if_pos (by omega), if_pos (by omega), show 4 + f.val.length - 4 = f.val.length by omega, p3]
theorem zero_rep (n : Nat) : zeroB (List.replicate n 0) = true := by
  unfold zeroB; simp
theorem read_more (A : List UInt8) (hA : A.length % 4 = 0) (f g : Frm) (l : List Frm) (ht : f.ty < 65536) (hl : f.val.length ≤ 65531) : readN (A ++ joinF (f :: g :: l)) A.length = (f, (A ++ padB (putF f)).length, .ok) := by
  have hlen := putF_len f
  have hp := padB_len (putF f)
  have hj := joinF_pos g l
  obtain ⟨r, hr⟩ : ∃ r, r = List.replicate (gapN (putF f).length) 0 ++ joinF (g :: l) := ⟨_, rfl⟩
  have e : joinF (f :: g :: l) = putF f ++ r := by rw [joinF_two, hr]; unfold padB; rw [List.append_assoc]
  have hrl : r.length = gapN (putF f).length + (joinF (g :: l)).length := by rw [hr]; simp
  obtain ⟨p1, p2, p3⟩ := peek_head f r ht hl
  have hu : upN (A.length + (4 + f.val.length)) = (A ++ padB (putF f)).length := by
    rw [List.length_append, hp, hlen]; unfold upN gapN; omega
  have hg : gapN (putF f).length ≤ 3 := gapN_le _
  have hg' : gapN (4 + f.val.length) = gapN (putF f).length := by rw [hlen]
  have hn : nextN (A ++ (putF f ++ r)) (A.length + (4 + f.val.length)) = some (A ++ padB (putF f)).length := by
    unfold nextN
    rw [if_pos, hu]
    refine ⟨by simp; omega, by rw [hu, List.length_append, hp]; simp [hlen, hrl]; unfold upN; omega, ?_⟩
    rw [hu]
    have e2 : A ++ (putF f ++ r) = (A ++ padB (putF f)) ++ joinF (g :: l) := by rw [hr]; unfold padB; simp [List.append_assoc]
    rw [e2, List.take_append_of_le_length (Nat.le_refl _), List.take_of_length_le (Nat.le_refl _)]
    have e3 : A ++ padB (putF f) = (A ++ putF f) ++ List.replicate (gapN (putF f).length) 0 := by unfold padB; rw [List.append_assoc]
    rw [e3, List.drop_append_of_le_length (by simp; omega), List.drop_of_length_le (by simp; omega), List.nil_append]
    exact zero_rep _
  unfold readN
  rw [e, List.drop_append_of_le_length (Nat.le_refl _), List.drop_of_length_le (Nat.le_refl _), List.nil_append, p1, p2, show 4 + f.val.length - 4 = f.val.length by omega, p3, hn]
  have hb : (A ++ (putF f ++ r)).length = A.length + (4 + f.val.length + r.length) := by simp [hlen]
  rw [if_pos (by rw [hb]; omega), if_neg (by rw [hb]; omega), if_pos]
  · rfl
  · refine ⟨rfl, ?_⟩
    rw [Option.getD_some, List.length_append, hp, hlen, hb]
    unfold upN; omega
/-- the frames with their places -/
def offsN : Nat → List Frm → List (Nat × Frm)
  | _, [] => []
  | i, f :: l => (i, f) :: offsN (i + upN (4 + f.val.length)) l
theorem scan_join : ∀ (l : List Frm) (A : List UInt8) (k : Nat), A.length % 4 = 0 → (∀ f ∈ l, f.ty < 65536 ∧ f.val.length ≤ 65531) → (joinF l).length ≤ k → scan (A ++ joinF l) k A.length = (offsN A.length l, .ok)
  | [], A, k, hA, hf, hk => by
    cases k with
    | zero => rfl
    | succ k => rw [scan, if_neg (by simp [joinF])]; rfl
  | [f], A, k, hA, hf, hk => by
    obtain ⟨h1, h2⟩ := hf f (by simp)
    have hlen := putF_len f
    rw [joinF_one] at hk ⊢
    obtain ⟨k, rfl⟩ : ∃ k', k = k' + 1 := ⟨k - 1, by omega⟩
    rw [scan, if_pos (by simp; omega), read_last A f h1 h2]
    simp only
    have : scan (A ++ putF f) k (A ++ putF f).length = ([], .ok) := by
      cases k with
      | zero => rfl
      | succ k => rw [scan, if_neg (by omega)]
    rw [this]
    rfl
  | f :: g :: l, A, k, hA, hf, hk => by
    obtain ⟨h1, h2⟩ := hf f (by simp)
    have hlen := putF_len f
    have hp := padB_len (putF f)
    have hj := joinF_pos g l
    have hjj := joinF_two f g l
    have hjl : (joinF (f :: g :: l)).length = (padB (putF f)).length + (joinF (g :: l)).length := by rw [hjj, List.length_append]
    have hpl : 4 ≤ (padB (putF f)).length := by rw [hp]; unfold upN; omega
    obtain ⟨k, rfl⟩ : ∃ k', k = k' + 1 := ⟨k - 1, by omega⟩
    rw [scan, if_pos (by simp; omega), read_more A hA f g l h1 h2]
    simp only
    have ih := scan_join (g :: l) (A ++ padB (putF f)) k (by rw [List.length_append]; have := padB_mod (putF f); omega) (fun x hx => hf x (by simp [hx])) (by omega)
    rw [show A ++ joinF (f :: g :: l) = (A ++ padB (putF f)) ++ joinF (g :: l) by rw [hjj, List.append_assoc], ih]
    have : (A ++ padB (putF f)).length = A.length + upN (4 + f.val.length) := by rw [List.length_append, hp, hlen]
    rw [this]
    rfl
theorem goF_nodes {one : Frm → Nat → GNode × Er} {i : Nat} : ∀ (ns : List GNode) (j : Nat), (∀ n ∈ ns, ∀ q, one ⟨n.ty, refV n⟩ q = (n, .ok)) → goF one i (offsN j (refFs ns)) = (ns, .ok)
  | [], j, h => rfl
  | n :: ns, j, h => by
    have h1 := h n (by simp)
    have h2 := goF_nodes (i := i) ns (j + upN (4 + (refV n).length)) fun m hm => h m (by simp [hm])
    simp [refFs, offsN, goF, h1, h2]
theorem checkL_mem {c dp : Nat} : ∀ {l : List GNode}, checkL c dp l = 0 → ∀ n ∈ l, checkN c dp n = 0
  | [], h, n, hn => by simp at hn
  | m :: l, h, n, hn => by
    rw [checkL] at h
    split at h
    · rename_i hm; exact absurd h hm
    · rename_i hm
      rcases List.mem_cons.1 hn with rfl | hn
      · simpa using hm
      · exact checkL_mem h n hn
theorem checkN_zero {c dp : Nat} {n : GNode} (h : checkN c dp n = 0) : dp ≤ 4 ∧ badN c n.ty n.data.length n.kids = false ∧ countedN c n.ty n.data = false ∧ checkL (insideN (shapeOf c n.ty).kids).1 (dp + 1) n.kids = 0 ∧ nSize [n] ≤ 65535 := by
  rw [checkN_eq] at h
  split at h
  · cases h
  · rename_i h1
    split at h
    · cases h
    · rename_i h2
      split at h
      · cases h
      · rename_i h3
        split at h
        · rename_i h4; exact absurd h h4
        · rename_i h4
          split at h
          · cases h
          · rename_i h5
            exact ⟨by omega, by simpa using h2, by simpa using h3, by simpa using h4, by omega⟩
theorem size_one (n : GNode) : nSize [n] = 4 + vlen n := by simp [nSize, nLens, tlvSize, sumUp, upN, gapN]
theorem forms_exact (c : Nat) : ∀ f ∈ formsN c, f.kids ≠ 0 → f.most = f.least := by
  match c with
  | 0 => intro f hf; simp [formsN] at hf
  | 1 => decide
  | 2 => decide
  | _ + 3 => intro f hf; simp [formsN] at hf
theorem shape_exact (c t : Nat) (h : (shapeOf c t).kids ≠ 0) : (shapeOf c t).most = (shapeOf c t).least := by
  unfold shapeOf at *
  cases hf : (formsN c).find? (fun f => f.ty == t) with
  | none => rw [hf] at h; simp [zeroForm] at h
  | some f =>
    rw [hf] at h
    simp only [Option.map_some, Option.getD_some] at h ⊢
    exact forms_exact c f (List.mem_of_find?_eq_some hf) h
theorem kids_none {f : ShForm} {l : List GNode} (h : kidsOk f l = true) (hk : f.kids = 0) : l = [] := by
  unfold kidsOk at h
  rw [hk] at h
  simp [insideN] at h
  first | exact h | exact h.1 | exact List.eq_nil_of_length_eq_zero (by omega)
theorem one_rt (m c dp : Nat) (hc : c = 1 ∨ c = 2) (n : GNode) (h : checkN c dp n = 0)
    (ih : ∀ (c : Nat) (l : List GNode) (i : Nat), (c = 1 ∨ c = 2) → checkL c (dp + 1) l = 0 → tysOk l = true → parseF m c (joinF (refFs l)) i = (l, .ok)) (ht : n.tyOk = true) (i : Nat) :
    oneF (parseF m) c ⟨n.ty, refV n⟩ i = (n, .ok) := by
  obtain ⟨h1, h2, h3, h4, h5⟩ := checkN_zero h
  have hv := refV_eq n
  unfold badN at h2
  unfold oneF
  by_cases hs : shapeHas c n.ty = false
  · rw [hs] at h2
    simp at h2
    have hk : n.kids = [] := by first | exact h2 | exact List.eq_nil_of_length_eq_zero (by omega)
    rw [if_pos hs, hv, hk]
    cases n with
    | mk t d k => simp only [GNode.kids] at hk; subst hk; simp [GNode.ty, GNode.data, refFs, joinF]
  · have hs' : shapeHas c n.ty = true := by simpa using hs
    rw [hs'] at h2
    simp at h2
    obtain ⟨hf, hk⟩ := h2
    rw [if_neg hs]
    by_cases h0 : (shapeOf c n.ty).kids = 0
    · have hkn := kids_none hk h0
      have hd : dataOf c ⟨n.ty, refV n⟩ = n.data := by
        unfold dataOf
        rw [if_neg (by simp [h0]), hv, hkn]
        simp [refFs, joinF]
      rw [hd, hf, h3, if_neg (by simp), if_neg (by simp), if_pos h0]
      cases n with
      | mk t d k => simp only [GNode.kids] at hkn; subst hkn; rfl
    · have hex := shape_exact c n.ty h0
      have hdl : n.data.length = (shapeOf c n.ty).least := by
        unfold fitsN at hf
        simp at hf
        omega
      have hd : dataOf c ⟨n.ty, refV n⟩ = n.data := by
        unfold dataOf
        rw [if_pos ⟨h0, by simp only; rw [hv, List.length_append]; omega⟩]
        simp only
        rw [hv, ← hdl, List.take_append_of_le_length (Nat.le_refl _), List.take_of_length_le (Nat.le_refl _)]
      have hdr : (refV n).drop (shapeOf c n.ty).least = joinF (refFs n.kids) := by
        rw [hv, ← hdl, List.drop_append_of_le_length (Nat.le_refl _), List.drop_of_length_le (Nat.le_refl _), List.nil_append]
      have hr := ih (insideN (shapeOf c n.ty).kids).1 n.kids (i + 4 + (shapeOf c n.ty).least) (inside_cls (shape_kids4 c n.ty) h0) h4 (GNode.tyOk_kids ht)
      simp only
      rw [hd, hf, h3, hdr, hr, if_neg (by simp), if_neg (by simp), if_neg h0, if_neg (by simp), if_neg (by rw [hk]; simp)]
      cases n; rfl
theorem parse_rt : ∀ (m dp c : Nat) (l : List GNode) (i : Nat), dp + m = 5 → (c = 1 ∨ c = 2) → checkL c dp l = 0 → tysOk l = true → parseF m c (joinF (refFs l)) i = (l, .ok)
  | m, dp, c, l, i, hdm, hc, h, ht => by
    have hsc := scan_join (refFs l) [] (joinF (refFs l)).length rfl (by
      intro f hf
      rw [refFs_map] at hf
      obtain ⟨n, hn, rfl⟩ := List.mem_map.1 hf
      have hz := (checkN_zero (checkL_mem h n hn)).2.2.2.2
      rw [size_one] at hz
      have := refV_len n
      exact ⟨GNode.tyOk_ty (tysOk_mem ht n hn), by simp only; omega⟩) (Nat.le_refl _)
    rw [List.nil_append, List.length_nil] at hsc
    rw [parseF_eq, hsc]
    simp only [reduceIte]
    refine goF_nodes l 0 fun n hn q => ?_
    have hcn := checkL_mem h n hn
    match m with
    | 0 =>
      exfalso
      have := (checkN_zero hcn).1
      omega
    | m + 1 =>
      exact one_rt m c dp hc n hcn (fun c l i hc h ht => parse_rt m (dp + 1) c l i (by omega) hc h ht) (tysOk_mem ht n hn) q
theorem enc_rt : ∀ (w dp c : Nat) (l : List GNode), wts l ≤ w → checkL c dp l = 0 → encN l = joinF (refFs l)
  | w, dp, c, l, hw, h => by
    have key : ∀ n ∈ l, frameN n = ⟨n.ty, refV n⟩ := by
      intro n hn
      have hz := checkN_zero (checkL_mem h n hn)
      have hlt := kids_lt hn
      match w with
      | 0 => omega
      | w + 1 =>
        have := enc_rt w (dp + 1) _ n.kids (by omega) hz.2.2.2.1
        unfold encN at this
        rw [frameN_eq, this, ← refV_eq]
    have e : framesN l = refFs l := by
      rw [framesN_map, refFs_map]
      exact List.map_congr_left key
    unfold encN joinX
    rw [e, if_pos]
    rw [List.all_eq_true]
    intro f hf
    rw [refFs_map] at hf
    obtain ⟨n, hn, rfl⟩ := List.mem_map.1 hf
    have hz := (checkN_zero (checkL_mem h n hn)).2.2.2.2
    rw [size_one] at hz
    have := refV_len n
    simp [fitF]; omega
end Go.Proofs.YtmcedkcehcacpaaGreatDoor.C
/- wharflaw08: NodeMatchesReference. -/
set_option linter.unusedVariables false
set_option linter.unusedSimpArgs false
namespace Go.Proofs.YtmcedkcehcacpaaGreatDoor.C
open Go.Abs
theorem right08_c (z : Int) : PC Tryz.prog 6 [.val (.int .i64 z)] (bool (z == 1 || z == 2)) := by
  refine PC.of_bodyW (by simp only [push_cast]) Tryz.func6 rfl (by rw [Tryz.ntmps6]; simp) ?_
  refine AWp.regionW ?_
  refine AWp.regionA fun K1 hK1 => ?_
  refine ARun.segm 3 fun KS hKS => ?_
  refine ARun2.endm (hKS _ ?_); clear hKS KS
  apply ARun.grpM 2 2 false 7 [5]
  · intro g2 KG hKG
    refine ARun2.gom ?_
    exact ARun2.endm (hKG _ Le.grpM)
  refine ARun2.gom ?_
  refine ARun2.endm (hK1 _ ?_)
  refine AWp.ret ?_
  try simp only [thenQ, blockQ, noGo]
  refine bodyQ.m ?_
  clear hK1 K1
  first | done | exact Hand.go
theorem refAll_c (c : Nat) (l : List GNode) (hc : c = 1 ∨ c = 2) (hs : nSize l ≤ 2 ^ 30) : PC Tryz.prog 11 [nat c, .sl false 3 (nodesA false l)] (nat (checkL c 1 l)) := by
  have hlen := nSize_len l
  refine PC.of_bodyW (by simp only [push_cast]) Tryz.func11 rfl (by rw [Tryz.ntmps11]; simp) ?_
  refine AWp.regionW ?_
  refine AWp.seqK fun K1 hK1 => ?_
  refine AWp.regionW ?_
  refine AWp.block ?_
  refine AWp.loopK0 [0, 1] (fun (i : Nat) => [(5, nat i)]) (fun i => i ≤ l.length ∧ checkL c 1 (l.take i) = 0) (fun i => l.length - i) (0) ?_ ⟨Nat.zero_le _, rfl⟩ ?_
  · skip
    refine Le.m 0 ?_ ?_
    · first | with_reducible rfl | (simp only [push_cast, reduceIte, Nat.reduceEqDiff, Nat.reduceLT, Nat.reduceAdd, Nat.reduceSub, Nat.reduceMul, Nat.reduceLeDiff, Nat.reducePow, Int.reduceLT, Int.reduceToNat, reduceCtorEq, Int.reduceNeg, Int.reduceEq, Nat.reduceBEq, Nat.reduceBNe, Int.reduceBEq, Int.reduceBNe, String.reduceEq]; first | done | rfl | (simp (disch := omega) only [w_nat, w_add, w_addl, w_addr, w_sub, w_subl, w_mul, w_mull, w_mulr, w_u32, w_u16, w_u8, w_u32a, N_zero]; first | done | rfl))
    · first | (simp only [push_cast, reduceIte, Nat.reduceEqDiff, Nat.reduceLT, Nat.reduceAdd, Nat.reduceSub, Nat.reduceMul, Nat.reduceLeDiff, Nat.reducePow, Int.reduceLT, Int.reduceToNat, reduceCtorEq, Int.reduceNeg, Int.reduceEq, Nat.reduceBEq, Nat.reduceBNe, Int.reduceBEq, Int.reduceBNe, String.reduceEq]; first | done | rfl | (simp (disch := omega) only [w_nat, w_add, w_addl, w_addr, w_sub, w_subl, w_mul, w_mull, w_mulr, w_u32, w_u16, w_u8, w_u32a, N_zero]; first | done | rfl))
  · intro i hi K2 hK2
    refine AWp.seqK fun K3 hK3 => ?_
    refine AWp.regionW ?_
    refine AWp.condLM (fun c0 => ?_) (fun c0 => ?_)
    · skip
      have hil : i < l.length := by simpa using c0
      have hm := List.getElem_mem hil
      have hn1 := nSize_one hm
      refine AWp.skip ?_
      refine hK3 _ ?_
      refine AWp.seqK fun K4 hK4 => ?_
      refine AWp.block ?_
      refine AWp.regionM fun K5 hK5 => ?_
      refine ARun2.indexM (i) (nodeA false l[i]) ?_ ?_
      · exact nodesA_at _ _ _ hil
      refine ARun2.callM (check08_c c 1 l[i] hc (by omega) (by omega)) ?_
      refine ARun2.endm (hK5 _ ?_)
      refine AWp.regionW ?_
      refine AWp.condLM (fun c1 => ?_) (fun c1 => ?_)
      · skip
        have hne : checkN c 1 l[i] ≠ 0 := by simpa using c1
        have hr := checkL_at c 1 l i hil hi.2 hne
        refine AWp.regionW ?_
        refine AWp.ret ?_
        try simp only [thenQ, blockQ, noGo]
        refine bodyQ.m ?_
        clear hK5 K5 hK4 K4 hK3 K3 hK2 K2 hK1 K1
        rw [hr]
        first | done | exact Hand.go
      · skip
        have heq : checkN c 1 l[i] = 0 := by simpa using c1
        refine AWp.skip ?_
        refine hK4 _ ?_
        refine AWp.regionV ?_
        refine hK2 _ (i + 1) (⟨hil, by rw [List.take_succ_eq_append_getElem hil, checkL_snoc, hi.2]; simpa using heq⟩) (by omega) ?_
        refine Le.m 0 ?_ ?_
        · first | with_reducible rfl | (simp only [push_cast, reduceIte, Nat.reduceEqDiff, Nat.reduceLT, Nat.reduceAdd, Nat.reduceSub, Nat.reduceMul, Nat.reduceLeDiff, Nat.reducePow, Int.reduceLT, Int.reduceToNat, reduceCtorEq, Int.reduceNeg, Int.reduceEq, Nat.reduceBEq, Nat.reduceBNe, Int.reduceBEq, Int.reduceBNe, String.reduceEq]; first | done | rfl | (simp (disch := omega) only [w_nat, w_add, w_addl, w_addr, w_sub, w_subl, w_mul, w_mull, w_mulr, w_u32, w_u16, w_u8, w_u32a, N_zero]; first | done | rfl))
        · first | (simp only [push_cast, reduceIte, Nat.reduceEqDiff, Nat.reduceLT, Nat.reduceAdd, Nat.reduceSub, Nat.reduceMul, Nat.reduceLeDiff, Nat.reducePow, Int.reduceLT, Int.reduceToNat, reduceCtorEq, Int.reduceNeg, Int.reduceEq, Nat.reduceBEq, Nat.reduceBNe, Int.reduceBEq, Int.reduceBNe, String.reduceEq]; first | done | rfl | (simp (disch := omega) only [w_nat, w_add, w_addl, w_addr, w_sub, w_subl, w_mul, w_mull, w_mulr, w_u32, w_u16, w_u8, w_u32a, N_zero]; first | done | rfl))
    · skip
      have hil : i = l.length := by have := hi.1; simp at c0; omega
      subst hil
      have hr : checkL c 1 l = 0 := by have := hi.2; rwa [List.take_length] at this
      refine AWp.exit ?_
      try simp only [thenQ, blockQ, noGo, reduceIte, Nat.reduceEqDiff]
      refine hK1 _ ?_
      refine AWp.regionW ?_
      refine AWp.ret ?_
      try simp only [thenQ, blockQ, noGo]
      refine bodyQ.m ?_
      clear hK3 K3 hK2 K2 hK1 K1
      rw [hr]
      first | done | exact Hand.go
theorem nodeMatches_no (z : Int) (l : List GNode) (hz : (z == 1 || z == 2) = false) : PC Tryz.prog 3 [.val (.int .i64 z), .sl false 3 (nodesA false l)] (bool true) := by
  have h1 := right08_c z
  rw [hz] at h1
  refine PC.of_bodyW (by simp only [push_cast]) Tryz.func3 rfl (by rw [Tryz.ntmps3]; simp) ?_
  refine AWp.regionW ?_
  refine AWp.seqK fun K1 hK1 => ?_
  refine AWp.regionM fun K2 hK2 => ?_
  refine ARun2.callM (awake08_c) ?_
  refine ARun2.callM (h1) ?_
  skip
  refine ARun2.endm (hK2 _ ?_)
  refine AWp.condT ?_
  refine AWp.regionM fun K3 hK3 => ?_
  refine ARun2.callM (awake08_c) ?_
  refine ARun2.endm (hK3 _ ?_)
  refine AWp.ret ?_
  try simp only [thenQ, blockQ, noGo]
  refine bodyQ.m ?_
  clear hK3 K3 hK2 K2 hK1 K1
  first | done | exact Hand.go
theorem nodeMatches_c (c : Nat) (l : List GNode) (hc : c = 1 ∨ c = 2) (hs : szs l ≤ 2 ^ 30) (hn : nSize l ≤ 2 ^ 30) (ht : tysOk l = true) : PC Tryz.prog 3 [nat c, .sl false 3 (nodesA false l)] (bool true) := by
  have hlen := nSize_len l
  have h1 := right08_c (N c)
  have e1 : (N c == 1 || N c == 2) = true := by unfold N; rcases hc with rfl | rfl <;> rfl
  rw [e1] at h1
  have h2 := few_c l hs
  generalize fewN l = g at h2
  have h3 := refAll_c c l hc hn
  have h4 := encode_c c l hc hn ht
  have h5 := coded_c (checkL c 1 l) (checkL c 1 l)
  rw [beq_self_eq_true] at h5
  have h6 := size_c l hn
  have h7 := size08_c l hn
  have h8 := refBytes_c l hn ht
  have hbl := refB_len l
  have h9 := parse_c c (joinF (refFs l)) hc (by omega)
  have h10 := same01_c (joinF (refFs l)) (joinF (refFs l)) (by omega)
  rw [decide_eq_true rfl] at h10
  have h11 := same08_c l l (by omega)
  rw [(sameL_iff l l).2 rfl] at h11
  have q1 : checkL c 1 l = 0 → encN l = joinF (refFs l) := fun h => enc_rt _ 1 c l (Nat.le_refl _) h
  have q2 : checkL c 1 l = 0 → parseF 4 c (joinF (refFs l)) 0 = (l, .ok) := fun h => parse_rt 4 1 c l 0 rfl hc h ht
  generalize joinF (refFs l) = rb at h8 h9 h10 q1 q2
  refine PC.of_bodyW (by simp only [push_cast]) Tryz.func3 rfl (by rw [Tryz.ntmps3]; simp) ?_
  refine AWp.regionW ?_
  refine AWp.seqK fun K1 hK1 => ?_
  refine AWp.regionA fun K2 hK2 => ?_
  refine ARun.segm 3 fun KS hKS => ?_
  refine ARun2.callM (awake08_c) ?_
  refine ARun2.endm (hKS _ ?_); clear hKS KS
  apply ARun.grpM 3 2 false 16 [0, 1, 13]
  · intro g2 KG hKG
    refine ARun2.gom ?_
    refine ARun2.callM (h1) ?_
    exact ARun2.endm (hKG _ Le.grpM)
  refine ARun.segm 2 fun KS hKS => ?_
  refine ARun2.endm (hKS _ ?_); clear hKS KS
  apply ARun.grpM 3 7 false 21 [0, 1, 18]
  · intro g7 KG hKG
    refine ARun2.gom ?_
    refine ARun2.callM (h2) ?_
    exact ARun2.endm (hKG _ Le.grpM)
  refine ARun2.gom ?_
  refine ARun2.endm (hK2 _ ?_)
  refine AWp.condLM (fun c0 => ?_) (fun c0 => ?_)
  · skip
    refine AWp.regionM fun K3 hK3 => ?_
    refine ARun2.callM (awake08_c) ?_
    refine ARun2.endm (hK3 _ ?_)
    refine AWp.ret ?_
    try simp only [thenQ, blockQ, noGo]
    refine bodyQ.m ?_
    clear hK3 K3 hK2 K2 hK1 K1
    first | done | exact Hand.go
  · skip
    refine AWp.skip ?_
    refine hK1 _ ?_
    refine AWp.seqK fun K4 hK4 => ?_
    refine AWp.regionW ?_
    refine AWp.block ?_
    refine AWp.loopK0 [0, 1] (fun (i : Nat) => [(5, nat i)]) (fun i => i ≤ l.length) (fun i => l.length - i) (0) ?_ (Nat.zero_le _) ?_
    · skip
      refine Le.m 0 ?_ ?_
      · first | with_reducible rfl | (simp only [push_cast, reduceIte, Nat.reduceEqDiff, Nat.reduceLT, Nat.reduceAdd, Nat.reduceSub, Nat.reduceMul, Nat.reduceLeDiff, Nat.reducePow, Int.reduceLT, Int.reduceToNat, reduceCtorEq, Int.reduceNeg, Int.reduceEq, Nat.reduceBEq, Nat.reduceBNe, Int.reduceBEq, Int.reduceBNe, String.reduceEq]; first | done | rfl | (simp (disch := omega) only [w_nat, w_add, w_addl, w_addr, w_sub, w_subl, w_mul, w_mull, w_mulr, w_u32, w_u16, w_u8, w_u32a, N_zero]; first | done | rfl))
      · first | (simp only [push_cast, reduceIte, Nat.reduceEqDiff, Nat.reduceLT, Nat.reduceAdd, Nat.reduceSub, Nat.reduceMul, Nat.reduceLeDiff, Nat.reducePow, Int.reduceLT, Int.reduceToNat, reduceCtorEq, Int.reduceNeg, Int.reduceEq, Nat.reduceBEq, Nat.reduceBNe, Int.reduceBEq, Int.reduceBNe, String.reduceEq]; first | done | rfl | (simp (disch := omega) only [w_nat, w_add, w_addl, w_addr, w_sub, w_subl, w_mul, w_mull, w_mulr, w_u32, w_u16, w_u8, w_u32a, N_zero]; first | done | rfl))
    · intro i hi K5 hK5
      refine AWp.seqK fun K6 hK6 => ?_
      refine AWp.regionW ?_
      refine AWp.condLM (fun c1 => ?_) (fun c1 => ?_)
      · skip
        have hil : i < l.length := by simpa using c1
        have hm := List.getElem_mem hil
        have hn1 := nSize_one hm
        have k1 := check_c c l[i] hc (by omega)
        have k2 := check08_c c 1 l[i] hc (by omega) (by omega)
        have k3 := coded_c (checkN c 1 l[i]) (checkN c 1 l[i])
        rw [beq_self_eq_true] at k3
        generalize checkN c 1 l[i] = e at k1 k2 k3
        refine AWp.skip ?_
        refine hK6 _ ?_
        refine AWp.seqK fun K7 hK7 => ?_
        refine AWp.block ?_
        refine AWp.drS [[(0, none)], [(1, none)], [(5, none)], [(31, some 1), (32, some 2)], [(33, some 3)], [(30, some 0), (34, some 4)], [(0, none)], [(1, none)], [(5, none)], [(37, some 7), (38, some 8)], [(39, some 9)], [(36, some 6), (40, some 10)], [(35, some 5), (41, some 11)], [(42, some 12)]] fun G hG => ?_
        refine Dr.sim ?_
        try simp only [List.cons_append, List.nil_append]
        refine Dr.sim ?_
        try simp only [List.cons_append, List.nil_append]
        refine Dr.sim ?_
        try simp only [List.cons_append, List.nil_append]
        refine Dr.idx (i) (nodeA false l[i]) ?_ ?_
        · exact nodesA_at _ _ _ hil
        try simp only [List.cons_append, List.nil_append]
        refine Dr.sim ?_
        try simp only [List.cons_append, List.nil_append]
        refine Dr.call (k1) ?_
        try simp only [List.cons_append, List.nil_append]
        refine Dr.sim ?_
        try simp only [List.cons_append, List.nil_append]
        refine Dr.sim ?_
        try simp only [List.cons_append, List.nil_append]
        refine Dr.sim ?_
        try simp only [List.cons_append, List.nil_append]
        refine Dr.idx (i) (nodeA false l[i]) ?_ ?_
        · exact nodesA_at _ _ _ hil
        try simp only [List.cons_append, List.nil_append]
        refine Dr.sim ?_
        try simp only [List.cons_append, List.nil_append]
        refine Dr.call (k2) ?_
        try simp only [List.cons_append, List.nil_append]
        refine Dr.call (k3) ?_
        try simp only [List.cons_append, List.nil_append]
        refine Dr.sim ?_
        try simp only [List.cons_append, List.nil_append]
        refine Dr.finM (n := 14) [(43, 13)] [0, 1, 5] hG YtmcedkcehcacpaaGreatDoor.Facts.mixed fun KD hKD => ?_
        refine ARun2.endm (hKD _ ?_); clear hKD KD hG G
        refine AWp.condF ?_
        refine AWp.skip ?_
        refine hK7 _ ?_
        refine AWp.regionV ?_
        refine hK5 _ (i + 1) (by omega) (by omega) ?_
        refine Le.m 0 ?_ ?_
        · first | with_reducible rfl | (simp only [push_cast, reduceIte, Nat.reduceEqDiff, Nat.reduceLT, Nat.reduceAdd, Nat.reduceSub, Nat.reduceMul, Nat.reduceLeDiff, Nat.reducePow, Int.reduceLT, Int.reduceToNat, reduceCtorEq, Int.reduceNeg, Int.reduceEq, Nat.reduceBEq, Nat.reduceBNe, Int.reduceBEq, Int.reduceBNe, String.reduceEq]; first | done | rfl | (simp (disch := omega) only [w_nat, w_add, w_addl, w_addr, w_sub, w_subl, w_mul, w_mull, w_mulr, w_u32, w_u16, w_u8, w_u32a, N_zero]; first | done | rfl))
        · first | (simp only [push_cast, reduceIte, Nat.reduceEqDiff, Nat.reduceLT, Nat.reduceAdd, Nat.reduceSub, Nat.reduceMul, Nat.reduceLeDiff, Nat.reducePow, Int.reduceLT, Int.reduceToNat, reduceCtorEq, Int.reduceNeg, Int.reduceEq, Nat.reduceBEq, Nat.reduceBNe, Int.reduceBEq, Int.reduceBNe, String.reduceEq]; first | done | rfl | (simp (disch := omega) only [w_nat, w_add, w_addl, w_addr, w_sub, w_subl, w_mul, w_mull, w_mulr, w_u32, w_u16, w_u8, w_u32a, N_zero]; first | done | rfl))
      · skip
        refine AWp.exit ?_
        try simp only [thenQ, blockQ, noGo, reduceIte, Nat.reduceEqDiff]
        refine hK4 _ ?_
        refine AWp.regionM fun K8 hK8 => ?_
        refine ARun2.callM (h3) ?_
        refine ARun2.endm (hK8 _ ?_)
        refine AWp.regionM fun K9 hK9 => ?_
        refine ARun2.callM (h4) ?_
        refine ARun2.endm (hK9 _ ?_)
        refine AWp.seqK fun K10 hK10 => ?_
        refine AWp.regionA fun K11 hK11 => ?_
        refine ARun.segm 5 fun KS hKS => ?_
        refine ARun2.callM (h5) ?_
        refine ARun2.endm (hKS _ ?_); clear hKS KS
        apply ARun.grpM 5 4 false 62 [0, 1, 6, 7, 57]
        · intro g4 KG hKG
          refine ARun2.gom ?_
          refine ARun2.callM (h6) ?_
          refine ARun2.callM (h7) ?_
          exact ARun2.endm (hKG _ Le.grpM)
        refine ARun2.gom ?_
        refine ARun2.endm (hK11 _ ?_)
        refine AWp.condF ?_
        refine AWp.skip ?_
        refine hK10 _ ?_
        refine AWp.seqK fun K12 hK12 => ?_
        refine AWp.regionW ?_
        refine AWp.condLM (fun c4 => ?_) (fun c4 => ?_)
        · skip
          have hne : checkL c 1 l ≠ 0 := by simpa using c4
          rw [if_neg hne]
          refine AWp.regionW ?_
          refine AWp.ret ?_
          try simp only [thenQ, blockQ, noGo]
          refine bodyQ.m ?_
          clear hK12 K12 hK11 K11 hK10 K10 hK9 K9 hK8 K8 hK6 K6 hK5 K5 hK4 K4 hK2 K2 hK1 K1
          first | done | exact Hand.go
        · skip
          have heq : checkL c 1 l = 0 := by simpa using c4
          rw [if_pos heq, q1 heq]
          have h9' := h9
          rw [q2 heq] at h9'
          refine AWp.skip ?_
          refine hK12 _ ?_
          refine AWp.regionM fun K13 hK13 => ?_
          refine ARun2.callM (h9') ?_
          refine ARun2.endm (hK13 _ ?_)
          refine AWp.regionA fun K14 hK14 => ?_
          refine ARun.segm 5 fun KS hKS => ?_
          refine ARun2.callM (h8) ?_
          refine ARun2.callM (h10) ?_
          refine ARun2.endm (hKS _ ?_); clear hKS KS
          apply ARun.grpM 2 4 true 81 [1, 9, 79]
          · intro g4 KG hKG
            refine ARun2.gom ?_
            exact ARun2.endm (hKG _ Le.grpM)
          refine ARun.segm 2 fun KS hKS => ?_
          refine ARun2.endm (hKS _ ?_); clear hKS KS
          apply ARun.grpM 3 8 true 86 [83]
          · intro g8 KG hKG
            refine ARun2.gom ?_
            refine ARun2.callM (h11) ?_
            exact ARun2.endm (hKG _ Le.grpM)
          refine ARun2.gom ?_
          refine ARun2.endm (hK14 _ ?_)
          refine AWp.ret ?_
          try simp only [thenQ, blockQ, noGo]
          refine bodyQ.m ?_
          clear hK14 K14 hK13 K13 hK12 K12 hK11 K11 hK10 K10 hK9 K9 hK8 K8 hK6 K6 hK5 K5 hK4 K4 hK2 K2 hK1 K1
          first | done | exact Hand.go
theorem nSize_szs (l : List GNode) : nSize l ≤ 8 * szs l + 8 := by
  have h := nSize_sz (.mk 0 [] l)
  have e := vlen_eq (.mk 0 [] l)
  simp only [GNode.data, GNode.kids, List.length_nil] at e
  rw [size_one, e, GNode.sz, List.length_nil] at h
  omega
theorem nodeMatches_z (z : Int) (l : List GNode) (hs : szs l ≤ 2 ^ 30) (hn : nSize l ≤ 2 ^ 30) (ht : tysOk l = true) : PC Tryz.prog 3 [.val (.int .i64 z), .sl false 3 (nodesA false l)] (bool true) := by
  cases h : (z == 1 || z == 2) with
  | false => exact nodeMatches_no z l h
  | true =>
    simp at h
    rcases h with rfl | rfl
    · exact nodeMatches_c 1 l (.inl rfl) hs hn ht
    · exact nodeMatches_c 2 l (.inr rfl) hs hn ht
end Go.Proofs.YtmcedkcehcacpaaGreatDoor.C
/- From the statement's reading to abstract values, and back. No condition. -/
namespace Go.Abs
open Go.ChangeShapes Go.WideShapes Go.RowKit
set_option linter.unusedVariables false
set_option linter.unusedSectionVars false
set_option linter.unusedSimpArgs false
/-- all that is there when the call begins -/
abbrev Old (W : World) : Nat → Prop := fun b => b < W.heap.size
theorem RW.start (W : World) : RW (E0 W (Old W) []) [] [] (Old W) W :=
  { os := rfl, tape := rfl, output := rfl, size := Nat.le_refl _, block := fun _ _ _ => rfl, pre := fun k v h => by simp at h, bsub := fun _ h => h, bnew := fun _ h => .inl h,
    blt := fun _ h => h, len := rfl, obs := fun k o h => by simp at h, dis := fun i j o o' u v b _ h => by simp at h, prv := fun k o v b h => by simp at h }
theorem PC.answers {P : Program} {f : FuncId} {ys : List AV} {v : Value} (h : PC P f ys (.val v)) {W : World} (hg : Globs W (Old W) []) {args : Array Value} (ha : RelL W (Old W) W.heap.size [] ys args.toList) :
    Calls P f args W fun e W' => e = .returned v ∧ Below W.heap.size W W' := by
  have := h.2 W [] (Old W) args.toList hg (RW.start W) ha (fun e W' => e = .returned v ∧ Below W.heap.size W W') (by
    rintro r' v' τ' ρ' B' w' ⟨rfl, rfl⟩ hw hr
    cases hr
    exact ⟨rfl, ⟨hw.os, hw.tape, hw.output, hw.size, fun k hk => hw.block k hk ⟨fun ⟨u, hu, _⟩ => by simp at hu, fun h => by cases h⟩⟩⟩)
  simpa using this
section
variable {H : Type} {enc : TypeId × Value → H} {P : Program} {W W' : World}
theorem trodAll_stays (hl : laidOutB P = true) (hb : Below W.heap.size W W') {sp' : Nat → Bool} : ∀ {ts : List TypeId} {vs : List Value} {ds : List (DataW H)} {ps : List MemPlace}, (∀ t ∈ ts, P.readableRec t = true ∧ t < P.types.size) →
    DataW.TrodAll enc P W 0 (fun _ => true) true ts vs ds ps → (∀ p ∈ ps, p.block < W.heap.size) → (∀ p ∈ ps, sp' p.block = true) → DataW.TrodAll enc P W' 0 sp' true ts vs ds ps
  | [], _, _, _, _, h, _, _ => by
    obtain ⟨rfl, rfl, rfl⟩ := trodAll_nil h
    rfl
  | t :: ts, _, _, _, ht, h, hlt, hs => by
    obtain ⟨v, vs1, d, ds1, a, b, rfl, rfl, rfl, h1, h2⟩ := trodAll_cons h
    have := ht t (by simp)
    exact ⟨a, b, WideElems.Trod_stays hl this.1 this.2 h1 (fun x hx => hb.same (hlt x (by simp [hx]))) (fun x hx => hs x (by simp [hx])),
      trodAll_stays hl hb (fun u hu => ht u (by simp [hu])) h2 (fun x hx => hlt x (by simp [hx])) (fun x hx => hs x (by simp [hx])), rfl⟩
/-- a law holds: it answers true, and all that was there is as it was -/
theorem post_true {f : Func} {s : ChangeSpec} {fresh : Bool} {args : Array Value} {ds gs : List (DataW H)} {before : List MemPlace} {tb : TypeId}
    (hW : DataW.Whole enc P f.params.toList s.vars false W args.toList ds gs before) (hv : s.vars = []) (hs : s.fn H (ds ++ gs) = { results := [.lit (.bool true)], args := ds }) (hr : f.resultTypes = #[tb]) (hb : P.underlying tb = some .bool)
    (hl : laidOutB P = true) (ht : (f.params.toList.all fun t => P.readableRec t && decide (t < P.types.size)) = true) (hB : Below W.heap.size W W') :
    s.post enc P f false fresh false false W args (.bool true) W' := by
  have hW0 := hW
  obtain ⟨p, q, hA, hV, rfl, hfz, _⟩ := hW
  rw [hv] at hV
  have hg : gs = [] ∧ q = [] := by
    cases gs with
    | nil => exact ⟨rfl, hV⟩
    | cons g gs => exact hV.elim
  obtain ⟨rfl, rfl⟩ := hg
  have hlt : ∀ x ∈ p ++ [], x.block < W.heap.size := fun x hx => by simpa using hW0.lt x hx
  refine ⟨ds, [], p ++ [], [], p, [], hW0, ?_, ?_, ?_, ?_, fun h => by cases h⟩
  · rw [hs, hr]
    exact trodAll_cons_mk (p := []) (p' := []) (shut_bool hb _) trodAll_mk0
  · rw [hs]
    refine trodAll_stays hl hB (fun t h => ?_) hA (fun x hx => hlt x (by simp [hx])) (fun x hx => by simpa using hlt x (by simp [hx]))
    have := List.all_eq_true.1 ht t h
    simpa using this
  · rw [hs, hv]; exact rfl
  · refine ⟨hB.os, hB.output, fun i hi => ?_⟩
    rw [hB.block i hi]
    cases W.heap[i]? with
    | none => rfl
    | some o => cases o <;> simp
theorem addr_of_cell {w : World} {a : Addr} {v : Value} (h : w.cell? a = some v) : a.spot = none := by
  unfold World.cell? at h
  split at h
  · split at h
    · cases h
    · rename_i hs; cases hh : a.spot <;> simp_all
  · cases h
/-- a slice of numbers, read -/
theorem rel_ints0 {t e : TypeId} {k : IntKind} {v : Value} {d : DataW H} {ps : List MemPlace} {fuel : Nat} (ht : P.underlying t = some (.slice e)) (he : P.underlying e = some (.int k)) (hc : P.cellsOf e = 1)
    (hf : DataW.trod enc P W 0 (fun _ => true) true fuel t [v] = some (d, ps)) :
    ∃ (zs : List Int), Rel W (Old W) W.heap.size [] (.sl false 1 (zs.map fun n => .val (.int k n))) v ∧ (∀ n ∈ zs, (Lit.int k n).wf = true) ∧ ((d = .nil ∧ zs = []) ∨ ∃ rest, d = .slice (lits k zs) rest) := by
  rcases open_ints ht he hc hf with ⟨h1, h2⟩ | ⟨a, len, cap, zs, h1, h2, h3, h4, h5, h6, h7, h8⟩
  · simp only [List.cons.injEq, and_true] at h1
    subst h1
    exact ⟨[], .slE _ _ _ _, by simp, .inl ⟨congrArg Prod.fst h2, rfl⟩⟩
  · simp only [List.cons.injEq, and_true] at h1
    subst h1
    simp only [if_true] at h5
    refine ⟨zs.take len, ?_, fun n hn => h8 n (List.mem_of_mem_take hn), .inr ⟨_, congrArg Prod.fst h6⟩⟩
    have hlen : (zs.take len).length = len := by rw [List.length_take]; omega
    cases hq : zs.take len with
    | nil =>
      rw [hq] at hlen
      simp at hlen
      subst hlen
      exact .slE _ _ _ _
    | cons z l =>
      have hpos : 0 < zs.length := by rw [hq] at hlen; simp at hlen; omega
      have h0 := h7 0 hpos
      have hsp : a.spot = none := addr_of_cell (show W.cell? a = _ from h0)
      obtain ⟨b, o, sp⟩ := a
      simp only at hsp
      subst hsp
      have hblk : b < W.heap.size := by
        have := World.block_lt_of_cell? W _ h0
        simpa [Addr.add] using this
      rw [hq] at hlen
      simp only [List.length_cons] at hlen
      subst hlen
      have hrow := RelRow.mk (w := W) (B := Old W) (bs := W.heap.size) (ρ := []) (nw := false) (b := b) (sz := 1) (o := o) (xs := (z :: l).map fun n => AV.val (.int k n)) (vs := (z :: l).map fun n => Value.int k n) hblk (fun h => by cases h) ?_ ?_ ?_
      · have := Rel.sl (cap := cap) (by simpa using hrow) (by simpa using h3)
        simpa using this
      · have : (((z :: l).map fun n => AV.val (.int k n)).flatMap AV.cells) = ((z :: l).map fun n => Value.int k n).map AV.val := by
          generalize z :: l = m
          induction m with
          | nil => rfl
          | cons x m ih => simp only [List.map_cons, List.flatMap_cons, ih]; rfl
        rw [this]
        have key : ∀ l : List Value, RelL W (Old W) W.heap.size [] (l.map AV.val) l := fun l => by induction l with
          | nil => exact .nil
          | cons x l ih => exact .cons (.val x) ih
        exact key _
      · intro x hx
        simp only [List.mem_map] at hx
        obtain ⟨n, _, rfl⟩ := hx
        exact ⟨rfl, fun c hc => by simp [AV.cells] at hc; subst hc; rfl⟩
      · intro j v hj
        rw [← hq, List.getElem?_map, List.getElem?_take] at hj
        split at hj
        · rename_i hjl
          simp only [Option.map_eq_some_iff] at hj
          obtain ⟨n, hn, rfl⟩ := hj
          have hlt : j < zs.length := by have := List.getElem?_eq_some_iff.1 hn; exact this.1
          have := h7 j hlt
          rw [addr_add] at this
          rw [this, List.getD_eq_getElem?_getD, hn]; rfl
        · simp at hj
end
end Go.Abs
/- Nodes, read. -/
set_option linter.unusedVariables false
set_option linter.unusedSimpArgs false
namespace Go.Proofs.YtmcedkcehcacpaaGreatDoor.C
open Go.Abs Go.ChangeShapes Go.WideShapes Go.ChangeAt Go.RowKit
theorem own : ownKnob Tryz.prog.godebug = none := by kernel_rfl
theorem laidOut : laidOutB Tryz.prog = true := by kernel_rfl
theorem int_bounds {k : IntKind} {n : Int} (h : (Lit.int k n).wf = true) : k.min ≤ n ∧ n ≤ k.max := by simpa [Lit.wf] using h
theorem bys_of {zs : List Int} (h : ∀ n ∈ zs, (Lit.int .u8 n).wf = true) : (zs.map fun n => AV.val (.int .u8 n)) = bys (zs.map fun n => UInt8.ofNat n.toNat) := by
  unfold bys
  rw [List.map_map]
  refine List.map_congr_left fun n hn => ?_
  have h2 : 0 ≤ n ∧ n ≤ 255 := by simpa [Lit.wf, IntKind.min, IntKind.max, IntKind.signed, IntKind.bits] using h n hn
  have h3 : N (UInt8.ofNat n.toNat).toNat = n := by
    rw [UInt8.toNat_ofNat']; unfold N; omega
  show AV.val (.int .u8 n) = .val (.int .u8 (N (UInt8.ofNat n.toNat).toNat))
  rw [h3]
theorem bulk_one {H : Type} (d : DataW H) : 1 ≤ Rows.uptoBulk d := by
  cases d with
  | lit l => cases l <;> simp [Rows.uptoBulk]
  | _ => simp [Rows.uptoBulk]
theorem bulk_len {H : Type} : ∀ l : List (DataW H), l.length ≤ Rows.uptoBulkAll l
  | [] => by simp [Rows.uptoBulkAll]
  | x :: r => by
    have h1 := bulk_one x
    have h2 := bulk_len r
    simp only [Rows.uptoBulkAll, List.length_cons]; omega
theorem bulk_lits' {H : Type} (k : IntKind) (zs : List Int) (rest : List (DataW H)) : zs.length + 1 ≤ Rows.uptoBulk (.slice (lits k zs) rest : DataW H) := by
  have := bulk_len (lits k zs : List (DataW H))
  simp only [lits, List.length_map] at this
  simp only [Rows.uptoBulk, lits]
  omega
section
variable {H : Type} {enc : TypeId × Value → H} {W : World}
/-- bytes -/
theorem rel_bytes0 {v : Value} {d : DataW H} {ps : List MemPlace} {fuel : Nat} (hf : DataW.trod enc Tryz.prog W 0 (fun _ => true) true fuel 31 [v] = some (d, ps)) :
    ∃ l : List UInt8, Rel W (Old W) W.heap.size [] (.sl false 1 (bys l)) v ∧ l.length ≤ Rows.uptoBulk d := by
  have hc : Tryz.prog.cellsOf 5 = 1 := by kernel_rfl
  obtain ⟨zs, k0, k1, k2⟩ := rel_ints0 Tryz.underlying31 Tryz.underlying5 hc hf
  rw [bys_of k1] at k0
  refine ⟨_, k0, ?_⟩
  rw [List.length_map]
  rcases k2 with ⟨_, rfl⟩ | ⟨rest, rfl⟩
  · simp
  · have := bulk_lits' .u8 zs rest; omega
theorem nodeA_one (n : GNode) : ∀ c ∈ (nodeA false n).cells, c.one = true := by
  rw [nodeA_eq]; simp [AV.cells, AV.one, Value.oneCell']
theorem node_fields : ∃ f0 f1 f2 : Field, Tryz.prog.underlying 33 = some (.struct #[f0, f1, f2]) ∧ f0.type = 30 ∧ f0.offset = 0 ∧ f1.type = 31 ∧ f1.offset = 1 ∧ f2.type = 22 ∧ f2.offset = 2 :=
  ⟨_, _, _, Tryz.underlying33, rfl, rfl, rfl, rfl, rfl, rfl⟩
set_option maxRecDepth 100000 in
theorem rel_node0 : ∀ (fuel : Nat),
    (∀ (cs : List Value) (d : DataW H) (ps : List MemPlace), DataW.trod enc Tryz.prog W 0 (fun _ => true) true fuel 33 cs = some (d, ps) → ∃ n : GNode, RelL W (Old W) W.heap.size [] (nodeA false n).cells cs ∧ n.sz ≤ Rows.uptoBulk d ∧ n.tyOk = true) ∧
    (∀ (v : Value) (d : DataW H) (ps : List MemPlace), DataW.trod enc Tryz.prog W 0 (fun _ => true) true fuel 22 [v] = some (d, ps) → ∃ l : List GNode, Rel W (Old W) W.heap.size [] (.sl false 3 (nodesA false l)) v ∧ szs l ≤ Rows.uptoBulk d ∧ tysOk l = true) := by
  have c16 : Tryz.prog.cellsOf 30 = 1 := by kernel_rfl
  have c8 : Tryz.prog.cellsOf 31 = 1 := by kernel_rfl
  have cn : Tryz.prog.cellsOf 22 = 1 := by kernel_rfl
  have c3 : Tryz.prog.cellsOf 33 = 3 := by kernel_rfl
  intro fuel
  induction fuel with
  | zero => exact ⟨fun cs d ps h => by simp [DataW.trod] at h, fun v d ps h => by simp [DataW.trod] at h⟩
  | succ fuel ih =>
    refine ⟨?_, ?_⟩
    · intro cs d ps h
      obtain ⟨f0, f1, f2, hs, a0, b0, a1, b1, a2, b2⟩ := node_fields
      obtain ⟨xs, m, hm, hx, hl, hlen, hall⟩ := DataW.trod_struct hs h
      have hm' : m = fuel := by omega
      subst hm'
      have e0 := hall 0 f0 rfl
      have e1 := hall 1 f1 rfl
      have e2 := hall 2 f2 rfl
      rw [a0, b0, c16] at e0
      rw [a1, b1, c8] at e1
      rw [a2, b2, cn] at e2
      rw [c3] at hl
      match xs, hlen, cs, hl with
      | [y0, y1, y2], _, [v0, v1, v2], _ =>
        simp only [List.drop_zero, List.take_succ_cons, List.take_zero, List.drop_succ_cons, List.getElem?_cons_zero, List.getElem?_cons_succ] at e0 e1 e2
        obtain ⟨n0, h0, hy0, hw0⟩ := DataW.trod_int Tryz.underlying30 e0
        obtain ⟨l1, r1, s1⟩ := rel_bytes0 (d := y1.1) (ps := y1.2) e1
        obtain ⟨l2, r2, s2, t2⟩ := ih.2 v2 y2.1 y2.2 e2
        have hb := int_bounds hw0
        have hn : N n0.toNat = n0 := by
          have : (0 : Int) ≤ n0 := hb.1
          unfold N; omega
        have hle : n0 ≤ 65535 := hb.2
        refine ⟨.mk n0.toNat l1 l2, ?_, ?_, by rw [GNode.tyOk, t2]; simp; omega⟩
        · rw [nodeA_eq]
          simp only [List.cons.injEq, and_true] at h0
          subst h0
          have := Rel.val (w := W) (B := Old W) (bs := W.heap.size) (ρ := []) (.int .u16 (N n0.toNat))
          rw [hn] at this
          exact .cons (by show Rel _ _ _ _ (.val (.int .u16 (N n0.toNat))) _; rw [hn]; exact this) (.cons r1 (.cons r2 .nil))
        · have hd : d = .agg [y0.1, y1.1, y2.1] := congrArg Prod.fst hx
          rw [hd]
          have := bulk_one y0.1
          simp only [GNode.sz, Rows.uptoBulk, Rows.uptoBulkAll]
          omega
    · intro v d ps h
      rcases DataW.trod_slice Tryz.underlying22 h with ⟨h1, h2⟩ | ⟨a, len, cap, elems, rest, m, hm, h1, h2, _, hlc, hcm, hlen, hel, _, _⟩
      · simp only [List.cons.injEq, and_true] at h1
        subst h1
        refine ⟨[], by simpa [nodesA] using Rel.slE false 3 none 0, by simp [szs], rfl⟩
      · have hm' : m = fuel := by omega
        subst hm'
        simp only [List.cons.injEq, and_true] at h1
        subst h1
        rw [c3] at hel
        -- every element is a node
        have each : ∀ i (hi : i < elems.length), ∃ (n : GNode) (cs : List Value), cs.length = 3 ∧ (∀ j, j < 3 → W.cell? ((a.add (i * 3)).add j) = cs[j]?) ∧ RelL W (Old W) W.heap.size [] (nodeA false n).cells cs ∧ n.sz ≤ Rows.uptoBulk elems[i].1 ∧ n.tyOk = true := by
          intro i hi
          have hk := hel i (by omega)
          rw [List.getElem?_eq_getElem hi] at hk
          obtain ⟨cs, hcs, hy⟩ := Option.bind_eq_some_iff.1 hk
          obtain ⟨_, hl3, hcell⟩ := World.cells?_some hcs
          obtain ⟨n, r, s, tt⟩ := ih.1 cs elems[i].1 elems[i].2 hy
          exact ⟨n, cs, hl3, hcell, r, s, tt⟩
        cases hq : elems with
        | nil =>
          rw [hq] at hlen
          simp at hlen
          subst hlen
          exact ⟨[], by simpa [nodesA] using Rel.slE false 3 (some a) cap, by simp [szs], rfl⟩
        | cons x r =>
          have hpos : 0 < elems.length := by rw [hq]; simp
          obtain ⟨n0, cs0, hl0, hc0, _, _, _⟩ := each 0 hpos
          have hcell0 := hc0 0 (by omega)
          simp only [Nat.zero_mul] at hcell0
          rw [List.getElem?_eq_getElem (by omega)] at hcell0
          have hsp : a.spot = none := addr_of_cell (show W.cell? a = _ from hcell0)
          obtain ⟨b, o, sp⟩ := a
          simp only at hsp
          subst hsp
          have hblk : b < W.heap.size := by
            have := World.block_lt_of_cell? W _ hcell0
            simpa [Addr.add] using this
          have rows : ∀ k, k ≤ elems.length → ∃ l : List GNode, l.length = k ∧ RelRow W (Old W) W.heap.size [] false b 3 (o + (elems.length - k) * 3) (nodesA false l) ∧ szs l ≤ Rows.uptoBulkAll ((elems.drop (elems.length - k)).map (·.1)) ∧ tysOk l = true := by
            intro k
            induction k with
            | zero => exact fun _ => ⟨[], rfl, by simpa [nodesA] using RelRow.nil, by simp [szs], rfl⟩
            | succ k ihk =>
              intro hk
              obtain ⟨l, p1, p2, p3, p4⟩ := ihk (by omega)
              have hi : elems.length - (k + 1) < elems.length := by omega
              obtain ⟨n, cs, q1, q2, q3, q4, q5⟩ := each _ hi
              have hd : elems.drop (elems.length - (k + 1)) = elems[elems.length - (k + 1)] :: elems.drop (elems.length - k) := by
                rw [List.drop_eq_getElem_cons hi, show elems.length - (k + 1) + 1 = elems.length - k by omega]
              refine ⟨n :: l, by simp [p1], ?_, ?_, by rw [tysOk, q5, p4]; rfl⟩
              · rw [nodesA_cons]
                refine .cons (RelCells.mk (B := Old W) (bs := W.heap.size) (nw := false) hblk (fun h => by cases h) q3 (nodeA_one n) ?_) (by rw [nodeA_eq]; rfl) ?_
                · intro j v hj
                  have hj3 : j < 3 := by rw [← q1]; exact (List.getElem?_eq_some_iff.1 hj).1
                  have := q2 j hj3
                  rw [addr_add, addr_add] at this
                  rw [this, hj]
                · have e : o + (elems.length - (k + 1)) * 3 + 3 = o + (elems.length - k) * 3 := by omega
                  rw [e]; exact p2
              · rw [hd]
                simp only [szs, List.map_cons, Rows.uptoBulkAll]
                omega
          obtain ⟨l, p1, p2, p3, p4⟩ := rows elems.length (Nat.le_refl _)
          rw [Nat.sub_self] at p2 p3
          have hd : d = .slice (elems.map (·.1)) (rest.map (·.1)) := congrArg Prod.fst h2
          refine ⟨l, ?_, ?_, p4⟩
          · match l, p1 with
            | n :: l, p1 =>
              rw [nodesA_cons] at p2 ⊢
              have := Rel.sl (cap := cap) (by simpa using p2) (by rw [nodesA_len]; simp at p1; omega)
              rw [nodesA_len] at this
              have e : l.length + 1 = len := by simp at p1; omega
              rw [e] at this
              exact this
            | [], p1 => simp at p1; omega
          · rw [hd]
            simp only [Rows.uptoBulk, List.drop_zero] at *
            omega
set_option maxRecDepth 100000 in
/-- nodes, read -/
theorem rel_nodesT {r : Reach} {b0 : Nat} {v : Value} {d : DataW H} {ps : List MemPlace} (hval : Value.okWide Tryz.prog W r b0 22 v) (hd : DataW.Trod enc Tryz.prog W 0 (fun _ => true) true 22 v d ps) :
    ∃ l : List GNode, Rel W (Old W) W.heap.size [] (.sl false 3 (nodesA false l)) v ∧ szs l ≤ Rows.uptoBulk d ∧ tysOk l = true := by
  obtain ⟨A, len0, cap0, rfl⟩ := okWide_slice Tryz.underlying22 hval
  obtain ⟨fuel, hf⟩ := hd
  exact (rel_node0 fuel).2 _ d ps hf
end
end Go.Proofs.YtmcedkcehcacpaaGreatDoor.C
/- What the rows' list of package-level variables gives: the cell of errors.errorType; a world that meets the list. -/
set_option linter.unusedVariables false
set_option linter.unusedSimpArgs false
namespace Go.Proofs.YtmcedkcehcacpaaGreatDoor.C
open Go.Abs Go.ChangeShapes Go.WideShapes Go.ChangeAt Go.RowKit
theorem etG : Tryz.prog.globalNamed "errors.errorType" = some 0 := by kernel_rfl
theorem etRt : (Tryz.prog.cutTypes.find? (·.1 == "internal/reflectlite.rtype")).map (·.2) = some 152 := by kernel_rfl
theorem etRow : ((List.range Tryz.prog.types.size).filter fun t => Tryz.prog.rowNamed t [101, 114, 114, 111, 114]) = [28] := by kernel_rfl
theorem etHandle : typeHandle Tryz.prog 28 = .pointer (some ⟨1, 28, none⟩) := by kernel_rfl
theorem handle_of_laid {W : World} (h : laidMetH Tryz.prog [("errors.errorType", Rows.laid_errors_errorType)] W) : W.cell? ⟨0, 0, none⟩ = some (.iface 152 (.agg #[.pointer (some ⟨1, 28, none⟩)])) := by
  have h' : laidMet Tryz.prog [] W ∧ handlesMet Tryz.prog [("errors.errorType", Rows.laid_errors_errorType)] W := h
  obtain ⟨name, u, ty, e1, e2, e3, e4, e5⟩ := h'.2 _ (List.mem_singleton.2 rfl)
  have en : name = [101, 114, 114, 111, 114] := (Option.some.inj e1).symm
  subst en
  obtain rfl := Option.some.inj (etRt.symm.trans e2)
  have hm : ty ∈ (List.range Tryz.prog.types.size).filter fun t => Tryz.prog.rowNamed t [101, 114, 114, 111, 114] := List.mem_filter.2 ⟨List.mem_range.2 e3, e4⟩
  rw [etRow] at hm
  obtain rfl := List.mem_singleton.1 hm
  rw [etHandle] at e5
  simpa using World.var?_cell etG e5 0
theorem cell_lt {W : World} {b i : Nat} {v : Value} (h : W.cell? ⟨b, i, none⟩ = some v) : b < W.heap.size := by
  rcases Nat.lt_or_ge b W.heap.size with h' | h'
  · exact h'
  · simp [World.cell?, Array.getElem?_eq_none h'] at h
theorem globs_of_laid {W : World} (h : laidMetH Tryz.prog [("errors.errorType", Rows.laid_errors_errorType)] W) : Globs W (Old W) [] := by
  have h0 := handle_of_laid h
  intro p hp
  obtain rfl : p = (0, [.iface 152 (.agg #[.pointer (some ⟨1, 28, none⟩)])]) := by simpa [glb] using hp
  refine ⟨cell_lt h0, fun v hv => (by cases hv), fun i v hi => ?_⟩
  match i with
  | 0 => simp at hi; subst hi; exact h0
  | i + 1 => simp at hi
noncomputable def laidWorld (os : Os) : World :=
  let w0 := World.holding Tryz.prog os ⟨#[], #[], []⟩
  { w0 with heap := w0.heap.modify 0 fun
      | .cells _ t frozen => .cells #[.iface 152 (.agg #[.pointer (some ⟨1, 28, none⟩)])] t frozen
      | o => o }
theorem laid_met (os : Os) (args : Array Value) : laidMetH Tryz.prog [("errors.errorType", Rows.laid_errors_errorType)] ((laidWorld os).forCall (fun _ _ => 0) ⟨#[], args, []⟩).memory :=
  laidMetH_of_parts (laidMet_nil _ _) (by kernel_rfl)
end Go.Proofs.YtmcedkcehcacpaaGreatDoor.C
