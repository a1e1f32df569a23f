/- stream: Make; wharfref17: Is, Seq, Streams, Equal, Build. -/
import Derived.Test.YtgcjmjfjeppmgaaGreatDoorM4
import Derived.WalkKit
import Derived.ProofKit
import Derived.OpenShut
import Derived.JoinedCond
import Derived.Carry
import Derived.ChangeSlices
import Derived.Test.YtgcjmjfjeppmgaaGreatDoorRows
import Derived.Deep.Strs
import Derived.LaidLaws
import Derived.LaidHandle
import Derived.Stop.Joined
import Derived.Test.YtgcjmjfjeppmgaaGreatDoorCards
import Derived.Test.YtgcjmjfjeppmgaaGreatDoorTie
import Derived.Deep.DeepHandedRow
set_option linter.unusedVariables false
set_option linter.unusedSimpArgs false
namespace Go.Proofs.YtgcjmjfjeppmgaaGreatDoor.C
open Go.Abs
theorem rput_o (k : Nat) (l : List Nat) (hk : k = 1 ∨ k = 2 ∨ k = 4) (hn : l.length ≤ 2 ^ 30) : OC Tryz.prog 33 [nat k, .sl false 1 (u32s l)] [] (.own 0) [.row 5 1 (bys (l.flatMap (putB k)))] := by
  have hr : (k == 1 || k == 2 || k == 4) = true := by rcases hk with rfl | rfl | rfl <;> rfl
  have h4 := sub4_w k (by omega)
  refine OC.of_body [0] (by intro k hk; simp at hk) Tryz.func33 rfl (by rw [Tryz.ntmps33]; simp) ?_
  refine AWp.regionW ?_
  refine AWp.regionW ?_
  refine AWp.seqK fun K1 hK1 => ?_
  refine AWp.regionM fun K2 hK2 => ?_
  refine ARun2.callM (hr ▸ right01_c k) ?_
  refine ARun2.endm (hK2 _ ?_)
  refine AWp.condF ?_
  refine AWp.skip ?_
  refine hK1 _ ?_
  refine AWp.seqK fun K3 hK3 => ?_
  refine AWp.regionW ?_
  refine AWp.block ?_
  -- SLOTS THAT TURN AND ARE NOT TOLD: [5]
  refine AWp.nilOwn 5 5 1 (by simp only [push_cast, ↓reduceIte, Nat.reduceEqDiff, Nat.reduceLT, Nat.reduceAdd, Nat.reduceSub, Nat.reduceMul, Nat.reduceLeDiff, Nat.reducePow, Int.reduceLT, Int.reduceToNat, reduceCtorEq, Int.reduceNeg, Int.reduceEq, Nat.reduceBEq, Nat.reduceBNe, Int.reduceBEq, Int.reduceBNe, String.reduceEq]) ?_
  simp only [push_cast, ↓reduceIte, Nat.reduceEqDiff, Nat.reduceLT, Nat.reduceAdd, Nat.reduceSub, Nat.reduceMul, Nat.reduceLeDiff, Nat.reducePow, Int.reduceLT, Int.reduceToNat, reduceCtorEq, Int.reduceNeg, Int.reduceEq, Nat.reduceBEq, Nat.reduceBNe, Int.reduceBEq, Int.reduceBNe, String.reduceEq]
  refine AWp.loopK [0, 1, 5] (fun (i : Nat) => [(6, nat i)]) (fun i => [.row 5 1 (bys ((l.take i).flatMap (putB k)))]) (fun i => i ≤ l.length) (fun i => l.length - i) (0) ?_ (Nat.zero_le _) ?_
  · skip
    refine Le.m 1 ?_ ?_
    · try simp only [push_cast, ↓reduceIte, Nat.reduceEqDiff, Nat.reduceLT, Nat.reduceAdd, Nat.reduceSub, Nat.reduceMul, Nat.reduceLeDiff, Nat.reducePow, Int.reduceLT, Int.reduceToNat, reduceCtorEq, Int.reduceNeg, Int.reduceEq, Nat.reduceBEq, Nat.reduceBNe, Int.reduceBEq, Int.reduceBNe, String.reduceEq]
      try simp (disch := omega) only [w_nat, w_add, w_addl, w_addr, w_sub, w_subl, w_mul, w_mull, w_mulr, w_u32, w_u16, w_u8, w_u32a, N_zero]
      first | done | skip
      rfl
    · first | (simp only [push_cast, ↓reduceIte, Nat.reduceEqDiff, Nat.reduceLT, Nat.reduceAdd, Nat.reduceSub, Nat.reduceMul, Nat.reduceLeDiff, Nat.reducePow, Int.reduceLT, Int.reduceToNat, reduceCtorEq, Int.reduceNeg, Int.reduceEq, Nat.reduceBEq, Nat.reduceBNe, Int.reduceBEq, Int.reduceBNe, String.reduceEq]; first | done | rfl | (simp (disch := omega) only [w_nat, w_add, w_addl, w_addr, w_sub, w_subl, w_mul, w_mull, w_mulr, w_u32, w_u16, w_u8, w_u32a, N_zero]; first | done | rfl))
  · intro i hi K4 hK4
    refine AWp.seqK fun K5 hK5 => ?_
    refine AWp.regionW ?_
    refine AWp.condLM (fun c1 => ?_) (fun c1 => ?_)
    · skip
      have hil : i < l.length := by simpa using c1
      refine AWp.skip ?_
      refine hK5 _ ?_
      refine AWp.seqK fun K6 hK6 => ?_
      refine AWp.block ?_
      refine AWp.drS [[(1, none)], [(6, none)], [(18, some 0), (19, some 1)], [(20, some 2)], [(21, some 3)], [(22, some 4)], [(1, none)], [(6, none)], [(24, some 6), (25, some 7)], [(26, some 8)], [(27, some 9)], [(28, some 10)], [(1, none)], [(6, none)], [(30, some 12), (31, some 13)], [(32, some 14)], [(33, some 15)], [(34, some 16)], [(1, none)], [(6, none)], [(36, some 18), (37, some 19)], [(38, some 20)], [(39, some 21)], [(23, some 5), (29, some 11), (35, some 17), (40, some 22)], [(41, some 23)]] fun G hG => ?_
      refine Dr.sim ?_
      try simp only [List.cons_append, List.nil_append]
      refine Dr.sim ?_
      try simp only [List.cons_append, List.nil_append]
      refine Dr.idx (i) (u32 l[i]) ?_ ?_
      · exact u32s_at _ _ hil
      try simp only [List.cons_append, List.nil_append]
      refine Dr.sim ?_
      try simp only [List.cons_append, List.nil_append]
      refine Dr.sim ?_
      try simp only [List.cons_append, List.nil_append]
      refine Dr.sim ?_
      try simp only [List.cons_append, List.nil_append]
      refine Dr.sim ?_
      try simp only [List.cons_append, List.nil_append]
      refine Dr.sim ?_
      try simp only [List.cons_append, List.nil_append]
      refine Dr.idx (i) (u32 l[i]) ?_ ?_
      · exact u32s_at _ _ hil
      try simp only [List.cons_append, List.nil_append]
      refine Dr.sim ?_
      try simp only [List.cons_append, List.nil_append]
      refine Dr.sim ?_
      try simp only [List.cons_append, List.nil_append]
      refine Dr.sim ?_
      try simp only [List.cons_append, List.nil_append]
      refine Dr.sim ?_
      try simp only [List.cons_append, List.nil_append]
      refine Dr.sim ?_
      try simp only [List.cons_append, List.nil_append]
      refine Dr.idx (i) (u32 l[i]) ?_ ?_
      · exact u32s_at _ _ hil
      try simp only [List.cons_append, List.nil_append]
      refine Dr.sim ?_
      try simp only [List.cons_append, List.nil_append]
      refine Dr.sim ?_
      try simp only [List.cons_append, List.nil_append]
      refine Dr.sim ?_
      try simp only [List.cons_append, List.nil_append]
      refine Dr.sim ?_
      try simp only [List.cons_append, List.nil_append]
      refine Dr.sim ?_
      try simp only [List.cons_append, List.nil_append]
      refine Dr.idx (i) (u32 l[i]) ?_ ?_
      · exact u32s_at _ _ hil
      try simp only [List.cons_append, List.nil_append]
      refine Dr.sim ?_
      try simp only [List.cons_append, List.nil_append]
      refine Dr.sim ?_
      try simp only [List.cons_append, List.nil_append]
      refine Dr.buildV ?_
      try simp only [List.cons_append, List.nil_append]
      refine Dr.sim ?_
      try simp only [List.cons_append, List.nil_append]
      refine Dr.finM (n := 25) [(7, 24)] [0, 1, 5, 6] hG YtgcjmjfjeppmgaaGreatDoor.Facts.mixed fun KD hKD => ?_
      refine ARun2.endm (hKD _ ?_); clear hKD KD hG G
      rw [u8_shr0 l[i], lits4b, putB4_lit]
      refine AWp.regionN fun K7 hK7 => ?_
      rw [h4]
      refine ARun2.sliceLoM (4 - k) ?_ ?_
      · rw [bys_len, putB_len]; omega
      refine ARun2.appendM ?_ ?_ ?_
      · have hx := flat_bd k l i hk hn; rw [putB4_drop k _ hk, YtgcjmjfjeppmgaaGreatDoor.Facts.eb24, bys_len, bys_len, putB_len]; omega
      · have hx := flat_bd k l i hk hn; rw [putB4_drop k _ hk, bys_len, bys_len, putB_len]; omega
      refine ARun2.endm (hK7 _ ?_)
      refine hK6 _ ?_
      refine AWp.regionV ?_
      refine hK4 _ (i + 1) (by omega) (by omega) ?_
      refine Le.m 1 ?_ ?_
      · try simp only [push_cast, ↓reduceIte, Nat.reduceEqDiff, Nat.reduceLT, Nat.reduceAdd, Nat.reduceSub, Nat.reduceMul, Nat.reduceLeDiff, Nat.reducePow, Int.reduceLT, Int.reduceToNat, reduceCtorEq, Int.reduceNeg, Int.reduceEq, Nat.reduceBEq, Nat.reduceBNe, Int.reduceBEq, Int.reduceBNe, String.reduceEq]
        try simp (disch := omega) only [w_nat, w_add, w_addl, w_addr, w_sub, w_subl, w_mul, w_mull, w_mulr, w_u32, w_u16, w_u8, w_u32a, N_zero]
        first | done | skip
        rw [putB4_drop k _ hk, bys_append, List.take_succ_eq_append_getElem hil, List.flatMap_append]; simp only [List.flatMap_cons, List.flatMap_nil, List.append_nil]
      · first | (simp only [push_cast, ↓reduceIte, Nat.reduceEqDiff, Nat.reduceLT, Nat.reduceAdd, Nat.reduceSub, Nat.reduceMul, Nat.reduceLeDiff, Nat.reducePow, Int.reduceLT, Int.reduceToNat, reduceCtorEq, Int.reduceNeg, Int.reduceEq, Nat.reduceBEq, Nat.reduceBNe, Int.reduceBEq, Int.reduceBNe, String.reduceEq]; first | done | rfl | (simp (disch := omega) only [w_nat, w_add, w_addl, w_addr, w_sub, w_subl, w_mul, w_mull, w_mulr, w_u32, w_u16, w_u8, w_u32a, N_zero]; first | done | rfl))
    · skip
      have hil : i = l.length := by simp at c1; omega
      subst hil
      refine AWp.exit ?_
      try simp only [thenQ, blockQ, noGo, reduceIte, Nat.reduceEqDiff]
      refine hK3 _ ?_
      refine AWp.regionW ?_
      refine AWp.ret ?_
      try simp only [thenQ, blockQ, noGo]
      refine bodyQ.m ?_
      clear hK5 K5 hK4 K4 hK3 K3 hK2 K2 hK1 K1
      refine endO.m ?_ ?_
      · rw [List.take_length]
      · skip
        first | done | exact Hand.go
end Go.Proofs.YtgcjmjfjeppmgaaGreatDoor.C
/- wharfref18.Results; wharflaw18: same, awake. -/
set_option linter.unusedVariables false
set_option linter.unusedSimpArgs false
namespace Go.Proofs.YtgcjmjfjeppmgaaGreatDoor.C
open Go.Abs
theorem rres18_c (q a : GChunk) (hq : Small q) (ha : Small a) : PC Tryz.prog 37 [chunkA false q, chunkA false a] (.sl true 1 (intsL (resL q a))) := by
  have sq := hq.kids
  have sa := ha.kids
  have hla := szs_len a.kids
  have hlq := szs_len q.kids
  have hrl : resL q a = (q.kids.drop 1).map fun n => resOf a.kids (numN n) := rfl
  have hdl : (q.kids.drop 1).length = q.kids.length - 1 := List.length_drop
  have hrlen : (resL q a).length = (q.kids.drop 1).length := by rw [hrl, List.length_map]
  generalize resL q a = rs at hrl hrlen
  refine PC.of_bodyK (by simp only [push_cast]) Tryz.func37 rfl (by rw [Tryz.ntmps37]; simp) ?_
  refine AWp.regionW ?_
  refine AWp.regionW ?_
  refine AWp.seqK fun K1 hK1 => ?_
  refine AWp.regionW ?_
  refine AWp.block ?_
  -- SLOTS THAT TURN AND ARE NOT TOLD: [5]
  refine AWp.nilOwn 5 3 1 (by simp only [push_cast, ↓reduceIte, Nat.reduceEqDiff, Nat.reduceLT, Nat.reduceAdd, Nat.reduceSub, Nat.reduceMul, Nat.reduceLeDiff, Nat.reducePow, Int.reduceLT, Int.reduceToNat, reduceCtorEq, Int.reduceNeg, Int.reduceEq, Nat.reduceBEq, Nat.reduceBNe, Int.reduceBEq, Int.reduceBNe, String.reduceEq]) ?_
  simp only [push_cast, ↓reduceIte, Nat.reduceEqDiff, Nat.reduceLT, Nat.reduceAdd, Nat.reduceSub, Nat.reduceMul, Nat.reduceLeDiff, Nat.reducePow, Int.reduceLT, Int.reduceToNat, reduceCtorEq, Int.reduceNeg, Int.reduceEq, Nat.reduceBEq, Nat.reduceBNe, Int.reduceBEq, Int.reduceBNe, String.reduceEq]
  refine AWp.loopK [2, 3, 5] (fun (i : Nat) => [(6, nat (i + 1))]) (fun i => [.box 31 [u8 q.ty, u8 q.flags, .sl false 1 (bys q.data), .sl false 3 (nodesA false q.kids)], .box 31 [u8 a.ty, u8 a.flags, .sl false 1 (bys a.data), .sl false 3 (nodesA false a.kids)], .row 3 1 (intsL (rs.take i))]) (fun i => i ≤ (q.kids.drop 1).length) (fun i => (q.kids.drop 1).length - i) (0) ?_ (Nat.zero_le _) ?_
  · skip
    refine Le.m 3 ?_ ?_
    · first | with_reducible rfl | (simp only [push_cast, ↓reduceIte, Nat.reduceEqDiff, Nat.reduceLT, Nat.reduceAdd, Nat.reduceSub, Nat.reduceMul, Nat.reduceLeDiff, Nat.reducePow, Int.reduceLT, Int.reduceToNat, reduceCtorEq, Int.reduceNeg, Int.reduceEq, Nat.reduceBEq, Nat.reduceBNe, Int.reduceBEq, Int.reduceBNe, String.reduceEq]; first | done | rfl | (simp (disch := omega) only [w_nat, w_add, w_addl, w_addr, w_sub, w_subl, w_mul, w_mull, w_mulr, w_u32, w_u16, w_u8, w_u32a, N_zero]; first | done | rfl))
    · first | (simp only [push_cast, ↓reduceIte, Nat.reduceEqDiff, Nat.reduceLT, Nat.reduceAdd, Nat.reduceSub, Nat.reduceMul, Nat.reduceLeDiff, Nat.reducePow, Int.reduceLT, Int.reduceToNat, reduceCtorEq, Int.reduceNeg, Int.reduceEq, Nat.reduceBEq, Nat.reduceBNe, Int.reduceBEq, Int.reduceBNe, String.reduceEq]; first | done | rfl | (simp (disch := omega) only [w_nat, w_add, w_addl, w_addr, w_sub, w_subl, w_mul, w_mull, w_mulr, w_u32, w_u16, w_u8, w_u32a, N_zero]; first | done | rfl))
  · intro i hi K2 hK2
    refine AWp.seqK fun K3 hK3 => ?_
    refine AWp.regionW ?_
    refine AWp.condLM (fun c0 => ?_) (fun c0 => ?_)
    · skip
      have hil : i + 1 < q.kids.length := by simpa using c0
      have hil2 : i < rs.length := by omega
      have hsz := szs_mem (List.getElem_mem hil)
      have hsz2 := (q.kids[i + 1]).sz_eq
      obtain ⟨x, hx⟩ : ∃ x, x = numN q.kids[i + 1] := ⟨_, rfl⟩
      have hk1 : PC Tryz.prog 31 [.sl false 1 (bys q.kids[i + 1].data)] (u32 x) := hx ▸ rnum18_c q.kids[i + 1].data (by omega)
      have hri : rs[i] = resOf a.kids x := by subst hrl; simp [hx, Nat.add_comm]
      refine AWp.skip ?_
      refine hK3 _ ?_
      refine AWp.seqK fun K4 hK4 => ?_
      refine AWp.block ?_
      refine AWp.regionW ?_
      refine AWp.seqK fun K5 hK5 => ?_
      refine AWp.regionW ?_
      refine AWp.block ?_
      refine AWp.loopK [2, 3, 5, 6] (fun (k : Nat) => [(7, nat (resOf (a.kids.take k) x)), (8, nat k)]) (fun k => [.box 31 [u8 q.ty, u8 q.flags, .sl false 1 (bys q.data), .sl false 3 (nodesA false q.kids)], .box 31 [u8 a.ty, u8 a.flags, .sl false 1 (bys a.data), .sl false 3 (nodesA false a.kids)], .row 3 1 (intsL (rs.take i))]) (fun k => k ≤ a.kids.length) (fun k => a.kids.length - k) (0) ?_ (Nat.zero_le _) ?_
      · skip
        refine Le.m 3 ?_ ?_
        · first | with_reducible rfl | (simp only [push_cast, ↓reduceIte, Nat.reduceEqDiff, Nat.reduceLT, Nat.reduceAdd, Nat.reduceSub, Nat.reduceMul, Nat.reduceLeDiff, Nat.reducePow, Int.reduceLT, Int.reduceToNat, reduceCtorEq, Int.reduceNeg, Int.reduceEq, Nat.reduceBEq, Nat.reduceBNe, Int.reduceBEq, Int.reduceBNe, String.reduceEq]; first | done | rfl | (simp (disch := omega) only [w_nat, w_add, w_addl, w_addr, w_sub, w_subl, w_mul, w_mull, w_mulr, w_u32, w_u16, w_u8, w_u32a, N_zero]; first | done | rfl))
        · first | (simp only [push_cast, ↓reduceIte, Nat.reduceEqDiff, Nat.reduceLT, Nat.reduceAdd, Nat.reduceSub, Nat.reduceMul, Nat.reduceLeDiff, Nat.reducePow, Int.reduceLT, Int.reduceToNat, reduceCtorEq, Int.reduceNeg, Int.reduceEq, Nat.reduceBEq, Nat.reduceBNe, Int.reduceBEq, Int.reduceBNe, String.reduceEq]; first | done | rfl | (simp (disch := omega) only [w_nat, w_add, w_addl, w_addr, w_sub, w_subl, w_mul, w_mull, w_mulr, w_u32, w_u16, w_u8, w_u32a, N_zero]; first | done | rfl))
      · intro k hk K6 hK6
        refine AWp.seqK fun K7 hK7 => ?_
        refine AWp.regionW ?_
        refine AWp.condLM (fun c1 => ?_) (fun c1 => ?_)
        · skip
          have hkl : k < a.kids.length := by simpa using c1
          have hsa := szs_mem (List.getElem_mem hkl)
          have hsa2 := (a.kids[k]).sz_eq
          have hk2 : PC Tryz.prog 31 [.sl false 1 (bys a.kids[k].data)] (u32 (numN a.kids[k])) := rnum18_c _ (by omega)
          have hst := resOf_snoc (a.kids.take k) a.kids[k] x
          rw [← List.take_succ_eq_append_getElem hkl] at hst
          refine AWp.skip ?_
          refine hK7 _ ?_
          refine AWp.seqK fun K8 hK8 => ?_
          refine AWp.block ?_
          refine AWp.drS [[(7, none)], [(23, some 0)], [(24, some 1)], [(3, none), (25, some 2)], [(26, some 3), (25, some 2)], [(8, none), (25, some 2)], [(27, some 4), (28, some 5), (25, some 2)], [(29, some 6), (25, some 2)], [(30, some 7), (25, some 2)], [(31, some 8), (25, some 2)], [(2, none), (25, some 2)], [(33, some 10), (25, some 2)], [(6, none), (25, some 2)], [(34, some 11), (35, some 12), (25, some 2)], [(36, some 13), (25, some 2)], [(37, some 14), (25, some 2)], [(38, some 15), (25, some 2)], [(32, some 9), (39, some 16), (25, some 2)], [(25, some 2), (40, some 17)]] fun G hG => ?_
          refine Dr.sim ?_
          try simp only [List.cons_append, List.nil_append]
          refine Dr.sim ?_
          try simp only [List.cons_append, List.nil_append]
          refine Dr.sim ?_
          try simp only [List.cons_append, List.nil_append]
          refine Dr.simg ?_
          try simp only [List.cons_append, List.nil_append]
          refine Dr.simg ?_
          try simp only [List.cons_append, List.nil_append]
          refine Dr.simg ?_
          try simp only [List.cons_append, List.nil_append]
          refine Dr.idxg (k) (nodeA false a.kids[k]) ?_ ?_
          · intro g2
            exact nodesA_at _ _ _ hkl
          try simp only [List.cons_append, List.nil_append]
          refine Dr.simg ?_
          try simp only [List.cons_append, List.nil_append]
          refine Dr.simg ?_
          try simp only [List.cons_append, List.nil_append]
          refine Dr.callg (fun g2 => hk2) ?_
          try simp only [List.cons_append, List.nil_append]
          refine Dr.simg ?_
          try simp only [List.cons_append, List.nil_append]
          refine Dr.simg ?_
          try simp only [List.cons_append, List.nil_append]
          refine Dr.simg ?_
          try simp only [List.cons_append, List.nil_append]
          refine Dr.idxg (i + 1) (nodeA false q.kids[i + 1]) ?_ ?_
          · intro g2
            exact nodesA_at _ _ _ hil
          try simp only [List.cons_append, List.nil_append]
          refine Dr.simg ?_
          try simp only [List.cons_append, List.nil_append]
          refine Dr.simg ?_
          try simp only [List.cons_append, List.nil_append]
          refine Dr.callg (fun g2 => hk1) ?_
          try simp only [List.cons_append, List.nil_append]
          refine Dr.simg ?_
          try simp only [List.cons_append, List.nil_append]
          refine Dr.sim ?_
          try simp only [List.cons_append, List.nil_append]
          refine Dr.finM (n := 19) [(41, 18)] [2, 3, 5, 6, 7, 8] hG YtgcjmjfjeppmgaaGreatDoor.Facts.mixed fun KD hKD => ?_
          refine ARun2.endm (hKD _ ?_); clear hKD KD hG G
          refine AWp.condLM (fun c2 => ?_) (fun c2 => ?_)
          · skip
            have hc : resOf (a.kids.take k) x = 0 ∧ numN a.kids[k] = x := by simpa using c2
            rw [if_pos hc] at hst
            refine AWp.regionW ?_
            refine AWp.regionM fun K9 hK9 => ?_
            refine ARun2.indexM (k) (nodeA false a.kids[k]) ?_ ?_
            · exact nodesA_at _ _ _ hkl
            refine ARun2.endm (hK9 _ ?_)
            refine AWp.condLM (fun c3 => ?_) (fun c3 => ?_)
            · skip
              have hv : resV a.kids[k] = 2 := if_pos (by simpa using c3)
              rw [hv] at hst
              refine AWp.regionV ?_
              refine hK8 _ ?_
              refine AWp.regionV ?_
              refine hK6 _ (k + 1) (by omega) (by omega) ?_
              refine Le.m 3 ?_ ?_
              · first | with_reducible rfl | (simp only [push_cast, ↓reduceIte, Nat.reduceEqDiff, Nat.reduceLT, Nat.reduceAdd, Nat.reduceSub, Nat.reduceMul, Nat.reduceLeDiff, Nat.reducePow, Int.reduceLT, Int.reduceToNat, reduceCtorEq, Int.reduceNeg, Int.reduceEq, Nat.reduceBEq, Nat.reduceBNe, Int.reduceBEq, Int.reduceBNe, String.reduceEq]; first | done | rfl | (simp (disch := omega) only [w_nat, w_add, w_addl, w_addr, w_sub, w_subl, w_mul, w_mull, w_mulr, w_u32, w_u16, w_u8, w_u32a, N_zero]; first | done | rfl))
              · simp only [push_cast, ↓reduceIte, Nat.reduceEqDiff, Nat.reduceLT, Nat.reduceAdd, Nat.reduceSub, Nat.reduceMul, Nat.reduceLeDiff, Nat.reducePow, Int.reduceLT, Int.reduceToNat, reduceCtorEq, Int.reduceNeg, Int.reduceEq, Nat.reduceBEq, Nat.reduceBNe, Int.reduceBEq, Int.reduceBNe, String.reduceEq]
                try simp (disch := omega) only [w_nat, w_add, w_addl, w_addr, w_sub, w_subl, w_mul, w_mull, w_mulr, w_u32, w_u16, w_u8, w_u32a, N_zero]
                rw [hst]
                first | done | rfl
            · skip
              have hv : resV a.kids[k] = 1 := if_neg (by simpa using c3)
              rw [hv] at hst
              refine AWp.skip ?_
              refine hK8 _ ?_
              refine AWp.regionV ?_
              refine hK6 _ (k + 1) (by omega) (by omega) ?_
              refine Le.m 3 ?_ ?_
              · first | with_reducible rfl | (simp only [push_cast, ↓reduceIte, Nat.reduceEqDiff, Nat.reduceLT, Nat.reduceAdd, Nat.reduceSub, Nat.reduceMul, Nat.reduceLeDiff, Nat.reducePow, Int.reduceLT, Int.reduceToNat, reduceCtorEq, Int.reduceNeg, Int.reduceEq, Nat.reduceBEq, Nat.reduceBNe, Int.reduceBEq, Int.reduceBNe, String.reduceEq]; first | done | rfl | (simp (disch := omega) only [w_nat, w_add, w_addl, w_addr, w_sub, w_subl, w_mul, w_mull, w_mulr, w_u32, w_u16, w_u8, w_u32a, N_zero]; first | done | rfl))
              · simp only [push_cast, ↓reduceIte, Nat.reduceEqDiff, Nat.reduceLT, Nat.reduceAdd, Nat.reduceSub, Nat.reduceMul, Nat.reduceLeDiff, Nat.reducePow, Int.reduceLT, Int.reduceToNat, reduceCtorEq, Int.reduceNeg, Int.reduceEq, Nat.reduceBEq, Nat.reduceBNe, Int.reduceBEq, Int.reduceBNe, String.reduceEq]
                try simp (disch := omega) only [w_nat, w_add, w_addl, w_addr, w_sub, w_subl, w_mul, w_mull, w_mulr, w_u32, w_u16, w_u8, w_u32a, N_zero]
                rw [hst]
                first | done | rfl
          · skip
            have hc : ¬ (resOf (a.kids.take k) x = 0 ∧ numN a.kids[k] = x) := by simpa using c2
            rw [if_neg hc] at hst
            refine AWp.skip ?_
            refine hK8 _ ?_
            refine AWp.regionV ?_
            refine hK6 _ (k + 1) (by omega) (by omega) ?_
            refine Le.m 3 ?_ ?_
            · first | with_reducible rfl | (simp only [push_cast, ↓reduceIte, Nat.reduceEqDiff, Nat.reduceLT, Nat.reduceAdd, Nat.reduceSub, Nat.reduceMul, Nat.reduceLeDiff, Nat.reducePow, Int.reduceLT, Int.reduceToNat, reduceCtorEq, Int.reduceNeg, Int.reduceEq, Nat.reduceBEq, Nat.reduceBNe, Int.reduceBEq, Int.reduceBNe, String.reduceEq]; first | done | rfl | (simp (disch := omega) only [w_nat, w_add, w_addl, w_addr, w_sub, w_subl, w_mul, w_mull, w_mulr, w_u32, w_u16, w_u8, w_u32a, N_zero]; first | done | rfl))
            · simp only [push_cast, ↓reduceIte, Nat.reduceEqDiff, Nat.reduceLT, Nat.reduceAdd, Nat.reduceSub, Nat.reduceMul, Nat.reduceLeDiff, Nat.reducePow, Int.reduceLT, Int.reduceToNat, reduceCtorEq, Int.reduceNeg, Int.reduceEq, Nat.reduceBEq, Nat.reduceBNe, Int.reduceBEq, Int.reduceBNe, String.reduceEq]
              try simp (disch := omega) only [w_nat, w_add, w_addl, w_addr, w_sub, w_subl, w_mul, w_mull, w_mulr, w_u32, w_u16, w_u8, w_u32a, N_zero]
              rw [hst]
              first | done | rfl
        · skip
          have hkl : k = a.kids.length := by have h0 : ¬ k < a.kids.length := (by simpa using c1); omega
          subst hkl
          have hre : resOf (a.kids.take a.kids.length) x = rs[i] := by rw [List.take_length, hri]
          rw [hre]
          refine AWp.exit ?_
          try simp only [thenQ, blockQ, noGo, reduceIte, Nat.reduceEqDiff]
          refine hK5 _ ?_
          refine AWp.regionN fun K10 hK10 => ?_
          refine ARun2.appendM ?_ ?_ ?_
          · rw [YtgcjmjfjeppmgaaGreatDoor.Facts.eb62, intsL_len, List.length_take, List.length_cons, List.length_nil]; omega
          · rw [intsL_len, List.length_take, List.length_cons, List.length_nil]; omega
          refine ARun2.endm (hK10 _ ?_)
          refine hK4 _ ?_
          refine AWp.regionV ?_
          refine hK2 _ (i + 1) (by omega) (by omega) ?_
          refine Le.m 3 ?_ ?_
          · try simp only [push_cast, ↓reduceIte, Nat.reduceEqDiff, Nat.reduceLT, Nat.reduceAdd, Nat.reduceSub, Nat.reduceMul, Nat.reduceLeDiff, Nat.reducePow, Int.reduceLT, Int.reduceToNat, reduceCtorEq, Int.reduceNeg, Int.reduceEq, Nat.reduceBEq, Nat.reduceBNe, Int.reduceBEq, Int.reduceBNe, String.reduceEq]
            try simp (disch := omega) only [w_nat, w_add, w_addl, w_addr, w_sub, w_subl, w_mul, w_mull, w_mulr, w_u32, w_u16, w_u8, w_u32a, N_zero]
            first | done | skip
            rw [List.take_succ_eq_append_getElem hil2, intsL_snoc]
          · first | (simp only [push_cast, ↓reduceIte, Nat.reduceEqDiff, Nat.reduceLT, Nat.reduceAdd, Nat.reduceSub, Nat.reduceMul, Nat.reduceLeDiff, Nat.reducePow, Int.reduceLT, Int.reduceToNat, reduceCtorEq, Int.reduceNeg, Int.reduceEq, Nat.reduceBEq, Nat.reduceBNe, Int.reduceBEq, Int.reduceBNe, String.reduceEq]; first | done | rfl | (simp (disch := omega) only [w_nat, w_add, w_addl, w_addr, w_sub, w_subl, w_mul, w_mull, w_mulr, w_u32, w_u16, w_u8, w_u32a, N_zero]; first | done | rfl))
    · skip
      have hil : i = rs.length := by have h0 : ¬ i + 1 < q.kids.length := (by simpa using c0); omega
      subst hil
      refine AWp.exit ?_
      try simp only [thenQ, blockQ, noGo, reduceIte, Nat.reduceEqDiff]
      refine hK1 _ ?_
      refine AWp.pubD 2 ?_
      rw [List.take_length]
      refine AWp.regionW ?_
      refine AWp.ret ?_
      try simp only [thenQ, blockQ, noGo]
      refine bodyQ.m ?_
      clear hK3 K3 hK2 K2 hK1 K1
      first | done | exact Wk.go
theorem same18_c (n m : GNode) (hs : n.sz ≤ 2 ^ 40) : PC Tryz.prog 40 [nodeA false n, nodeA false m] (bool (sameN n m)) := by
  refine PC.of_bodyW (by simp only [push_cast]) Tryz.func40 rfl (by rw [Tryz.ntmps40]; simp) ?_
  refine AWp.regionW ?_
  refine AWp.regionM fun K1 hK1 => ?_
  refine ARun2.callM (same08_c [n] [m] (by simp only [szs]; omega)) ?_
  refine ARun2.endm (hK1 _ ?_)
  refine AWp.ret ?_
  try simp only [thenQ, blockQ, noGo]
  refine bodyQ.m ?_
  clear hK1 K1
  simp only [sameL, Bool.and_true]
  first | done | exact Hand.go
theorem sameN_self18 (n : GNode) : sameN n n = true := (sameN_iff n n).2 rfl
def exA : GNode := .mk 5 [10, 0, 0, 1] []
def exX : GNode := .mk 49153 [0, 0, 0, 7] [.mk 5 [10, 0, 0, 1] []]
def exY : GNode := .mk 49154 [0, 0, 0, 8] [.mk 5 [10, 0, 0, 1] []]
def exR : GChunk := ⟨193, 0, [0, 0, 0, 3], [.mk 5 [10, 0, 0, 1] [], .mk 49153 [0, 0, 0, 7] [.mk 5 [10, 0, 0, 1] []], .mk 49154 [0, 0, 0, 8] [.mk 5 [10, 0, 0, 1] []]]⟩
def exS : GNode := .mk 49157 [0, 0, 0, 8] []
def exN : GChunk := ⟨128, 0, [0, 0, 0, 3], [.mk 49157 [0, 0, 0, 8] []]⟩
theorem exR_small : Small exR := ⟨by decide, by decide, by decide, by decide⟩
theorem exN_small : Small exN := ⟨by decide, by decide, by decide, by decide⟩
set_option maxRecDepth 100000 in
theorem awake18_c : PC Tryz.prog 23 [] (bool true) := by
  have w1 : changeN 49153 7 exA = (exX, true) := by kernel_rfl
  have k1 := achange_c 49153 7 exA (by decide) (by decide)
  rw [w1] at k1
  have w2 : changeN 49154 8 exA = (exY, true) := by kernel_rfl
  have k2 := achange_c 49154 8 exA (by decide) (by decide)
  rw [w2] at k2
  have w3 : requestC 3 exA [exX, exY] = (exR, true) := by kernel_rfl
  have k3 := arequest_c 3 exA [exX, exY] (by decide) (by decide) (by decide)
  rw [w3] at k3
  have w4 : putB 4 8 = [0, 0, 0, 8] := by kernel_rfl
  have k4 := asuccess_c 8 (by decide)
  rw [w4] at k4
  have w5 : answerG 3 [exS] = (exN, true) := by kernel_rfl
  have k5 := aanswer_c 3 [exS] (by decide) (by decide)
  rw [w5] at k5
  have w6 : resL exR exN = [0, 1] := by kernel_rfl
  have k6 := aresults_yes exR exN exR_small exN_small (by kernel_rfl) (by kernel_rfl) (by kernel_rfl)
  rw [w6] at k6
  have w7 : serC exR = (3, true) := by kernel_rfl
  have k7 := aserial_c exR exR_small
  rw [w7] at k7
  have w8 : idN exY = (8, true) := by kernel_rfl
  have k8 := aid_c exY (by decide)
  rw [w8] at k8
  have w9 : changeN 49155 7 exA = (.zero, false) := by kernel_rfl
  have k9 := achange_c 49155 7 exA (by decide) (by decide)
  rw [w9] at k9
  have k10 : PC Tryz.prog 36 [.sl false 1 [nat 0, nat 1], .sl false 1 [nat 0, nat 1]] (bool true) := equalI_c [0, 1] [0, 1] (by decide)
  have e6 : intsL [0, 1] = [nat 0, nat 1] := rfl
  rw [e6] at k6
  unfold exA at k1 k2 k3 k9
  unfold exX at k1 k3
  unfold exY at k2 k3 k8
  unfold exR at k3 k6 k7
  unfold exS at k5
  unfold exN at k5 k6
  simp only [GNode.zero] at k9
  refine PC.of_bodyW (by simp only [push_cast]) Tryz.func23 rfl (by rw [Tryz.ntmps23]; simp) ?_
  refine AWp.regionW ?_
  refine AWp.regionW ?_
  refine AWp.regionM fun K1 hK1 => ?_
  refine ARun2.callM (k1) ?_
  refine ARun2.endm (hK1 _ ?_)
  refine AWp.regionM fun K2 hK2 => ?_
  refine ARun2.callM (k2) ?_
  refine ARun2.endm (hK2 _ ?_)
  refine AWp.regionM fun K3 hK3 => ?_
  refine ARun2.callM (k3) ?_
  refine ARun2.endm (hK3 _ ?_)
  refine AWp.regionM fun K4 hK4 => ?_
  refine ARun2.callM (k4) ?_
  refine ARun2.callM (k5) ?_
  refine ARun2.endm (hK4 _ ?_)
  refine AWp.regionM fun K5 hK5 => ?_
  refine ARun2.callM (k6) ?_
  refine ARun2.endm (hK5 _ ?_)
  refine AWp.regionM fun K6 hK6 => ?_
  refine ARun2.callM (k7) ?_
  refine ARun2.endm (hK6 _ ?_)
  refine AWp.regionM fun K7 hK7 => ?_
  refine ARun2.callM (k8) ?_
  refine ARun2.endm (hK7 _ ?_)
  refine AWp.regionM fun K8 hK8 => ?_
  refine ARun2.callM (k9) ?_
  refine ARun2.endm (hK8 _ ?_)
  refine AWp.regionM fun K9 hK9 => ?_
  refine ARun2.callM (k10) ?_
  refine ARun2.endm (hK9 _ ?_)
  refine AWp.ret ?_
  try simp only [thenQ, blockQ, noGo]
  refine bodyQ.m ?_
  clear hK9 K9 hK8 K8 hK7 K7 hK6 K6 hK5 K5 hK4 K4 hK3 K3 hK2 K2 hK1 K1
  first | done | exact Hand.go
end Go.Proofs.YtgcjmjfjeppmgaaGreatDoor.C
/- wharflaw18: the laws. -/
set_option linter.unusedVariables false
set_option linter.unusedSimpArgs false
namespace Go.Proofs.YtgcjmjfjeppmgaaGreatDoor.C
open Go.Abs
theorem rput4_c (s : Nat) : PC Tryz.prog 33 [nat 4, .sl false 1 [u32 s]] (.sl true 1 (bys (putB 4 s))) := by
  have := PC.of_own (rput_o 4 [s] (by decide) (by simp))
  simpa [u32s, List.flatMap_cons, List.flatMap_nil] using this
theorem peek_put4 (s : Nat) (hs : s < 2 ^ 32) : peekN 4 (putB 4 s) 0 = s := by
  have hp := peek_put 4 s 0 [] [] rfl (beN_put4b s hs)
  simpa using hp
theorem small_id (n : GNode) : (idN n).2 = (isCh n || isRe n) ∧ ((isCh n || isRe n) = true → (idN n).1 = peekN 4 n.data 0) ∧ ((isCh n || isRe n) = false → (idN n).1 = 0) := by
  unfold idN
  cases h : (isCh n || isRe n) <;> simp
theorem small_ser (c : GChunk) : (serC c).2 = (isReq c || isAns c) ∧ ((isReq c || isAns c) = true → (serC c).1 = peekN 4 c.data 0) ∧ ((isReq c || isAns c) = false → (serC c).1 = 0) := by
  unfold serC
  cases h : (isReq c || isAns c) <;> simp
theorem asconfReads_c (n : GNode) (c : GChunk) (hs : n.sz ≤ 2 ^ 24) (h : Small c) : PC Tryz.prog 5 [nodeA false n, chunkA false c] (bool true) := by
  have hsz := n.sz_eq
  have hd := h.data
  have k1 := aid_c n (by omega)
  have k2 := aserial_c c h
  have k3 := risch_c n (by omega)
  have k4 := risre_c n (by omega)
  have k5 := risreq_c c h
  have k6 := risans_c c h
  have k7 := rnum18_c n.data (by omega)
  have k8 := rnum18_c c.data (by omega)
  obtain ⟨e1, e2, e3⟩ := small_id n
  obtain ⟨f1, f2, f3⟩ := small_ser c
  have k0 := few_c [n] (by simp only [szs]; omega)
  have k9 := few12_c c h
  generalize fewN [n] = fn at k0
  generalize fewC c = fc at k9
  generalize (idN n).1 = x at k1 e2 e3
  generalize (serC c).1 = y at k2 f2 f3
  rw [e1] at k1
  rw [f1] at k2
  generalize peekN 4 n.data 0 = v at k7 e2
  generalize peekN 4 c.data 0 = u at k8 f2
  generalize isCh n = p1 at *
  generalize isRe n = p2 at *
  generalize isReq c = p3 at *
  generalize isAns c = p4 at *
  have hx : (p1 || p2) = true ∧ x = v ∨ (p1 || p2) = false ∧ x = 0 := by cases hh : (p1 || p2); exact .inr ⟨rfl, e3 hh⟩; exact .inl ⟨rfl, e2 hh⟩
  have hy : (p3 || p4) = true ∧ y = u ∨ (p3 || p4) = false ∧ y = 0 := by cases hh : (p3 || p4); exact .inr ⟨rfl, f3 hh⟩; exact .inl ⟨rfl, f2 hh⟩
  clear e1 e2 e3 f1 f2 f3
  refine PC.of_bodyW (by simp only [push_cast]) Tryz.func5 rfl (by rw [Tryz.ntmps5]; simp) ?_
  refine AWp.regionW ?_
  refine AWp.seqK fun K1 hK1 => ?_
  refine AWp.regionA fun K2 hK2 => ?_
  refine ARun.segm 9 fun KS hKS => ?_
  refine ARun2.callM (awake18_c) ?_
  refine ARun2.callM (k0) ?_
  refine ARun2.endm (hKS _ ?_); clear hKS KS
  apply ARun.grpM 3 8 false 20 [2, 3, 17]
  · intro g8 KG hKG
    refine ARun2.gom ?_
    refine ARun2.callM (k9) ?_
    exact ARun2.endm (hKG _ Le.grpM)
  refine ARun2.gom ?_
  refine ARun2.endm (hK2 _ ?_)
  refine AWp.condLM (fun c0 => ?_) (fun c0 => ?_)
  · skip
    refine AWp.regionM fun K3 hK3 => ?_
    refine ARun2.callM (awake18_c) ?_
    refine ARun2.endm (hK3 _ ?_)
    refine AWp.ret ?_
    try simp only [thenQ, blockQ, noGo]
    refine bodyQ.m ?_
    clear hK3 K3 hK2 K2 hK1 K1
    cases p1 <;> cases p2 <;> cases p3 <;> cases p4 <;> simp_all <;> exact Hand.go
    first | done | exact Hand.go
  · skip
    refine AWp.skip ?_
    refine hK1 _ ?_
    refine AWp.regionM fun K4 hK4 => ?_
    refine ARun2.callM (k1) ?_
    refine ARun2.endm (hK4 _ ?_)
    refine AWp.regionM fun K5 hK5 => ?_
    refine ARun2.callM (k2) ?_
    refine ARun2.endm (hK5 _ ?_)
    refine AWp.seqK fun K6 hK6 => ?_
    refine AWp.regionA fun K7 hK7 => ?_
    refine ARun.segm 4 fun KS hKS => ?_
    refine ARun2.callM (k3) ?_
    refine ARun2.endm (hKS _ ?_); clear hKS KS
    apply ARun.grpM 2 3 false 38 [2, 3, 5, 6, 7, 8, 33, 36]
    · intro g3 KG hKG
      refine ARun2.gom ?_
      refine ARun2.callM (k4) ?_
      exact ARun2.endm (hKG _ Le.grpM)
    refine ARun.segm 3 fun KS hKS => ?_
    refine ARun2.boolEqM ?_
    refine ARun2.endm (hKS _ ?_); clear hKS KS
    apply ARun.grpM 8 8 false 49 [2, 3, 5, 6, 7, 8, 41]
    · intro g8 KG hKG
      refine ARun.segm 4 fun KS hKS => ?_
      refine ARun2.callM (k5) ?_
      refine ARun2.endm (hKS _ ?_); clear hKS KS
      apply ARun.grpM 2 12 false 47 [2, 3, 5, 6, 7, 8, 41, 42, 45]
      · intro g12 KG hKG
        refine ARun2.gom ?_
        refine ARun2.callM (k6) ?_
        exact ARun2.endm (hKG _ Le.grpM)
      refine ARun2.gom ?_
      refine ARun2.boolEqM ?_
      exact ARun2.endm (hKG _ Le.grpM)
    refine ARun2.gom ?_
    refine ARun2.endm (hK7 _ ?_)
    refine AWp.condLM (fun c1 => ?_) (fun c1 => ?_)
    · skip
      exfalso; revert c1; cases p1 <;> cases p2 <;> cases p3 <;> cases p4 <;> simp
    · skip
      refine AWp.skip ?_
      refine hK6 _ ?_
      refine AWp.regionA fun K8 hK8 => ?_
      refine ARun.segm 2 fun KS hKS => ?_
      refine ARun2.endm (hKS _ ?_); clear hKS KS
      apply ARun.grpM 5 1 true 57 [3, 5, 6, 7, 8, 52]
      · intro g1 KG hKG
        refine ARun2.gom ?_
        refine ARun2.callM (k7) ?_
        exact ARun2.endm (hKG _ Le.grpM)
      refine ARun.segm 2 fun KS hKS => ?_
      refine ARun2.endm (hKS _ ?_); clear hKS KS
      apply ARun.grpM 6 8 false 65 [3, 7, 8, 59]
      · intro g8 KG hKG
        refine ARun.segm 3 fun KS hKS => ?_
        refine ARun2.endm (hKS _ ?_); clear hKS KS
        apply ARun.grpM 2 11 true 64 [3, 7, 8, 59, 62]
        · intro g11 KG hKG
          refine ARun2.gom ?_
          exact ARun2.endm (hKG _ Le.grpM)
        refine ARun2.gom ?_
        exact ARun2.endm (hKG _ Le.grpM)
      refine ARun.segm 2 fun KS hKS => ?_
      refine ARun2.endm (hKS _ ?_); clear hKS KS
      apply ARun.grpM 16 16 true 83 [67]
      · intro g16 KG hKG
        refine ARun.segm 2 fun KS hKS => ?_
        refine ARun2.endm (hKS _ ?_); clear hKS KS
        apply ARun.grpM 5 18 true 74 [7, 8, 67, 69]
        · intro g18 KG hKG
          refine ARun2.gom ?_
          refine ARun2.callM (k8) ?_
          exact ARun2.endm (hKG _ Le.grpM)
        refine ARun.segm 2 fun KS hKS => ?_
        refine ARun2.endm (hKS _ ?_); clear hKS KS
        apply ARun.grpM 6 25 false 82 [67, 76]
        · intro g25 KG hKG
          refine ARun.segm 3 fun KS hKS => ?_
          refine ARun2.endm (hKS _ ?_); clear hKS KS
          apply ARun.grpM 2 28 true 81 [67, 76, 79]
          · intro g28 KG hKG
            refine ARun2.gom ?_
            exact ARun2.endm (hKG _ Le.grpM)
          refine ARun2.gom ?_
          exact ARun2.endm (hKG _ Le.grpM)
        refine ARun2.gom ?_
        exact ARun2.endm (hKG _ Le.grpM)
      refine ARun2.gom ?_
      refine ARun2.endm (hK8 _ ?_)
      refine AWp.ret ?_
      try simp only [thenQ, blockQ, noGo]
      refine bodyQ.m ?_
      clear hK8 K8 hK7 K7 hK6 K6 hK5 K5 hK4 K4 hK2 K2 hK1 K1
      cases p1 <;> cases p2 <;> cases p3 <;> cases p4 <;> simp_all <;> exact Hand.go
      first | done | exact Hand.go
theorem asconfAnswers_big (s : Nat) (l : List GNode) (hl : szs l ≤ 2 ^ 24) (hf : fewN l = false) : PC Tryz.prog 7 [u32 s, .sl false 3 (nodesA false l)] (bool true) := by
  have k0 := few_c l (by omega)
  rw [hf] at k0
  refine PC.of_bodyW (by simp only [push_cast]) Tryz.func7 rfl (by rw [Tryz.ntmps7]; simp) ?_
  refine AWp.regionW ?_
  refine AWp.seqK fun K1 hK1 => ?_
  refine AWp.regionM fun K2 hK2 => ?_
  refine ARun2.callM (awake18_c) ?_
  refine ARun2.callM (k0) ?_
  refine ARun2.endm (hK2 _ ?_)
  refine AWp.condT ?_
  refine AWp.regionM fun K3 hK3 => ?_
  refine ARun2.callM (awake18_c) ?_
  refine ARun2.endm (hK3 _ ?_)
  refine AWp.ret ?_
  try simp only [thenQ, blockQ, noGo]
  refine bodyQ.m ?_
  clear hK3 K3 hK2 K2 hK1 K1
  first | done | exact Hand.go
theorem asconfAnswers_yes (s : Nat) (l : List GNode) (hs : s < 2 ^ 32) (hl : szs l ≤ 2 ^ 24) (hf : fewN l = true) (hi : isAns (ansG s l) = true) : PC Tryz.prog 7 [u32 s, .sl false 3 (nodesA false l)] (bool true) := by
  have k0 := few_c l (by omega)
  rw [hf] at k0
  have hsm := small_ansG s (l := l) (by omega)
  have k1 := aanswer_c s l hs (by omega)
  have e1 : answerG s l = (ansG s l, true) := if_pos hi
  rw [e1] at k1
  have k2 := risans_c _ hsm
  rw [hi] at k2
  have k3 := aserial_c _ hsm
  have e3 : serC (ansG s l) = (s, true) := by
    have : serC (ansG s l) = (peekN 4 (putB 4 s) 0, true) := if_pos (by rw [hi, Bool.or_true])
    rw [this, peek_put4 s hs]
  rw [e3] at k3
  have k4 : PC Tryz.prog 15 [chunkA false (ansG s l), chunkA false (ansG s l)] (bool true) := sameC_self _ ▸ hsm.same
  have k5 := rput4_c s
  unfold ansG at k1 k2 k3 k4
  refine PC.of_bodyW (by simp only [push_cast]) Tryz.func7 rfl (by rw [Tryz.ntmps7]; simp) ?_
  refine AWp.regionW ?_
  refine AWp.seqK fun K1 hK1 => ?_
  refine AWp.regionM fun K2 hK2 => ?_
  refine ARun2.callM (awake18_c) ?_
  refine ARun2.callM (k0) ?_
  refine ARun2.endm (hK2 _ ?_)
  refine AWp.condF ?_
  refine AWp.skip ?_
  refine hK1 _ ?_
  refine AWp.regionM fun K3 hK3 => ?_
  refine ARun2.callM (k1) ?_
  refine ARun2.endm (hK3 _ ?_)
  refine AWp.regionM fun K4 hK4 => ?_
  refine ARun2.callM (k5) ?_
  refine ARun2.endm (hK4 _ ?_)
  refine AWp.seqK fun K5 hK5 => ?_
  refine AWp.regionM fun K6 hK6 => ?_
  refine ARun2.callM (k2) ?_
  refine ARun2.endm (hK6 _ ?_)
  refine AWp.condF ?_
  refine AWp.skip ?_
  refine hK5 _ ?_
  refine AWp.regionM fun K7 hK7 => ?_
  refine ARun2.callM (k3) ?_
  refine ARun2.endm (hK7 _ ?_)
  refine AWp.regionM fun K8 hK8 => ?_
  refine ARun2.callM (k4) ?_
  refine ARun2.endm (hK8 _ ?_)
  refine AWp.ret ?_
  try simp only [thenQ, blockQ, noGo]
  refine bodyQ.m ?_
  clear hK8 K8 hK7 K7 hK6 K6 hK5 K5 hK4 K4 hK3 K3 hK2 K2 hK1 K1
  first | done | exact Hand.go
theorem asconfAnswers_no (s : Nat) (l : List GNode) (hs : s < 2 ^ 32) (hl : szs l ≤ 2 ^ 24) (hf : fewN l = true) (hi : isAns (ansG s l) = false) : PC Tryz.prog 7 [u32 s, .sl false 3 (nodesA false l)] (bool true) := by
  have k0 := few_c l (by omega)
  rw [hf] at k0
  have hsm := small_ansG s (l := l) (by omega)
  have k1 := aanswer_c s l hs (by omega)
  have e1 : answerG s l = (.zero, false) := if_neg (by rw [hi]; decide)
  rw [e1] at k1
  have k2 := risans_c _ hsm
  rw [hi] at k2
  have k4 : PC Tryz.prog 15 [chunkA false .zero, chunkA false .zero] (bool true) := sameC_self .zero ▸ small_zero.same
  simp only [GChunk.zero] at k1 k4
  have k5 := rput4_c s
  unfold ansG at k2
  refine PC.of_bodyW (by simp only [push_cast]) Tryz.func7 rfl (by rw [Tryz.ntmps7]; simp) ?_
  refine AWp.regionW ?_
  refine AWp.seqK fun K1 hK1 => ?_
  refine AWp.regionM fun K2 hK2 => ?_
  refine ARun2.callM (awake18_c) ?_
  refine ARun2.callM (k0) ?_
  refine ARun2.endm (hK2 _ ?_)
  refine AWp.condF ?_
  refine AWp.skip ?_
  refine hK1 _ ?_
  refine AWp.regionM fun K3 hK3 => ?_
  refine ARun2.callM (k1) ?_
  refine ARun2.endm (hK3 _ ?_)
  refine AWp.regionM fun K4 hK4 => ?_
  refine ARun2.callM (k5) ?_
  refine ARun2.endm (hK4 _ ?_)
  refine AWp.seqK fun K5 hK5 => ?_
  refine AWp.regionM fun K6 hK6 => ?_
  refine ARun2.callM (k2) ?_
  refine ARun2.endm (hK6 _ ?_)
  refine AWp.condT ?_
  refine AWp.regionM fun K7 hK7 => ?_
  refine ARun2.callM (k4) ?_
  refine ARun2.endm (hK7 _ ?_)
  refine AWp.ret ?_
  try simp only [thenQ, blockQ, noGo]
  refine bodyQ.m ?_
  clear hK7 K7 hK6 K6 hK5 K5 hK4 K4 hK3 K3 hK2 K2 hK1 K1
  first | done | exact Hand.go
theorem asconfAnswers_c (s : Nat) (l : List GNode) (hs : s < 2 ^ 32) (hl : szs l ≤ 2 ^ 24) : PC Tryz.prog 7 [u32 s, .sl false 3 (nodesA false l)] (bool true) := by
  cases hf : fewN l with
  | false => exact asconfAnswers_big s l hl hf
  | true =>
    cases hi : isAns (ansG s l) with
    | true => exact asconfAnswers_yes s l hs hl hf hi
    | false => exact asconfAnswers_no s l hs hl hf hi
theorem asconfRequests_big (s : Nat) (a : GNode) (l : List GNode) (ha : a.sz ≤ 2 ^ 24) (hl : szs l ≤ 2 ^ 24) (hf : (fewN [a] && fewN l) = false) : PC Tryz.prog 6 [u32 s, nodeA false a, .sl false 3 (nodesA false l)] (bool true) := by
  have k0 := few_c [a] (by simp only [szs]; omega)
  have k9 := few_c l (by omega)
  generalize fewN [a] = f1 at *
  generalize fewN l = f2 at *
  refine PC.of_bodyW (by simp only [push_cast]) Tryz.func6 rfl (by rw [Tryz.ntmps6]; simp) ?_
  refine AWp.regionW ?_
  refine AWp.seqK fun K1 hK1 => ?_
  refine AWp.regionA fun K2 hK2 => ?_
  refine ARun.segm 9 fun KS hKS => ?_
  refine ARun2.callM (awake18_c) ?_
  refine ARun2.callM (k0) ?_
  refine ARun2.endm (hKS _ ?_); clear hKS KS
  apply ARun.grpM 3 8 false 23 [0, 2, 4, 20]
  · intro g8 KG hKG
    refine ARun2.gom ?_
    refine ARun2.callM (k9) ?_
    exact ARun2.endm (hKG _ Le.grpM)
  refine ARun2.gom ?_
  refine ARun2.endm (hK2 _ ?_)
  refine AWp.condLM (fun c0 => ?_) (fun c0 => ?_)
  · skip
    refine AWp.regionM fun K3 hK3 => ?_
    refine ARun2.callM (awake18_c) ?_
    refine ARun2.endm (hK3 _ ?_)
    refine AWp.ret ?_
    try simp only [thenQ, blockQ, noGo]
    refine bodyQ.m ?_
    clear hK3 K3 hK2 K2 hK1 K1
    first | done | exact Hand.go
  · skip
    exfalso; revert c0 hf; cases f1 <;> cases f2 <;> simp
theorem asconfRequests_yes (s : Nat) (a : GNode) (l : List GNode) (hs : s < 2 ^ 32) (ha : a.sz ≤ 2 ^ 24) (hl : szs l ≤ 2 ^ 24) (hf1 : fewN [a] = true) (hf2 : fewN l = true) (hi : isReq (reqC s a l) = true) : PC Tryz.prog 6 [u32 s, nodeA false a, .sl false 3 (nodesA false l)] (bool true) := by
  have k0 := few_c [a] (by simp only [szs]; omega)
  have k9 := few_c l (by omega)
  rw [hf1] at k0
  rw [hf2] at k9
  have hlen := szs_len l
  have hsm := small_req s (a := a) (l := l) (by omega) (by omega)
  have k1 := arequest_c s a l hs (by omega) (by omega)
  have e1 : requestC s a l = (reqC s a l, true) := if_pos hi
  rw [e1] at k1
  have k2 := risreq_c _ hsm
  rw [hi] at k2
  have k3 := aserial_c _ hsm
  have e3 : serC (reqC s a l) = (s, true) := by
    have : serC (reqC s a l) = (peekN 4 (putB 4 s) 0, true) := if_pos (by rw [hi, Bool.true_or])
    rw [this, peek_put4 s hs]
  rw [e3] at k3
  have k4 : PC Tryz.prog 15 [chunkA false (reqC s a l), chunkA false (reqC s a l)] (bool true) := sameC_self _ ▸ hsm.same
  have k5 := rput4_c s
  unfold reqC at k1 k2 k3 k4
  refine PC.of_bodyW (by simp only [push_cast]) Tryz.func6 rfl (by rw [Tryz.ntmps6]; simp) ?_
  refine AWp.regionW ?_
  refine AWp.seqK fun K1 hK1 => ?_
  refine AWp.regionM fun K2 hK2 => ?_
  refine ARun2.callM (awake18_c) ?_
  refine ARun2.callM (k0) ?_
  refine ARun2.callM (k9) ?_
  refine ARun2.endm (hK2 _ ?_)
  refine AWp.condF ?_
  refine AWp.skip ?_
  refine hK1 _ ?_
  refine AWp.regionM fun K3 hK3 => ?_
  refine ARun2.callM (k1) ?_
  refine ARun2.endm (hK3 _ ?_)
  refine AWp.drS [[(0, none)], [(33, some 0)], [(34, some 1)], [(4, none)], [(70, none)], [(2, none)], [(70, none)], [(35, some 2), (39, some 6)], []] fun G hG => ?_
  refine Dr.sim ?_
  try simp only [List.cons_append, List.nil_append]
  refine Dr.build ?_
  try simp only [List.cons_append, List.nil_append]
  refine Dr.call (k5) ?_
  try simp only [List.cons_append, List.nil_append]
  refine Dr.sim ?_
  try simp only [List.cons_append, List.nil_append]
  refine Dr.ownS1 ?_
  try simp only [List.cons_append, List.nil_append]
  refine Dr.sim ?_
  try simp only [List.cons_append, List.nil_append]
  refine Dr.pubS (3) ((.agg [u16 a.ty, .sl false 1 (bys a.data), .sl false 3 (nodesA false a.kids)] :: nodesA false l)) ?_
  try simp only [List.cons_append, List.nil_append]
  refine Dr.sim ?_
  try simp only [List.cons_append, List.nil_append]
  refine Dr.al ?_
  try simp only [List.cons_append, List.nil_append]
  refine Dr.finCAM (n := 9) 8 [4, 6] 1 [[(0, none)], [(33, some 0)], [(34, some 1)], [(4, none)], [(36, some 3)], [(2, none)], [(37, some 4), (38, some 5)], [(35, some 2), (39, some 6)], []] [(40, 7), (9, 8)] [0, 7, 8] (CLA.ownB (CLA.appP (xs := [nodeA false a]) CLA.nil (hb := by rw [YtgcjmjfjeppmgaaGreatDoor.Facts.eb29, nodesA_len]; simp; omega) (hsm := by rw [nodesA_len]; simp; omega))) hG YtgcjmjfjeppmgaaGreatDoor.Facts.mixed fun KD hKD => ?_
  clear hG G
  refine AAny.one 9 ?_
  refine ARun.opM ?_
  refine ARun2.endm ?_
  refine AAny.fin (hKD _ ?_); clear hKD KD
  refine AWp.seqK fun K4 hK4 => ?_
  refine AWp.regionM fun K5 hK5 => ?_
  refine ARun2.callM (k2) ?_
  refine ARun2.endm (hK5 _ ?_)
  refine AWp.condF ?_
  refine AWp.skip ?_
  refine hK4 _ ?_
  refine AWp.regionM fun K6 hK6 => ?_
  refine ARun2.callM (k3) ?_
  refine ARun2.endm (hK6 _ ?_)
  refine AWp.regionM fun K7 hK7 => ?_
  refine ARun2.callM (k4) ?_
  refine ARun2.endm (hK7 _ ?_)
  refine AWp.ret ?_
  try simp only [thenQ, blockQ, noGo]
  refine bodyQ.m ?_
  clear hK7 K7 hK6 K6 hK5 K5 hK4 K4 hK3 K3 hK2 K2 hK1 K1
  first | done | exact Hand.go
theorem asconfRequests_no (s : Nat) (a : GNode) (l : List GNode) (hs : s < 2 ^ 32) (ha : a.sz ≤ 2 ^ 24) (hl : szs l ≤ 2 ^ 24) (hf1 : fewN [a] = true) (hf2 : fewN l = true) (hi : isReq (reqC s a l) = false) : PC Tryz.prog 6 [u32 s, nodeA false a, .sl false 3 (nodesA false l)] (bool true) := by
  have k0 := few_c [a] (by simp only [szs]; omega)
  have k9 := few_c l (by omega)
  rw [hf1] at k0
  rw [hf2] at k9
  have hlen := szs_len l
  have hsm := small_req s (a := a) (l := l) (by omega) (by omega)
  have k1 := arequest_c s a l hs (by omega) (by omega)
  have e1 : requestC s a l = (.zero, false) := if_neg (by rw [hi]; decide)
  rw [e1] at k1
  have k2 := risreq_c _ hsm
  rw [hi] at k2
  have k4 : PC Tryz.prog 15 [chunkA false .zero, chunkA false .zero] (bool true) := sameC_self .zero ▸ small_zero.same
  simp only [GChunk.zero] at k1 k4
  have k5 := rput4_c s
  unfold reqC at k2
  refine PC.of_bodyW (by simp only [push_cast]) Tryz.func6 rfl (by rw [Tryz.ntmps6]; simp) ?_
  refine AWp.regionW ?_
  refine AWp.seqK fun K1 hK1 => ?_
  refine AWp.regionM fun K2 hK2 => ?_
  refine ARun2.callM (awake18_c) ?_
  refine ARun2.callM (k0) ?_
  refine ARun2.callM (k9) ?_
  refine ARun2.endm (hK2 _ ?_)
  refine AWp.condF ?_
  refine AWp.skip ?_
  refine hK1 _ ?_
  refine AWp.regionM fun K3 hK3 => ?_
  refine ARun2.callM (k1) ?_
  refine ARun2.endm (hK3 _ ?_)
  refine AWp.drS [[(0, none)], [(33, some 0)], [(34, some 1)], [(4, none)], [(70, none)], [(2, none)], [(70, none)], [(35, some 2), (39, some 6)], []] fun G hG => ?_
  refine Dr.sim ?_
  try simp only [List.cons_append, List.nil_append]
  refine Dr.build ?_
  try simp only [List.cons_append, List.nil_append]
  refine Dr.call (k5) ?_
  try simp only [List.cons_append, List.nil_append]
  refine Dr.sim ?_
  try simp only [List.cons_append, List.nil_append]
  refine Dr.ownS1 ?_
  try simp only [List.cons_append, List.nil_append]
  refine Dr.sim ?_
  try simp only [List.cons_append, List.nil_append]
  refine Dr.pubS (3) ((.agg [u16 a.ty, .sl false 1 (bys a.data), .sl false 3 (nodesA false a.kids)] :: nodesA false l)) ?_
  try simp only [List.cons_append, List.nil_append]
  refine Dr.sim ?_
  try simp only [List.cons_append, List.nil_append]
  refine Dr.al ?_
  try simp only [List.cons_append, List.nil_append]
  refine Dr.finCAM (n := 9) 8 [4, 6] 1 [[(0, none)], [(33, some 0)], [(34, some 1)], [(4, none)], [(36, some 3)], [(2, none)], [(37, some 4), (38, some 5)], [(35, some 2), (39, some 6)], []] [(40, 7), (9, 8)] [0, 7, 8] (CLA.ownB (CLA.appP (xs := [nodeA false a]) CLA.nil (hb := by rw [YtgcjmjfjeppmgaaGreatDoor.Facts.eb29, nodesA_len]; simp; omega) (hsm := by rw [nodesA_len]; simp; omega))) hG YtgcjmjfjeppmgaaGreatDoor.Facts.mixed fun KD hKD => ?_
  clear hG G
  refine AAny.one 9 ?_
  refine ARun.opM ?_
  refine ARun2.endm ?_
  refine AAny.fin (hKD _ ?_); clear hKD KD
  refine AWp.seqK fun K4 hK4 => ?_
  refine AWp.regionM fun K5 hK5 => ?_
  refine ARun2.callM (k2) ?_
  refine ARun2.endm (hK5 _ ?_)
  refine AWp.condT ?_
  refine AWp.regionM fun K6 hK6 => ?_
  refine ARun2.callM (k4) ?_
  refine ARun2.endm (hK6 _ ?_)
  refine AWp.ret ?_
  try simp only [thenQ, blockQ, noGo]
  refine bodyQ.m ?_
  clear hK6 K6 hK5 K5 hK4 K4 hK3 K3 hK2 K2 hK1 K1
  first | done | exact Hand.go
theorem asconfRequests_c (s : Nat) (a : GNode) (l : List GNode) (hs : s < 2 ^ 32) (ha : a.sz ≤ 2 ^ 24) (hl : szs l ≤ 2 ^ 24) : PC Tryz.prog 6 [u32 s, nodeA false a, .sl false 3 (nodesA false l)] (bool true) := by
  cases hf : (fewN [a] && fewN l) with
  | false => exact asconfRequests_big s a l ha hl hf
  | true =>
    simp only [Bool.and_eq_true] at hf
    cases hi : isReq (reqC s a l) with
    | true => exact asconfRequests_yes s a l hs ha hl hf.1 hf.2 hi
    | false => exact asconfRequests_no s a l hs ha hl hf.1 hf.2 hi
theorem ser_req {q : GChunk} (h : isReq q = true) : (serC q).1 = peekN 4 q.data 0 := (small_ser q).2.1 (by rw [h, Bool.true_or])
theorem ser_ans {q : GChunk} (h : isAns q = true) : (serC q).1 = peekN 4 q.data 0 := (small_ser q).2.1 (by rw [h, Bool.or_true])
theorem asconfResults_no (q a : GChunk) (hq : Small q) (ha : Small a) (h : ¬ (isReq q = true ∧ isAns a = true ∧ peekN 4 q.data 0 = peekN 4 a.data 0)) : PC Tryz.prog 8 [chunkA false q, chunkA false a] (bool true) := by
  have k1 := aresults_no q a hq ha (by rintro ⟨h1, h2, h3⟩; rw [ser_req h1, ser_ans h2] at h3; exact h ⟨h1, h2, h3⟩)
  have k2 := risreq_c q hq
  have k3 := risans_c a ha
  have k4 := rnum18_c q.data (by have := hq.data; omega)
  have k5 := rnum18_c a.data (by have := ha.data; omega)
  generalize peekN 4 q.data 0 = x at *
  generalize peekN 4 a.data 0 = y at *
  generalize isReq q = p1 at *
  generalize isAns a = p2 at *
  refine PC.of_bodyW (by simp only [push_cast]) Tryz.func8 rfl (by rw [Tryz.ntmps8]; simp) ?_
  refine AWp.regionW ?_
  refine AWp.seqK fun K1 hK1 => ?_
  refine AWp.regionA fun K2 hK2 => ?_
  refine ARun.segm 8 fun KS hKS => ?_
  refine ARun2.callM (awake18_c) ?_
  refine ARun2.callM (few12_c q hq) ?_
  refine ARun2.endm (hKS _ ?_); clear hKS KS
  apply ARun.grpM 3 7 false 17 [2, 3, 14]
  · intro g7 KG hKG
    refine ARun2.gom ?_
    refine ARun2.callM (few12_c a ha) ?_
    exact ARun2.endm (hKG _ Le.grpM)
  refine ARun2.gom ?_
  refine ARun2.endm (hK2 _ ?_)
  refine AWp.condLM (fun c0 => ?_) (fun c0 => ?_)
  · skip
    refine AWp.regionM fun K3 hK3 => ?_
    refine ARun2.callM (awake18_c) ?_
    refine ARun2.endm (hK3 _ ?_)
    refine AWp.ret ?_
    try simp only [thenQ, blockQ, noGo]
    refine bodyQ.m ?_
    clear hK3 K3 hK2 K2 hK1 K1
    first | done | exact Hand.go
  · skip
    refine AWp.skip ?_
    refine hK1 _ ?_
    refine AWp.regionM fun K4 hK4 => ?_
    refine ARun2.callM (k1) ?_
    refine ARun2.endm (hK4 _ ?_)
    refine AWp.seqK fun K5 hK5 => ?_
    refine AWp.drS [[(2, none)], [(26, some 0)], [(27, some 1)], [(28, some 2)], [(3, none), (29, some 3)], [(30, some 4), (29, some 3)], [(31, some 5), (29, some 3)], [(29, some 3), (32, some 6)], [(33, some 7)], [(2, none), (34, some 8)], [(35, some 9), (34, some 8)], [(36, some 10), (34, some 8)], [(3, none), (34, some 8)], [(38, some 12), (34, some 8)], [(39, some 13), (34, some 8)], [(37, some 11), (40, some 14), (34, some 8)], [(34, some 8), (41, some 15)]] fun G hG => ?_
    refine Dr.sim ?_
    try simp only [List.cons_append, List.nil_append]
    refine Dr.call (k2) ?_
    try simp only [List.cons_append, List.nil_append]
    refine Dr.sim ?_
    try simp only [List.cons_append, List.nil_append]
    refine Dr.sim ?_
    try simp only [List.cons_append, List.nil_append]
    refine Dr.simg ?_
    try simp only [List.cons_append, List.nil_append]
    refine Dr.callg (fun g3 => k3) ?_
    try simp only [List.cons_append, List.nil_append]
    refine Dr.simg ?_
    try simp only [List.cons_append, List.nil_append]
    refine Dr.sim ?_
    try simp only [List.cons_append, List.nil_append]
    refine Dr.sim ?_
    try simp only [List.cons_append, List.nil_append]
    refine Dr.simg ?_
    try simp only [List.cons_append, List.nil_append]
    refine Dr.simg ?_
    try simp only [List.cons_append, List.nil_append]
    refine Dr.callg (fun g8 => k4) ?_
    try simp only [List.cons_append, List.nil_append]
    refine Dr.simg ?_
    try simp only [List.cons_append, List.nil_append]
    refine Dr.simg ?_
    try simp only [List.cons_append, List.nil_append]
    refine Dr.callg (fun g8 => k5) ?_
    try simp only [List.cons_append, List.nil_append]
    refine Dr.simg ?_
    try simp only [List.cons_append, List.nil_append]
    refine Dr.sim ?_
    try simp only [List.cons_append, List.nil_append]
    refine Dr.finM (n := 17) [(42, 16)] [2, 3, 5, 6] hG YtgcjmjfjeppmgaaGreatDoor.Facts.mixed fun KD hKD => ?_
    refine ARun2.endm (hKD _ ?_); clear hKD KD hG G
    refine AWp.condLM (fun c1 => ?_) (fun c1 => ?_)
    · skip
      refine AWp.regionW ?_
      refine AWp.ret ?_
      try simp only [thenQ, blockQ, noGo]
      refine bodyQ.m ?_
      clear hK5 K5 hK4 K4 hK2 K2 hK1 K1
      first | done | exact Hand.go
    · skip
      exfalso; apply h; revert c1; cases p1 <;> cases p2 <;> simp
theorem asconfResults_yes (q a : GChunk) (hq : Small q) (ha : Small a) (h1 : isReq q = true) (h2 : isAns a = true) (h3 : peekN 4 q.data 0 = peekN 4 a.data 0) : PC Tryz.prog 8 [chunkA false q, chunkA false a] (bool true) := by
  have k1 := aresults_yes q a hq ha h1 h2 (by rw [ser_req h1, ser_ans h2, h3])
  have k2 := risreq_c q hq
  have k3 := risans_c a ha
  have k4 := rnum18_c q.data (by have := hq.data; omega)
  have k5 := rnum18_c a.data (by have := ha.data; omega)
  rw [h1] at k2
  rw [h2] at k3
  rw [← h3] at k5
  have k6 := rres18_c q a hq ha
  have hl : (resL q a).length ≤ 2 ^ 40 := by
    have := szs_len q.kids
    have := hq.kids
    unfold resL
    rw [List.length_map, List.length_drop]; omega
  have k7 := equalI_c (resL q a) (resL q a) hl
  rw [decide_eq_true rfl] at k7
  generalize resL q a = rs at k1 k6 k7
  generalize peekN 4 q.data 0 = x at k4 k5
  refine PC.of_bodyW (by simp only [push_cast]) Tryz.func8 rfl (by rw [Tryz.ntmps8]; simp) ?_
  refine AWp.regionW ?_
  refine AWp.seqK fun K1 hK1 => ?_
  refine AWp.regionA fun K2 hK2 => ?_
  refine ARun.segm 8 fun KS hKS => ?_
  refine ARun2.callM (awake18_c) ?_
  refine ARun2.callM (few12_c q hq) ?_
  refine ARun2.endm (hKS _ ?_); clear hKS KS
  apply ARun.grpM 3 7 false 17 [2, 3, 14]
  · intro g7 KG hKG
    refine ARun2.gom ?_
    refine ARun2.callM (few12_c a ha) ?_
    exact ARun2.endm (hKG _ Le.grpM)
  refine ARun2.gom ?_
  refine ARun2.endm (hK2 _ ?_)
  refine AWp.condLM (fun c0 => ?_) (fun c0 => ?_)
  · skip
    refine AWp.regionM fun K3 hK3 => ?_
    refine ARun2.callM (awake18_c) ?_
    refine ARun2.endm (hK3 _ ?_)
    refine AWp.ret ?_
    try simp only [thenQ, blockQ, noGo]
    refine bodyQ.m ?_
    clear hK3 K3 hK2 K2 hK1 K1
    first | done | exact Hand.go
  · skip
    refine AWp.skip ?_
    refine hK1 _ ?_
    refine AWp.regionM fun K4 hK4 => ?_
    refine ARun2.callM (k1) ?_
    refine ARun2.endm (hK4 _ ?_)
    refine AWp.seqK fun K5 hK5 => ?_
    refine AWp.drS [[(2, none)], [(26, some 0)], [(27, some 1)], [(28, some 2)], [(3, none), (29, some 3)], [(30, some 4), (29, some 3)], [(31, some 5), (29, some 3)], [(29, some 3), (32, some 6)], [(33, some 7)], [(2, none), (34, some 8)], [(35, some 9), (34, some 8)], [(36, some 10), (34, some 8)], [(3, none), (34, some 8)], [(38, some 12), (34, some 8)], [(39, some 13), (34, some 8)], [(37, some 11), (40, some 14), (34, some 8)], [(34, some 8), (41, some 15)]] fun G hG => ?_
    refine Dr.sim ?_
    try simp only [List.cons_append, List.nil_append]
    refine Dr.call (k2) ?_
    try simp only [List.cons_append, List.nil_append]
    refine Dr.sim ?_
    try simp only [List.cons_append, List.nil_append]
    refine Dr.sim ?_
    try simp only [List.cons_append, List.nil_append]
    refine Dr.simg ?_
    try simp only [List.cons_append, List.nil_append]
    refine Dr.callg (fun g3 => k3) ?_
    try simp only [List.cons_append, List.nil_append]
    refine Dr.simg ?_
    try simp only [List.cons_append, List.nil_append]
    refine Dr.sim ?_
    try simp only [List.cons_append, List.nil_append]
    refine Dr.sim ?_
    try simp only [List.cons_append, List.nil_append]
    refine Dr.simg ?_
    try simp only [List.cons_append, List.nil_append]
    refine Dr.simg ?_
    try simp only [List.cons_append, List.nil_append]
    refine Dr.callg (fun g8 => k4) ?_
    try simp only [List.cons_append, List.nil_append]
    refine Dr.simg ?_
    try simp only [List.cons_append, List.nil_append]
    refine Dr.simg ?_
    try simp only [List.cons_append, List.nil_append]
    refine Dr.callg (fun g8 => k5) ?_
    try simp only [List.cons_append, List.nil_append]
    refine Dr.simg ?_
    try simp only [List.cons_append, List.nil_append]
    refine Dr.sim ?_
    try simp only [List.cons_append, List.nil_append]
    refine Dr.finM (n := 17) [(42, 16)] [2, 3, 5, 6] hG YtgcjmjfjeppmgaaGreatDoor.Facts.mixed fun KD hKD => ?_
    refine ARun2.endm (hKD _ ?_); clear hKD KD hG G
    refine AWp.condLM (fun c1 => ?_) (fun c1 => ?_)
    · skip
      exfalso; revert c1; simp
    · skip
      refine AWp.skip ?_
      refine hK5 _ ?_
      refine AWp.regionM fun K6 hK6 => ?_
      refine ARun2.callM (k6) ?_
      refine ARun2.callM (k7) ?_
      refine ARun2.endm (hK6 _ ?_)
      refine AWp.ret ?_
      try simp only [thenQ, blockQ, noGo]
      refine bodyQ.m ?_
      clear hK6 K6 hK5 K5 hK4 K4 hK2 K2 hK1 K1
      first | done | exact Hand.go
theorem asconfResults_c (q a : GChunk) (hq : Small q) (ha : Small a) : PC Tryz.prog 8 [chunkA false q, chunkA false a] (bool true) := by
  by_cases h : isReq q = true ∧ isAns a = true ∧ peekN 4 q.data 0 = peekN 4 a.data 0
  · exact asconfResults_yes q a hq ha h.1 h.2.1 h.2.2
  · exact asconfResults_no q a hq ha h
theorem change_two (t id : Nat) (a : GNode) : (changeN t id a).2 = isCh (chN t id a) ∧ (isCh (chN t id a) = true → (changeN t id a).1 = chN t id a) ∧ (isCh (chN t id a) = false → (changeN t id a).1 = .zero) := by
  unfold changeN
  cases h : isCh (chN t id a) <;> simp
theorem fail_two (id : Nat) (l : List GNode) : (rightP (.mk 49155 (putB 4 id) l)).2 = isRe (.mk 49155 (putB 4 id) l) ∧ (isRe (.mk 49155 (putB 4 id) l) = true → (rightP (.mk 49155 (putB 4 id) l)).1 = .mk 49155 (putB 4 id) l) ∧ (isRe (.mk 49155 (putB 4 id) l) = false → (rightP (.mk 49155 (putB 4 id) l)).1 = .zero) := by
  have e : isRe (.mk 49155 (putB 4 id) l) = (checkN 1 1 (.mk 49155 (putB 4 id) l) == 0) := rfl
  rw [e]
  by_cases h : checkN 1 1 (.mk 49155 (putB 4 id) l) = 0
  · rw [rightP_yes h, h]; simp
  · rw [rightP_no h]; simp [h]
set_option maxHeartbeats 1000000 in
theorem asconfMatches_c (t id : Nat) (a : GNode) (l : List GNode) (hid : id < 2 ^ 32) (ha : a.sz ≤ 2 ^ 24) (hl : szs l ≤ 2 ^ 24) : PC Tryz.prog 9 [u16 t, u32 id, nodeA false a, .sl false 3 (nodesA false l)] (bool true) := by
  have k0 := few_c [a] (by simp only [szs]; omega)
  have k9 := few_c l (by omega)
  generalize fewN [a] = f1 at k0
  generalize fewN l = f2 at k9
  have hsz : (chN t id a).sz ≤ 2 ^ 26 := by simp only [chN, GNode.sz, szs, putB_len]; omega
  have hsz2 : (GNode.mk 49155 (putB 4 id) l).sz ≤ 2 ^ 26 := by simp only [GNode.sz, putB_len]; omega
  have hsz3 : (GNode.mk 49157 (putB 4 id) []).sz ≤ 2 ^ 26 := by simp only [GNode.sz, szs, putB_len]; omega
  have hz0 : GNode.zero.sz ≤ 2 ^ 26 := by decide
  have k1 := achange_c t id a hid (by omega)
  have k2 := afailure_c id l hid (by omega)
  have k3 := asuccess_c id hid
  have k4 := risch_c _ hsz
  have k5 := risre_c _ hsz2
  have k6 := rput4_c id
  have k7 := same18_c (.mk 49157 (putB 4 id) []) (.mk 49157 (putB 4 id) []) (by omega)
  rw [sameN_self18] at k7
  obtain ⟨e1, e2, e3⟩ := change_two t id a
  obtain ⟨g1, g2, g3⟩ := fail_two id l
  have c1s : (changeN t id a).1.sz ≤ 2 ^ 40 := by
    cases h : isCh (chN t id a) with
    | true => rw [e2 h]; omega
    | false => rw [e3 h]; omega
  have c2s : (rightP (.mk 49155 (putB 4 id) l)).1.sz ≤ 2 ^ 40 := by
    cases h : isRe (.mk 49155 (putB 4 id) l) with
    | true => rw [g2 h]; omega
    | false => rw [g3 h]; omega
  have m1 := same18_c _ (chN t id a) c1s
  have m2 := same18_c _ .zero c1s
  have m3 := same18_c _ (.mk 49155 (putB 4 id) l) c2s
  have m4 := same18_c _ .zero c2s
  have q1 : isCh (chN t id a) = true → sameN (changeN t id a).1 (chN t id a) = true := fun h => by rw [e2 h]; exact sameN_self18 _
  have q2 : isCh (chN t id a) = false → sameN (changeN t id a).1 .zero = true := fun h => by rw [e3 h]; exact sameN_self18 _
  have q3 : isRe (.mk 49155 (putB 4 id) l) = true → sameN (rightP (.mk 49155 (putB 4 id) l)).1 (.mk 49155 (putB 4 id) l) = true := fun h => by rw [g2 h]; exact sameN_self18 _
  have q4 : isRe (.mk 49155 (putB 4 id) l) = false → sameN (rightP (.mk 49155 (putB 4 id) l)).1 .zero = true := fun h => by rw [g3 h]; exact sameN_self18 _
  rw [e1] at k1
  rw [g1] at k2
  generalize (changeN t id a).1 = n1 at *
  generalize (rightP (.mk 49155 (putB 4 id) l)).1 = n2 at *
  generalize isCh (chN t id a) = p at *
  generalize isRe (.mk 49155 (putB 4 id) l) = r at *
  generalize sameN n1 (chN t id a) = s1 at *
  generalize sameN n1 .zero = s2 at *
  generalize sameN n2 (.mk 49155 (putB 4 id) l) = s3 at *
  generalize sameN n2 .zero = s4 at *
  clear e1 e2 e3 g1 g2 g3
  unfold chN at k4 m1
  simp only [GNode.zero] at m2 m4
  refine PC.of_bodyW (by simp only [push_cast]) Tryz.func9 rfl (by rw [Tryz.ntmps9]; simp) ?_
  refine AWp.regionW ?_
  refine AWp.seqK fun K1 hK1 => ?_
  refine AWp.regionA fun K2 hK2 => ?_
  refine ARun.segm 9 fun KS hKS => ?_
  refine ARun2.callM (awake18_c) ?_
  refine ARun2.callM (k0) ?_
  refine ARun2.endm (hKS _ ?_); clear hKS KS
  apply ARun.grpM 3 8 false 27 [0, 1, 3, 6, 24]
  · intro g8 KG hKG
    refine ARun2.gom ?_
    refine ARun2.callM (k9) ?_
    exact ARun2.endm (hKG _ Le.grpM)
  refine ARun2.gom ?_
  refine ARun2.endm (hK2 _ ?_)
  refine AWp.condLM (fun c0 => ?_) (fun c0 => ?_)
  · skip
    refine AWp.regionM fun K3 hK3 => ?_
    refine ARun2.callM (awake18_c) ?_
    refine ARun2.endm (hK3 _ ?_)
    refine AWp.ret ?_
    try simp only [thenQ, blockQ, noGo]
    refine bodyQ.m ?_
    clear hK3 K3 hK2 K2 hK1 K1
    cases p <;> cases r <;> simp_all <;> exact Hand.go
    first | done | exact Hand.go
  · skip
    refine AWp.skip ?_
    refine hK1 _ ?_
    refine AWp.regionM fun K4 hK4 => ?_
    refine ARun2.callM (k6) ?_
    refine ARun2.endm (hK4 _ ?_)
    refine AWp.regionM fun K5 hK5 => ?_
    refine ARun2.callM (k1) ?_
    refine ARun2.endm (hK5 _ ?_)
    refine AWp.regionM fun K6 hK6 => ?_
    refine ARun2.callM (k2) ?_
    refine ARun2.endm (hK6 _ ?_)
    refine AWp.regionW ?_
    refine AWp.regionW ?_
    refine AWp.seqK fun K7 hK7 => ?_
    refine AWp.regionA fun K8 hK8 => ?_
    refine ARun.segm 5 fun KS hKS => ?_
    refine ARun2.callM (k4) ?_
    refine ARun2.boolEqM ?_
    refine ARun2.endm (hKS _ ?_); clear hKS KS
    apply ARun.grpM 4 4 false 62 [1, 9, 10, 11, 12, 13, 14, 15, 58]
    · intro g4 KG hKG
      refine ARun2.gom ?_
      refine ARun2.callM (k5) ?_
      refine ARun2.boolEqM ?_
      exact ARun2.endm (hKG _ Le.grpM)
    refine ARun.segm 2 fun KS hKS => ?_
    refine ARun2.endm (hKS _ ?_); clear hKS KS
    apply ARun.grpM 6 10 false 70 [10, 11, 12, 13, 14, 15, 64]
    · intro g10 KG hKG
      refine ARun2.gom ?_
      refine ARun2.callM (k3) ?_
      refine ARun2.callM (k7) ?_
      exact ARun2.endm (hKG _ Le.grpM)
    refine ARun2.gom ?_
    refine ARun2.endm (hK8 _ ?_)
    refine AWp.condLM (fun c1 => ?_) (fun c1 => ?_)
    · skip
      exfalso; revert c1; cases p <;> cases r <;> simp
    · skip
      refine AWp.skip ?_
      refine hK7 _ ?_
      refine AWp.regionA fun K9 hK9 => ?_
      refine ARun.segm 2 fun KS hKS => ?_
      refine ARun2.endm (hKS _ ?_); clear hKS KS
      apply ARun.grpM 3 1 true 76 [10, 11, 12, 13, 15, 73]
      · intro g1 KG hKG
        refine ARun2.gom ?_
        refine ARun2.callM (m1) ?_
        exact ARun2.endm (hKG _ Le.grpM)
      refine ARun.segm 2 fun KS hKS => ?_
      refine ARun2.endm (hKS _ ?_); clear hKS KS
      apply ARun.grpM 7 6 false 85 [12, 13, 15, 78]
      · intro g6 KG hKG
        refine ARun.segm 3 fun KS hKS => ?_
        refine ARun2.endm (hKS _ ?_); clear hKS KS
        apply ARun.grpM 3 9 true 84 [12, 13, 15, 78, 81]
        · intro g9 KG hKG
          refine ARun2.gom ?_
          refine ARun2.callM (m2) ?_
          exact ARun2.endm (hKG _ Le.grpM)
        refine ARun2.gom ?_
        exact ARun2.endm (hKG _ Le.grpM)
      refine ARun.segm 2 fun KS hKS => ?_
      refine ARun2.endm (hKS _ ?_); clear hKS KS
      apply ARun.grpM 15 15 true 102 [87]
      · intro g15 KG hKG
        refine ARun.segm 2 fun KS hKS => ?_
        refine ARun2.endm (hKS _ ?_); clear hKS KS
        apply ARun.grpM 3 17 true 92 [12, 13, 87, 89]
        · intro g17 KG hKG
          refine ARun2.gom ?_
          refine ARun2.callM (m3) ?_
          exact ARun2.endm (hKG _ Le.grpM)
        refine ARun.segm 2 fun KS hKS => ?_
        refine ARun2.endm (hKS _ ?_); clear hKS KS
        apply ARun.grpM 7 22 false 101 [87, 94]
        · intro g22 KG hKG
          refine ARun.segm 3 fun KS hKS => ?_
          refine ARun2.endm (hKS _ ?_); clear hKS KS
          apply ARun.grpM 3 25 true 100 [87, 94, 97]
          · intro g25 KG hKG
            refine ARun2.gom ?_
            refine ARun2.callM (m4) ?_
            exact ARun2.endm (hKG _ Le.grpM)
          refine ARun2.gom ?_
          exact ARun2.endm (hKG _ Le.grpM)
        refine ARun2.gom ?_
        exact ARun2.endm (hKG _ Le.grpM)
      refine ARun2.gom ?_
      refine ARun2.endm (hK9 _ ?_)
      refine AWp.ret ?_
      try simp only [thenQ, blockQ, noGo]
      refine bodyQ.m ?_
      clear hK9 K9 hK8 K8 hK7 K7 hK6 K6 hK5 K5 hK4 K4 hK2 K2 hK1 K1
      cases p <;> cases r <;> simp_all <;> exact Hand.go
      first | done | exact Hand.go
end Go.Proofs.YtgcjmjfjeppmgaaGreatDoor.C
/- From the statement's reading to abstract values, and back. No condition. -/
namespace Go.Abs
open Go.ChangeShapes Go.WideShapes Go.RowKit
set_option linter.unusedVariables false
set_option linter.unusedSectionVars false
set_option linter.unusedSimpArgs false
/-- all that is there when the call begins -/
abbrev Old (W : World) : Nat → Prop := fun b => b < W.heap.size
theorem RW.start (W : World) : RW (E0 W.heap.size W (Old W) []) [] [] (Old W) W :=
  { ep := Nat.le_refl _, os := rfl, tape := rfl, output := rfl, size := Nat.le_refl _, block := fun _ _ _ => rfl, pre := fun k v h => by simp at h, bsub := fun _ h => h, bnew := fun _ h => .inl h,
    blt := fun _ h => h, len := rfl, obs := fun k o h => by simp at h, dis := fun i j o o' u v b _ h => by simp at h, prv := fun k o v b h => by simp at h }
theorem PC.answers {P : Program} {f : FuncId} {ys : List AV} {v : Value} (h : PC P f ys (.val v)) {W : World} (hg : Globs W (Old W) []) {args : Array Value} (ha : RelL W (Old W) W.heap.size [] ys args.toList) :
    Calls P f args W fun e W' => e = .returned v ∧ Below W.heap.size W W' := by
  have := h.2 W.heap.size W [] (Old W) args.toList hg (RW.start W) ha (fun e W' => e = .returned v ∧ Below W.heap.size W W') (by
    rintro r' v' τ' ρ' B' w' ⟨rfl, rfl⟩ hw hr
    cases hr
    exact ⟨rfl, ⟨hw.os, hw.tape, hw.output, hw.size, fun k hk => hw.block k hk ⟨fun ⟨u, hu, _⟩ => by simp at hu, fun h => by cases h⟩⟩⟩)
  simpa using this
section
variable {H : Type} {enc : TypeId × Value → H} {P : Program} {W W' : World}
theorem trodAll_stays (hl : laidOutB P = true) (hb : Below W.heap.size W W') {sp' : Nat → Bool} : ∀ {ts : List TypeId} {vs : List Value} {ds : List (DataW H)} {ps : List MemPlace}, (∀ t ∈ ts, P.readableRec t = true ∧ t < P.types.size) →
    DataW.TrodAll enc P W 0 (fun _ => true) true ts vs ds ps → (∀ p ∈ ps, p.block < W.heap.size) → (∀ p ∈ ps, sp' p.block = true) → DataW.TrodAll enc P W' 0 sp' true ts vs ds ps
  | [], _, _, _, _, h, _, _ => by
    obtain ⟨rfl, rfl, rfl⟩ := trodAll_nil h
    rfl
  | t :: ts, _, _, _, ht, h, hlt, hs => by
    obtain ⟨v, vs1, d, ds1, a, b, rfl, rfl, rfl, h1, h2⟩ := trodAll_cons h
    have := ht t (by simp)
    exact ⟨a, b, WideElems.Trod_stays hl this.1 this.2 h1 (fun x hx => hb.same (hlt x (by simp [hx]))) (fun x hx => hs x (by simp [hx])),
      trodAll_stays hl hb (fun u hu => ht u (by simp [hu])) h2 (fun x hx => hlt x (by simp [hx])) (fun x hx => hs x (by simp [hx])), rfl⟩
/-- a law holds: it answers true, and all that was there is as it was -/
theorem post_true {f : Func} {s : ChangeSpec} {fresh : Bool} {args : Array Value} {ds gs : List (DataW H)} {before : List MemPlace} {tb : TypeId}
    (hW : DataW.Whole enc P f.params.toList s.vars false W args.toList ds gs before) (hv : s.vars = []) (hs : s.fn H (ds ++ gs) = { results := [.lit (.bool true)], args := ds }) (hr : f.resultTypes = #[tb]) (hb : P.underlying tb = some .bool)
    (hl : laidOutB P = true) (ht : (f.params.toList.all fun t => P.readableRec t && decide (t < P.types.size)) = true) (hB : Below W.heap.size W W') :
    s.post enc P f false fresh false false W args (.bool true) W' := by
  have hW0 := hW
  obtain ⟨p, q, hA, hV, rfl, hfz, _⟩ := hW
  rw [hv] at hV
  have hg : gs = [] ∧ q = [] := by
    cases gs with
    | nil => exact ⟨rfl, hV⟩
    | cons g gs => exact hV.elim
  obtain ⟨rfl, rfl⟩ := hg
  have hlt : ∀ x ∈ p ++ [], x.block < W.heap.size := fun x hx => by simpa using hW0.lt x hx
  refine ⟨ds, [], p ++ [], [], p, [], hW0, ?_, ?_, ?_, ?_, fun h => by cases h⟩
  · rw [hs, hr]
    exact trodAll_cons_mk (p := []) (p' := []) (shut_bool hb _) trodAll_mk0
  · rw [hs]
    refine trodAll_stays hl hB (fun t h => ?_) hA (fun x hx => hlt x (by simp [hx])) (fun x hx => by simpa using hlt x (by simp [hx]))
    have := List.all_eq_true.1 ht t h
    simpa using this
  · rw [hs, hv]; exact rfl
  · refine ⟨hB.os, hB.output, fun i hi => ?_⟩
    rw [hB.block i hi]
    cases W.heap[i]? with
    | none => rfl
    | some o => cases o <;> simp
theorem addr_of_cell {w : World} {a : Addr} {v : Value} (h : w.cell? a = some v) : a.spot = none := by
  unfold World.cell? at h
  split at h
  · split at h
    · cases h
    · rename_i hs; cases hh : a.spot <;> simp_all
  · cases h
/-- a slice of numbers, read -/
theorem rel_ints0 {t e : TypeId} {k : IntKind} {v : Value} {d : DataW H} {ps : List MemPlace} {fuel : Nat} (ht : P.underlying t = some (.slice e)) (he : P.underlying e = some (.int k)) (hc : P.cellsOf e = 1)
    (hf : DataW.trod enc P W 0 (fun _ => true) true fuel t [v] = some (d, ps)) :
    ∃ (zs : List Int), Rel W (Old W) W.heap.size [] (.sl false 1 (zs.map fun n => .val (.int k n))) v ∧ (∀ n ∈ zs, (Lit.int k n).wf = true) ∧ ((d = .nil ∧ zs = []) ∨ ∃ rest, d = .slice (lits k zs) rest) := by
  rcases open_ints ht he hc hf with ⟨h1, h2⟩ | ⟨a, len, cap, zs, h1, h2, h3, h4, h5, h6, h7, h8⟩
  · simp only [List.cons.injEq, and_true] at h1
    subst h1
    exact ⟨[], .slE _ _ _ _, by simp, .inl ⟨congrArg Prod.fst h2, rfl⟩⟩
  · simp only [List.cons.injEq, and_true] at h1
    subst h1
    simp only [if_true] at h5
    refine ⟨zs.take len, ?_, fun n hn => h8 n (List.mem_of_mem_take hn), .inr ⟨_, congrArg Prod.fst h6⟩⟩
    have hlen : (zs.take len).length = len := by rw [List.length_take]; omega
    cases hq : zs.take len with
    | nil =>
      rw [hq] at hlen
      simp at hlen
      subst hlen
      exact .slE _ _ _ _
    | cons z l =>
      have hpos : 0 < zs.length := by rw [hq] at hlen; simp at hlen; omega
      have h0 := h7 0 hpos
      have hsp : a.spot = none := addr_of_cell (show W.cell? a = _ from h0)
      obtain ⟨b, o, sp⟩ := a
      simp only at hsp
      subst hsp
      have hblk : b < W.heap.size := by
        have := World.block_lt_of_cell? W _ h0
        simpa [Addr.add] using this
      rw [hq] at hlen
      simp only [List.length_cons] at hlen
      subst hlen
      have hrow := RelRow.mk (w := W) (B := Old W) (bs := W.heap.size) (ρ := []) (nw := false) (b := b) (sz := 1) (o := o) (xs := (z :: l).map fun n => AV.val (.int k n)) (vs := (z :: l).map fun n => Value.int k n) hblk (fun h => by cases h) ?_ ?_ ?_
      · have := Rel.sl (cap := cap) (by simpa using hrow) (by simpa using h3)
        simpa using this
      · have : (((z :: l).map fun n => AV.val (.int k n)).flatMap AV.cells) = ((z :: l).map fun n => Value.int k n).map AV.val := by
          generalize z :: l = m
          induction m with
          | nil => rfl
          | cons x m ih => simp only [List.map_cons, List.flatMap_cons, ih]; rfl
        rw [this]
        have key : ∀ l : List Value, RelL W (Old W) W.heap.size [] (l.map AV.val) l := fun l => by induction l with
          | nil => exact .nil
          | cons x l ih => exact .cons (.val x) ih
        exact key _
      · intro x hx
        simp only [List.mem_map] at hx
        obtain ⟨n, _, rfl⟩ := hx
        exact ⟨rfl, fun c hc => by simp [AV.cells] at hc; subst hc; rfl⟩
      · intro j v hj
        rw [← hq, List.getElem?_map, List.getElem?_take] at hj
        split at hj
        · rename_i hjl
          simp only [Option.map_eq_some_iff] at hj
          obtain ⟨n, hn, rfl⟩ := hj
          have hlt : j < zs.length := by have := List.getElem?_eq_some_iff.1 hn; exact this.1
          have := h7 j hlt
          rw [addr_add] at this
          rw [this, List.getD_eq_getElem?_getD, hn]; rfl
        · simp at hj
end
end Go.Abs
/- Nodes, read. -/
set_option linter.unusedVariables false
set_option linter.unusedSimpArgs false
namespace Go.Proofs.YtgcjmjfjeppmgaaGreatDoor.C
open Go.Abs Go.ChangeShapes Go.WideShapes Go.ChangeAt Go.RowKit
theorem own : ownKnob Tryz.prog.godebug = none := by kernel_rfl
theorem laidOut : laidOutB Tryz.prog = true := by kernel_rfl
theorem nat_of {n : Int} {m : Nat} (h : 0 ≤ n ∧ n ≤ m) : ∃ x : Nat, n = N x ∧ x < m + 1 := ⟨n.toNat, by unfold N; omega, by omega⟩
theorem u8_of {n : Int} (h : (Lit.int .u8 n).wf = true) : ∃ m : Nat, n = N m ∧ m < 2 ^ 8 := nat_of (m := 255) (by simpa [Lit.wf, IntKind.min, IntKind.max, IntKind.signed, IntKind.bits] using h)
theorem u16_of {n : Int} (h : (Lit.int .u16 n).wf = true) : ∃ m : Nat, n = N m ∧ m < 2 ^ 16 := nat_of (m := 65535) (by simpa [Lit.wf, IntKind.min, IntKind.max, IntKind.signed, IntKind.bits] using h)
theorem u32_of {n : Int} (h : (Lit.int .u32 n).wf = true) : ∃ m : Nat, n = N m ∧ m < 2 ^ 32 := nat_of (m := 4294967295) (by simpa [Lit.wf, IntKind.min, IntKind.max, IntKind.signed, IntKind.bits] using h)
theorem int_bounds {k : IntKind} {n : Int} (h : (Lit.int k n).wf = true) : k.min ≤ n ∧ n ≤ k.max := by simpa [Lit.wf] using h
theorem bys_of {zs : List Int} (h : ∀ n ∈ zs, (Lit.int .u8 n).wf = true) : (zs.map fun n => AV.val (.int .u8 n)) = bys (zs.map fun n => UInt8.ofNat n.toNat) := by
  unfold bys
  rw [List.map_map]
  refine List.map_congr_left fun n hn => ?_
  have h2 : 0 ≤ n ∧ n ≤ 255 := by simpa [Lit.wf, IntKind.min, IntKind.max, IntKind.signed, IntKind.bits] using h n hn
  have h3 : N (UInt8.ofNat n.toNat).toNat = n := by
    rw [UInt8.toNat_ofNat']; unfold N; omega
  show AV.val (.int .u8 n) = .val (.int .u8 (N (UInt8.ofNat n.toNat).toNat))
  rw [h3]
theorem bulk_one {H : Type} (d : DataW H) : 1 ≤ Rows.uptoBulk d := by
  cases d with
  | lit l => cases l <;> simp [Rows.uptoBulk]
  | _ => simp [Rows.uptoBulk]
theorem bulk_len {H : Type} : ∀ l : List (DataW H), l.length ≤ Rows.uptoBulkAll l
  | [] => by simp [Rows.uptoBulkAll]
  | x :: r => by
    have h1 := bulk_one x
    have h2 := bulk_len r
    simp only [Rows.uptoBulkAll, List.length_cons]; omega
theorem bulk_lits' {H : Type} (k : IntKind) (zs : List Int) (rest : List (DataW H)) : zs.length + 1 ≤ Rows.uptoBulk (.slice (lits k zs) rest : DataW H) := by
  have := bulk_len (lits k zs : List (DataW H))
  simp only [lits, List.length_map] at this
  simp only [Rows.uptoBulk, lits]
  omega
section
variable {H : Type} {enc : TypeId × Value → H} {W : World}
/-- bytes -/
theorem rel_bytes0 {v : Value} {d : DataW H} {ps : List MemPlace} {fuel : Nat} (hf : DataW.trod enc Tryz.prog W 0 (fun _ => true) true fuel 24 [v] = some (d, ps)) :
    ∃ l : List UInt8, Rel W (Old W) W.heap.size [] (.sl false 1 (bys l)) v ∧ l.length ≤ Rows.uptoBulk d := by
  have hc : Tryz.prog.cellsOf 5 = 1 := by kernel_rfl
  obtain ⟨zs, k0, k1, k2⟩ := rel_ints0 Tryz.underlying24 Tryz.underlying5 hc hf
  rw [bys_of k1] at k0
  refine ⟨_, k0, ?_⟩
  rw [List.length_map]
  rcases k2 with ⟨_, rfl⟩ | ⟨rest, rfl⟩
  · simp
  · have := bulk_lits' .u8 zs rest; omega
theorem nodeA_one (n : GNode) : ∀ c ∈ (nodeA false n).cells, c.one = true := by
  rw [nodeA_eq]; simp [AV.cells, AV.one, Value.oneCell']
theorem node_fields : ∃ f0 f1 f2 : Field, Tryz.prog.underlying 48 = some (.struct #[f0, f1, f2]) ∧ f0.type = 23 ∧ f0.offset = 0 ∧ f1.type = 24 ∧ f1.offset = 1 ∧ f2.type = 29 ∧ f2.offset = 2 :=
  ⟨_, _, _, Tryz.underlying48, rfl, rfl, rfl, rfl, rfl, rfl⟩
set_option maxRecDepth 100000 in
theorem rel_node0 : ∀ (fuel : Nat),
    (∀ (cs : List Value) (d : DataW H) (ps : List MemPlace), DataW.trod enc Tryz.prog W 0 (fun _ => true) true fuel 48 cs = some (d, ps) → ∃ n : GNode, RelL W (Old W) W.heap.size [] (nodeA false n).cells cs ∧ n.sz ≤ Rows.uptoBulk d ∧ n.tyOk = true) ∧
    (∀ (v : Value) (d : DataW H) (ps : List MemPlace), DataW.trod enc Tryz.prog W 0 (fun _ => true) true fuel 29 [v] = some (d, ps) → ∃ l : List GNode, Rel W (Old W) W.heap.size [] (.sl false 3 (nodesA false l)) v ∧ szs l ≤ Rows.uptoBulk d ∧ tysOk l = true) := by
  have c16 : Tryz.prog.cellsOf 23 = 1 := by kernel_rfl
  have c8 : Tryz.prog.cellsOf 24 = 1 := by kernel_rfl
  have cn : Tryz.prog.cellsOf 29 = 1 := by kernel_rfl
  have c3 : Tryz.prog.cellsOf 48 = 3 := by kernel_rfl
  intro fuel
  induction fuel with
  | zero => exact ⟨fun cs d ps h => by simp [DataW.trod] at h, fun v d ps h => by simp [DataW.trod] at h⟩
  | succ fuel ih =>
    refine ⟨?_, ?_⟩
    · intro cs d ps h
      obtain ⟨f0, f1, f2, hs, a0, b0, a1, b1, a2, b2⟩ := node_fields
      obtain ⟨xs, m, hm, hx, hl, hlen, hall⟩ := DataW.trod_struct hs h
      have hm' : m = fuel := by omega
      subst hm'
      have e0 := hall 0 f0 rfl
      have e1 := hall 1 f1 rfl
      have e2 := hall 2 f2 rfl
      rw [a0, b0, c16] at e0
      rw [a1, b1, c8] at e1
      rw [a2, b2, cn] at e2
      rw [c3] at hl
      match xs, hlen, cs, hl with
      | [y0, y1, y2], _, [v0, v1, v2], _ =>
        simp only [List.drop_zero, List.take_succ_cons, List.take_zero, List.drop_succ_cons, List.getElem?_cons_zero, List.getElem?_cons_succ] at e0 e1 e2
        obtain ⟨n0, h0, hy0, hw0⟩ := DataW.trod_int Tryz.underlying23 e0
        obtain ⟨l1, r1, s1⟩ := rel_bytes0 (d := y1.1) (ps := y1.2) e1
        obtain ⟨l2, r2, s2, t2⟩ := ih.2 v2 y2.1 y2.2 e2
        have hb := int_bounds hw0
        have hn : N n0.toNat = n0 := by
          have : (0 : Int) ≤ n0 := hb.1
          unfold N; omega
        have hle : n0 ≤ 65535 := hb.2
        refine ⟨.mk n0.toNat l1 l2, ?_, ?_, by rw [GNode.tyOk, t2]; simp; omega⟩
        · rw [nodeA_eq]
          simp only [List.cons.injEq, and_true] at h0
          subst h0
          have := Rel.val (w := W) (B := Old W) (bs := W.heap.size) (ρ := []) (.int .u16 (N n0.toNat))
          rw [hn] at this
          exact .cons (by show Rel _ _ _ _ (.val (.int .u16 (N n0.toNat))) _; rw [hn]; exact this) (.cons r1 (.cons r2 .nil))
        · have hd : d = .agg [y0.1, y1.1, y2.1] := congrArg Prod.fst hx
          rw [hd]
          have := bulk_one y0.1
          simp only [GNode.sz, Rows.uptoBulk, Rows.uptoBulkAll]
          omega
    · intro v d ps h
      rcases DataW.trod_slice Tryz.underlying29 h with ⟨h1, h2⟩ | ⟨a, len, cap, elems, rest, m, hm, h1, h2, _, hlc, hcm, hlen, hel, _, _⟩
      · simp only [List.cons.injEq, and_true] at h1
        subst h1
        refine ⟨[], by simpa [nodesA] using Rel.slE false 3 none 0, by simp [szs], rfl⟩
      · have hm' : m = fuel := by omega
        subst hm'
        simp only [List.cons.injEq, and_true] at h1
        subst h1
        rw [c3] at hel
        -- every element is a node
        have each : ∀ i (hi : i < elems.length), ∃ (n : GNode) (cs : List Value), cs.length = 3 ∧ (∀ j, j < 3 → W.cell? ((a.add (i * 3)).add j) = cs[j]?) ∧ RelL W (Old W) W.heap.size [] (nodeA false n).cells cs ∧ n.sz ≤ Rows.uptoBulk elems[i].1 ∧ n.tyOk = true := by
          intro i hi
          have hk := hel i (by omega)
          rw [List.getElem?_eq_getElem hi] at hk
          obtain ⟨cs, hcs, hy⟩ := Option.bind_eq_some_iff.1 hk
          obtain ⟨_, hl3, hcell⟩ := World.cells?_some hcs
          obtain ⟨n, r, s, tt⟩ := ih.1 cs elems[i].1 elems[i].2 hy
          exact ⟨n, cs, hl3, hcell, r, s, tt⟩
        cases hq : elems with
        | nil =>
          rw [hq] at hlen
          simp at hlen
          subst hlen
          exact ⟨[], by simpa [nodesA] using Rel.slE false 3 (some a) cap, by simp [szs], rfl⟩
        | cons x r =>
          have hpos : 0 < elems.length := by rw [hq]; simp
          obtain ⟨n0, cs0, hl0, hc0, _, _, _⟩ := each 0 hpos
          have hcell0 := hc0 0 (by omega)
          simp only [Nat.zero_mul] at hcell0
          rw [List.getElem?_eq_getElem (by omega)] at hcell0
          have hsp : a.spot = none := addr_of_cell (show W.cell? a = _ from hcell0)
          obtain ⟨b, o, sp⟩ := a
          simp only at hsp
          subst hsp
          have hblk : b < W.heap.size := by
            have := World.block_lt_of_cell? W _ hcell0
            simpa [Addr.add] using this
          have rows : ∀ k, k ≤ elems.length → ∃ l : List GNode, l.length = k ∧ RelRow W (Old W) W.heap.size [] false b 3 (o + (elems.length - k) * 3) (nodesA false l) ∧ szs l ≤ Rows.uptoBulkAll ((elems.drop (elems.length - k)).map (·.1)) ∧ tysOk l = true := by
            intro k
            induction k with
            | zero => exact fun _ => ⟨[], rfl, by simpa [nodesA] using RelRow.nil, by simp [szs], rfl⟩
            | succ k ihk =>
              intro hk
              obtain ⟨l, p1, p2, p3, p4⟩ := ihk (by omega)
              have hi : elems.length - (k + 1) < elems.length := by omega
              obtain ⟨n, cs, q1, q2, q3, q4, q5⟩ := each _ hi
              have hd : elems.drop (elems.length - (k + 1)) = elems[elems.length - (k + 1)] :: elems.drop (elems.length - k) := by
                rw [List.drop_eq_getElem_cons hi, show elems.length - (k + 1) + 1 = elems.length - k by omega]
              refine ⟨n :: l, by simp [p1], ?_, ?_, by rw [tysOk, q5, p4]; rfl⟩
              · rw [nodesA_cons]
                refine .cons (RelCells.mk (B := Old W) (bs := W.heap.size) (nw := false) hblk (fun h => by cases h) q3 (nodeA_one n) ?_) (by rw [nodeA_eq]; rfl) ?_
                · intro j v hj
                  have hj3 : j < 3 := by rw [← q1]; exact (List.getElem?_eq_some_iff.1 hj).1
                  have := q2 j hj3
                  rw [addr_add, addr_add] at this
                  rw [this, hj]
                · have e : o + (elems.length - (k + 1)) * 3 + 3 = o + (elems.length - k) * 3 := by omega
                  rw [e]; exact p2
              · rw [hd]
                simp only [szs, List.map_cons, Rows.uptoBulkAll]
                omega
          obtain ⟨l, p1, p2, p3, p4⟩ := rows elems.length (Nat.le_refl _)
          rw [Nat.sub_self] at p2 p3
          have hd : d = .slice (elems.map (·.1)) (rest.map (·.1)) := congrArg Prod.fst h2
          refine ⟨l, ?_, ?_, p4⟩
          · match l, p1 with
            | n :: l, p1 =>
              rw [nodesA_cons] at p2 ⊢
              have := Rel.sl (cap := cap) (by simpa using p2) (by rw [nodesA_len]; simp at p1; omega)
              rw [nodesA_len] at this
              have e : l.length + 1 = len := by simp at p1; omega
              rw [e] at this
              exact this
            | [], p1 => simp at p1; omega
          · rw [hd]
            simp only [Rows.uptoBulk, List.drop_zero] at *
            omega
set_option maxRecDepth 100000 in
/-- a node, read -/
theorem rel_nodeT {r : Reach} {b0 : Nat} {v : Value} {d : DataW H} {ps : List MemPlace} (hval : Value.okWide Tryz.prog W r b0 48 v) (hd : DataW.Trod enc Tryz.prog W 0 (fun _ => true) true 48 v d ps) :
    ∃ n : GNode, Rel W (Old W) W.heap.size [] (nodeA false n) v ∧ n.sz ≤ Rows.uptoBulk d ∧ n.tyOk = true := by
  obtain ⟨f0, f1, f2, hs, _⟩ := node_fields
  obtain ⟨cs, rfl, _⟩ := okWide_struct hs hval
  obtain ⟨fuel, hf⟩ := hd
  obtain ⟨n, h1, h2, h3⟩ := (rel_node0 fuel).1 _ d ps hf
  refine ⟨n, ?_, h2, h3⟩
  have := Rel.agg h1
  rw [nodeA_eq] at this ⊢
  simpa [AV.cells, Value.cells] using this
set_option maxRecDepth 100000 in
/-- nodes, read -/
theorem rel_nodesT {r : Reach} {b0 : Nat} {v : Value} {d : DataW H} {ps : List MemPlace} (hval : Value.okWide Tryz.prog W r b0 29 v) (hd : DataW.Trod enc Tryz.prog W 0 (fun _ => true) true 29 v d ps) :
    ∃ l : List GNode, Rel W (Old W) W.heap.size [] (.sl false 3 (nodesA false l)) v ∧ szs l ≤ Rows.uptoBulk d ∧ tysOk l = true := by
  obtain ⟨A, len0, cap0, rfl⟩ := okWide_slice Tryz.underlying29 hval
  obtain ⟨fuel, hf⟩ := hd
  exact (rel_node0 fuel).2 _ d ps hf
set_option maxRecDepth 100000 in
theorem rel_node {r : Reach} {b0 : Nat} {v : Value} {d : DataW H} {ps : List MemPlace} (hval : Value.okWide Tryz.prog W r b0 48 v) (hd : DataW.Trod enc Tryz.prog W 0 (fun _ => true) true 48 v d ps) :
    ∃ n : GNode, Rel W (Old W) W.heap.size [] (nodeA false n) v ∧ n.sz ≤ Rows.uptoBulk d := by
  obtain ⟨n, h1, h2, _⟩ := rel_nodeT hval hd; exact ⟨n, h1, h2⟩
set_option maxRecDepth 100000 in
theorem rel_nodes {r : Reach} {b0 : Nat} {v : Value} {d : DataW H} {ps : List MemPlace} (hval : Value.okWide Tryz.prog W r b0 29 v) (hd : DataW.Trod enc Tryz.prog W 0 (fun _ => true) true 29 v d ps) :
    ∃ l : List GNode, Rel W (Old W) W.heap.size [] (.sl false 3 (nodesA false l)) v ∧ szs l ≤ Rows.uptoBulk d := by
  obtain ⟨l, h1, h2, _⟩ := rel_nodesT hval hd; exact ⟨l, h1, h2⟩
end
end Go.Proofs.YtgcjmjfjeppmgaaGreatDoor.C
/- What a datum of numbers and texts says of the cells that read as it. -/
set_option linter.unusedVariables false
set_option linter.unusedSimpArgs false
namespace Go.Proofs.YtgcjmjfjeppmgaaGreatDoor.C
mutual
def flatD : DataW Unit → List Value
  | .lit (.int k n) => [.int k n]
  | .lit (.string s) => [.string ⟨s.toArray⟩]
  | .agg ps => flatDs ps
  | _ => []
def flatDs : List (DataW Unit) → List Value
  | [] => []
  | d :: r => flatD d ++ flatDs r
end
theorem flatDs_flatMap : ∀ l : List (DataW Unit), flatDs l = l.flatMap flatD
  | [] => rfl
  | d :: r => by rw [flatDs, flatDs_flatMap r, List.flatMap_cons]
section
variable {P : Program} {W : World}
/-- what reads as a datum is its cells -/
def Flat (P : Program) (W : World) (t : TypeId) : Prop := ∀ (fuel : Nat) (cs : List Value) (x : DataW Unit × List MemPlace), DataW.trod (fun _ => ()) P W 0 (fun _ => true) false fuel t cs = some x → cs = flatD x.1
theorem flat_int {t : TypeId} {k : IntKind} (h : P.underlying t = some (.int k)) : Flat P W t := by
  intro fuel cs x hx
  obtain ⟨n, rfl, rfl, _⟩ := DataW.trod_int h hx
  rfl
theorem flat_string {t : TypeId} (h : P.underlying t = some .string) : Flat P W t := by
  intro fuel cs x hx
  obtain ⟨s, rfl, rfl, _⟩ := DataW.trod_string h hx
  simp [flatD]
theorem blocks_flat (f : DataW Unit × List MemPlace → List Value) (m : Nat) : ∀ (xs : List (DataW Unit × List MemPlace)) (cs : List Value), cs.length = xs.length * m → (∀ i x, xs[i]? = some x → (cs.drop (i * m)).take m = f x) → cs = xs.flatMap f
  | [], cs, h, _ => by simpa using h
  | x :: r, cs, h, hk => by
    have h0 := hk 0 x rfl
    rw [Nat.zero_mul, List.drop_zero] at h0
    have ih := blocks_flat f m r (cs.drop m) (by rw [List.length_drop, h, List.length_cons, Nat.succ_mul]; omega) fun i y hy => by
      have := hk (i + 1) y hy
      rwa [Nat.succ_mul, Nat.add_comm, ← List.drop_drop] at this
    rw [List.flatMap_cons, ← h0, ← ih, List.take_append_drop]
theorem flat_of_parts {xs : List (DataW Unit × List MemPlace)} : flatD (.agg (xs.map (·.1))) = xs.flatMap fun x => flatD x.1 := by
  rw [flatD, flatDs_flatMap, List.flatMap_map]
theorem flat_array {t e : TypeId} {n : Nat} (ht : P.underlying t = some (.array n e)) (hc : P.cellsOf t = n * P.cellsOf e) (he : Flat P W e) : Flat P W t := by
  intro fuel cs x hx
  obtain ⟨xs, m, rfl, rfl, hl, hn, hk⟩ := DataW.trod_array ht hx
  show cs = flatD (.agg (xs.map (·.1)))
  rw [flat_of_parts]
  refine blocks_flat _ (P.cellsOf e) xs cs (by rw [hl, hc, hn]) fun i y hy => ?_
  have hi : i < n := by rw [← hn]; exact (List.getElem?_eq_some_iff.1 hy).1
  have := hk i hi
  rw [hy] at this
  exact he _ _ _ this
theorem flat_struct {t : TypeId} {fs : Array Field} (ht : P.underlying t = some (.struct fs)) (hc : P.cellsOf t = fs.size) (hf : ∀ (i : Nat) (f : Field), fs[i]? = some f → f.offset = i ∧ P.cellsOf f.type = 1 ∧ Flat P W f.type) : Flat P W t := by
  intro fuel cs x hx
  obtain ⟨xs, m, rfl, rfl, hl, hn, hk⟩ := DataW.trod_struct ht hx
  show cs = flatD (.agg (xs.map (·.1)))
  rw [flat_of_parts]
  refine blocks_flat _ 1 xs cs (by rw [hl, hc, hn, Nat.mul_one]) fun i y hy => ?_
  have hi : i < fs.size := by rw [← hn]; exact (List.getElem?_eq_some_iff.1 hy).1
  obtain ⟨h1, h2, h3⟩ := hf i fs[i] (Array.getElem?_eq_getElem hi)
  have := hk i fs[i] (Array.getElem?_eq_getElem hi)
  rw [hy, h1, h2] at this
  rw [Nat.mul_one]
  exact h3 _ _ _ this
/-- a listed variable's cells -/
theorem laid_cells {l : List (String × DataW Unit)} (h : laidMet P l W) {n : String} {d : DataW Unit} {g : Nat} {t : TypeId} {L : List Value} (hm : (n, d) ∈ l) (hg : P.globalNamed n = some g) (ht : (P.globals[g]?).map (·.type) = some t) (hf : Flat P W t) (hd : flatD d = L) :
    ∀ (i : Nat) (v : Value), L[i]? = some v → W.cell? ⟨g, i, none⟩ = some v := by
  obtain ⟨ps, hv, _⟩ := h
  have key : ∀ {l : List (String × DataW Unit)} {ps : List MemPlace}, DataW.LaidVars P W l ps → (n, d) ∈ l → ∃ cs fuel p, W.var? P n = some cs ∧ DataW.trod (fun _ => ()) P W 0 (fun _ => true) false fuel t cs.toList = some (d, p) := by
    intro l
    induction l with
    | nil => intro ps _ hm; cases hm
    | cons y r ih =>
      intro ps hv hm
      obtain ⟨g', t', cs, fuel, p, q, h1, h2, h3, h4, h5, _⟩ := hv
      rcases List.mem_cons.1 hm with e | e
      · cases e
        obtain rfl := Option.some.inj (hg.symm.trans h1)
        obtain rfl := Option.some.inj (ht.symm.trans h2)
        exact ⟨cs, fuel, p, h3, h4⟩
      · exact ih h5 e
  obtain ⟨cs, fuel, p, h1, h2⟩ := key hv hm
  have h3 : cs.toList = L := (hf _ _ _ h2).trans hd
  intro i v hi
  rw [World.var?_cell hg h1 i, ← Array.getElem?_toList, h3]
  exact hi
end
end Go.Proofs.YtgcjmjfjeppmgaaGreatDoor.C
/- What the rows' list of package-level variables gives: the tables of kinds, the cell of errors.errorType; a world that meets the list. -/
set_option linter.unusedVariables false
set_option linter.unusedSimpArgs false
namespace Go.Proofs.YtgcjmjfjeppmgaaGreatDoor.C
open Go.Abs Go.ChangeShapes Go.WideShapes Go.ChangeAt Go.RowKit
def laidL : List (String × DataW Unit) := [("errors.errorType", Rows.laid_errors_errorType), ("wharf/kind.table", Rows.laid_wharf_kind_table), ("wharf/kind.inside", Rows.laid_wharf_kind_inside)]
def etCells : List Value := [.iface 203 (.agg #[.pointer (some ⟨3, 41, none⟩)])]
theorem etG : Tryz.prog.globalNamed "errors.errorType" = some 2 := by kernel_rfl
theorem etRt : (Tryz.prog.cutTypes.find? (·.1 == "internal/reflectlite.rtype")).map (·.2) = some 203 := by kernel_rfl
theorem etRow : ((List.range Tryz.prog.types.size).filter fun t => Tryz.prog.rowNamed t [101, 114, 114, 111, 114]) = [41] := by kernel_rfl
theorem etHandle : typeHandle Tryz.prog 41 = .pointer (some ⟨3, 41, none⟩) := by kernel_rfl
theorem laid_parts {W : World} (h : laidMetH Tryz.prog laidL W) : laidMet Tryz.prog [("wharf/kind.table", Rows.laid_wharf_kind_table), ("wharf/kind.inside", Rows.laid_wharf_kind_inside)] W ∧ handlesMet Tryz.prog [("errors.errorType", Rows.laid_errors_errorType)] W := h
theorem handle_of_laid {W : World} (h : laidMetH Tryz.prog laidL W) : W.cell? ⟨2, 0, none⟩ = some (.iface 203 (.agg #[.pointer (some ⟨3, 41, none⟩)])) := by
  have h' := laid_parts h
  obtain ⟨name, u, ty, e1, e2, e3, e4, e5⟩ := h'.2 _ (List.mem_singleton.2 rfl)
  have en : name = [101, 114, 114, 111, 114] := (Option.some.inj e1).symm
  subst en
  obtain rfl := Option.some.inj (etRt.symm.trans e2)
  have hm : ty ∈ (List.range Tryz.prog.types.size).filter fun t => Tryz.prog.rowNamed t [101, 114, 114, 111, 114] := List.mem_filter.2 ⟨List.mem_range.2 e3, e4⟩
  rw [etRow] at hm
  obtain rfl := List.mem_singleton.1 hm
  rw [etHandle] at e5
  simpa using World.var?_cell etG e5 0
theorem cell_lt {W : World} {b i : Nat} {v : Value} (h : W.cell? ⟨b, i, none⟩ = some v) : b < W.heap.size := by
  rcases Nat.lt_or_ge b W.heap.size with h' | h'
  · exact h'
  · simp [World.cell?, Array.getElem?_eq_none h'] at h
theorem flat_kinds (W : World) : Flat Tryz.prog W 136 := by
  have h1 : Flat Tryz.prog W 5 := flat_int Tryz.underlying5
  have h2 : Flat Tryz.prog W 3 := flat_int Tryz.underlying3
  have h3 : Flat Tryz.prog W 9 := flat_string Tryz.underlying9
  refine flat_array Tryz.underlying136 (by kernel_rfl) (flat_struct Tryz.underlying91 (by kernel_rfl) fun i f hf => ?_)
  match i, hf with
  | 0, hf => simp at hf; subst hf; exact ⟨rfl, by kernel_rfl, h1⟩
  | 1, hf => simp at hf; subst hf; exact ⟨rfl, by kernel_rfl, h3⟩
  | 2, hf => simp at hf; subst hf; exact ⟨rfl, by kernel_rfl, h1⟩
  | 3, hf => simp at hf; subst hf; exact ⟨rfl, by kernel_rfl, h2⟩
  | 4, hf => simp at hf; subst hf; exact ⟨rfl, by kernel_rfl, h2⟩
  | 5, hf => simp at hf; subst hf; exact ⟨rfl, by kernel_rfl, h2⟩
  | 6, hf => simp at hf; subst hf; exact ⟨rfl, by kernel_rfl, h2⟩
  | i + 7, hf => simp at hf
theorem flat_inside (W : World) : Flat Tryz.prog W 139 :=
  flat_array Tryz.underlying139 (by kernel_rfl) (flat_array Tryz.underlying138 (by kernel_rfl) (flat_int Tryz.underlying3))
theorem cells_table {W : World} (h : laidMetH Tryz.prog laidL W) : GlobC W 0 kcells :=
  laid_cells (laid_parts h).1 (.head _) (by kernel_rfl) (by kernel_rfl) (flat_kinds W) (by kernel_rfl)
theorem cells_inside {W : World} (h : laidMetH Tryz.prog laidL W) : GlobC W 1 icells :=
  laid_cells (laid_parts h).1 (.tail _ (.head _)) (by kernel_rfl) (by kernel_rfl) (flat_inside W) (by kernel_rfl)
theorem cells_et {W : World} (h : laidMetH Tryz.prog laidL W) : GlobC W 2 etCells := by
  intro i v hi
  match i with
  | 0 => simp [etCells] at hi; subst hi; exact handle_of_laid h
  | i + 1 => simp [etCells] at hi
theorem glb_eq : glb = [(0, kcells), (1, icells), (2, etCells)] := by kernel_rfl
theorem globs_of_laid {W : World} (h : laidMetH Tryz.prog laidL W) : Globs W (Old W) [] := by
  intro p hp
  rw [glb_eq] at hp
  simp only [List.mem_cons, List.not_mem_nil, or_false] at hp
  rcases hp with rfl | rfl | rfl
  · exact ⟨cell_lt (cells_table h 0 _ rfl), fun v hv => (by cases hv), cells_table h⟩
  · exact ⟨cell_lt (cells_inside h 0 _ rfl), fun v hv => (by cases hv), cells_inside h⟩
  · exact ⟨cell_lt (handle_of_laid h), fun v hv => (by cases hv), cells_et h⟩
def setCells (cs : List Value) : Obj → Obj
  | .cells _ t frozen => .cells cs.toArray t frozen
  | o => o
noncomputable def laidWorld (os : Os) : World :=
  let w0 := World.holding Tryz.prog os ⟨#[], #[], []⟩
  { w0 with heap := ((w0.heap.modify 0 (setCells kcells)).modify 1 (setCells icells)).modify 2 (setCells etCells) }
theorem laid_met (os : Os) (args : Array Value) : laidMetH Tryz.prog laidL ((laidWorld os).forCall (fun _ _ => 0) ⟨#[], args, []⟩).memory :=
  laidMetH_of_parts (laidMet_of_run' 8 (by kernel_rfl) (by kernel_rfl)) (by kernel_rfl)
end Go.Proofs.YtgcjmjfjeppmgaaGreatDoor.C
/- Chunks, read. -/
set_option linter.unusedVariables false
set_option linter.unusedSimpArgs false
namespace Go.Proofs.YtgcjmjfjeppmgaaGreatDoor.C
open Go.Abs Go.ChangeShapes Go.WideShapes Go.ChangeAt Go.RowKit
section
variable {H : Type} {enc : TypeId × Value → H} {W : World}
theorem chunk_fields : ∃ f0 f1 f2 f3 : Field, Tryz.prog.underlying 31 = some (.struct #[f0, f1, f2, f3]) ∧ f0.type = 5 ∧ f0.offset = 0 ∧ f1.type = 5 ∧ f1.offset = 1 ∧ f2.type = 24 ∧ f2.offset = 2 ∧ f3.type = 29 ∧ f3.offset = 3 :=
  ⟨_, _, _, _, Tryz.underlying31, rfl, rfl, rfl, rfl, rfl, rfl, rfl, rfl⟩
theorem val_u8 {n : Int} (h : (Lit.int .u8 n).wf = true) : ∃ m : Nat, m < 256 ∧ Rel W (Old W) W.heap.size [] (u8 m) (.int .u8 n) := by
  obtain ⟨m, rfl, hm⟩ := u8_of h
  exact ⟨m, hm, .val _⟩
set_option maxRecDepth 100000 in
/-- a chunk, read -/
theorem rel_chunk {r : Reach} {b0 : Nat} {v : Value} {d : DataW H} {ps : List MemPlace} (hval : Value.okWide Tryz.prog W r b0 31 v) (hd : DataW.Trod enc Tryz.prog W 0 (fun _ => true) true 31 v d ps) :
    ∃ c : GChunk, Rel W (Old W) W.heap.size [] (chunkA false c) v ∧ (c.ty < 256 ∧ c.flags < 256 ∧ tysOk c.kids = true) ∧ c.data.length + szs c.kids ≤ Rows.uptoBulk d := by
  have c8 : Tryz.prog.cellsOf 5 = 1 := by kernel_rfl
  have cb : Tryz.prog.cellsOf 24 = 1 := by kernel_rfl
  have cn : Tryz.prog.cellsOf 29 = 1 := by kernel_rfl
  have c4 : Tryz.prog.cellsOf 31 = 4 := by kernel_rfl
  obtain ⟨f0, f1, f2, f3, hs, a0, b0, a1, b1, a2, b2, a3, b3⟩ := chunk_fields
  obtain ⟨cs, rfl, _⟩ := okWide_struct hs hval
  obtain ⟨fuel, hf⟩ := hd
  obtain ⟨xs, m, rfl, hx, hl, hlen, hall⟩ := DataW.trod_struct hs hf
  have e0 := hall 0 f0 rfl
  have e1 := hall 1 f1 rfl
  have e2 := hall 2 f2 rfl
  have e3 := hall 3 f3 rfl
  rw [a0, b0, c8] at e0
  rw [a1, b1, c8] at e1
  rw [a2, b2, cb] at e2
  rw [a3, b3, cn] at e3
  rw [c4] at hl
  obtain ⟨cs⟩ := cs
  match xs, hlen, cs, hl with
  | [y0, y1, y2, y3], _, [v0, v1, v2, v3], _ =>
    simp only [Value.cells, List.drop_zero, List.take_succ_cons, List.take_zero, List.drop_succ_cons, List.getElem?_cons_zero, List.getElem?_cons_succ] at e0 e1 e2 e3
    obtain ⟨n0, h0, hy0, hw0⟩ := DataW.trod_int Tryz.underlying5 e0
    obtain ⟨n1, h1, hy1, hw1⟩ := DataW.trod_int Tryz.underlying5 e1
    obtain ⟨l2, r2, s2⟩ := rel_bytes0 (d := y2.1) (ps := y2.2) e2
    obtain ⟨l3, r3, s3, t3⟩ := (rel_node0 m).2 v3 y3.1 y3.2 e3
    obtain ⟨m0, z0, q0⟩ := val_u8 (W := W) hw0
    obtain ⟨m1, z1, q1⟩ := val_u8 (W := W) hw1
    simp only [List.cons.injEq, and_true] at h0 h1
    subst h0; subst h1
    refine ⟨⟨m0, m1, l2, l3⟩, ?_, ⟨z0, z1, t3⟩, ?_⟩
    · exact Rel.agg (l := [u8 m0, u8 m1, .sl false 1 (bys l2), .sl false 3 (nodesA false l3)]) (.cons q0 (.cons q1 (.cons r2 (.cons r3 .nil))))
    · have hd : d = .agg [y0.1, y1.1, y2.1, y3.1] := congrArg Prod.fst hx
      rw [hd]
      simp only [Rows.uptoBulk, Rows.uptoBulkAll]
      omega
end
end Go.Proofs.YtgcjmjfjeppmgaaGreatDoor.C
/- Lists of numbers, read. -/
set_option linter.unusedVariables false
set_option linter.unusedSimpArgs false
namespace Go.Proofs.YtgcjmjfjeppmgaaGreatDoor.C
open Go.Abs Go.ChangeShapes Go.WideShapes Go.ChangeAt Go.RowKit
section
variable {H : Type} {enc : TypeId × Value → H} {W : World}
end
end Go.Proofs.YtgcjmjfjeppmgaaGreatDoor.C
