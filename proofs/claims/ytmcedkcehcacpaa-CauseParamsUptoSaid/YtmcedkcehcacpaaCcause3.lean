/- cause: Missing, Types, Chunk. -/
import Derived.Test.YtmcedkcehcacpaaCcause2
set_option linter.unusedVariables false
set_option linter.unusedSimpArgs false
namespace Go.Proofs.Ytmcedkcehcacpaa.C
open Go.Abs

/-- the cause of missing elements -/
def missingD (ts : List Nat) : List UInt8 := putB 4 ts.length ++ ts.flatMap (putB 2)
def missingN (ts : List Nat) : GNode × Bool := rightN (.mk 2 (missingD ts) []) true
theorem missingD_len (ts : List Nat) : (missingD ts).length = 4 + ts.length * 2 := by rw [missingD, List.length_append, putB_len, flat_len2]

theorem missing_c (ts : List Nat) (hl : ts.length ≤ 2 ^ 22) (ht : ∀ t ∈ ts, t < 2 ^ 16) : PC Try.prog 19 [.sl false 1 (u16s ts)] (.tup [nodeA false (missingN ts).1, bool (missingN ts).2]) := by
  have hp : OC Try.prog 27 [nat 4, .sl false 1 [u32 ts.length]] [] (.own 0) [.row 5 1 (bys (putB 4 ts.length))] := by
    have := wire_put_o 4 [ts.length] (by omega) (by intro x hx; simp at hx; omega) (by simp)
    simpa [u32s, List.flatMap_cons, List.flatMap_nil] using this
  refine PC.of_bodyW (by simp only [push_cast]) Try.func19 rfl (by rw [Try.ntmps19]; simp) ?_
  refine AWp.regionW ?_
  refine AWp.regionM fun K1 hK1 => ?_
  refine ARun2.callOM [] (hp) ?_
  refine ARun2.endm (hK1 _ ?_)
  refine AWp.regionW ?_
  refine AWp.seqK fun K2 hK2 => ?_
  refine AWp.regionW ?_
  refine AWp.block ?_
  refine AWp.loopK [2, 4, 5, 14, 15] (fun (i : Nat) => [(16, nat i)]) (fun i => [.box 28 [.val (.int .u16 0), .val (.slice none 0 0), .val (.slice none 0 0)], .row 5 1 (bys (putB 4 ts.length ++ (ts.take i).flatMap (putB 2))), .box 25 [.own 1]]) (fun i => i ≤ ts.length) (fun i => ts.length - i) (0) ?_ (Nat.zero_le _) ?_
  · skip
    refine Le.m 3 ?_ ?_
    · try simp only [push_cast, reduceIte, Nat.reduceEqDiff, Nat.reduceLT, Nat.reduceAdd, Nat.reduceSub, Nat.reduceMul, Nat.reduceLeDiff, Nat.reducePow, Int.reduceLT, Int.reduceToNat, reduceCtorEq, Int.reduceNeg, Int.reduceEq, Nat.reduceBEq, Nat.reduceBNe, Int.reduceBEq, Int.reduceBNe, String.reduceEq]
      try simp (disch := omega) only [w_nat, w_add, w_addl, w_addr, w_sub, w_subl, w_mul, w_mull, w_mulr, w_u32, w_u16, w_u8, w_u32a, N_zero]
      first | done | skip
      simp
    · first | (simp only [push_cast, reduceIte, Nat.reduceEqDiff, Nat.reduceLT, Nat.reduceAdd, Nat.reduceSub, Nat.reduceMul, Nat.reduceLeDiff, Nat.reducePow, Int.reduceLT, Int.reduceToNat, reduceCtorEq, Int.reduceNeg, Int.reduceEq, Nat.reduceBEq, Nat.reduceBNe, Int.reduceBEq, Int.reduceBNe, String.reduceEq]; first | done | rfl | (simp (disch := omega) only [w_nat, w_add, w_addl, w_addr, w_sub, w_subl, w_mul, w_mull, w_mulr, w_u32, w_u16, w_u8, w_u32a, N_zero]; first | done | rfl))
  · intro i hi K3 hK3
    refine AWp.regionW ?_
    refine AWp.seqK fun K4 hK4 => ?_
    refine AWp.condLM (fun c0 => ?_) (fun c0 => ?_)
    · skip
      have hil : i < ts.length := by simpa using c0
      have hti := ht ts[i] (List.getElem_mem hil)
      have hfl := flat_len2 2 (ts.take i)
      have htk := List.length_take_le i ts
      refine AWp.skip ?_
      refine hK4 _ ?_
      refine AWp.seqK fun K5 hK5 => ?_
      refine AWp.block ?_
      refine AWp.regionM fun K6 hK6 => ?_
      refine ARun2.indexM (i) (u16 ts[i]) ?_ ?_
      · exact u16s_at _ _ hil
      refine ARun2.endm (hK6 _ ?_)
      refine AWp.regionN fun K7 hK7 => ?_
      refine ARun2.callOM [2, 1] (missing1_c ts[i] (putB 4 ts.length ++ (ts.take i).flatMap (putB 2)) hti (by rw [List.length_append, putB_len]; omega)) ?_
      refine ARun2.endm (hK7 _ ?_)
      refine hK5 _ ?_
      refine AWp.regionV ?_
      refine hK3 _ (i + 1) (by omega) (by omega) ?_
      refine Le.m 3 ?_ ?_
      · try simp only [push_cast, reduceIte, Nat.reduceEqDiff, Nat.reduceLT, Nat.reduceAdd, Nat.reduceSub, Nat.reduceMul, Nat.reduceLeDiff, Nat.reducePow, Int.reduceLT, Int.reduceToNat, reduceCtorEq, Int.reduceNeg, Int.reduceEq, Nat.reduceBEq, Nat.reduceBNe, Int.reduceBEq, Int.reduceBNe, String.reduceEq]
        try simp (disch := omega) only [w_nat, w_add, w_addl, w_addr, w_sub, w_subl, w_mul, w_mull, w_mulr, w_u32, w_u16, w_u8, w_u32a, N_zero]
        first | done | skip
        rw [List.take_succ_eq_append_getElem hil, List.flatMap_append]; simp
      · first | (simp only [push_cast, reduceIte, Nat.reduceEqDiff, Nat.reduceLT, Nat.reduceAdd, Nat.reduceSub, Nat.reduceMul, Nat.reduceLeDiff, Nat.reducePow, Int.reduceLT, Int.reduceToNat, reduceCtorEq, Int.reduceNeg, Int.reduceEq, Nat.reduceBEq, Nat.reduceBNe, Int.reduceBEq, Int.reduceBNe, String.reduceEq]; first | done | rfl | (simp (disch := omega) only [w_nat, w_add, w_addl, w_addr, w_sub, w_subl, w_mul, w_mull, w_mulr, w_u32, w_u16, w_u8, w_u32a, N_zero]; first | done | rfl))
    · skip
      have hil : i = ts.length := by simp at c0; omega
      subst hil
      refine AWp.exit ?_
      simp only [thenQ, blockQ, reduceIte, Nat.reduceEqDiff]
      refine hK2 _ ?_
      refine AWp.pubD 1 ?_
      rw [List.take_length]
      refine AWp.regionM fun K8 hK8 => ?_
      refine ARun2.callM (right_c (.mk 2 (missingD ts) []) true (by simp only [GNode.sz, szs, missingD_len]; omega)) ?_
      refine ARun2.endm (hK8 _ ?_)
      refine AWp.ret ?_
      try simp only [thenQ, blockQ]
      refine bodyQ.m ?_
      clear hK8 K8 hK4 K4 hK3 K3 hK2 K2 hK1 K1
      rw [missingN]
      first | done | exact Hand.go

/-- the types that a cause tells -/
def typesN (n : GNode) : List Nat × Bool := if (rightN n (n.ty == 2)).2 = true then (numsA 2 (n.data.drop 4), true) else ([], false)

theorem right_types {n : GNode} (h : (rightN n (n.ty == 2)).2 = true) : 4 ≤ n.data.length := by
  unfold rightN at h
  cases h1 : (n.ty == 2 && (checkN 2 1 n == 0)) with
  | false => rw [h1] at h; simp at h
  | true =>
    simp only [Bool.and_eq_true, beq_iff_eq] at h1
    obtain ⟨ht, hc⟩ := h1
    rw [checkN_eq] at hc
    by_cases h2 : badN 2 n.ty n.data.length n.kids = true
    · simp [h2] at hc
    · by_cases h3 : countedN 2 n.ty n.data = true
      · simp [h2, h3] at hc
      · unfold countedN at h3
        rw [ht] at h3
        simp at h3
        omega

theorem types_c (n : GNode) (hs : n.sz ≤ 2 ^ 26) : PC Try.prog 16 [nodeA false n] (.tup [.sl false 1 (u16s (typesN n).1), bool (typesN n).2]) := by
  have hsz := n.sz_eq
  have hnl := numsA_len 2 (n.data.drop 4)
  rw [List.length_drop] at hnl
  have hlt : ∀ x ∈ numsA 2 (n.data.drop 4), x < 2 ^ 16 := fun x hx => numsA_lt hx
  generalize hns : numsA 2 (n.data.drop 4) = ns at hnl hlt
  refine PC.of_bodyW (by simp only [push_cast]) Try.func16 rfl (by rw [Try.ntmps16]; simp) ?_
  refine AWp.regionW ?_
  refine AWp.seqK fun K1 hK1 => ?_
  refine AWp.regionM fun K2 hK2 => ?_
  refine ARun2.callM (right_c n (n.ty == 2) hs) ?_
  refine ARun2.endm (hK2 _ ?_)
  refine AWp.regionW ?_
  refine AWp.condLM (fun c0 => ?_) (fun c0 => ?_)
  · skip
    have h0 : ¬ (rightN n (n.ty == 2)).2 = true := by simpa using c0
    have hr : typesN n = ([], false) := if_neg h0
    refine AWp.regionW ?_
    refine AWp.ret ?_
    try simp only [thenQ, blockQ]
    refine bodyQ.m ?_
    clear hK2 K2 hK1 K1
    rw [hr]
    first | done | exact Hand.go
  · skip
    have h0 : (rightN n (n.ty == 2)).2 = true := by simpa using c0
    have hr : typesN n = (ns, true) := by rw [← hns]; exact if_pos h0
    have h4 := right_types h0
    refine AWp.skip ?_
    refine hK1 _ ?_
    refine AWp.regionW ?_
    refine AWp.seqK fun K3 hK3 => ?_
    refine AWp.regionM fun K4 hK4 => ?_
    refine ARun2.sliceLoM (4) ?_ ?_
    · rw [bys_len]; exact h4
    refine ARun2.callM (hns ▸ numbers_a 2 (n.data.drop 4) (by omega) (by rw [List.length_drop]; omega)) ?_
    refine ARun2.endm (hK4 _ ?_)
    refine AWp.block ?_
    -- SLOTS THAT TURN AND ARE NOT TOLD: [6]
    refine AWp.nilOwn 6 22 1 (by simp only [push_cast, reduceIte, Nat.reduceEqDiff, Nat.reduceLT, Nat.reduceAdd, Nat.reduceSub, Nat.reduceMul, Nat.reduceLeDiff, Nat.reducePow, Int.reduceLT, Int.reduceToNat, reduceCtorEq, Int.reduceNeg, Int.reduceEq, Nat.reduceBEq, Nat.reduceBNe, Int.reduceBEq, Int.reduceBNe, String.reduceEq]) ?_
    simp only [push_cast, reduceIte, Nat.reduceEqDiff, Nat.reduceLT, Nat.reduceAdd, Nat.reduceSub, Nat.reduceMul, Nat.reduceLeDiff, Nat.reducePow, Int.reduceLT, Int.reduceToNat, reduceCtorEq, Int.reduceNeg, Int.reduceEq, Nat.reduceBEq, Nat.reduceBNe, Int.reduceBEq, Int.reduceBNe, String.reduceEq]
    refine AWp.loopK [6, 22, 23] (fun (i : Nat) => [(24, nat i)]) (fun i => [.box 28 [u16 n.ty, .sl false 1 (bys n.data), .sl false 3 (nodesA false n.kids)], .box 28 [u16 (rightN n (n.ty == 2)).1.ty, .sl false 1 (bys (rightN n (n.ty == 2)).1.data), .sl false 3 (nodesA false (rightN n (n.ty == 2)).1.kids)], .row 22 1 (u16s (ns.take i))]) (fun i => i ≤ ns.length) (fun i => ns.length - i) (0) ?_ (Nat.zero_le _) ?_
    · skip
      refine Le.m 3 ?_ ?_
      · first | with_reducible rfl | (simp only [push_cast, reduceIte, Nat.reduceEqDiff, Nat.reduceLT, Nat.reduceAdd, Nat.reduceSub, Nat.reduceMul, Nat.reduceLeDiff, Nat.reducePow, Int.reduceLT, Int.reduceToNat, reduceCtorEq, Int.reduceNeg, Int.reduceEq, Nat.reduceBEq, Nat.reduceBNe, Int.reduceBEq, Int.reduceBNe, String.reduceEq]; first | done | rfl | (simp (disch := omega) only [w_nat, w_add, w_addl, w_addr, w_sub, w_subl, w_mul, w_mull, w_mulr, w_u32, w_u16, w_u8, w_u32a, N_zero]; first | done | rfl))
      · first | (simp only [push_cast, reduceIte, Nat.reduceEqDiff, Nat.reduceLT, Nat.reduceAdd, Nat.reduceSub, Nat.reduceMul, Nat.reduceLeDiff, Nat.reducePow, Int.reduceLT, Int.reduceToNat, reduceCtorEq, Int.reduceNeg, Int.reduceEq, Nat.reduceBEq, Nat.reduceBNe, Int.reduceBEq, Int.reduceBNe, String.reduceEq]; first | done | rfl | (simp (disch := omega) only [w_nat, w_add, w_addl, w_addr, w_sub, w_subl, w_mul, w_mull, w_mulr, w_u32, w_u16, w_u8, w_u32a, N_zero]; first | done | rfl))
    · intro i hi K5 hK5
      refine AWp.regionW ?_
      refine AWp.seqK fun K6 hK6 => ?_
      refine AWp.condLM (fun c1 => ?_) (fun c1 => ?_)
      · skip
        have hil : i < ns.length := by simpa using c1
        have hxi := hlt ns[i] (List.getElem_mem hil)
        refine AWp.skip ?_
        refine hK6 _ ?_
        refine AWp.seqK fun K7 hK7 => ?_
        refine AWp.block ?_
        refine AWp.regionM fun K8 hK8 => ?_
        refine ARun2.indexM (i) (u32 ns[i]) ?_ ?_
        · exact u32s_at _ _ hil
        refine ARun2.endm (hK8 _ ?_)
        refine AWp.regionN fun K9 hK9 => ?_
        refine ARun2.appendM ?_ ?_ ?_
        · rw [Ytmcedkcehcacpaa.Facts.eb37, u16s_len, List.length_take, List.length_cons, List.length_nil]; omega
        · rw [u16s_len, List.length_take, List.length_cons, List.length_nil]; omega
        refine ARun2.endm (hK9 _ ?_)
        refine hK7 _ ?_
        refine AWp.regionV ?_
        refine hK5 _ (i + 1) (by omega) (by omega) ?_
        refine Le.m 3 ?_ ?_
        · try simp only [push_cast, reduceIte, Nat.reduceEqDiff, Nat.reduceLT, Nat.reduceAdd, Nat.reduceSub, Nat.reduceMul, Nat.reduceLeDiff, Nat.reducePow, Int.reduceLT, Int.reduceToNat, reduceCtorEq, Int.reduceNeg, Int.reduceEq, Nat.reduceBEq, Nat.reduceBNe, Int.reduceBEq, Int.reduceBNe, String.reduceEq]
          try simp (disch := omega) only [w_nat, w_add, w_addl, w_addr, w_sub, w_subl, w_mul, w_mull, w_mulr, w_u32, w_u16, w_u8, w_u32a, N_zero]
          first | done | skip
          rw [List.take_succ_eq_append_getElem hil, u16s_snoc]
        · first | (simp only [push_cast, reduceIte, Nat.reduceEqDiff, Nat.reduceLT, Nat.reduceAdd, Nat.reduceSub, Nat.reduceMul, Nat.reduceLeDiff, Nat.reducePow, Int.reduceLT, Int.reduceToNat, reduceCtorEq, Int.reduceNeg, Int.reduceEq, Nat.reduceBEq, Nat.reduceBNe, Int.reduceBEq, Int.reduceBNe, String.reduceEq]; first | done | rfl | (simp (disch := omega) only [w_nat, w_add, w_addl, w_addr, w_sub, w_subl, w_mul, w_mull, w_mulr, w_u32, w_u16, w_u8, w_u32a, N_zero]; first | done | rfl))
      · skip
        have hil : i = ns.length := by simp at c1; omega
        subst hil
        refine AWp.exit ?_
        simp only [thenQ, blockQ, reduceIte, Nat.reduceEqDiff]
        refine hK3 _ ?_
        refine AWp.pubD 2 ?_
        rw [List.take_length]
        refine AWp.regionW ?_
        refine AWp.ret ?_
        try simp only [thenQ, blockQ]
        refine bodyQ.m ?_
        clear hK6 K6 hK5 K5 hK4 K4 hK3 K3 hK2 K2 hK1 K1
        rw [hr]
        first | done | exact Hand.go

/-- a cause that tells a chunk -/
def chunkN (b : List UInt8) : GNode × Bool := rightN (.mk 6 b []) true
theorem chunk_cc (b : List UInt8) (hl : b.length ≤ 2 ^ 24) : PC Try.prog 21 [.sl false 1 (bys b)] (.tup [nodeA false (chunkN b).1, bool (chunkN b).2]) := by
  refine PC.of_bodyW (by simp only [push_cast]) Try.func21 rfl (by rw [Try.ntmps21]; simp) ?_
  refine AWp.regionW ?_
  refine AWp.regionM fun K1 hK1 => ?_
  refine ARun2.callM (right_c (.mk 6 b []) true (by simp only [GNode.sz, szs]; omega)) ?_
  refine ARun2.endm (hK1 _ ?_)
  refine AWp.ret ?_
  try simp only [thenQ, blockQ]
  refine bodyQ.m ?_
  clear hK1 K1
  rw [chunkN]
  first | done | exact Hand.go
end Go.Proofs.Ytmcedkcehcacpaa.C
