/- wharflaw10: awake, CauseMissing. -/
import Derived.Test.YtmcedkcehcacpaaCpure1
import Derived.Test.YtmcedkcehcacpaaAbs26
set_option linter.unusedVariables false
set_option linter.unusedSimpArgs false
namespace Go.Proofs.Ytmcedkcehcacpaa.C
open Go.Abs

theorem awake_c : PC Try.prog 8 [] (bool true) := by
  have e1 : PC Try.prog 9 [u16 1, u32 258] (.tup [nodeA false (.mk 1 [1, 2, 0, 0] []), bool true]) := number_cc 1 258 (by decide)
  have e2 : PC Try.prog 13 [nodeA false (.mk 1 [1, 2, 0, 0] [])] (.tup [u32 258, bool true]) := value_c (.mk 1 [1, 2, 0, 0] []) (by decide)
  have e3 : PC Try.prog 9 [u16 1, u32 65536] (.tup [nodeA false .zero, bool false]) := number_cc 1 65536 (by decide)
  have e4 : PC Try.prog 19 [.sl false 1 [u16 7]] (.tup [nodeA false (.mk 2 [0, 0, 0, 1, 0, 7] []), bool true]) := missing_c [7] (by decide) (by decide)
  have e5 : PC Try.prog 16 [nodeA false (.mk 2 [0, 0, 0, 1, 0, 7] [])] (.tup [.sl false 1 (u16s [7]), bool true]) := types_c (.mk 2 [0, 0, 0, 1, 0, 7] []) (by decide)
  have e6 : PC Try.prog 21 [.sl false 1 [u8 1, u8 2, u8 3]] (.tup [nodeA false .zero, bool false]) := chunk_cc [1, 2, 3] (by decide)
  have e7 : PC Try.prog 25 [.sl false 1 (bys [1, 2, 0, 0]), .sl false 1 [u8 1, u8 2, u8 0, u8 0]] (bool true) := same01_c [1, 2, 0, 0] [1, 2, 0, 0] (by decide)
  have e8 : PC Try.prog 18 [.sl false 1 (u16s [7]), .sl false 1 [u16 7]] (bool true) := equal16_c [7] [7] (by decide)
  refine PC.of_bodyW (by simp only [push_cast]) Try.func8 rfl (by rw [Try.ntmps8]; simp) ?_
  refine AWp.regionW ?_
  refine AWp.regionM fun K1 hK1 => ?_
  refine ARun2.callM (e1) ?_
  refine ARun2.endm (hK1 _ ?_)
  refine AWp.regionM fun K2 hK2 => ?_
  refine ARun2.callM (e2) ?_
  refine ARun2.endm (hK2 _ ?_)
  refine AWp.regionM fun K3 hK3 => ?_
  refine ARun2.callM (e3) ?_
  refine ARun2.endm (hK3 _ ?_)
  refine AWp.regionM fun K4 hK4 => ?_
  refine ARun2.callM (e4) ?_
  refine ARun2.endm (hK4 _ ?_)
  refine AWp.regionM fun K5 hK5 => ?_
  refine ARun2.callM (e5) ?_
  refine ARun2.endm (hK5 _ ?_)
  refine AWp.regionM fun K6 hK6 => ?_
  refine ARun2.callM (e6) ?_
  refine ARun2.endm (hK6 _ ?_)
  refine AWp.regionA fun K7 hK7 => ?_
  refine ARun.segm 5 fun KS hKS => ?_
  refine ARun2.callM (e7) ?_
  refine ARun2.endm (hKS _ ?_); clear hKS KS
  apply ARun.grpM 1 4 true 46 [3, 4, 6, 8, 9, 10, 12, 45]
  · intro g4 KG hKG
    refine ARun2.gom ?_
    exact ARun2.endm (hKG _ Le.grpM)
  refine ARun.segm 2 fun KS hKS => ?_
  refine ARun2.endm (hKS _ ?_); clear hKS KS
  apply ARun.grpM 2 7 true 50 [4, 6, 8, 9, 10, 12, 48]
  · intro g7 KG hKG
    refine ARun2.gom ?_
    exact ARun2.endm (hKG _ Le.grpM)
  refine ARun.segm 2 fun KS hKS => ?_
  refine ARun2.endm (hKS _ ?_); clear hKS KS
  apply ARun.grpM 1 11 true 53 [6, 8, 9, 10, 12, 52]
  · intro g11 KG hKG
    refine ARun2.gom ?_
    exact ARun2.endm (hKG _ Le.grpM)
  refine ARun.segm 2 fun KS hKS => ?_
  refine ARun2.endm (hKS _ ?_); clear hKS KS
  apply ARun.grpM 2 14 true 57 [8, 9, 10, 12, 55]
  · intro g14 KG hKG
    refine ARun2.gom ?_
    exact ARun2.endm (hKG _ Le.grpM)
  refine ARun.segm 2 fun KS hKS => ?_
  refine ARun2.endm (hKS _ ?_); clear hKS KS
  apply ARun.grpM 1 18 true 60 [9, 10, 12, 59]
  · intro g18 KG hKG
    refine ARun2.gom ?_
    exact ARun2.endm (hKG _ Le.grpM)
  refine ARun.segm 2 fun KS hKS => ?_
  refine ARun2.endm (hKS _ ?_); clear hKS KS
  apply ARun.grpM 3 21 true 65 [10, 12, 62]
  · intro g21 KG hKG
    refine ARun2.gom ?_
    refine ARun2.callM (e8) ?_
    exact ARun2.endm (hKG _ Le.grpM)
  refine ARun.segm 2 fun KS hKS => ?_
  refine ARun2.endm (hKS _ ?_); clear hKS KS
  apply ARun.grpM 1 26 true 68 [12, 67]
  · intro g26 KG hKG
    refine ARun2.gom ?_
    exact ARun2.endm (hKG _ Le.grpM)
  refine ARun.segm 2 fun KS hKS => ?_
  refine ARun2.endm (hKS _ ?_); clear hKS KS
  apply ARun.grpM 2 29 true 72 [70]
  · intro g29 KG hKG
    refine ARun2.gom ?_
    exact ARun2.endm (hKG _ Le.grpM)
  refine ARun2.gom ?_
  refine ARun2.endm (hK7 _ ?_)
  refine AWp.ret ?_
  try simp only [thenQ, blockQ]
  refine bodyQ.m ?_
  clear hK7 K7 hK6 K6 hK5 K5 hK4 K4 hK3 K3 hK2 K2 hK1 K1
  first | done | exact Hand.go

theorem zeros_u16 (n : Nat) : List.replicate n (AV.val (.int .u16 0)) = u16s (List.replicate n 0) := by simp [u16s, N]

theorem miss_key (l : List Nat) (hl : l.length ≤ 2 ^ 22) (ht : ∀ t ∈ l, t < 2 ^ 16) : ∃ (nd : GNode) (ok : Bool),
    PC Try.prog 19 [.sl false 1 (u16s l)] (.tup [nodeA false nd, bool ok]) ∧
    PC Try.prog 20 [.sl false 1 (u16s l)] (.tup [nodeA false nd, bool ok]) ∧
    PC Try.prog 11 [nodeA false nd, nodeA false nd] (bool true) ∧
    PC Try.prog 16 [nodeA false nd] (.tup [.sl false 1 (u16s (bif ok then l else [])), bool ok]) ∧
    PC Try.prog 18 [.sl false 1 (u16s (bif ok then l else [])), .sl false 1 (u16s l)] (bool (decide ((bif ok then l else []) = l))) := by
  have hz : (refMissN l).1.sz ≤ 2 ^ 26 := by
    unfold refMissN
    split
    · exact (by decide : GNode.zero.sz ≤ 2 ^ 26)
    · simp only [GNode.sz, szs, refMissD, List.length_append, twoB_len, List.length_cons, List.length_nil]; omega
  have h1 := missing_c l hl ht
  rw [missing_eq] at h1
  have h2 := refMissing_c l hl ht
  have h3 := same10_c (refMissN l).1 (refMissN l).1 (by omega)
  rw [(sameN_iff _ _).2 rfl] at h3
  have h4 := types_c (refMissN l).1 hz
  rw [types_missing l ht] at h4
  refine ⟨(refMissN l).1, (refMissN l).2, h1, h2, h3, ?_, equal16_c _ _ ?_⟩
  · cases hk : (refMissN l).2 with
    | true => rw [hk] at h4; exact h4
    | false => rw [hk] at h4; exact h4
  · cases (refMissN l).2 with
    | true => exact Nat.le_trans hl (by omega)
    | false => exact Nat.zero_le _

theorem causeMissing_c (ts : List Nat) (v : Nat) (hl : ts.length ≤ 2 ^ 22) (ht : ∀ t ∈ ts, t < 2 ^ 16) (hv : v < 2 ^ 16) : PC Try.prog 5 [.sl false 1 (u16s ts), u16 v] (bool true) := by
  refine PC.of_bodyW (by simp only [push_cast]) Try.func5 rfl (by rw [Try.ntmps5]; simp) ?_
  refine AWp.regionW ?_
  refine AWp.seqK fun K1 hK1 => ?_
  refine AWp.regionM fun K2 hK2 => ?_
  refine ARun2.callM (awake_c) ?_
  refine ARun2.endm (hK2 _ ?_)
  refine AWp.condLM (fun c0 => ?_) (fun c0 => ?_)
  · skip
    refine AWp.regionM fun K3 hK3 => ?_
    refine ARun2.callM (awake_c) ?_
    refine ARun2.endm (hK3 _ ?_)
    refine AWp.ret ?_
    try simp only [thenQ, blockQ]
    refine bodyQ.m ?_
    clear hK3 K3 hK2 K2 hK1 K1
    first | done | exact Hand.go
  · skip
    refine AWp.skip ?_
    refine hK1 _ ?_
    refine AWp.seqK fun K4 hK4 => ?_
    refine AWp.regionW ?_
    refine AWp.block ?_
    refine AWp.loopK0 [0, 1] (fun (i : Nat) => [(5, nat i)]) (fun i => i ≤ 2) (fun i => 2 - i) (0) ?_ (Nat.zero_le _) ?_
    · skip
      refine Le.m 0 ?_ ?_
      · first | with_reducible rfl | (simp only [push_cast, reduceIte, Nat.reduceEqDiff, Nat.reduceLT, Nat.reduceAdd, Nat.reduceSub, Nat.reduceMul, Nat.reduceLeDiff, Nat.reducePow, Int.reduceLT, Int.reduceToNat, reduceCtorEq, Int.reduceNeg, Int.reduceEq, Nat.reduceBEq, Nat.reduceBNe, Int.reduceBEq, Int.reduceBNe, String.reduceEq]; first | done | rfl | (simp (disch := omega) only [w_nat, w_add, w_addl, w_addr, w_sub, w_subl, w_mul, w_mull, w_mulr, w_u32, w_u16, w_u8, w_u32a, N_zero]; first | done | rfl))
      · first | (simp only [push_cast, reduceIte, Nat.reduceEqDiff, Nat.reduceLT, Nat.reduceAdd, Nat.reduceSub, Nat.reduceMul, Nat.reduceLeDiff, Nat.reducePow, Int.reduceLT, Int.reduceToNat, reduceCtorEq, Int.reduceNeg, Int.reduceEq, Nat.reduceBEq, Nat.reduceBNe, Int.reduceBEq, Int.reduceBNe, String.reduceEq]; first | done | rfl | (simp (disch := omega) only [w_nat, w_add, w_addl, w_addr, w_sub, w_subl, w_mul, w_mull, w_mulr, w_u32, w_u16, w_u8, w_u32a, N_zero]; first | done | rfl))
    · intro i hi K5 hK5
      refine AWp.seqK fun K6 hK6 => ?_
      refine AWp.regionW ?_
      refine AWp.condLM (fun c1 => ?_) (fun c1 => ?_)
      · skip
        have hi2 : i < 2 := by simpa using c1
        refine AWp.skip ?_
        refine hK6 _ ?_
        refine AWp.seqK fun K7 hK7 => ?_
        refine AWp.block ?_
        refine AWp.regionW ?_
        refine AWp.seqK fun K8 hK8 => ?_
        refine AWp.regionW ?_
        refine AWp.condLM (fun c2 => ?_) (fun c2 => ?_)
        · skip
          obtain ⟨l, hl0⟩ : ∃ l : List Nat, l = List.replicate (32700 + v % 100) 0 := ⟨_, rfl⟩
          obtain ⟨nd, ok, hm, hrf, hsm, hty, heq⟩ := miss_key l (by rw [hl0, List.length_replicate]; omega) (by intro t h; rw [hl0] at h; rw [List.eq_of_mem_replicate h]; omega)
          refine AWp.regionN fun K9 hK9 => ?_
          refine ARun2.makeM (32700 + v % 100) ?_ ?_
          · omega
          refine ARun2.endm (hK9 _ ?_)
          rw [zeros_u16, ← hl0]
          refine hK8 _ ?_
          refine AWp.regionM fun K10 hK10 => ?_
          refine ARun2.callM (hm) ?_
          refine ARun2.endm (hK10 _ ?_)
          refine AWp.regionM fun K11 hK11 => ?_
          refine ARun2.callM (hrf) ?_
          refine ARun2.endm (hK11 _ ?_)
          refine AWp.seqK fun K12 hK12 => ?_
          refine AWp.regionM fun K13 hK13 => ?_
          refine ARun2.callM (hsm) ?_
          refine ARun2.boolEqM ?_
          refine ARun2.endm (hK13 _ ?_)
          refine AWp.condLM (fun c3 => ?_) (fun c3 => ?_)
          · skip
            exact absurd c3 (by cases ok <;> simp)
          · skip
            refine AWp.skip ?_
            refine hK12 _ ?_
            refine AWp.regionM fun K14 hK14 => ?_
            refine ARun2.callM (hty) ?_
            refine ARun2.endm (hK14 _ ?_)
            refine AWp.regionA fun K15 hK15 => ?_
            refine ARun.segm 6 fun KS hKS => ?_
            refine ARun2.boolEqM ?_
            refine ARun2.endm (hKS _ ?_); clear hKS KS
            apply ARun.grpM 4 5 true 66 [0, 1, 5, 60, 62]
            · intro g5 KG hKG
              refine ARun2.gom ?_
              refine ARun2.callM (heq) ?_
              exact ARun2.endm (hKG _ Le.grpM)
            refine ARun2.gom ?_
            refine ARun2.endm (hK15 _ ?_)
            refine AWp.condLM (fun c4 => ?_) (fun c4 => ?_)
            · skip
              exact absurd c4 (by cases ok <;> simp)
            · skip
              refine AWp.skip ?_
              refine hK7 _ ?_
              refine AWp.regionV ?_
              refine hK5 _ (i + 1) (by omega) (by omega) ?_
              refine Le.m 0 ?_ ?_
              · first | with_reducible rfl | (simp only [push_cast, reduceIte, Nat.reduceEqDiff, Nat.reduceLT, Nat.reduceAdd, Nat.reduceSub, Nat.reduceMul, Nat.reduceLeDiff, Nat.reducePow, Int.reduceLT, Int.reduceToNat, reduceCtorEq, Int.reduceNeg, Int.reduceEq, Nat.reduceBEq, Nat.reduceBNe, Int.reduceBEq, Int.reduceBNe, String.reduceEq]; first | done | rfl | (simp (disch := omega) only [w_nat, w_add, w_addl, w_addr, w_sub, w_subl, w_mul, w_mull, w_mulr, w_u32, w_u16, w_u8, w_u32a, N_zero]; first | done | rfl))
              · first | (simp only [push_cast, reduceIte, Nat.reduceEqDiff, Nat.reduceLT, Nat.reduceAdd, Nat.reduceSub, Nat.reduceMul, Nat.reduceLeDiff, Nat.reducePow, Int.reduceLT, Int.reduceToNat, reduceCtorEq, Int.reduceNeg, Int.reduceEq, Nat.reduceBEq, Nat.reduceBNe, Int.reduceBEq, Int.reduceBNe, String.reduceEq]; first | done | rfl | (simp (disch := omega) only [w_nat, w_add, w_addl, w_addr, w_sub, w_subl, w_mul, w_mull, w_mulr, w_u32, w_u16, w_u8, w_u32a, N_zero]; first | done | rfl))
        · skip
          obtain ⟨nd, ok, hm, hrf, hsm, hty, heq⟩ := miss_key ts hl ht
          refine AWp.skip ?_
          refine hK8 _ ?_
          refine AWp.regionM fun K16 hK16 => ?_
          refine ARun2.callM (hm) ?_
          refine ARun2.endm (hK16 _ ?_)
          refine AWp.regionM fun K17 hK17 => ?_
          refine ARun2.callM (hrf) ?_
          refine ARun2.endm (hK17 _ ?_)
          refine AWp.seqK fun K18 hK18 => ?_
          refine AWp.regionM fun K19 hK19 => ?_
          refine ARun2.callM (hsm) ?_
          refine ARun2.boolEqM ?_
          refine ARun2.endm (hK19 _ ?_)
          refine AWp.condLM (fun c3 => ?_) (fun c3 => ?_)
          · skip
            exact absurd c3 (by cases ok <;> simp)
          · skip
            refine AWp.skip ?_
            refine hK18 _ ?_
            refine AWp.regionM fun K20 hK20 => ?_
            refine ARun2.callM (hty) ?_
            refine ARun2.endm (hK20 _ ?_)
            refine AWp.regionA fun K21 hK21 => ?_
            refine ARun.segm 6 fun KS hKS => ?_
            refine ARun2.boolEqM ?_
            refine ARun2.endm (hKS _ ?_); clear hKS KS
            apply ARun.grpM 4 5 true 66 [0, 1, 5, 60, 62]
            · intro g5 KG hKG
              refine ARun2.gom ?_
              refine ARun2.callM (heq) ?_
              exact ARun2.endm (hKG _ Le.grpM)
            refine ARun2.gom ?_
            refine ARun2.endm (hK21 _ ?_)
            refine AWp.condLM (fun c4 => ?_) (fun c4 => ?_)
            · skip
              exact absurd c4 (by cases ok <;> simp)
            · skip
              refine AWp.skip ?_
              refine hK7 _ ?_
              refine AWp.regionV ?_
              refine hK5 _ (i + 1) (by omega) (by omega) ?_
              refine Le.m 0 ?_ ?_
              · first | with_reducible rfl | (simp only [push_cast, reduceIte, Nat.reduceEqDiff, Nat.reduceLT, Nat.reduceAdd, Nat.reduceSub, Nat.reduceMul, Nat.reduceLeDiff, Nat.reducePow, Int.reduceLT, Int.reduceToNat, reduceCtorEq, Int.reduceNeg, Int.reduceEq, Nat.reduceBEq, Nat.reduceBNe, Int.reduceBEq, Int.reduceBNe, String.reduceEq]; first | done | rfl | (simp (disch := omega) only [w_nat, w_add, w_addl, w_addr, w_sub, w_subl, w_mul, w_mull, w_mulr, w_u32, w_u16, w_u8, w_u32a, N_zero]; first | done | rfl))
              · first | (simp only [push_cast, reduceIte, Nat.reduceEqDiff, Nat.reduceLT, Nat.reduceAdd, Nat.reduceSub, Nat.reduceMul, Nat.reduceLeDiff, Nat.reducePow, Int.reduceLT, Int.reduceToNat, reduceCtorEq, Int.reduceNeg, Int.reduceEq, Nat.reduceBEq, Nat.reduceBNe, Int.reduceBEq, Int.reduceBNe, String.reduceEq]; first | done | rfl | (simp (disch := omega) only [w_nat, w_add, w_addl, w_addr, w_sub, w_subl, w_mul, w_mull, w_mulr, w_u32, w_u16, w_u8, w_u32a, N_zero]; first | done | rfl))
      · skip
        refine AWp.exit ?_
        simp only [thenQ, blockQ, reduceIte, Nat.reduceEqDiff]
        refine hK4 _ ?_
        refine AWp.regionW ?_
        refine AWp.ret ?_
        try simp only [thenQ, blockQ]
        refine bodyQ.m ?_
        clear hK6 K6 hK5 K5 hK4 K4 hK2 K2 hK1 K1
        first | done | exact Hand.go
end Go.Proofs.Ytmcedkcehcacpaa.C
