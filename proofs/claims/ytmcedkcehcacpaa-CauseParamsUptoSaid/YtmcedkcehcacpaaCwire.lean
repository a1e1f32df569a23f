/- wire: contracts. -/
import Derived.Test.YtmcedkcehcacpaaCpad
set_option linter.unusedVariables false
set_option linter.unusedSimpArgs false
namespace Go.Proofs.Ytmcedkcehcacpaa.C
open Go.Abs

theorem wire_right (k : Nat) : PC Try.prog 41 [nat k] (.val (.bool (k == 1 || k == 2 || k == 4))) := by
  refine PC.of_bodyW (by simp only [push_cast]) Try.func41 rfl (by rw [Try.ntmps41]; simp) ?_
  refine AWp.regionW ?_
  refine AWp.regionA fun K1 hK1 => ?_
  refine ARun.segm 3 fun KS hKS => ?_
  refine ARun2.endm (hKS _ ?_); clear hKS KS
  apply ARun.grpM 2 2 false 7 [0, 5]
  · intro g2 KG hKG
    refine ARun2.gom ?_
    exact ARun2.endm (hKG _ Le.grpM)
  refine ARun.segm 2 fun KS hKS => ?_
  refine ARun2.endm (hKS _ ?_); clear hKS KS
  apply ARun.grpM 2 6 false 11 [9]
  · intro g6 KG hKG
    refine ARun2.gom ?_
    exact ARun2.endm (hKG _ Le.grpM)
  refine ARun2.gom ?_
  refine ARun2.endm (hK1 _ ?_)
  refine AWp.ret ?_
  try simp only [thenQ, blockQ]
  refine bodyQ.m ?_
  clear hK1 K1
  simp only [Bool.or_assoc]
  first | done | exact Hand.go

/-- the bytes of a number, the greatest first -/
def putB (k : Nat) (x : Nat) : List UInt8 := (List.range k).reverse.map fun i => UInt8.ofNat (x / 256 ^ i)

theorem putB_len (k x : Nat) : (putB k x).length = k := by simp [putB]
theorem putB_take (k x j : Nat) (hj : j < k) : (putB k x).take (k - j) = (putB k x).take (k - (j + 1)) ++ [UInt8.ofNat (x / 256 ^ j)] := by
  have hlt : k - (j + 1) < (putB k x).length := by rw [putB_len]; omega
  rw [show k - j = (k - (j + 1)) + 1 by omega, List.take_succ_eq_append_getElem hlt]
  congr 2
  simp only [putB, List.getElem_map, List.getElem_reverse, List.getElem_range, List.length_range]
  rw [show k - 1 - (k - (j + 1)) = j by omega]

theorem put_byte (x j : Nat) (hj : j < 4) : IntKind.u8.wrap ((N x).fdiv (2 ^ min (8 * j) IntKind.u32.bits)) = N (UInt8.ofNat (x / 256 ^ j)).toNat := by
  have h2 : IntKind.u32.bits = 32 := rfl
  unfold N
  rw [h2, Nat.min_eq_left (by omega), IntKind.wrap_u8]
  have h3 : (2 : Int) ^ (8 * j) = ((256 ^ j : Nat) : Int) := by
    rw [show (256 : Nat) = 2 ^ 8 from rfl, ← Nat.pow_mul]
    simp
  rw [h3]
  have h4 : (x : Int).fdiv ((256 ^ j : Nat) : Int) = ((x / 256 ^ j : Nat) : Int) := by
    rw [Int.fdiv_eq_ediv_of_nonneg _ (Int.natCast_nonneg _)]; rfl
  rw [h4]
  simp [UInt8.toNat_ofNat']

theorem flat_len2 (k : Nat) (l : List Nat) : (l.flatMap (putB k)).length = l.length * k := by
  induction l with
  | nil => simp
  | cons x l ih => rw [List.flatMap_cons, List.length_append, putB_len, ih, List.length_cons, Nat.add_mul]; omega
theorem bys_snoc (l : List UInt8) (b : UInt8) : bys l ++ [.val (.int .u8 (N b.toNat))] = bys (l ++ [b]) := by simp [bys]

abbrev u32 (n : Nat) : AV := .val (.int .u32 (N n))
attribute [push_cast] u32
def u32s (l : List Nat) : List AV := l.map u32
@[push_cast] theorem u32s_hand (ids : List Nat) (l : List Nat) : AV.handL ids (u32s l) = u32s l := by
  rw [AV.handL_map]; simp [u32s, AV.hand]
@[push_cast] theorem u32s_len (l : List Nat) : (u32s l).length = l.length := by simp [u32s]
theorem u32s_get (l : List Nat) (i : Nat) : (u32s l)[i]? = l[i]?.map u32 := by simp [u32s]
@[push_cast] theorem u32s_pl (l : List Nat) : AV.plL (u32s l) = true := by
  rw [AV.plL_iff]; intro x hx; simp only [u32s, List.mem_map] at hx; obtain ⟨b, _, rfl⟩ := hx; rfl
@[push_cast] theorem u32s_ids (p : Nat → Bool) (l : List Nat) : AV.idsOkL p (u32s l) = true := by
  rw [AV.idsOkL_iff]; intro x hx; simp only [u32s, List.mem_map] at hx; obtain ⟨b, _, rfl⟩ := hx; rfl

theorem N_pred (j : Nat) : N (j + 1) - 1 = N j := by unfold N; omega
theorem N_pred0 (k : Nat) (h : 1 ≤ k) : N (k - 1) = N k - 1 := by unfold N; omega
theorem N_ge (j : Nat) : (0 ≤ N j - 1) = (1 ≤ j) := by rw [eq_iff_iff]; unfold N; omega

theorem wire_put (k : Nat) (l : List Nat) (hk : k = 1 ∨ k = 2 ∨ k = 4) (hl : ∀ x ∈ l, x < 2 ^ 32) (hn : l.length ≤ 2 ^ 30) :
    PC Try.prog 27 [nat k, .sl false 1 (u32s l)] (.sl true 1 (bys (l.flatMap (putB k)))) := by
  have hr : (k == 1 || k == 2 || k == 4) = true := by rcases hk with rfl | rfl | rfl <;> rfl
  refine PC.of_body (by simp only [push_cast]) Try.func27 rfl (by rw [Try.ntmps27]; simp) ?_
  refine AWp.regionW ?_
  refine AWp.seqK fun K1 hK1 => ?_
  refine AWp.regionM fun K2 hK2 => ?_
  refine ARun2.callM (wire_right k) ?_
  refine ARun2.endm (hK2 _ ?_)
  refine AWp.condF ?_ (by simp only [push_cast, reduceIte, Nat.reduceEqDiff, Nat.reduceLT, Nat.reduceAdd, Nat.reduceSub, Nat.reduceMul, Nat.reduceLeDiff, Nat.reducePow, Int.reduceLT, Int.reduceToNat, reduceCtorEq, Int.reduceNeg, Int.reduceEq, Nat.reduceBEq, Nat.reduceBNe, Int.reduceBEq, Int.reduceBNe, String.reduceEq, hr])
  refine AWp.skip ?_
  refine hK1 _ ?_
  refine AWp.regionW ?_
  refine AWp.seqK fun K3 hK3 => ?_
  refine AWp.regionW ?_
  refine AWp.block ?_
  -- SLOTS THAT TURN AND ARE NOT TOLD: [5]
  refine AWp.nilOwn 5 5 1 (by simp only [push_cast, reduceIte, Nat.reduceEqDiff, Nat.reduceLT, Nat.reduceAdd, Nat.reduceSub, Nat.reduceMul, Nat.reduceLeDiff, Nat.reducePow, Int.reduceLT, Int.reduceToNat, reduceCtorEq, Int.reduceNeg, Int.reduceEq, Nat.reduceBEq, Nat.reduceBNe, Int.reduceBEq, Int.reduceBNe, String.reduceEq]) ?_
  simp only [push_cast, reduceIte, Nat.reduceEqDiff, Nat.reduceLT, Nat.reduceAdd, Nat.reduceSub, Nat.reduceMul, Nat.reduceLeDiff, Nat.reducePow, Int.reduceLT, Int.reduceToNat, reduceCtorEq, Int.reduceNeg, Int.reduceEq, Nat.reduceBEq, Nat.reduceBNe, Int.reduceBEq, Int.reduceBNe, String.reduceEq]
  refine AWp.loopK [0, 5, 12, 13] (fun (i : Nat) => [(14, nat i)]) (fun i => [.row 5 1 (bys ((l.take i).flatMap (putB k)))]) (fun i => i ≤ l.length) (fun i => l.length - i) (0) ?_ (Nat.zero_le _) ?_
  · skip
    refine Le.m 1 ?_ ?_
    · first | with_reducible rfl | (simp only [push_cast, reduceIte, Nat.reduceEqDiff, Nat.reduceLT, Nat.reduceAdd, Nat.reduceSub, Nat.reduceMul, Nat.reduceLeDiff, Nat.reducePow, Int.reduceLT, Int.reduceToNat, reduceCtorEq, Int.reduceNeg, Int.reduceEq, Nat.reduceBEq, Nat.reduceBNe, Int.reduceBEq, Int.reduceBNe, String.reduceEq]; first | done | rfl | (simp (disch := omega) only [w_nat, w_add, w_addl, w_addr, w_sub, w_subl, w_mul, w_mull, w_mulr, w_u32, w_u16, w_u8, w_u32a, N_zero]; first | done | rfl))
    · first | (simp only [push_cast, reduceIte, Nat.reduceEqDiff, Nat.reduceLT, Nat.reduceAdd, Nat.reduceSub, Nat.reduceMul, Nat.reduceLeDiff, Nat.reducePow, Int.reduceLT, Int.reduceToNat, reduceCtorEq, Int.reduceNeg, Int.reduceEq, Nat.reduceBEq, Nat.reduceBNe, Int.reduceBEq, Int.reduceBNe, String.reduceEq]; first | done | rfl | (simp (disch := omega) only [w_nat, w_add, w_addl, w_addr, w_sub, w_subl, w_mul, w_mull, w_mulr, w_u32, w_u16, w_u8, w_u32a, N_zero]; first | done | rfl))
  · intro i hi K4 hK4
    refine AWp.regionW ?_
    refine AWp.seqK fun K5 hK5 => ?_
    refine AWp.condLM (fun c1 => ?_) (fun c1 => ?_)
    · skip
      have hil : i < l.length := by simpa using c1
      have hx32 := hl l[i] (List.getElem_mem hil)
      generalize hxe : l[i] = x at hx32
      refine AWp.skip ?_
      refine hK5 _ ?_
      refine AWp.seqK fun K6 hK6 => ?_
      refine AWp.block ?_
      refine AWp.regionM fun K7 hK7 => ?_
      refine ARun2.indexM (i) (u32 x) ?_ ?_
      · rw [u32s_get, List.getElem?_eq_getElem hil, hxe]; rfl
      refine ARun2.endm (hK7 _ ?_)
      refine AWp.regionW ?_
      refine AWp.block ?_
      -- SLOTS THAT TURN AND ARE NOT TOLD: [5]
      refine AWp.loopK [0, 5, 7, 12, 13, 14] (fun (j : Nat) => [(8, .val (.int .i64 (N j - 1)))]) (fun j => [.row 5 1 (bys ((l.take i).flatMap (putB k) ++ (putB k x).take (k - j)))]) (fun j => j ≤ k) (fun j => j) (k) ?_ (Nat.le_refl _) ?_
      · skip
        refine Le.m 1 ?_ ?_
        · try simp only [push_cast, reduceIte, Nat.reduceEqDiff, Nat.reduceLT, Nat.reduceAdd, Nat.reduceSub, Nat.reduceMul, Nat.reduceLeDiff, Nat.reducePow, Int.reduceLT, Int.reduceToNat, reduceCtorEq, Int.reduceNeg, Int.reduceEq, Nat.reduceBEq, Nat.reduceBNe, Int.reduceBEq, Int.reduceBNe, String.reduceEq]
          try simp (disch := omega) only [w_nat, w_add, w_addl, w_addr, w_sub, w_subl, w_mul, w_mull, w_mulr, w_u32, w_u16, w_u8, w_u32a, N_zero]
          first | done | skip
          simp
        · simp only [push_cast, reduceIte, Nat.reduceEqDiff, Nat.reduceLT, Nat.reduceAdd, Nat.reduceSub, Nat.reduceMul, Nat.reduceLeDiff, Nat.reducePow, Int.reduceLT, Int.reduceToNat, reduceCtorEq, Int.reduceNeg, Int.reduceEq, Nat.reduceBEq, Nat.reduceBNe, Int.reduceBEq, Int.reduceBNe, String.reduceEq]
          try simp (disch := omega) only [w_nat, w_add, w_addl, w_addr, w_sub, w_subl, w_mul, w_mull, w_mulr, w_u32, w_u16, w_u8, w_u32a, N_zero]
          simp only [N_pred0 k (by omega)]
      · intro j hj K8 hK8
        refine AWp.seqK fun K9 hK9 => ?_
        refine AWp.regionW ?_
        refine AWp.condLM (fun c2 => ?_) (fun c2 => ?_)
        · skip
          have hj1 : 1 ≤ j := by have h := of_decide_eq_true c2; rwa [N_ge] at h
          obtain ⟨j, rfl⟩ : ∃ j', j = j' + 1 := ⟨j - 1, by omega⟩
          simp only [N_pred]
          refine AWp.skip ?_
          refine hK9 _ ?_
          refine AWp.seqK fun K10 hK10 => ?_
          refine AWp.block ?_
          refine AWp.regionN fun K11 hK11 => ?_
          rw [put_byte x j (by omega)]
          have hlen : ((l.take i).flatMap (putB k) ++ (putB k x).take (k - (j + 1))).length ≤ 2 ^ 33 := by
            rw [List.length_append, flat_len2, List.length_take, List.length_take, putB_len]
            have : min i l.length * k ≤ 2 ^ 30 * 4 := Nat.mul_le_mul (by omega) (by omega)
            omega
          refine ARun2.appendM ?_ ?_ ?_
          · rw [Ytmcedkcehcacpaa.Facts.eb25, bys_len, List.length_cons, List.length_nil]; omega
          · rw [bys_len, List.length_cons, List.length_nil]; omega
          refine ARun2.endm (hK11 _ ?_)
          refine hK10 _ ?_
          refine AWp.regionV ?_
          refine hK8 _ (j) (by omega) (by omega) ?_
          refine Le.m 1 ?_ ?_
          · try simp only [push_cast, reduceIte, Nat.reduceEqDiff, Nat.reduceLT, Nat.reduceAdd, Nat.reduceSub, Nat.reduceMul, Nat.reduceLeDiff, Nat.reducePow, Int.reduceLT, Int.reduceToNat, reduceCtorEq, Int.reduceNeg, Int.reduceEq, Nat.reduceBEq, Nat.reduceBNe, Int.reduceBEq, Int.reduceBNe, String.reduceEq]
            try simp (disch := omega) only [w_nat, w_add, w_addl, w_addr, w_sub, w_subl, w_mul, w_mull, w_mulr, w_u32, w_u16, w_u8, w_u32a, N_zero]
            first | done | skip
            rw [putB_take k x j (by omega), ← List.append_assoc, ← bys_snoc]
          · simp only [push_cast, reduceIte, Nat.reduceEqDiff, Nat.reduceLT, Nat.reduceAdd, Nat.reduceSub, Nat.reduceMul, Nat.reduceLeDiff, Nat.reducePow, Int.reduceLT, Int.reduceToNat, reduceCtorEq, Int.reduceNeg, Int.reduceEq, Nat.reduceBEq, Nat.reduceBNe, Int.reduceBEq, Int.reduceBNe, String.reduceEq]
            try simp (disch := omega) only [w_nat, w_add, w_addl, w_addr, w_sub, w_subl, w_mul, w_mull, w_mulr, w_u32, w_u16, w_u8, w_u32a, N_zero]
            rw [show IntKind.i64.wrap (N j - 1) = N j - 1 from w64 (by unfold N; omega) (by unfold N; omega)]
        · skip
          have hj0 : j = 0 := by have h := of_decide_eq_false c2; rw [N_ge] at h; omega
          subst hj0
          refine AWp.exit ?_
          simp only [thenQ, blockQ, reduceIte, Nat.reduceEqDiff]
          refine hK6 _ ?_
          refine AWp.regionV ?_
          refine hK4 _ (i + 1) (by omega) (by omega) ?_
          refine Le.m 1 ?_ ?_
          · try simp only [push_cast, reduceIte, Nat.reduceEqDiff, Nat.reduceLT, Nat.reduceAdd, Nat.reduceSub, Nat.reduceMul, Nat.reduceLeDiff, Nat.reducePow, Int.reduceLT, Int.reduceToNat, reduceCtorEq, Int.reduceNeg, Int.reduceEq, Nat.reduceBEq, Nat.reduceBNe, Int.reduceBEq, Int.reduceBNe, String.reduceEq]
            try simp (disch := omega) only [w_nat, w_add, w_addl, w_addr, w_sub, w_subl, w_mul, w_mull, w_mulr, w_u32, w_u16, w_u8, w_u32a, N_zero]
            first | done | skip
            have hfull : (putB k x).take k = putB k x := List.take_of_length_le (by rw [putB_len]; exact Nat.le_refl _)
            rw [List.take_succ_eq_append_getElem hil, List.flatMap_append, hxe, Nat.sub_zero, hfull]; simp
          · first | (simp only [push_cast, reduceIte, Nat.reduceEqDiff, Nat.reduceLT, Nat.reduceAdd, Nat.reduceSub, Nat.reduceMul, Nat.reduceLeDiff, Nat.reducePow, Int.reduceLT, Int.reduceToNat, reduceCtorEq, Int.reduceNeg, Int.reduceEq, Nat.reduceBEq, Nat.reduceBNe, Int.reduceBEq, Int.reduceBNe, String.reduceEq]; first | done | rfl | (simp (disch := omega) only [w_nat, w_add, w_addl, w_addr, w_sub, w_subl, w_mul, w_mull, w_mulr, w_u32, w_u16, w_u8, w_u32a, N_zero]; first | done | rfl))
    · skip
      have hil : i = l.length := by simp at c1; omega
      subst hil
      refine AWp.exit ?_
      simp only [thenQ, blockQ, reduceIte, Nat.reduceEqDiff]
      refine hK3 _ ?_
      refine AWp.regionW ?_
      refine AWp.pub 0 rfl (Nat.le_refl _) ?_
      simp only [push_cast, reduceIte, Nat.reduceEqDiff, Nat.reduceLT, Nat.reduceAdd, Nat.reduceSub, Nat.reduceMul, Nat.reduceLeDiff, Nat.reducePow, Int.reduceLT, Int.reduceToNat, reduceCtorEq, Int.reduceNeg, Int.reduceEq, Nat.reduceBEq, Nat.reduceBNe, Int.reduceBEq, Int.reduceBNe, String.reduceEq]
      rw [List.take_length]
      refine AWp.ret ?_
      try simp only [thenQ, blockQ]
      refine bodyQ.m ?_
      clear hK5 K5 hK4 K4 hK3 K3 hK2 K2 hK1 K1
      rfl
end Go.Proofs.Ytmcedkcehcacpaa.C
