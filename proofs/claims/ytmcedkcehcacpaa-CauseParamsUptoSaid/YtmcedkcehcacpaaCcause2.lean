/- cause: Value, Missing, Types, Chunk. -/
import Derived.Test.YtmcedkcehcacpaaCcause1
set_option linter.unusedVariables false
set_option linter.unusedSimpArgs false
namespace Go.Proofs.Ytmcedkcehcacpaa.C
open Go.Abs

def u16s (l : List Nat) : List AV := l.map u16
@[push_cast] theorem u16s_hand (ids : List Nat) (l : List Nat) : AV.handL ids (u16s l) = u16s l := by
  rw [AV.handL_map]; simp [u16s, AV.hand]
@[push_cast] theorem u16s_len (l : List Nat) : (u16s l).length = l.length := by simp [u16s]
theorem u16s_at (l : List Nat) (i : Nat) (h : i < l.length) : (u16s l)[i]? = some (u16 l[i]) := by simp [u16s, h]
theorem u32s_at (l : List Nat) (i : Nat) (h : i < l.length) : (u32s l)[i]? = some (u32 l[i]) := by simp [u32s, h]
theorem u16s_snoc (l : List Nat) (n : Nat) : u16s (l ++ [n]) = u16s l ++ [u16 n] := by simp [u16s]
@[push_cast] theorem u16s_nil : u16s [] = [] := rfl
@[push_cast] theorem u16s_pl (l : List Nat) : AV.plL (u16s l) = true := by
  rw [AV.plL_iff]; intro x hx; simp only [u16s, List.mem_map] at hx; obtain ⟨b, _, rfl⟩ := hx; rfl
@[push_cast] theorem u16s_ids (p : Nat → Bool) (l : List Nat) : AV.idsOkL p (u16s l) = true := by
  rw [AV.idsOkL_iff]; intro x hx; simp only [u16s, List.mem_map] at hx; obtain ⟨b, _, rfl⟩ := hx; rfl
theorem beN_lt2 (l : List UInt8) (k : Nat) (h : l.length ≤ k) : beN l < 256 ^ k := by
  have := beN_lt l
  exact Nat.lt_of_lt_of_le this (Nat.pow_le_pow_right (by omega) h)
theorem numsA_len (k : Nat) (l : List UInt8) : (numsA k l).length ≤ l.length := by
  unfold numsA
  split
  · rw [nums_len]; exact Nat.div_le_self _ _
  · simp
theorem numsA_lt {k : Nat} {l : List UInt8} {x : Nat} (h : x ∈ numsA k l) : x < 256 ^ k := by
  unfold numsA at h
  split at h
  · simp only [numsOf, List.mem_map] at h
    obtain ⟨i, _, rfl⟩ := h
    exact beN_lt2 _ _ (List.length_take_le _ _)
  · simp at h

/-- a cause's number -/
def valueN (n : GNode) : Nat × Bool :=
  match numsA (if n.ty = 1 then 2 else 4) n.data with
  | [] => (0, false)
  | v :: _ => if ((numberN n.ty v).2 && sameN (numberN n.ty v).1 n) = true then (v, true) else (0, false)

theorem value_key (n : GNode) (k : Nat) (hs : n.sz ≤ 2 ^ 26) (hk : (if n.ty = 1 then 2 else 4) = k) : ∃ ns : List Nat, PC Try.prog 29 [nat k, .sl false 1 (bys n.data)] (.sl true 1 (u32s ns)) ∧ ns.length ≤ 2 ^ 26 ∧ (∀ h : 0 < ns.length, ns[0] < 2 ^ 32) ∧
    (ns.length = 0 → valueN n = (0, false)) ∧ ∀ h : 0 < ns.length, valueN n = if ((numberN n.ty ns[0]).2 && sameN (numberN n.ty ns[0]).1 n) = true then (ns[0], true) else (0, false) := by
  have hsz := n.sz_eq
  have hk2 : k = 2 ∨ k = 4 := by split at hk <;> omega
  refine ⟨numsA k n.data, numbers_a k n.data (by omega) (by omega), by have := numsA_len k n.data; omega, ?_, ?_, ?_⟩
  · intro h
    have := numsA_lt (List.getElem_mem h)
    rcases hk2 with rfl | rfl <;> omega
  · intro h
    unfold valueN; rw [hk, List.length_eq_zero_iff.1 h]
  · intro h
    unfold valueN; rw [hk]
    revert h
    generalize numsA k n.data = ns
    intro h
    cases ns with
    | nil => simp at h
    | cons a l => rfl

theorem value_c (n : GNode) (hs : n.sz ≤ 2 ^ 26) : PC Try.prog 13 [nodeA false n] (.tup [u32 (valueN n).1, bool (valueN n).2]) := by
  refine PC.of_bodyW (by simp only [push_cast]) Try.func13 rfl (by rw [Try.ntmps13]; simp) ?_
  refine AWp.regionW ?_
  refine AWp.regionW ?_
  refine AWp.seqK fun K1 hK1 => ?_
  refine AWp.regionW ?_
  refine AWp.condLM (fun c0 => ?_) (fun c0 => ?_)
  · skip
    obtain ⟨ns, hnum, hlen, hlt, hv0, hv1⟩ := value_key n 2 hs (if_pos (by simpa using c0))
    refine AWp.regionV ?_
    refine hK1 _ ?_
    refine AWp.seqK fun K2 hK2 => ?_
    refine AWp.regionM fun K3 hK3 => ?_
    refine ARun2.callM (hnum) ?_
    refine ARun2.endm (hK3 _ ?_)
    refine AWp.block ?_
    refine AWp.loopK0 [1, 15, 16] (fun (i : Nat) => [(17, nat i)]) (fun i => i = 0) (fun i => 0) (0) ?_ rfl ?_
    · skip
      refine Le.m 1 ?_ ?_
      · first | with_reducible rfl | (simp only [push_cast, reduceIte, Nat.reduceEqDiff, Nat.reduceLT, Nat.reduceAdd, Nat.reduceSub, Nat.reduceMul, Nat.reduceLeDiff, Nat.reducePow, Int.reduceLT, Int.reduceToNat, reduceCtorEq, Int.reduceNeg, Int.reduceEq, Nat.reduceBEq, Nat.reduceBNe, Int.reduceBEq, Int.reduceBNe, String.reduceEq]; first | done | rfl | (simp (disch := omega) only [w_nat, w_add, w_addl, w_addr, w_sub, w_subl, w_mul, w_mull, w_mulr, w_u32, w_u16, w_u8, w_u32a, N_zero]; first | done | rfl))
      · first | (simp only [push_cast, reduceIte, Nat.reduceEqDiff, Nat.reduceLT, Nat.reduceAdd, Nat.reduceSub, Nat.reduceMul, Nat.reduceLeDiff, Nat.reducePow, Int.reduceLT, Int.reduceToNat, reduceCtorEq, Int.reduceNeg, Int.reduceEq, Nat.reduceBEq, Nat.reduceBNe, Int.reduceBEq, Int.reduceBNe, String.reduceEq]; first | done | rfl | (simp (disch := omega) only [w_nat, w_add, w_addl, w_addr, w_sub, w_subl, w_mul, w_mull, w_mulr, w_u32, w_u16, w_u8, w_u32a, N_zero]; first | done | rfl))
    · intro i hi K4 hK4
      refine AWp.regionW ?_
      refine AWp.seqK fun K5 hK5 => ?_
      refine AWp.condLM (fun c1 => ?_) (fun c1 => ?_)
      · skip
        subst hi
        have hil : 0 < ns.length := by simpa using c1
        have hl2 := hlt hil
        have hv := hv1 hil
        have hz := numberN_sz n.ty ns[0]
        refine AWp.skip ?_
        refine hK5 _ ?_
        refine AWp.seqK fun K6 hK6 => ?_
        refine AWp.block ?_
        refine AWp.regionM fun K7 hK7 => ?_
        refine ARun2.indexM (0) (u32 ns[0]) ?_ ?_
        · exact u32s_at _ _ hil
        refine ARun2.endm (hK7 _ ?_)
        refine AWp.regionM fun K8 hK8 => ?_
        refine ARun2.callM (number_cc n.ty ns[0] hl2) ?_
        refine ARun2.endm (hK8 _ ?_)
        refine AWp.seqK fun K9 hK9 => ?_
        refine AWp.regionA fun K10 hK10 => ?_
        refine ARun.segm 2 fun KS hKS => ?_
        refine ARun2.endm (hKS _ ?_); clear hKS KS
        apply ARun.grpM 3 1 true 32 [6, 29]
        · intro g1 KG hKG
          refine ARun2.gom ?_
          refine ARun2.callM (same_c (numberN n.ty ns[0]).1 n (by omega)) ?_
          exact ARun2.endm (hKG _ Le.grpM)
        refine ARun2.gom ?_
        refine ARun2.endm (hK10 _ ?_)
        refine AWp.condLM (fun c2 => ?_) (fun c2 => ?_)
        · skip
          have hc : ((numberN n.ty ns[0]).2 && sameN (numberN n.ty ns[0]).1 n) = true := by first | exact c2 | simpa using c2
          rw [if_pos hc] at hv
          refine AWp.regionW ?_
          refine AWp.ret ?_
          try simp only [thenQ, blockQ]
          refine bodyQ.m ?_
          clear hK10 K10 hK9 K9 hK8 K8 hK7 K7 hK6 K6 hK5 K5 hK4 K4 hK3 K3 hK2 K2 hK1 K1
          rw [hv]
          first | done | exact Hand.go
        · skip
          have hc : ¬ ((numberN n.ty ns[0]).2 && sameN (numberN n.ty ns[0]).1 n) = true := by first | exact c2 | simpa using c2
          rw [if_neg hc] at hv
          refine AWp.skip ?_
          refine hK9 _ ?_
          refine AWp.exit ?_
          simp only [thenQ, blockQ, reduceIte, Nat.reduceEqDiff]
          refine hK2 _ ?_
          refine AWp.regionW ?_
          refine AWp.ret ?_
          try simp only [thenQ, blockQ]
          refine bodyQ.m ?_
          clear hK10 K10 hK9 K9 hK8 K8 hK7 K7 hK6 K6 hK5 K5 hK4 K4 hK3 K3 hK2 K2 hK1 K1
          rw [hv]
          first | done | exact Hand.go
      · skip
        subst hi
        have hn0 : ¬ 0 < ns.length := by first | exact of_decide_eq_false c1 | simpa using c1
        have hv := hv0 (by omega)
        refine AWp.exit ?_
        simp only [thenQ, blockQ, reduceIte, Nat.reduceEqDiff]
        refine hK2 _ ?_
        refine AWp.regionW ?_
        refine AWp.ret ?_
        try simp only [thenQ, blockQ]
        refine bodyQ.m ?_
        clear hK5 K5 hK4 K4 hK3 K3 hK2 K2 hK1 K1
        rw [hv]
        first | done | exact Hand.go
  · skip
    obtain ⟨ns, hnum, hlen, hlt, hv0, hv1⟩ := value_key n 4 hs (if_neg (by simpa using c0))
    refine AWp.skip ?_
    refine hK1 _ ?_
    refine AWp.seqK fun K11 hK11 => ?_
    refine AWp.regionM fun K12 hK12 => ?_
    refine ARun2.callM (hnum) ?_
    refine ARun2.endm (hK12 _ ?_)
    refine AWp.block ?_
    refine AWp.loopK0 [1, 15, 16] (fun (i : Nat) => [(17, nat i)]) (fun i => i = 0) (fun i => 0) (0) ?_ rfl ?_
    · skip
      refine Le.m 1 ?_ ?_
      · first | with_reducible rfl | (simp only [push_cast, reduceIte, Nat.reduceEqDiff, Nat.reduceLT, Nat.reduceAdd, Nat.reduceSub, Nat.reduceMul, Nat.reduceLeDiff, Nat.reducePow, Int.reduceLT, Int.reduceToNat, reduceCtorEq, Int.reduceNeg, Int.reduceEq, Nat.reduceBEq, Nat.reduceBNe, Int.reduceBEq, Int.reduceBNe, String.reduceEq]; first | done | rfl | (simp (disch := omega) only [w_nat, w_add, w_addl, w_addr, w_sub, w_subl, w_mul, w_mull, w_mulr, w_u32, w_u16, w_u8, w_u32a, N_zero]; first | done | rfl))
      · first | (simp only [push_cast, reduceIte, Nat.reduceEqDiff, Nat.reduceLT, Nat.reduceAdd, Nat.reduceSub, Nat.reduceMul, Nat.reduceLeDiff, Nat.reducePow, Int.reduceLT, Int.reduceToNat, reduceCtorEq, Int.reduceNeg, Int.reduceEq, Nat.reduceBEq, Nat.reduceBNe, Int.reduceBEq, Int.reduceBNe, String.reduceEq]; first | done | rfl | (simp (disch := omega) only [w_nat, w_add, w_addl, w_addr, w_sub, w_subl, w_mul, w_mull, w_mulr, w_u32, w_u16, w_u8, w_u32a, N_zero]; first | done | rfl))
    · intro i hi K13 hK13
      refine AWp.regionW ?_
      refine AWp.seqK fun K14 hK14 => ?_
      refine AWp.condLM (fun c1 => ?_) (fun c1 => ?_)
      · skip
        subst hi
        have hil : 0 < ns.length := by simpa using c1
        have hl2 := hlt hil
        have hv := hv1 hil
        have hz := numberN_sz n.ty ns[0]
        refine AWp.skip ?_
        refine hK14 _ ?_
        refine AWp.seqK fun K15 hK15 => ?_
        refine AWp.block ?_
        refine AWp.regionM fun K16 hK16 => ?_
        refine ARun2.indexM (0) (u32 ns[0]) ?_ ?_
        · exact u32s_at _ _ hil
        refine ARun2.endm (hK16 _ ?_)
        refine AWp.regionM fun K17 hK17 => ?_
        refine ARun2.callM (number_cc n.ty ns[0] hl2) ?_
        refine ARun2.endm (hK17 _ ?_)
        refine AWp.seqK fun K18 hK18 => ?_
        refine AWp.regionA fun K19 hK19 => ?_
        refine ARun.segm 2 fun KS hKS => ?_
        refine ARun2.endm (hKS _ ?_); clear hKS KS
        apply ARun.grpM 3 1 true 32 [6, 29]
        · intro g1 KG hKG
          refine ARun2.gom ?_
          refine ARun2.callM (same_c (numberN n.ty ns[0]).1 n (by omega)) ?_
          exact ARun2.endm (hKG _ Le.grpM)
        refine ARun2.gom ?_
        refine ARun2.endm (hK19 _ ?_)
        refine AWp.condLM (fun c2 => ?_) (fun c2 => ?_)
        · skip
          have hc : ((numberN n.ty ns[0]).2 && sameN (numberN n.ty ns[0]).1 n) = true := by first | exact c2 | simpa using c2
          rw [if_pos hc] at hv
          refine AWp.regionW ?_
          refine AWp.ret ?_
          try simp only [thenQ, blockQ]
          refine bodyQ.m ?_
          clear hK19 K19 hK18 K18 hK17 K17 hK16 K16 hK15 K15 hK14 K14 hK13 K13 hK12 K12 hK11 K11 hK1 K1
          rw [hv]
          first | done | exact Hand.go
        · skip
          have hc : ¬ ((numberN n.ty ns[0]).2 && sameN (numberN n.ty ns[0]).1 n) = true := by first | exact c2 | simpa using c2
          rw [if_neg hc] at hv
          refine AWp.skip ?_
          refine hK18 _ ?_
          refine AWp.exit ?_
          simp only [thenQ, blockQ, reduceIte, Nat.reduceEqDiff]
          refine hK11 _ ?_
          refine AWp.regionW ?_
          refine AWp.ret ?_
          try simp only [thenQ, blockQ]
          refine bodyQ.m ?_
          clear hK19 K19 hK18 K18 hK17 K17 hK16 K16 hK15 K15 hK14 K14 hK13 K13 hK12 K12 hK11 K11 hK1 K1
          rw [hv]
          first | done | exact Hand.go
      · skip
        subst hi
        have hn0 : ¬ 0 < ns.length := by first | exact of_decide_eq_false c1 | simpa using c1
        have hv := hv0 (by omega)
        refine AWp.exit ?_
        simp only [thenQ, blockQ, reduceIte, Nat.reduceEqDiff]
        refine hK11 _ ?_
        refine AWp.regionW ?_
        refine AWp.ret ?_
        try simp only [thenQ, blockQ]
        refine bodyQ.m ?_
        clear hK14 K14 hK13 K13 hK12 K12 hK11 K11 hK1 K1
        rw [hv]
        first | done | exact Hand.go

theorem wire_put_o (k : Nat) (l : List Nat) (hk : k = 1 ∨ k = 2 ∨ k = 4) (hl : ∀ x ∈ l, x < 2 ^ 32) (hn : l.length ≤ 2 ^ 30) :
    OC Try.prog 27 [nat k, .sl false 1 (u32s l)] [] (.own 0) [.row 5 1 (bys (l.flatMap (putB k)))] := by
  have hr : (k == 1 || k == 2 || k == 4) = true := by rcases hk with rfl | rfl | rfl <;> rfl
  refine OC.of_body [0] (by intro k hk; simp at hk) Try.func27 rfl (by rw [Try.ntmps27]; simp) ?_
  refine AWp.regionW ?_
  refine AWp.seqK fun K1 hK1 => ?_
  refine AWp.regionM fun K2 hK2 => ?_
  refine ARun2.callM (wire_right k) ?_
  refine ARun2.endm (hK2 _ ?_)
  refine AWp.condF ?_ (by simp only [push_cast, reduceIte, Nat.reduceEqDiff, Nat.reduceLT, Nat.reduceAdd, Nat.reduceSub, Nat.reduceMul, Nat.reduceLeDiff, Nat.reducePow, Int.reduceLT, Int.reduceToNat, reduceCtorEq, Int.reduceNeg, Int.reduceEq, Nat.reduceBEq, Nat.reduceBNe, Int.reduceBEq, Int.reduceBNe, String.reduceEq, hr])
  refine AWp.skip ?_
  refine hK1 _ ?_
  refine AWp.regionW ?_
  refine AWp.seqK fun K3 hK3 => ?_
  refine AWp.regionW ?_
  refine AWp.block ?_
  -- SLOTS THAT TURN AND ARE NOT TOLD: [5]
  refine AWp.nilOwn 5 5 1 (by simp only [push_cast, reduceIte, Nat.reduceEqDiff, Nat.reduceLT, Nat.reduceAdd, Nat.reduceSub, Nat.reduceMul, Nat.reduceLeDiff, Nat.reducePow, Int.reduceLT, Int.reduceToNat, reduceCtorEq, Int.reduceNeg, Int.reduceEq, Nat.reduceBEq, Nat.reduceBNe, Int.reduceBEq, Int.reduceBNe, String.reduceEq]) ?_
  simp only [push_cast, reduceIte, Nat.reduceEqDiff, Nat.reduceLT, Nat.reduceAdd, Nat.reduceSub, Nat.reduceMul, Nat.reduceLeDiff, Nat.reducePow, Int.reduceLT, Int.reduceToNat, reduceCtorEq, Int.reduceNeg, Int.reduceEq, Nat.reduceBEq, Nat.reduceBNe, Int.reduceBEq, Int.reduceBNe, String.reduceEq]
  refine AWp.loopK [0, 5, 12, 13] (fun (i : Nat) => [(14, nat i)]) (fun i => [.row 5 1 (bys ((l.take i).flatMap (putB k)))]) (fun i => i ≤ l.length) (fun i => l.length - i) (0) ?_ (Nat.zero_le _) ?_
  · skip
    refine Le.m 1 ?_ ?_
    · first | with_reducible rfl | (simp only [push_cast, reduceIte, Nat.reduceEqDiff, Nat.reduceLT, Nat.reduceAdd, Nat.reduceSub, Nat.reduceMul, Nat.reduceLeDiff, Nat.reducePow, Int.reduceLT, Int.reduceToNat, reduceCtorEq, Int.reduceNeg, Int.reduceEq, Nat.reduceBEq, Nat.reduceBNe, Int.reduceBEq, Int.reduceBNe, String.reduceEq]; first | done | rfl | (simp (disch := omega) only [w_nat, w_add, w_addl, w_addr, w_sub, w_subl, w_mul, w_mull, w_mulr, w_u32, w_u16, w_u8, w_u32a, N_zero]; first | done | rfl))
    · first | (simp only [push_cast, reduceIte, Nat.reduceEqDiff, Nat.reduceLT, Nat.reduceAdd, Nat.reduceSub, Nat.reduceMul, Nat.reduceLeDiff, Nat.reducePow, Int.reduceLT, Int.reduceToNat, reduceCtorEq, Int.reduceNeg, Int.reduceEq, Nat.reduceBEq, Nat.reduceBNe, Int.reduceBEq, Int.reduceBNe, String.reduceEq]; first | done | rfl | (simp (disch := omega) only [w_nat, w_add, w_addl, w_addr, w_sub, w_subl, w_mul, w_mull, w_mulr, w_u32, w_u16, w_u8, w_u32a, N_zero]; first | done | rfl))
  · intro i hi K4 hK4
    refine AWp.regionW ?_
    refine AWp.seqK fun K5 hK5 => ?_
    refine AWp.condLM (fun c1 => ?_) (fun c1 => ?_)
    · skip
      have hil : i < l.length := by simpa using c1
      have hx32 := hl l[i] (List.getElem_mem hil)
      generalize hxe : l[i] = x at hx32
      refine AWp.skip ?_
      refine hK5 _ ?_
      refine AWp.seqK fun K6 hK6 => ?_
      refine AWp.block ?_
      refine AWp.regionM fun K7 hK7 => ?_
      refine ARun2.indexM (i) (u32 x) ?_ ?_
      · rw [u32s_get, List.getElem?_eq_getElem hil, hxe]; rfl
      refine ARun2.endm (hK7 _ ?_)
      refine AWp.regionW ?_
      refine AWp.block ?_
      -- SLOTS THAT TURN AND ARE NOT TOLD: [5]
      refine AWp.loopK [0, 5, 7, 12, 13, 14] (fun (j : Nat) => [(8, .val (.int .i64 (N j - 1)))]) (fun j => [.row 5 1 (bys ((l.take i).flatMap (putB k) ++ (putB k x).take (k - j)))]) (fun j => j ≤ k) (fun j => j) (k) ?_ (Nat.le_refl _) ?_
      · skip
        refine Le.m 1 ?_ ?_
        · try simp only [push_cast, reduceIte, Nat.reduceEqDiff, Nat.reduceLT, Nat.reduceAdd, Nat.reduceSub, Nat.reduceMul, Nat.reduceLeDiff, Nat.reducePow, Int.reduceLT, Int.reduceToNat, reduceCtorEq, Int.reduceNeg, Int.reduceEq, Nat.reduceBEq, Nat.reduceBNe, Int.reduceBEq, Int.reduceBNe, String.reduceEq]
          try simp (disch := omega) only [w_nat, w_add, w_addl, w_addr, w_sub, w_subl, w_mul, w_mull, w_mulr, w_u32, w_u16, w_u8, w_u32a, N_zero]
          first | done | skip
          simp
        · simp only [push_cast, reduceIte, Nat.reduceEqDiff, Nat.reduceLT, Nat.reduceAdd, Nat.reduceSub, Nat.reduceMul, Nat.reduceLeDiff, Nat.reducePow, Int.reduceLT, Int.reduceToNat, reduceCtorEq, Int.reduceNeg, Int.reduceEq, Nat.reduceBEq, Nat.reduceBNe, Int.reduceBEq, Int.reduceBNe, String.reduceEq]
          try simp (disch := omega) only [w_nat, w_add, w_addl, w_addr, w_sub, w_subl, w_mul, w_mull, w_mulr, w_u32, w_u16, w_u8, w_u32a, N_zero]
          simp only [N_pred0 k (by omega)]
      · intro j hj K8 hK8
        refine AWp.seqK fun K9 hK9 => ?_
        refine AWp.regionW ?_
        refine AWp.condLM (fun c2 => ?_) (fun c2 => ?_)
        · skip
          have hj1 : 1 ≤ j := by have h := of_decide_eq_true c2; rwa [N_ge] at h
          obtain ⟨j, rfl⟩ : ∃ j', j = j' + 1 := ⟨j - 1, by omega⟩
          simp only [N_pred]
          refine AWp.skip ?_
          refine hK9 _ ?_
          refine AWp.seqK fun K10 hK10 => ?_
          refine AWp.block ?_
          refine AWp.regionN fun K11 hK11 => ?_
          rw [put_byte x j (by omega)]
          have hlen : ((l.take i).flatMap (putB k) ++ (putB k x).take (k - (j + 1))).length ≤ 2 ^ 33 := by
            rw [List.length_append, flat_len2, List.length_take, List.length_take, putB_len]
            have : min i l.length * k ≤ 2 ^ 30 * 4 := Nat.mul_le_mul (by omega) (by omega)
            omega
          refine ARun2.appendM ?_ ?_ ?_
          · rw [Ytmcedkcehcacpaa.Facts.eb25, bys_len, List.length_cons, List.length_nil]; omega
          · rw [bys_len, List.length_cons, List.length_nil]; omega
          refine ARun2.endm (hK11 _ ?_)
          refine hK10 _ ?_
          refine AWp.regionV ?_
          refine hK8 _ (j) (by omega) (by omega) ?_
          refine Le.m 1 ?_ ?_
          · try simp only [push_cast, reduceIte, Nat.reduceEqDiff, Nat.reduceLT, Nat.reduceAdd, Nat.reduceSub, Nat.reduceMul, Nat.reduceLeDiff, Nat.reducePow, Int.reduceLT, Int.reduceToNat, reduceCtorEq, Int.reduceNeg, Int.reduceEq, Nat.reduceBEq, Nat.reduceBNe, Int.reduceBEq, Int.reduceBNe, String.reduceEq]
            try simp (disch := omega) only [w_nat, w_add, w_addl, w_addr, w_sub, w_subl, w_mul, w_mull, w_mulr, w_u32, w_u16, w_u8, w_u32a, N_zero]
            first | done | skip
            rw [putB_take k x j (by omega), ← List.append_assoc, ← bys_snoc]
          · simp only [push_cast, reduceIte, Nat.reduceEqDiff, Nat.reduceLT, Nat.reduceAdd, Nat.reduceSub, Nat.reduceMul, Nat.reduceLeDiff, Nat.reducePow, Int.reduceLT, Int.reduceToNat, reduceCtorEq, Int.reduceNeg, Int.reduceEq, Nat.reduceBEq, Nat.reduceBNe, Int.reduceBEq, Int.reduceBNe, String.reduceEq]
            try simp (disch := omega) only [w_nat, w_add, w_addl, w_addr, w_sub, w_subl, w_mul, w_mull, w_mulr, w_u32, w_u16, w_u8, w_u32a, N_zero]
            rw [show IntKind.i64.wrap (N j - 1) = N j - 1 from w64 (by unfold N; omega) (by unfold N; omega)]
        · skip
          have hj0 : j = 0 := by have h := of_decide_eq_false c2; rw [N_ge] at h; omega
          subst hj0
          refine AWp.exit ?_
          simp only [thenQ, blockQ, reduceIte, Nat.reduceEqDiff]
          refine hK6 _ ?_
          refine AWp.regionV ?_
          refine hK4 _ (i + 1) (by omega) (by omega) ?_
          refine Le.m 1 ?_ ?_
          · try simp only [push_cast, reduceIte, Nat.reduceEqDiff, Nat.reduceLT, Nat.reduceAdd, Nat.reduceSub, Nat.reduceMul, Nat.reduceLeDiff, Nat.reducePow, Int.reduceLT, Int.reduceToNat, reduceCtorEq, Int.reduceNeg, Int.reduceEq, Nat.reduceBEq, Nat.reduceBNe, Int.reduceBEq, Int.reduceBNe, String.reduceEq]
            try simp (disch := omega) only [w_nat, w_add, w_addl, w_addr, w_sub, w_subl, w_mul, w_mull, w_mulr, w_u32, w_u16, w_u8, w_u32a, N_zero]
            first | done | skip
            have hfull : (putB k x).take k = putB k x := List.take_of_length_le (by rw [putB_len]; exact Nat.le_refl _)
            rw [List.take_succ_eq_append_getElem hil, List.flatMap_append, hxe, Nat.sub_zero, hfull]; simp
          · first | (simp only [push_cast, reduceIte, Nat.reduceEqDiff, Nat.reduceLT, Nat.reduceAdd, Nat.reduceSub, Nat.reduceMul, Nat.reduceLeDiff, Nat.reducePow, Int.reduceLT, Int.reduceToNat, reduceCtorEq, Int.reduceNeg, Int.reduceEq, Nat.reduceBEq, Nat.reduceBNe, Int.reduceBEq, Int.reduceBNe, String.reduceEq]; first | done | rfl | (simp (disch := omega) only [w_nat, w_add, w_addl, w_addr, w_sub, w_subl, w_mul, w_mull, w_mulr, w_u32, w_u16, w_u8, w_u32a, N_zero]; first | done | rfl))
    · skip
      have hil : i = l.length := by simp at c1; omega
      subst hil
      refine AWp.exit ?_
      simp only [thenQ, blockQ, reduceIte, Nat.reduceEqDiff]
      refine hK3 _ ?_
      refine AWp.regionW ?_
      refine AWp.ret ?_
      try simp only [thenQ, blockQ]
      refine bodyQ.m ?_
      clear hK5 K5 hK4 K4 hK3 K3 hK2 K2 hK1 K1
      refine endO.m ?_ ?_
      · rw [List.take_length]
      · skip
        first | done | exact Hand.go

@[push_cast] theorem plL_app (l m : List AV) : AV.plL (l ++ m) = (AV.plL l && AV.plL m) := by
  rw [Bool.eq_iff_iff, Bool.and_eq_true, AV.plL_iff, AV.plL_iff, AV.plL_iff]
  simp only [List.mem_append]
  exact ⟨fun h => ⟨fun x hx => h x (.inl hx), fun x hx => h x (.inr hx)⟩, fun h x hx => hx.elim (h.1 x) (h.2 x)⟩
theorem ids2 {a b : Ob} : ∀ k, k < [a, b].length → [0, 1][k]? = some k := by
  intro k hk
  have : k = 0 ∨ k = 1 := by simp at hk; omega
  rcases this with rfl | rfl <;> rfl
theorem missing1_c (t : Nat) (d : List UInt8) (ht : t < 2 ^ 16) (hd : d.length ≤ 2 ^ 40) :
    OC Try.prog 32 [u16 t, .ptr 0 0] [.box 25 [.own 1], .row 5 1 (bys d)] (.tup []) [.box 25 [.own 1], .row 5 1 (bys (d ++ putB 2 t))] := by
  have hp : PC Try.prog 27 [nat 2, .sl false 1 [u32 t]] (.sl true 1 (bys (putB 2 t))) := by
    have := wire_put 2 [t] (by omega) (by intro x hx; simp at hx; omega) (by simp)
    simpa [u32s, List.flatMap_cons, List.flatMap_nil] using this
  refine OC.of_body [0, 1] ids2 Try.func32 rfl (by rw [Try.ntmps32]; simp) ?_
  refine AWp.drE [[(1, none)], [(0, none)], [(4, some 1)], [(5, some 2)], [(6, some 3)]] fun G hG => ?_
  refine Dr.sim ?_
  refine Dr.sim ?_
  refine Dr.sim ?_
  refine Dr.build ?_
  refine Dr.call (hp) ?_
  refine Dr.finN (n := 5) [(3, 0), (7, 4)] [1] hG Ytmcedkcehcacpaa.Facts.mixed fun KD hKD => ?_
  refine ARun2.appendM ?_ ?_ ?_
  · rw [Ytmcedkcehcacpaa.Facts.eb25, bys_len, bys_len, putB_len]; omega
  · rw [bys_len, bys_len, putB_len]; omega
  refine ARun2.endm (hKD _ ?_); clear hKD KD hG G
  try simp only [thenQ, blockQ]
  refine bodyQ.n ?_
  refine endO.m ?_ ?_
  · simp only [bys_append]
  · skip
    first | done | exact Hand.go
end Go.Proofs.Ytmcedkcehcacpaa.C
