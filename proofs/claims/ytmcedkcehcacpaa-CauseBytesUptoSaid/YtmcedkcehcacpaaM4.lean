/- cause: right, Number, Value, Missing, Types, Chunk. -/
import Derived.Test.YtmcedkcehcacpaaM3
import Derived.Lib.ConvBytes
set_option linter.unusedVariables false
set_option linter.unusedSimpArgs false
namespace Go.Abs
@[push_cast] theorem GNode.ty_mk (t : Nat) (d : List UInt8) (k : List GNode) : (GNode.mk t d k).ty = t := rfl
@[push_cast] theorem GNode.data_mk (t : Nat) (d : List UInt8) (k : List GNode) : (GNode.mk t d k).data = d := rfl
@[push_cast] theorem GNode.kids_mk (t : Nat) (d : List UInt8) (k : List GNode) : (GNode.mk t d k).kids = k := rfl
@[push_cast] theorem GNode.zero_mk : GNode.zero = .mk 0 [] [] := rfl
end Go.Abs
namespace Go.Proofs.Ytmcedkcehcacpaa.C
open Go.Abs

theorem tlv_le : ∀ (l : List Nat) (s : Nat), sumUp s (l.map (4 + ·)) ≤ s + l.sum + 7 * l.length
  | [], s => by simp [sumUp]
  | n :: l, s => by
    have := tlv_le l (upN s + (4 + n))
    have h := gapN_le s
    simp only [List.map_cons, sumUp, List.length_cons, List.sum_cons, upN] at *
    omega
mutual
theorem vlen_sz : ∀ n : GNode, vlen n + 7 ≤ 8 * n.sz
  | .mk t d k => by
    have h1 := nLens_sz k
    have h2 := tlv_le (nLens k) 0
    have h3 : (nLens k).length = k.length := by rw [nLens_map]; simp
    simp only [vlen, GNode.sz, tlvSize] at *
    omega
theorem nLens_sz : ∀ l : List GNode, (nLens l).sum + 7 * l.length ≤ 8 * szs l
  | [] => by simp [nLens, szs]
  | n :: l => by
    have h1 := vlen_sz n
    have h2 := nLens_sz l
    simp only [nLens, szs, List.sum_cons, List.length_cons] at *
    omega
end
theorem nSize_sz (n : GNode) : nSize [n] ≤ 8 * n.sz := by
  have h := vlen_sz n
  have e : nSize [n] = 4 + vlen n := by simp [nSize, nLens, tlvSize, sumUp, upN, gapN]
  omega

/-- a right cause, or none -/
def rightN (n : GNode) (ok : Bool) : GNode × Bool := bif ok && (checkN 2 1 n == 0) then (n, true) else (.zero, false)

theorem right_c (n : GNode) (ok : Bool) (hs : n.sz ≤ 2 ^ 26) : PC Try.prog 26 [nodeA false n, bool ok] (.tup [nodeA false (rightN n ok).1, bool (rightN n ok).2]) := by
  have h1 := nSize_sz n
  refine PC.of_bodyW (by simp only [push_cast]) Try.func26 rfl (by rw [Try.ntmps26]; simp) ?_
  refine AWp.regionW ?_
  refine AWp.seqK fun K1 hK1 => ?_
  refine AWp.regionA fun K2 hK2 => ?_
  refine ARun.segm 3 fun KS hKS => ?_
  refine ARun2.endm (hKS _ ?_); clear hKS KS
  apply ARun.grpM 3 2 false 11 [2, 4, 8]
  · intro g2 KG hKG
    refine ARun2.gom ?_
    refine ARun2.callM (check_c 2 n (by omega) (by omega)) ?_
    exact ARun2.endm (hKG _ Le.grpM)
  refine ARun2.gom ?_
  refine ARun2.endm (hK2 _ ?_)
  refine AWp.condLM (fun c0 => ?_) (fun c0 => ?_)
  · skip
    have h0 : rightN n ok = (.zero, false) := by unfold rightN; cases ok <;> cases h : checkN 2 1 n == 0 <;> simp_all
    refine AWp.regionW ?_
    refine AWp.ret ?_
    try simp only [thenQ, blockQ]
    refine bodyQ.m ?_
    clear hK2 K2 hK1 K1
    rw [h0]
    first | done | exact Hand.go
  · skip
    have h0 : rightN n ok = (n, true) := by unfold rightN; cases ok <;> cases h : checkN 2 1 n == 0 <;> simp_all
    refine AWp.skip ?_
    refine hK1 _ ?_
    refine AWp.regionM fun K3 hK3 => ?_
    refine ARun2.callM (nclone_c n (by omega)) ?_
    refine ARun2.endm (hK3 _ ?_)
    refine AWp.ret ?_
    try simp only [thenQ, blockQ]
    refine bodyQ.m ?_
    clear hK3 K3 hK2 K2 hK1 K1
    rw [h0]
    first | done | exact Hand.go

/-- the numbers in the data, if they come out -/
def numsA (k : Nat) (l : List UInt8) : List Nat := if l.length % k = 0 then numsOf k l else []
theorem numbers_a (k : Nat) (l : List UInt8) (hk : k = 1 ∨ k = 2 ∨ k = 4) (hl : l.length ≤ 2 ^ 40) : PC Try.prog 29 [nat k, .sl false 1 (bys l)] (.sl true 1 (u32s (numsA k l))) := by
  unfold numsA
  split
  · rename_i h; exact numbers_n k l hk hl h
  · rename_i h; exact numbers_none k l hk hl h

/-- a cause with a number -/
def numberN (t v : Nat) : GNode × Bool :=
  if t = 1 then rightN (.mk t (putB 2 v ++ putB 2 0) []) (decide (v ≤ 65535))
  else if t = 3 ∨ t = 9 then rightN (.mk t (putB 4 v) []) true else rightN .zero false

theorem rightN_sz (n : GNode) (ok : Bool) : (rightN n ok).1.sz ≤ n.sz := by
  have := n.sz_eq
  unfold rightN
  cases ok && (checkN 2 1 n == 0) with
  | true => exact Nat.le_refl _
  | false => simp only [cond_false, GNode.zero, GNode.sz, szs, List.length_nil]; omega
theorem numberN_sz (t v : Nat) : (numberN t v).1.sz ≤ 5 := by
  unfold numberN
  split
  · refine Nat.le_trans (rightN_sz _ _) ?_; simp [GNode.sz, szs, putB_len]
  · split
    · refine Nat.le_trans (rightN_sz _ _) ?_; simp [GNode.sz, szs, putB_len]
    · refine Nat.le_trans (rightN_sz _ _) ?_; simp [GNode.zero, GNode.sz, szs]

theorem number_cc (t v : Nat) (hv : v < 2 ^ 32) : PC Try.prog 9 [u16 t, u32 v] (.tup [nodeA false (numberN t v).1, bool (numberN t v).2]) := by
  have hp2 : PC Try.prog 27 [nat 2, .sl false 1 [u32 v, u32 0]] (.sl true 1 (bys (putB 2 v ++ putB 2 0))) := by
    have := wire_put 2 [v, 0] (by omega) (by intro x hx; simp at hx; omega) (by simp)
    simpa [u32s, List.flatMap_cons, List.flatMap_nil] using this
  have hp4 : PC Try.prog 27 [nat 4, .sl false 1 [u32 v]] (.sl true 1 (bys (putB 4 v))) := by
    have := wire_put 4 [v] (by omega) (by intro x hx; simp at hx; omega) (by simp)
    simpa [u32s, List.flatMap_cons, List.flatMap_nil] using this
  have hz : ∀ k : Nat, k ≤ 4 → ∀ x : Nat, (GNode.mk t (putB k x) []).sz ≤ 2 ^ 26 := by intro k hk x; simp only [GNode.sz, szs, putB_len]; omega
  refine PC.of_bodyW (by simp only [push_cast]) Try.func9 rfl (by rw [Try.ntmps9]; simp) ?_
  refine AWp.regionW ?_
  refine AWp.seqK fun K1 hK1 => ?_
  refine AWp.regionW ?_
  refine AWp.block ?_
  refine AWp.regionW ?_
  refine AWp.condLM (fun c0 => ?_) (fun c0 => ?_)
  · skip
    have h0 : t = 1 := by simpa using c0
    refine AWp.regionM fun K2 hK2 => ?_
    refine ARun2.callM (hp2) ?_
    refine ARun2.callM (right_c (.mk t (putB 2 v ++ putB 2 0) []) (decide (v ≤ 65535)) (by simp [GNode.sz, szs, putB_len])) ?_
    refine ARun2.endm (hK2 _ ?_)
    refine AWp.ret ?_
    try simp only [thenQ, blockQ]
    refine bodyQ.m ?_
    clear hK2 K2 hK1 K1
    rw [numberN, if_pos h0]
    first | done | exact Hand.go
  · skip
    have h0 : ¬ t = 1 := by simpa using c0
    refine AWp.seqK fun K3 hK3 => ?_
    refine AWp.regionW ?_
    refine AWp.condLM (fun c1 => ?_) (fun c1 => ?_)
    · skip
      refine AWp.skip ?_
      refine hK3 _ ?_
      refine AWp.condT ?_
      refine AWp.regionM fun K4 hK4 => ?_
      refine ARun2.callM (hp4) ?_
      refine ARun2.callM (right_c (.mk t (putB 4 v) []) true (hz 4 (by omega) v)) ?_
      refine ARun2.endm (hK4 _ ?_)
      refine AWp.ret ?_
      try simp only [thenQ, blockQ]
      refine bodyQ.m ?_
      clear hK4 K4 hK3 K3 hK1 K1
      simp_all [numberN]
      first | done | exact Hand.go
    · skip
      refine AWp.regionV ?_
      refine hK3 _ ?_
      refine AWp.condLM (fun c2 => ?_) (fun c2 => ?_)
      · skip
        refine AWp.regionM fun K5 hK5 => ?_
        refine ARun2.callM (hp4) ?_
        refine ARun2.callM (right_c (.mk t (putB 4 v) []) true (hz 4 (by omega) v)) ?_
        refine ARun2.endm (hK5 _ ?_)
        refine AWp.ret ?_
        try simp only [thenQ, blockQ]
        refine bodyQ.m ?_
        clear hK5 K5 hK3 K3 hK1 K1
        simp_all [numberN]
        first | done | exact Hand.go
      · skip
        refine AWp.skip ?_
        refine hK1 _ ?_
        refine AWp.regionM fun K6 hK6 => ?_
        refine ARun2.callM (right_c .zero false (by simp [GNode.zero, GNode.sz, szs])) ?_
        refine ARun2.endm (hK6 _ ?_)
        refine AWp.ret ?_
        try simp only [thenQ, blockQ]
        refine bodyQ.m ?_
        clear hK6 K6 hK3 K3 hK1 K1
        simp_all [numberN]
        first | done | exact Hand.go
end Go.Proofs.Ytmcedkcehcacpaa.C

/- cause: Value, Missing, Types, Chunk. -/
set_option linter.unusedVariables false
set_option linter.unusedSimpArgs false
namespace Go.Proofs.Ytmcedkcehcacpaa.C
open Go.Abs

def u16s (l : List Nat) : List AV := l.map u16
@[push_cast] theorem u16s_hand (ids : List Nat) (l : List Nat) : AV.handL ids (u16s l) = u16s l := by
  rw [AV.handL_map]; simp [u16s, AV.hand]
@[push_cast] theorem u16s_len (l : List Nat) : (u16s l).length = l.length := by simp [u16s]
theorem u16s_at (l : List Nat) (i : Nat) (h : i < l.length) : (u16s l)[i]? = some (u16 l[i]) := by simp [u16s, h]
theorem u32s_at (l : List Nat) (i : Nat) (h : i < l.length) : (u32s l)[i]? = some (u32 l[i]) := by simp [u32s, h]
theorem u16s_snoc (l : List Nat) (n : Nat) : u16s (l ++ [n]) = u16s l ++ [u16 n] := by simp [u16s]
@[push_cast] theorem u16s_nil : u16s [] = [] := rfl
@[push_cast] theorem u16s_pl (l : List Nat) : AV.plL (u16s l) = true := by
  rw [AV.plL_iff]; intro x hx; simp only [u16s, List.mem_map] at hx; obtain ⟨b, _, rfl⟩ := hx; rfl
@[push_cast] theorem u16s_ids (p : Nat → Bool) (l : List Nat) : AV.idsOkL p (u16s l) = true := by
  rw [AV.idsOkL_iff]; intro x hx; simp only [u16s, List.mem_map] at hx; obtain ⟨b, _, rfl⟩ := hx; rfl
theorem beN_lt2 (l : List UInt8) (k : Nat) (h : l.length ≤ k) : beN l < 256 ^ k := by
  have := beN_lt l
  exact Nat.lt_of_lt_of_le this (Nat.pow_le_pow_right (by omega) h)
theorem numsA_len (k : Nat) (l : List UInt8) : (numsA k l).length ≤ l.length := by
  unfold numsA
  split
  · rw [nums_len]; exact Nat.div_le_self _ _
  · simp
theorem numsA_lt {k : Nat} {l : List UInt8} {x : Nat} (h : x ∈ numsA k l) : x < 256 ^ k := by
  unfold numsA at h
  split at h
  · simp only [numsOf, List.mem_map] at h
    obtain ⟨i, _, rfl⟩ := h
    exact beN_lt2 _ _ (List.length_take_le _ _)
  · simp at h

/-- a cause's number -/
def valueN (n : GNode) : Nat × Bool :=
  match numsA (if n.ty = 1 then 2 else 4) n.data with
  | [] => (0, false)
  | v :: _ => if ((numberN n.ty v).2 && sameN (numberN n.ty v).1 n) = true then (v, true) else (0, false)

theorem value_key (n : GNode) (k : Nat) (hs : n.sz ≤ 2 ^ 26) (hk : (if n.ty = 1 then 2 else 4) = k) : ∃ ns : List Nat, PC Try.prog 29 [nat k, .sl false 1 (bys n.data)] (.sl true 1 (u32s ns)) ∧ ns.length ≤ 2 ^ 26 ∧ (∀ h : 0 < ns.length, ns[0] < 2 ^ 32) ∧
    (ns.length = 0 → valueN n = (0, false)) ∧ ∀ h : 0 < ns.length, valueN n = if ((numberN n.ty ns[0]).2 && sameN (numberN n.ty ns[0]).1 n) = true then (ns[0], true) else (0, false) := by
  have hsz := n.sz_eq
  have hk2 : k = 2 ∨ k = 4 := by split at hk <;> omega
  refine ⟨numsA k n.data, numbers_a k n.data (by omega) (by omega), by have := numsA_len k n.data; omega, ?_, ?_, ?_⟩
  · intro h
    have := numsA_lt (List.getElem_mem h)
    rcases hk2 with rfl | rfl <;> omega
  · intro h
    unfold valueN; rw [hk, List.length_eq_zero_iff.1 h]
  · intro h
    unfold valueN; rw [hk]
    revert h
    generalize numsA k n.data = ns
    intro h
    cases ns with
    | nil => simp at h
    | cons a l => rfl

theorem value_c (n : GNode) (hs : n.sz ≤ 2 ^ 26) : PC Try.prog 13 [nodeA false n] (.tup [u32 (valueN n).1, bool (valueN n).2]) := by
  refine PC.of_bodyW (by simp only [push_cast]) Try.func13 rfl (by rw [Try.ntmps13]; simp) ?_
  refine AWp.regionW ?_
  refine AWp.regionW ?_
  refine AWp.seqK fun K1 hK1 => ?_
  refine AWp.regionW ?_
  refine AWp.condLM (fun c0 => ?_) (fun c0 => ?_)
  · skip
    obtain ⟨ns, hnum, hlen, hlt, hv0, hv1⟩ := value_key n 2 hs (if_pos (by simpa using c0))
    refine AWp.regionV ?_
    refine hK1 _ ?_
    refine AWp.seqK fun K2 hK2 => ?_
    refine AWp.regionM fun K3 hK3 => ?_
    refine ARun2.callM (hnum) ?_
    refine ARun2.endm (hK3 _ ?_)
    refine AWp.block ?_
    refine AWp.loopK0 [1, 15, 16] (fun (i : Nat) => [(17, nat i)]) (fun i => i = 0) (fun i => 0) (0) ?_ rfl ?_
    · skip
      refine Le.m 1 ?_ ?_
      · first | with_reducible rfl | (simp only [push_cast, reduceIte, Nat.reduceEqDiff, Nat.reduceLT, Nat.reduceAdd, Nat.reduceSub, Nat.reduceMul, Nat.reduceLeDiff, Nat.reducePow, Int.reduceLT, Int.reduceToNat, reduceCtorEq, Int.reduceNeg, Int.reduceEq, Nat.reduceBEq, Nat.reduceBNe, Int.reduceBEq, Int.reduceBNe, String.reduceEq]; first | done | rfl | (simp (disch := omega) only [w_nat, w_add, w_addl, w_addr, w_sub, w_subl, w_mul, w_mull, w_mulr, w_u32, w_u16, w_u8, w_u32a, N_zero]; first | done | rfl))
      · first | (simp only [push_cast, reduceIte, Nat.reduceEqDiff, Nat.reduceLT, Nat.reduceAdd, Nat.reduceSub, Nat.reduceMul, Nat.reduceLeDiff, Nat.reducePow, Int.reduceLT, Int.reduceToNat, reduceCtorEq, Int.reduceNeg, Int.reduceEq, Nat.reduceBEq, Nat.reduceBNe, Int.reduceBEq, Int.reduceBNe, String.reduceEq]; first | done | rfl | (simp (disch := omega) only [w_nat, w_add, w_addl, w_addr, w_sub, w_subl, w_mul, w_mull, w_mulr, w_u32, w_u16, w_u8, w_u32a, N_zero]; first | done | rfl))
    · intro i hi K4 hK4
      refine AWp.regionW ?_
      refine AWp.seqK fun K5 hK5 => ?_
      refine AWp.condLM (fun c1 => ?_) (fun c1 => ?_)
      · skip
        subst hi
        have hil : 0 < ns.length := by simpa using c1
        have hl2 := hlt hil
        have hv := hv1 hil
        have hz := numberN_sz n.ty ns[0]
        refine AWp.skip ?_
        refine hK5 _ ?_
        refine AWp.seqK fun K6 hK6 => ?_
        refine AWp.block ?_
        refine AWp.regionM fun K7 hK7 => ?_
        refine ARun2.indexM (0) (u32 ns[0]) ?_ ?_
        · exact u32s_at _ _ hil
        refine ARun2.endm (hK7 _ ?_)
        refine AWp.regionM fun K8 hK8 => ?_
        refine ARun2.callM (number_cc n.ty ns[0] hl2) ?_
        refine ARun2.endm (hK8 _ ?_)
        refine AWp.seqK fun K9 hK9 => ?_
        refine AWp.regionA fun K10 hK10 => ?_
        refine ARun.segm 2 fun KS hKS => ?_
        refine ARun2.endm (hKS _ ?_); clear hKS KS
        apply ARun.grpM 3 1 true 32 [6, 29]
        · intro g1 KG hKG
          refine ARun2.gom ?_
          refine ARun2.callM (same_c (numberN n.ty ns[0]).1 n (by omega)) ?_
          exact ARun2.endm (hKG _ Le.grpM)
        refine ARun2.gom ?_
        refine ARun2.endm (hK10 _ ?_)
        refine AWp.condLM (fun c2 => ?_) (fun c2 => ?_)
        · skip
          have hc : ((numberN n.ty ns[0]).2 && sameN (numberN n.ty ns[0]).1 n) = true := by first | exact c2 | simpa using c2
          rw [if_pos hc] at hv
          refine AWp.regionW ?_
          refine AWp.ret ?_
          try simp only [thenQ, blockQ]
          refine bodyQ.m ?_
          clear hK10 K10 hK9 K9 hK8 K8 hK7 K7 hK6 K6 hK5 K5 hK4 K4 hK3 K3 hK2 K2 hK1 K1
          rw [hv]
          first | done | exact Hand.go
        · skip
          have hc : ¬ ((numberN n.ty ns[0]).2 && sameN (numberN n.ty ns[0]).1 n) = true := by first | exact c2 | simpa using c2
          rw [if_neg hc] at hv
          refine AWp.skip ?_
          refine hK9 _ ?_
          refine AWp.exit ?_
          simp only [thenQ, blockQ, reduceIte, Nat.reduceEqDiff]
          refine hK2 _ ?_
          refine AWp.regionW ?_
          refine AWp.ret ?_
          try simp only [thenQ, blockQ]
          refine bodyQ.m ?_
          clear hK10 K10 hK9 K9 hK8 K8 hK7 K7 hK6 K6 hK5 K5 hK4 K4 hK3 K3 hK2 K2 hK1 K1
          rw [hv]
          first | done | exact Hand.go
      · skip
        subst hi
        have hn0 : ¬ 0 < ns.length := by first | exact of_decide_eq_false c1 | simpa using c1
        have hv := hv0 (by omega)
        refine AWp.exit ?_
        simp only [thenQ, blockQ, reduceIte, Nat.reduceEqDiff]
        refine hK2 _ ?_
        refine AWp.regionW ?_
        refine AWp.ret ?_
        try simp only [thenQ, blockQ]
        refine bodyQ.m ?_
        clear hK5 K5 hK4 K4 hK3 K3 hK2 K2 hK1 K1
        rw [hv]
        first | done | exact Hand.go
  · skip
    obtain ⟨ns, hnum, hlen, hlt, hv0, hv1⟩ := value_key n 4 hs (if_neg (by simpa using c0))
    refine AWp.skip ?_
    refine hK1 _ ?_
    refine AWp.seqK fun K11 hK11 => ?_
    refine AWp.regionM fun K12 hK12 => ?_
    refine ARun2.callM (hnum) ?_
    refine ARun2.endm (hK12 _ ?_)
    refine AWp.block ?_
    refine AWp.loopK0 [1, 15, 16] (fun (i : Nat) => [(17, nat i)]) (fun i => i = 0) (fun i => 0) (0) ?_ rfl ?_
    · skip
      refine Le.m 1 ?_ ?_
      · first | with_reducible rfl | (simp only [push_cast, reduceIte, Nat.reduceEqDiff, Nat.reduceLT, Nat.reduceAdd, Nat.reduceSub, Nat.reduceMul, Nat.reduceLeDiff, Nat.reducePow, Int.reduceLT, Int.reduceToNat, reduceCtorEq, Int.reduceNeg, Int.reduceEq, Nat.reduceBEq, Nat.reduceBNe, Int.reduceBEq, Int.reduceBNe, String.reduceEq]; first | done | rfl | (simp (disch := omega) only [w_nat, w_add, w_addl, w_addr, w_sub, w_subl, w_mul, w_mull, w_mulr, w_u32, w_u16, w_u8, w_u32a, N_zero]; first | done | rfl))
      · first | (simp only [push_cast, reduceIte, Nat.reduceEqDiff, Nat.reduceLT, Nat.reduceAdd, Nat.reduceSub, Nat.reduceMul, Nat.reduceLeDiff, Nat.reducePow, Int.reduceLT, Int.reduceToNat, reduceCtorEq, Int.reduceNeg, Int.reduceEq, Nat.reduceBEq, Nat.reduceBNe, Int.reduceBEq, Int.reduceBNe, String.reduceEq]; first | done | rfl | (simp (disch := omega) only [w_nat, w_add, w_addl, w_addr, w_sub, w_subl, w_mul, w_mull, w_mulr, w_u32, w_u16, w_u8, w_u32a, N_zero]; first | done | rfl))
    · intro i hi K13 hK13
      refine AWp.regionW ?_
      refine AWp.seqK fun K14 hK14 => ?_
      refine AWp.condLM (fun c1 => ?_) (fun c1 => ?_)
      · skip
        subst hi
        have hil : 0 < ns.length := by simpa using c1
        have hl2 := hlt hil
        have hv := hv1 hil
        have hz := numberN_sz n.ty ns[0]
        refine AWp.skip ?_
        refine hK14 _ ?_
        refine AWp.seqK fun K15 hK15 => ?_
        refine AWp.block ?_
        refine AWp.regionM fun K16 hK16 => ?_
        refine ARun2.indexM (0) (u32 ns[0]) ?_ ?_
        · exact u32s_at _ _ hil
        refine ARun2.endm (hK16 _ ?_)
        refine AWp.regionM fun K17 hK17 => ?_
        refine ARun2.callM (number_cc n.ty ns[0] hl2) ?_
        refine ARun2.endm (hK17 _ ?_)
        refine AWp.seqK fun K18 hK18 => ?_
        refine AWp.regionA fun K19 hK19 => ?_
        refine ARun.segm 2 fun KS hKS => ?_
        refine ARun2.endm (hKS _ ?_); clear hKS KS
        apply ARun.grpM 3 1 true 32 [6, 29]
        · intro g1 KG hKG
          refine ARun2.gom ?_
          refine ARun2.callM (same_c (numberN n.ty ns[0]).1 n (by omega)) ?_
          exact ARun2.endm (hKG _ Le.grpM)
        refine ARun2.gom ?_
        refine ARun2.endm (hK19 _ ?_)
        refine AWp.condLM (fun c2 => ?_) (fun c2 => ?_)
        · skip
          have hc : ((numberN n.ty ns[0]).2 && sameN (numberN n.ty ns[0]).1 n) = true := by first | exact c2 | simpa using c2
          rw [if_pos hc] at hv
          refine AWp.regionW ?_
          refine AWp.ret ?_
          try simp only [thenQ, blockQ]
          refine bodyQ.m ?_
          clear hK19 K19 hK18 K18 hK17 K17 hK16 K16 hK15 K15 hK14 K14 hK13 K13 hK12 K12 hK11 K11 hK1 K1
          rw [hv]
          first | done | exact Hand.go
        · skip
          have hc : ¬ ((numberN n.ty ns[0]).2 && sameN (numberN n.ty ns[0]).1 n) = true := by first | exact c2 | simpa using c2
          rw [if_neg hc] at hv
          refine AWp.skip ?_
          refine hK18 _ ?_
          refine AWp.exit ?_
          simp only [thenQ, blockQ, reduceIte, Nat.reduceEqDiff]
          refine hK11 _ ?_
          refine AWp.regionW ?_
          refine AWp.ret ?_
          try simp only [thenQ, blockQ]
          refine bodyQ.m ?_
          clear hK19 K19 hK18 K18 hK17 K17 hK16 K16 hK15 K15 hK14 K14 hK13 K13 hK12 K12 hK11 K11 hK1 K1
          rw [hv]
          first | done | exact Hand.go
      · skip
        subst hi
        have hn0 : ¬ 0 < ns.length := by first | exact of_decide_eq_false c1 | simpa using c1
        have hv := hv0 (by omega)
        refine AWp.exit ?_
        simp only [thenQ, blockQ, reduceIte, Nat.reduceEqDiff]
        refine hK11 _ ?_
        refine AWp.regionW ?_
        refine AWp.ret ?_
        try simp only [thenQ, blockQ]
        refine bodyQ.m ?_
        clear hK14 K14 hK13 K13 hK12 K12 hK11 K11 hK1 K1
        rw [hv]
        first | done | exact Hand.go

theorem wire_put_o (k : Nat) (l : List Nat) (hk : k = 1 ∨ k = 2 ∨ k = 4) (hl : ∀ x ∈ l, x < 2 ^ 32) (hn : l.length ≤ 2 ^ 30) :
    OC Try.prog 27 [nat k, .sl false 1 (u32s l)] [] (.own 0) [.row 5 1 (bys (l.flatMap (putB k)))] := by
  have hr : (k == 1 || k == 2 || k == 4) = true := by rcases hk with rfl | rfl | rfl <;> rfl
  refine OC.of_body [0] (by intro k hk; simp at hk) Try.func27 rfl (by rw [Try.ntmps27]; simp) ?_
  refine AWp.regionW ?_
  refine AWp.seqK fun K1 hK1 => ?_
  refine AWp.regionM fun K2 hK2 => ?_
  refine ARun2.callM (wire_right k) ?_
  refine ARun2.endm (hK2 _ ?_)
  refine AWp.condF ?_ (by simp only [push_cast, reduceIte, Nat.reduceEqDiff, Nat.reduceLT, Nat.reduceAdd, Nat.reduceSub, Nat.reduceMul, Nat.reduceLeDiff, Nat.reducePow, Int.reduceLT, Int.reduceToNat, reduceCtorEq, Int.reduceNeg, Int.reduceEq, Nat.reduceBEq, Nat.reduceBNe, Int.reduceBEq, Int.reduceBNe, String.reduceEq, hr])
  refine AWp.skip ?_
  refine hK1 _ ?_
  refine AWp.regionW ?_
  refine AWp.seqK fun K3 hK3 => ?_
  refine AWp.regionW ?_
  refine AWp.block ?_
  -- SLOTS THAT TURN AND ARE NOT TOLD: [5]
  refine AWp.nilOwn 5 5 1 (by simp only [push_cast, reduceIte, Nat.reduceEqDiff, Nat.reduceLT, Nat.reduceAdd, Nat.reduceSub, Nat.reduceMul, Nat.reduceLeDiff, Nat.reducePow, Int.reduceLT, Int.reduceToNat, reduceCtorEq, Int.reduceNeg, Int.reduceEq, Nat.reduceBEq, Nat.reduceBNe, Int.reduceBEq, Int.reduceBNe, String.reduceEq]) ?_
  simp only [push_cast, reduceIte, Nat.reduceEqDiff, Nat.reduceLT, Nat.reduceAdd, Nat.reduceSub, Nat.reduceMul, Nat.reduceLeDiff, Nat.reducePow, Int.reduceLT, Int.reduceToNat, reduceCtorEq, Int.reduceNeg, Int.reduceEq, Nat.reduceBEq, Nat.reduceBNe, Int.reduceBEq, Int.reduceBNe, String.reduceEq]
  refine AWp.loopK [0, 5, 12, 13] (fun (i : Nat) => [(14, nat i)]) (fun i => [.row 5 1 (bys ((l.take i).flatMap (putB k)))]) (fun i => i ≤ l.length) (fun i => l.length - i) (0) ?_ (Nat.zero_le _) ?_
  · skip
    refine Le.m 1 ?_ ?_
    · first | with_reducible rfl | (simp only [push_cast, reduceIte, Nat.reduceEqDiff, Nat.reduceLT, Nat.reduceAdd, Nat.reduceSub, Nat.reduceMul, Nat.reduceLeDiff, Nat.reducePow, Int.reduceLT, Int.reduceToNat, reduceCtorEq, Int.reduceNeg, Int.reduceEq, Nat.reduceBEq, Nat.reduceBNe, Int.reduceBEq, Int.reduceBNe, String.reduceEq]; first | done | rfl | (simp (disch := omega) only [w_nat, w_add, w_addl, w_addr, w_sub, w_subl, w_mul, w_mull, w_mulr, w_u32, w_u16, w_u8, w_u32a, N_zero]; first | done | rfl))
    · first | (simp only [push_cast, reduceIte, Nat.reduceEqDiff, Nat.reduceLT, Nat.reduceAdd, Nat.reduceSub, Nat.reduceMul, Nat.reduceLeDiff, Nat.reducePow, Int.reduceLT, Int.reduceToNat, reduceCtorEq, Int.reduceNeg, Int.reduceEq, Nat.reduceBEq, Nat.reduceBNe, Int.reduceBEq, Int.reduceBNe, String.reduceEq]; first | done | rfl | (simp (disch := omega) only [w_nat, w_add, w_addl, w_addr, w_sub, w_subl, w_mul, w_mull, w_mulr, w_u32, w_u16, w_u8, w_u32a, N_zero]; first | done | rfl))
  · intro i hi K4 hK4
    refine AWp.regionW ?_
    refine AWp.seqK fun K5 hK5 => ?_
    refine AWp.condLM (fun c1 => ?_) (fun c1 => ?_)
    · skip
      have hil : i < l.length := by simpa using c1
      have hx32 := hl l[i] (List.getElem_mem hil)
      generalize hxe : l[i] = x at hx32
      refine AWp.skip ?_
      refine hK5 _ ?_
      refine AWp.seqK fun K6 hK6 => ?_
      refine AWp.block ?_
      refine AWp.regionM fun K7 hK7 => ?_
      refine ARun2.indexM (i) (u32 x) ?_ ?_
      · rw [u32s_get, List.getElem?_eq_getElem hil, hxe]; rfl
      refine ARun2.endm (hK7 _ ?_)
      refine AWp.regionW ?_
      refine AWp.block ?_
      -- SLOTS THAT TURN AND ARE NOT TOLD: [5]
      refine AWp.loopK [0, 5, 7, 12, 13, 14] (fun (j : Nat) => [(8, .val (.int .i64 (N j - 1)))]) (fun j => [.row 5 1 (bys ((l.take i).flatMap (putB k) ++ (putB k x).take (k - j)))]) (fun j => j ≤ k) (fun j => j) (k) ?_ (Nat.le_refl _) ?_
      · skip
        refine Le.m 1 ?_ ?_
        · try simp only [push_cast, reduceIte, Nat.reduceEqDiff, Nat.reduceLT, Nat.reduceAdd, Nat.reduceSub, Nat.reduceMul, Nat.reduceLeDiff, Nat.reducePow, Int.reduceLT, Int.reduceToNat, reduceCtorEq, Int.reduceNeg, Int.reduceEq, Nat.reduceBEq, Nat.reduceBNe, Int.reduceBEq, Int.reduceBNe, String.reduceEq]
          try simp (disch := omega) only [w_nat, w_add, w_addl, w_addr, w_sub, w_subl, w_mul, w_mull, w_mulr, w_u32, w_u16, w_u8, w_u32a, N_zero]
          first | done | skip
          simp
        · simp only [push_cast, reduceIte, Nat.reduceEqDiff, Nat.reduceLT, Nat.reduceAdd, Nat.reduceSub, Nat.reduceMul, Nat.reduceLeDiff, Nat.reducePow, Int.reduceLT, Int.reduceToNat, reduceCtorEq, Int.reduceNeg, Int.reduceEq, Nat.reduceBEq, Nat.reduceBNe, Int.reduceBEq, Int.reduceBNe, String.reduceEq]
          try simp (disch := omega) only [w_nat, w_add, w_addl, w_addr, w_sub, w_subl, w_mul, w_mull, w_mulr, w_u32, w_u16, w_u8, w_u32a, N_zero]
          simp only [N_pred0 k (by omega)]
      · intro j hj K8 hK8
        refine AWp.seqK fun K9 hK9 => ?_
        refine AWp.regionW ?_
        refine AWp.condLM (fun c2 => ?_) (fun c2 => ?_)
        · skip
          have hj1 : 1 ≤ j := by have h := of_decide_eq_true c2; rwa [N_ge] at h
          obtain ⟨j, rfl⟩ : ∃ j', j = j' + 1 := ⟨j - 1, by omega⟩
          simp only [N_pred]
          refine AWp.skip ?_
          refine hK9 _ ?_
          refine AWp.seqK fun K10 hK10 => ?_
          refine AWp.block ?_
          refine AWp.regionN fun K11 hK11 => ?_
          rw [put_byte x j (by omega)]
          have hlen : ((l.take i).flatMap (putB k) ++ (putB k x).take (k - (j + 1))).length ≤ 2 ^ 33 := by
            rw [List.length_append, flat_len2, List.length_take, List.length_take, putB_len]
            have : min i l.length * k ≤ 2 ^ 30 * 4 := Nat.mul_le_mul (by omega) (by omega)
            omega
          refine ARun2.appendM ?_ ?_ ?_
          · rw [Ytmcedkcehcacpaa.Facts.eb25, bys_len, List.length_cons, List.length_nil]; omega
          · rw [bys_len, List.length_cons, List.length_nil]; omega
          refine ARun2.endm (hK11 _ ?_)
          refine hK10 _ ?_
          refine AWp.regionV ?_
          refine hK8 _ (j) (by omega) (by omega) ?_
          refine Le.m 1 ?_ ?_
          · try simp only [push_cast, reduceIte, Nat.reduceEqDiff, Nat.reduceLT, Nat.reduceAdd, Nat.reduceSub, Nat.reduceMul, Nat.reduceLeDiff, Nat.reducePow, Int.reduceLT, Int.reduceToNat, reduceCtorEq, Int.reduceNeg, Int.reduceEq, Nat.reduceBEq, Nat.reduceBNe, Int.reduceBEq, Int.reduceBNe, String.reduceEq]
            try simp (disch := omega) only [w_nat, w_add, w_addl, w_addr, w_sub, w_subl, w_mul, w_mull, w_mulr, w_u32, w_u16, w_u8, w_u32a, N_zero]
            first | done | skip
            rw [putB_take k x j (by omega), ← List.append_assoc, ← bys_snoc]
          · simp only [push_cast, reduceIte, Nat.reduceEqDiff, Nat.reduceLT, Nat.reduceAdd, Nat.reduceSub, Nat.reduceMul, Nat.reduceLeDiff, Nat.reducePow, Int.reduceLT, Int.reduceToNat, reduceCtorEq, Int.reduceNeg, Int.reduceEq, Nat.reduceBEq, Nat.reduceBNe, Int.reduceBEq, Int.reduceBNe, String.reduceEq]
            try simp (disch := omega) only [w_nat, w_add, w_addl, w_addr, w_sub, w_subl, w_mul, w_mull, w_mulr, w_u32, w_u16, w_u8, w_u32a, N_zero]
            rw [show IntKind.i64.wrap (N j - 1) = N j - 1 from w64 (by unfold N; omega) (by unfold N; omega)]
        · skip
          have hj0 : j = 0 := by have h := of_decide_eq_false c2; rw [N_ge] at h; omega
          subst hj0
          refine AWp.exit ?_
          simp only [thenQ, blockQ, reduceIte, Nat.reduceEqDiff]
          refine hK6 _ ?_
          refine AWp.regionV ?_
          refine hK4 _ (i + 1) (by omega) (by omega) ?_
          refine Le.m 1 ?_ ?_
          · try simp only [push_cast, reduceIte, Nat.reduceEqDiff, Nat.reduceLT, Nat.reduceAdd, Nat.reduceSub, Nat.reduceMul, Nat.reduceLeDiff, Nat.reducePow, Int.reduceLT, Int.reduceToNat, reduceCtorEq, Int.reduceNeg, Int.reduceEq, Nat.reduceBEq, Nat.reduceBNe, Int.reduceBEq, Int.reduceBNe, String.reduceEq]
            try simp (disch := omega) only [w_nat, w_add, w_addl, w_addr, w_sub, w_subl, w_mul, w_mull, w_mulr, w_u32, w_u16, w_u8, w_u32a, N_zero]
            first | done | skip
            have hfull : (putB k x).take k = putB k x := List.take_of_length_le (by rw [putB_len]; exact Nat.le_refl _)
            rw [List.take_succ_eq_append_getElem hil, List.flatMap_append, hxe, Nat.sub_zero, hfull]; simp
          · first | (simp only [push_cast, reduceIte, Nat.reduceEqDiff, Nat.reduceLT, Nat.reduceAdd, Nat.reduceSub, Nat.reduceMul, Nat.reduceLeDiff, Nat.reducePow, Int.reduceLT, Int.reduceToNat, reduceCtorEq, Int.reduceNeg, Int.reduceEq, Nat.reduceBEq, Nat.reduceBNe, Int.reduceBEq, Int.reduceBNe, String.reduceEq]; first | done | rfl | (simp (disch := omega) only [w_nat, w_add, w_addl, w_addr, w_sub, w_subl, w_mul, w_mull, w_mulr, w_u32, w_u16, w_u8, w_u32a, N_zero]; first | done | rfl))
    · skip
      have hil : i = l.length := by simp at c1; omega
      subst hil
      refine AWp.exit ?_
      simp only [thenQ, blockQ, reduceIte, Nat.reduceEqDiff]
      refine hK3 _ ?_
      refine AWp.regionW ?_
      refine AWp.ret ?_
      try simp only [thenQ, blockQ]
      refine bodyQ.m ?_
      clear hK5 K5 hK4 K4 hK3 K3 hK2 K2 hK1 K1
      refine endO.m ?_ ?_
      · rw [List.take_length]
      · skip
        first | done | exact Hand.go

@[push_cast] theorem plL_app (l m : List AV) : AV.plL (l ++ m) = (AV.plL l && AV.plL m) := by
  rw [Bool.eq_iff_iff, Bool.and_eq_true, AV.plL_iff, AV.plL_iff, AV.plL_iff]
  simp only [List.mem_append]
  exact ⟨fun h => ⟨fun x hx => h x (.inl hx), fun x hx => h x (.inr hx)⟩, fun h x hx => hx.elim (h.1 x) (h.2 x)⟩
theorem ids2 {a b : Ob} : ∀ k, k < [a, b].length → [0, 1][k]? = some k := by
  intro k hk
  have : k = 0 ∨ k = 1 := by simp at hk; omega
  rcases this with rfl | rfl <;> rfl
theorem missing1_c (t : Nat) (d : List UInt8) (ht : t < 2 ^ 16) (hd : d.length ≤ 2 ^ 40) :
    OC Try.prog 32 [u16 t, .ptr 0 0] [.box 25 [.own 1], .row 5 1 (bys d)] (.tup []) [.box 25 [.own 1], .row 5 1 (bys (d ++ putB 2 t))] := by
  have hp : PC Try.prog 27 [nat 2, .sl false 1 [u32 t]] (.sl true 1 (bys (putB 2 t))) := by
    have := wire_put 2 [t] (by omega) (by intro x hx; simp at hx; omega) (by simp)
    simpa [u32s, List.flatMap_cons, List.flatMap_nil] using this
  refine OC.of_body [0, 1] ids2 Try.func32 rfl (by rw [Try.ntmps32]; simp) ?_
  refine AWp.drE [[(1, none)], [(0, none)], [(4, some 1)], [(5, some 2)], [(6, some 3)]] fun G hG => ?_
  refine Dr.sim ?_
  try simp only [List.cons_append, List.nil_append]
  refine Dr.sim ?_
  try simp only [List.cons_append, List.nil_append]
  refine Dr.sim ?_
  try simp only [List.cons_append, List.nil_append]
  refine Dr.build ?_
  try simp only [List.cons_append, List.nil_append]
  refine Dr.call (hp) ?_
  try simp only [List.cons_append, List.nil_append]
  refine Dr.finN (n := 5) [(3, 0), (7, 4)] [1] hG Ytmcedkcehcacpaa.Facts.mixed fun KD hKD => ?_
  refine ARun2.appendM ?_ ?_ ?_
  · rw [Ytmcedkcehcacpaa.Facts.eb25, bys_len, bys_len, putB_len]; omega
  · rw [bys_len, bys_len, putB_len]; omega
  refine ARun2.endm (hKD _ ?_); clear hKD KD hG G
  try simp only [thenQ, blockQ]
  refine bodyQ.n ?_
  refine endO.m ?_ ?_
  · simp only [bys_append]
  · skip
    first | done | exact Hand.go
end Go.Proofs.Ytmcedkcehcacpaa.C

/- cause: Missing, Types, Chunk. -/
set_option linter.unusedVariables false
set_option linter.unusedSimpArgs false
namespace Go.Proofs.Ytmcedkcehcacpaa.C
open Go.Abs

/-- the cause of missing elements -/
def missingD (ts : List Nat) : List UInt8 := putB 4 ts.length ++ ts.flatMap (putB 2)
def missingN (ts : List Nat) : GNode × Bool := rightN (.mk 2 (missingD ts) []) true
theorem missingD_len (ts : List Nat) : (missingD ts).length = 4 + ts.length * 2 := by rw [missingD, List.length_append, putB_len, flat_len2]

theorem missing_c (ts : List Nat) (hl : ts.length ≤ 2 ^ 22) (ht : ∀ t ∈ ts, t < 2 ^ 16) : PC Try.prog 19 [.sl false 1 (u16s ts)] (.tup [nodeA false (missingN ts).1, bool (missingN ts).2]) := by
  have hp : OC Try.prog 27 [nat 4, .sl false 1 [u32 ts.length]] [] (.own 0) [.row 5 1 (bys (putB 4 ts.length))] := by
    have := wire_put_o 4 [ts.length] (by omega) (by intro x hx; simp at hx; omega) (by simp)
    simpa [u32s, List.flatMap_cons, List.flatMap_nil] using this
  refine PC.of_bodyW (by simp only [push_cast]) Try.func19 rfl (by rw [Try.ntmps19]; simp) ?_
  refine AWp.regionW ?_
  refine AWp.regionM fun K1 hK1 => ?_
  refine ARun2.callOM [] (hp) ?_
  refine ARun2.endm (hK1 _ ?_)
  refine AWp.regionW ?_
  refine AWp.seqK fun K2 hK2 => ?_
  refine AWp.regionW ?_
  refine AWp.block ?_
  refine AWp.loopK [2, 4, 5, 14, 15] (fun (i : Nat) => [(16, nat i)]) (fun i => [.box 28 [.val (.int .u16 0), .val (.slice none 0 0), .val (.slice none 0 0)], .row 5 1 (bys (putB 4 ts.length ++ (ts.take i).flatMap (putB 2))), .box 25 [.own 1]]) (fun i => i ≤ ts.length) (fun i => ts.length - i) (0) ?_ (Nat.zero_le _) ?_
  · skip
    refine Le.m 3 ?_ ?_
    · try simp only [push_cast, reduceIte, Nat.reduceEqDiff, Nat.reduceLT, Nat.reduceAdd, Nat.reduceSub, Nat.reduceMul, Nat.reduceLeDiff, Nat.reducePow, Int.reduceLT, Int.reduceToNat, reduceCtorEq, Int.reduceNeg, Int.reduceEq, Nat.reduceBEq, Nat.reduceBNe, Int.reduceBEq, Int.reduceBNe, String.reduceEq]
      try simp (disch := omega) only [w_nat, w_add, w_addl, w_addr, w_sub, w_subl, w_mul, w_mull, w_mulr, w_u32, w_u16, w_u8, w_u32a, N_zero]
      first | done | skip
      simp
    · first | (simp only [push_cast, reduceIte, Nat.reduceEqDiff, Nat.reduceLT, Nat.reduceAdd, Nat.reduceSub, Nat.reduceMul, Nat.reduceLeDiff, Nat.reducePow, Int.reduceLT, Int.reduceToNat, reduceCtorEq, Int.reduceNeg, Int.reduceEq, Nat.reduceBEq, Nat.reduceBNe, Int.reduceBEq, Int.reduceBNe, String.reduceEq]; first | done | rfl | (simp (disch := omega) only [w_nat, w_add, w_addl, w_addr, w_sub, w_subl, w_mul, w_mull, w_mulr, w_u32, w_u16, w_u8, w_u32a, N_zero]; first | done | rfl))
  · intro i hi K3 hK3
    refine AWp.regionW ?_
    refine AWp.seqK fun K4 hK4 => ?_
    refine AWp.condLM (fun c0 => ?_) (fun c0 => ?_)
    · skip
      have hil : i < ts.length := by simpa using c0
      have hti := ht ts[i] (List.getElem_mem hil)
      have hfl := flat_len2 2 (ts.take i)
      have htk := List.length_take_le i ts
      refine AWp.skip ?_
      refine hK4 _ ?_
      refine AWp.seqK fun K5 hK5 => ?_
      refine AWp.block ?_
      refine AWp.regionM fun K6 hK6 => ?_
      refine ARun2.indexM (i) (u16 ts[i]) ?_ ?_
      · exact u16s_at _ _ hil
      refine ARun2.endm (hK6 _ ?_)
      refine AWp.regionN fun K7 hK7 => ?_
      refine ARun2.callOM [2, 1] (missing1_c ts[i] (putB 4 ts.length ++ (ts.take i).flatMap (putB 2)) hti (by rw [List.length_append, putB_len]; omega)) ?_
      refine ARun2.endm (hK7 _ ?_)
      refine hK5 _ ?_
      refine AWp.regionV ?_
      refine hK3 _ (i + 1) (by omega) (by omega) ?_
      refine Le.m 3 ?_ ?_
      · try simp only [push_cast, reduceIte, Nat.reduceEqDiff, Nat.reduceLT, Nat.reduceAdd, Nat.reduceSub, Nat.reduceMul, Nat.reduceLeDiff, Nat.reducePow, Int.reduceLT, Int.reduceToNat, reduceCtorEq, Int.reduceNeg, Int.reduceEq, Nat.reduceBEq, Nat.reduceBNe, Int.reduceBEq, Int.reduceBNe, String.reduceEq]
        try simp (disch := omega) only [w_nat, w_add, w_addl, w_addr, w_sub, w_subl, w_mul, w_mull, w_mulr, w_u32, w_u16, w_u8, w_u32a, N_zero]
        first | done | skip
        rw [List.take_succ_eq_append_getElem hil, List.flatMap_append]; simp
      · first | (simp only [push_cast, reduceIte, Nat.reduceEqDiff, Nat.reduceLT, Nat.reduceAdd, Nat.reduceSub, Nat.reduceMul, Nat.reduceLeDiff, Nat.reducePow, Int.reduceLT, Int.reduceToNat, reduceCtorEq, Int.reduceNeg, Int.reduceEq, Nat.reduceBEq, Nat.reduceBNe, Int.reduceBEq, Int.reduceBNe, String.reduceEq]; first | done | rfl | (simp (disch := omega) only [w_nat, w_add, w_addl, w_addr, w_sub, w_subl, w_mul, w_mull, w_mulr, w_u32, w_u16, w_u8, w_u32a, N_zero]; first | done | rfl))
    · skip
      have hil : i = ts.length := by simp at c0; omega
      subst hil
      refine AWp.exit ?_
      simp only [thenQ, blockQ, reduceIte, Nat.reduceEqDiff]
      refine hK2 _ ?_
      refine AWp.pubD 1 ?_
      rw [List.take_length]
      refine AWp.regionM fun K8 hK8 => ?_
      refine ARun2.callM (right_c (.mk 2 (missingD ts) []) true (by simp only [GNode.sz, szs, missingD_len]; omega)) ?_
      refine ARun2.endm (hK8 _ ?_)
      refine AWp.ret ?_
      try simp only [thenQ, blockQ]
      refine bodyQ.m ?_
      clear hK8 K8 hK4 K4 hK3 K3 hK2 K2 hK1 K1
      rw [missingN]
      first | done | exact Hand.go

/-- the types that a cause tells -/
def typesN (n : GNode) : List Nat × Bool := if (rightN n (n.ty == 2)).2 = true then (numsA 2 (n.data.drop 4), true) else ([], false)

theorem right_types {n : GNode} (h : (rightN n (n.ty == 2)).2 = true) : 4 ≤ n.data.length := by
  unfold rightN at h
  cases h1 : (n.ty == 2 && (checkN 2 1 n == 0)) with
  | false => rw [h1] at h; simp at h
  | true =>
    simp only [Bool.and_eq_true, beq_iff_eq] at h1
    obtain ⟨ht, hc⟩ := h1
    rw [checkN_eq] at hc
    by_cases h2 : badN 2 n.ty n.data.length n.kids = true
    · simp [h2] at hc
    · by_cases h3 : countedN 2 n.ty n.data = true
      · simp [h2, h3] at hc
      · unfold countedN at h3
        rw [ht] at h3
        simp at h3
        omega

theorem types_c (n : GNode) (hs : n.sz ≤ 2 ^ 26) : PC Try.prog 16 [nodeA false n] (.tup [.sl false 1 (u16s (typesN n).1), bool (typesN n).2]) := by
  have hsz := n.sz_eq
  have hnl := numsA_len 2 (n.data.drop 4)
  rw [List.length_drop] at hnl
  have hlt : ∀ x ∈ numsA 2 (n.data.drop 4), x < 2 ^ 16 := fun x hx => numsA_lt hx
  generalize hns : numsA 2 (n.data.drop 4) = ns at hnl hlt
  refine PC.of_bodyW (by simp only [push_cast]) Try.func16 rfl (by rw [Try.ntmps16]; simp) ?_
  refine AWp.regionW ?_
  refine AWp.seqK fun K1 hK1 => ?_
  refine AWp.regionM fun K2 hK2 => ?_
  refine ARun2.callM (right_c n (n.ty == 2) hs) ?_
  refine ARun2.endm (hK2 _ ?_)
  refine AWp.regionW ?_
  refine AWp.condLM (fun c0 => ?_) (fun c0 => ?_)
  · skip
    have h0 : ¬ (rightN n (n.ty == 2)).2 = true := by simpa using c0
    have hr : typesN n = ([], false) := if_neg h0
    refine AWp.regionW ?_
    refine AWp.ret ?_
    try simp only [thenQ, blockQ]
    refine bodyQ.m ?_
    clear hK2 K2 hK1 K1
    rw [hr]
    first | done | exact Hand.go
  · skip
    have h0 : (rightN n (n.ty == 2)).2 = true := by simpa using c0
    have hr : typesN n = (ns, true) := by rw [← hns]; exact if_pos h0
    have h4 := right_types h0
    refine AWp.skip ?_
    refine hK1 _ ?_
    refine AWp.regionW ?_
    refine AWp.seqK fun K3 hK3 => ?_
    refine AWp.regionM fun K4 hK4 => ?_
    refine ARun2.sliceLoM (4) ?_ ?_
    · rw [bys_len]; exact h4
    refine ARun2.callM (hns ▸ numbers_a 2 (n.data.drop 4) (by omega) (by rw [List.length_drop]; omega)) ?_
    refine ARun2.endm (hK4 _ ?_)
    refine AWp.block ?_
    -- SLOTS THAT TURN AND ARE NOT TOLD: [6]
    refine AWp.nilOwn 6 22 1 (by simp only [push_cast, reduceIte, Nat.reduceEqDiff, Nat.reduceLT, Nat.reduceAdd, Nat.reduceSub, Nat.reduceMul, Nat.reduceLeDiff, Nat.reducePow, Int.reduceLT, Int.reduceToNat, reduceCtorEq, Int.reduceNeg, Int.reduceEq, Nat.reduceBEq, Nat.reduceBNe, Int.reduceBEq, Int.reduceBNe, String.reduceEq]) ?_
    simp only [push_cast, reduceIte, Nat.reduceEqDiff, Nat.reduceLT, Nat.reduceAdd, Nat.reduceSub, Nat.reduceMul, Nat.reduceLeDiff, Nat.reducePow, Int.reduceLT, Int.reduceToNat, reduceCtorEq, Int.reduceNeg, Int.reduceEq, Nat.reduceBEq, Nat.reduceBNe, Int.reduceBEq, Int.reduceBNe, String.reduceEq]
    refine AWp.loopK [6, 22, 23] (fun (i : Nat) => [(24, nat i)]) (fun i => [.box 28 [u16 n.ty, .sl false 1 (bys n.data), .sl false 3 (nodesA false n.kids)], .box 28 [u16 (rightN n (n.ty == 2)).1.ty, .sl false 1 (bys (rightN n (n.ty == 2)).1.data), .sl false 3 (nodesA false (rightN n (n.ty == 2)).1.kids)], .row 22 1 (u16s (ns.take i))]) (fun i => i ≤ ns.length) (fun i => ns.length - i) (0) ?_ (Nat.zero_le _) ?_
    · skip
      refine Le.m 3 ?_ ?_
      · first | with_reducible rfl | (simp only [push_cast, reduceIte, Nat.reduceEqDiff, Nat.reduceLT, Nat.reduceAdd, Nat.reduceSub, Nat.reduceMul, Nat.reduceLeDiff, Nat.reducePow, Int.reduceLT, Int.reduceToNat, reduceCtorEq, Int.reduceNeg, Int.reduceEq, Nat.reduceBEq, Nat.reduceBNe, Int.reduceBEq, Int.reduceBNe, String.reduceEq]; first | done | rfl | (simp (disch := omega) only [w_nat, w_add, w_addl, w_addr, w_sub, w_subl, w_mul, w_mull, w_mulr, w_u32, w_u16, w_u8, w_u32a, N_zero]; first | done | rfl))
      · first | (simp only [push_cast, reduceIte, Nat.reduceEqDiff, Nat.reduceLT, Nat.reduceAdd, Nat.reduceSub, Nat.reduceMul, Nat.reduceLeDiff, Nat.reducePow, Int.reduceLT, Int.reduceToNat, reduceCtorEq, Int.reduceNeg, Int.reduceEq, Nat.reduceBEq, Nat.reduceBNe, Int.reduceBEq, Int.reduceBNe, String.reduceEq]; first | done | rfl | (simp (disch := omega) only [w_nat, w_add, w_addl, w_addr, w_sub, w_subl, w_mul, w_mull, w_mulr, w_u32, w_u16, w_u8, w_u32a, N_zero]; first | done | rfl))
    · intro i hi K5 hK5
      refine AWp.regionW ?_
      refine AWp.seqK fun K6 hK6 => ?_
      refine AWp.condLM (fun c1 => ?_) (fun c1 => ?_)
      · skip
        have hil : i < ns.length := by simpa using c1
        have hxi := hlt ns[i] (List.getElem_mem hil)
        refine AWp.skip ?_
        refine hK6 _ ?_
        refine AWp.seqK fun K7 hK7 => ?_
        refine AWp.block ?_
        refine AWp.regionM fun K8 hK8 => ?_
        refine ARun2.indexM (i) (u32 ns[i]) ?_ ?_
        · exact u32s_at _ _ hil
        refine ARun2.endm (hK8 _ ?_)
        refine AWp.regionN fun K9 hK9 => ?_
        refine ARun2.appendM ?_ ?_ ?_
        · rw [Ytmcedkcehcacpaa.Facts.eb37, u16s_len, List.length_take, List.length_cons, List.length_nil]; omega
        · rw [u16s_len, List.length_take, List.length_cons, List.length_nil]; omega
        refine ARun2.endm (hK9 _ ?_)
        refine hK7 _ ?_
        refine AWp.regionV ?_
        refine hK5 _ (i + 1) (by omega) (by omega) ?_
        refine Le.m 3 ?_ ?_
        · try simp only [push_cast, reduceIte, Nat.reduceEqDiff, Nat.reduceLT, Nat.reduceAdd, Nat.reduceSub, Nat.reduceMul, Nat.reduceLeDiff, Nat.reducePow, Int.reduceLT, Int.reduceToNat, reduceCtorEq, Int.reduceNeg, Int.reduceEq, Nat.reduceBEq, Nat.reduceBNe, Int.reduceBEq, Int.reduceBNe, String.reduceEq]
          try simp (disch := omega) only [w_nat, w_add, w_addl, w_addr, w_sub, w_subl, w_mul, w_mull, w_mulr, w_u32, w_u16, w_u8, w_u32a, N_zero]
          first | done | skip
          rw [List.take_succ_eq_append_getElem hil, u16s_snoc]
        · first | (simp only [push_cast, reduceIte, Nat.reduceEqDiff, Nat.reduceLT, Nat.reduceAdd, Nat.reduceSub, Nat.reduceMul, Nat.reduceLeDiff, Nat.reducePow, Int.reduceLT, Int.reduceToNat, reduceCtorEq, Int.reduceNeg, Int.reduceEq, Nat.reduceBEq, Nat.reduceBNe, Int.reduceBEq, Int.reduceBNe, String.reduceEq]; first | done | rfl | (simp (disch := omega) only [w_nat, w_add, w_addl, w_addr, w_sub, w_subl, w_mul, w_mull, w_mulr, w_u32, w_u16, w_u8, w_u32a, N_zero]; first | done | rfl))
      · skip
        have hil : i = ns.length := by simp at c1; omega
        subst hil
        refine AWp.exit ?_
        simp only [thenQ, blockQ, reduceIte, Nat.reduceEqDiff]
        refine hK3 _ ?_
        refine AWp.pubD 2 ?_
        rw [List.take_length]
        refine AWp.regionW ?_
        refine AWp.ret ?_
        try simp only [thenQ, blockQ]
        refine bodyQ.m ?_
        clear hK6 K6 hK5 K5 hK4 K4 hK3 K3 hK2 K2 hK1 K1
        rw [hr]
        first | done | exact Hand.go

/-- a cause that tells a chunk -/
def chunkN (b : List UInt8) : GNode × Bool := rightN (.mk 6 b []) true
theorem chunk_cc (b : List UInt8) (hl : b.length ≤ 2 ^ 24) : PC Try.prog 21 [.sl false 1 (bys b)] (.tup [nodeA false (chunkN b).1, bool (chunkN b).2]) := by
  refine PC.of_bodyW (by simp only [push_cast]) Try.func21 rfl (by rw [Try.ntmps21]; simp) ?_
  refine AWp.regionW ?_
  refine AWp.regionM fun K1 hK1 => ?_
  refine ARun2.callM (right_c (.mk 6 b []) true (by simp only [GNode.sz, szs]; omega)) ?_
  refine ARun2.endm (hK1 _ ?_)
  refine AWp.ret ?_
  try simp only [thenQ, blockQ]
  refine bodyQ.m ?_
  clear hK1 K1
  rw [chunkN]
  first | done | exact Hand.go
end Go.Proofs.Ytmcedkcehcacpaa.C

/- The reference: Same, Missing. -/
set_option linter.unusedVariables false
set_option linter.unusedSimpArgs false
namespace Go.Proofs.Ytmcedkcehcacpaa.C
open Go.Abs

theorem take_step {α : Type} {l m : List α} {i : Nat} (hl : i < l.length) (hm : i < m.length) (h0 : l.take i = m.take i) (h : l[i] = m[i]) : l.take (i + 1) = m.take (i + 1) := by
  rw [List.take_succ_eq_append_getElem hl, List.take_succ_eq_append_getElem hm, h0, h]
theorem ne_at {α : Type} {l m : List α} {i : Nat} (hl : i < l.length) (hm : i < m.length) (h : l[i] ≠ m[i]) : l ≠ m := by
  rintro rfl; exact h rfl
theorem bys_at (l : List UInt8) (i : Nat) (h : i < l.length) : (bys l)[i]? = some (.val (.int .u8 (N l[i].toNat))) := by simp [bys, h]

theorem same01_c (l m : List UInt8) (hl : l.length ≤ 2 ^ 40) : PC Try.prog 25 [.sl false 1 (bys l), .sl false 1 (bys m)] (bool (decide (l = m))) := by
  refine PC.of_bodyW (by simp only [push_cast]) Try.func25 rfl (by rw [Try.ntmps25]; simp) ?_
  refine AWp.regionW ?_
  refine AWp.seqK fun K1 hK1 => ?_
  refine AWp.regionW ?_
  refine AWp.condLM (fun c0 => ?_) (fun c0 => ?_)
  · skip
    have hne : decide (l = m) = false := decide_eq_false (by rintro rfl; simp at c0)
    refine AWp.regionW ?_
    refine AWp.ret ?_
    try simp only [thenQ, blockQ]
    refine bodyQ.m ?_
    clear hK1 K1
    rw [hne]
    first | done | exact Hand.go
  · skip
    have he : l.length = m.length := by simpa using c0
    refine AWp.skip ?_
    refine hK1 _ ?_
    refine AWp.seqK fun K2 hK2 => ?_
    refine AWp.regionW ?_
    refine AWp.block ?_
    refine AWp.loopK0 [0, 1] (fun (i : Nat) => [(5, nat i)]) (fun i => i ≤ l.length ∧ l.take i = m.take i) (fun i => l.length - i) (0) ?_ ⟨Nat.zero_le _, rfl⟩ ?_
    · skip
      refine Le.m 0 ?_ ?_
      · first | with_reducible rfl | (simp only [push_cast, reduceIte, Nat.reduceEqDiff, Nat.reduceLT, Nat.reduceAdd, Nat.reduceSub, Nat.reduceMul, Nat.reduceLeDiff, Nat.reducePow, Int.reduceLT, Int.reduceToNat, reduceCtorEq, Int.reduceNeg, Int.reduceEq, Nat.reduceBEq, Nat.reduceBNe, Int.reduceBEq, Int.reduceBNe, String.reduceEq]; first | done | rfl | (simp (disch := omega) only [w_nat, w_add, w_addl, w_addr, w_sub, w_subl, w_mul, w_mull, w_mulr, w_u32, w_u16, w_u8, w_u32a, N_zero]; first | done | rfl))
      · first | (simp only [push_cast, reduceIte, Nat.reduceEqDiff, Nat.reduceLT, Nat.reduceAdd, Nat.reduceSub, Nat.reduceMul, Nat.reduceLeDiff, Nat.reducePow, Int.reduceLT, Int.reduceToNat, reduceCtorEq, Int.reduceNeg, Int.reduceEq, Nat.reduceBEq, Nat.reduceBNe, Int.reduceBEq, Int.reduceBNe, String.reduceEq]; first | done | rfl | (simp (disch := omega) only [w_nat, w_add, w_addl, w_addr, w_sub, w_subl, w_mul, w_mull, w_mulr, w_u32, w_u16, w_u8, w_u32a, N_zero]; first | done | rfl))
    · intro i hi K3 hK3
      refine AWp.seqK fun K4 hK4 => ?_
      refine AWp.regionW ?_
      refine AWp.condLM (fun c1 => ?_) (fun c1 => ?_)
      · skip
        have hil : i < l.length := by simpa using c1
        have hir : i < m.length := by omega
        refine AWp.skip ?_
        refine hK4 _ ?_
        refine AWp.seqK fun K5 hK5 => ?_
        refine AWp.block ?_
        refine AWp.drS [[(0, none)], [(5, none)], [(17, some 0), (18, some 1)], [(19, some 2)], [(1, none)], [(5, none)], [(21, some 4), (22, some 5)], [(23, some 6)], [(20, some 3), (24, some 7)]] fun G hG => ?_
        refine Dr.sim ?_
        try simp only [List.cons_append, List.nil_append]
        refine Dr.sim ?_
        try simp only [List.cons_append, List.nil_append]
        refine Dr.idx (i) (.val (.int .u8 (N l[i].toNat))) ?_ ?_
        · exact bys_at _ _ hil
        try simp only [List.cons_append, List.nil_append]
        refine Dr.sim ?_
        try simp only [List.cons_append, List.nil_append]
        refine Dr.sim ?_
        try simp only [List.cons_append, List.nil_append]
        refine Dr.sim ?_
        try simp only [List.cons_append, List.nil_append]
        refine Dr.idx (i) (.val (.int .u8 (N m[i].toNat))) ?_ ?_
        · exact bys_at _ _ hir
        try simp only [List.cons_append, List.nil_append]
        refine Dr.sim ?_
        try simp only [List.cons_append, List.nil_append]
        refine Dr.sim ?_
        try simp only [List.cons_append, List.nil_append]
        refine Dr.finM (n := 9) [(25, 8)] [0, 1, 5] hG Ytmcedkcehcacpaa.Facts.mixed fun KD hKD => ?_
        refine ARun2.endm (hKD _ ?_); clear hKD KD hG G
        refine AWp.condLM (fun c2 => ?_) (fun c2 => ?_)
        · skip
          have hne : decide (l = m) = false := decide_eq_false (ne_at hil hir (by intro e; rw [e] at c2; simp at c2))
          refine AWp.regionW ?_
          refine AWp.ret ?_
          try simp only [thenQ, blockQ]
          refine bodyQ.m ?_
          clear hK5 K5 hK4 K4 hK3 K3 hK2 K2 hK1 K1
          rw [hne]
          first | done | exact Hand.go
        · skip
          have hx : l[i] = m[i] := by apply UInt8.toNat_inj.1; simpa using c2
          refine AWp.skip ?_
          refine hK5 _ ?_
          refine AWp.regionV ?_
          refine hK3 _ (i + 1) (⟨by omega, take_step hil hir hi.2 hx⟩) (by omega) ?_
          refine Le.m 0 ?_ ?_
          · first | with_reducible rfl | (simp only [push_cast, reduceIte, Nat.reduceEqDiff, Nat.reduceLT, Nat.reduceAdd, Nat.reduceSub, Nat.reduceMul, Nat.reduceLeDiff, Nat.reducePow, Int.reduceLT, Int.reduceToNat, reduceCtorEq, Int.reduceNeg, Int.reduceEq, Nat.reduceBEq, Nat.reduceBNe, Int.reduceBEq, Int.reduceBNe, String.reduceEq]; first | done | rfl | (simp (disch := omega) only [w_nat, w_add, w_addl, w_addr, w_sub, w_subl, w_mul, w_mull, w_mulr, w_u32, w_u16, w_u8, w_u32a, N_zero]; first | done | rfl))
          · first | (simp only [push_cast, reduceIte, Nat.reduceEqDiff, Nat.reduceLT, Nat.reduceAdd, Nat.reduceSub, Nat.reduceMul, Nat.reduceLeDiff, Nat.reducePow, Int.reduceLT, Int.reduceToNat, reduceCtorEq, Int.reduceNeg, Int.reduceEq, Nat.reduceBEq, Nat.reduceBNe, Int.reduceBEq, Int.reduceBNe, String.reduceEq]; first | done | rfl | (simp (disch := omega) only [w_nat, w_add, w_addl, w_addr, w_sub, w_subl, w_mul, w_mull, w_mulr, w_u32, w_u16, w_u8, w_u32a, N_zero]; first | done | rfl))
      · skip
        have hil : i = l.length := by have := hi.1; simp at c1; omega
        have hq : decide (l = m) = true := decide_eq_true (by have := hi.2; rwa [hil, List.take_length, he, List.take_length] at this)
        refine AWp.exit ?_
        simp only [thenQ, blockQ, reduceIte, Nat.reduceEqDiff]
        refine hK2 _ ?_
        refine AWp.regionW ?_
        refine AWp.ret ?_
        try simp only [thenQ, blockQ]
        refine bodyQ.m ?_
        clear hK4 K4 hK3 K3 hK2 K2 hK1 K1
        rw [hq]
        first | done | exact Hand.go

theorem equal16_c (l m : List Nat) (hl : l.length ≤ 2 ^ 40) : PC Try.prog 18 [.sl false 1 (u16s l), .sl false 1 (u16s m)] (bool (decide (l = m))) := by
  refine PC.of_bodyW (by simp only [push_cast]) Try.func18 rfl (by rw [Try.ntmps18]; simp) ?_
  refine AWp.regionW ?_
  refine AWp.seqK fun K1 hK1 => ?_
  refine AWp.regionW ?_
  refine AWp.condLM (fun c0 => ?_) (fun c0 => ?_)
  · skip
    have hne : decide (l = m) = false := decide_eq_false (by rintro rfl; simp at c0)
    refine AWp.regionW ?_
    refine AWp.ret ?_
    try simp only [thenQ, blockQ]
    refine bodyQ.m ?_
    clear hK1 K1
    rw [hne]
    first | done | exact Hand.go
  · skip
    have he : l.length = m.length := by simpa using c0
    refine AWp.skip ?_
    refine hK1 _ ?_
    refine AWp.seqK fun K2 hK2 => ?_
    refine AWp.regionW ?_
    refine AWp.block ?_
    refine AWp.loopK0 [0, 1, 12] (fun (i : Nat) => [(13, nat i)]) (fun i => i ≤ l.length ∧ l.take i = m.take i) (fun i => l.length - i) (0) ?_ ⟨Nat.zero_le _, rfl⟩ ?_
    · skip
      refine Le.m 0 ?_ ?_
      · first | with_reducible rfl | (simp only [push_cast, reduceIte, Nat.reduceEqDiff, Nat.reduceLT, Nat.reduceAdd, Nat.reduceSub, Nat.reduceMul, Nat.reduceLeDiff, Nat.reducePow, Int.reduceLT, Int.reduceToNat, reduceCtorEq, Int.reduceNeg, Int.reduceEq, Nat.reduceBEq, Nat.reduceBNe, Int.reduceBEq, Int.reduceBNe, String.reduceEq]; first | done | rfl | (simp (disch := omega) only [w_nat, w_add, w_addl, w_addr, w_sub, w_subl, w_mul, w_mull, w_mulr, w_u32, w_u16, w_u8, w_u32a, N_zero]; first | done | rfl))
      · first | (simp only [push_cast, reduceIte, Nat.reduceEqDiff, Nat.reduceLT, Nat.reduceAdd, Nat.reduceSub, Nat.reduceMul, Nat.reduceLeDiff, Nat.reducePow, Int.reduceLT, Int.reduceToNat, reduceCtorEq, Int.reduceNeg, Int.reduceEq, Nat.reduceBEq, Nat.reduceBNe, Int.reduceBEq, Int.reduceBNe, String.reduceEq]; first | done | rfl | (simp (disch := omega) only [w_nat, w_add, w_addl, w_addr, w_sub, w_subl, w_mul, w_mull, w_mulr, w_u32, w_u16, w_u8, w_u32a, N_zero]; first | done | rfl))
    · intro i hi K3 hK3
      refine AWp.regionW ?_
      refine AWp.seqK fun K4 hK4 => ?_
      refine AWp.condLM (fun c1 => ?_) (fun c1 => ?_)
      · skip
        have hil : i < l.length := by simpa using c1
        have hir : i < m.length := by omega
        refine AWp.skip ?_
        refine hK4 _ ?_
        refine AWp.seqK fun K5 hK5 => ?_
        refine AWp.block ?_
        refine AWp.regionW ?_
        refine AWp.drS [[(0, none)], [(5, none)], [(16, some 0), (17, some 1)], [(18, some 2)], [(1, none)], [(5, none)], [(20, some 4), (21, some 5)], [(22, some 6)], [(19, some 3), (23, some 7)]] fun G hG => ?_
        refine Dr.sim ?_
        try simp only [List.cons_append, List.nil_append]
        refine Dr.sim ?_
        try simp only [List.cons_append, List.nil_append]
        refine Dr.idx (i) (u16 l[i]) ?_ ?_
        · exact u16s_at _ _ hil
        try simp only [List.cons_append, List.nil_append]
        refine Dr.sim ?_
        try simp only [List.cons_append, List.nil_append]
        refine Dr.sim ?_
        try simp only [List.cons_append, List.nil_append]
        refine Dr.sim ?_
        try simp only [List.cons_append, List.nil_append]
        refine Dr.idx (i) (u16 m[i]) ?_ ?_
        · exact u16s_at _ _ hir
        try simp only [List.cons_append, List.nil_append]
        refine Dr.sim ?_
        try simp only [List.cons_append, List.nil_append]
        refine Dr.sim ?_
        try simp only [List.cons_append, List.nil_append]
        refine Dr.finM (n := 9) [(24, 8)] [0, 1, 12, 13] hG Ytmcedkcehcacpaa.Facts.mixed fun KD hKD => ?_
        refine ARun2.endm (hKD _ ?_); clear hKD KD hG G
        refine AWp.condLM (fun c2 => ?_) (fun c2 => ?_)
        · skip
          have hne : decide (l = m) = false := decide_eq_false (ne_at hil hir (by intro e; rw [e] at c2; simp at c2))
          refine AWp.regionW ?_
          refine AWp.ret ?_
          try simp only [thenQ, blockQ]
          refine bodyQ.m ?_
          clear hK5 K5 hK4 K4 hK3 K3 hK2 K2 hK1 K1
          rw [hne]
          first | done | exact Hand.go
        · skip
          have hx : l[i] = m[i] := by simpa using c2
          refine AWp.skip ?_
          refine hK5 _ ?_
          refine AWp.regionV ?_
          refine hK3 _ (i + 1) (⟨by omega, take_step hil hir hi.2 hx⟩) (by omega) ?_
          refine Le.m 0 ?_ ?_
          · first | with_reducible rfl | (simp only [push_cast, reduceIte, Nat.reduceEqDiff, Nat.reduceLT, Nat.reduceAdd, Nat.reduceSub, Nat.reduceMul, Nat.reduceLeDiff, Nat.reducePow, Int.reduceLT, Int.reduceToNat, reduceCtorEq, Int.reduceNeg, Int.reduceEq, Nat.reduceBEq, Nat.reduceBNe, Int.reduceBEq, Int.reduceBNe, String.reduceEq]; first | done | rfl | (simp (disch := omega) only [w_nat, w_add, w_addl, w_addr, w_sub, w_subl, w_mul, w_mull, w_mulr, w_u32, w_u16, w_u8, w_u32a, N_zero]; first | done | rfl))
          · first | (simp only [push_cast, reduceIte, Nat.reduceEqDiff, Nat.reduceLT, Nat.reduceAdd, Nat.reduceSub, Nat.reduceMul, Nat.reduceLeDiff, Nat.reducePow, Int.reduceLT, Int.reduceToNat, reduceCtorEq, Int.reduceNeg, Int.reduceEq, Nat.reduceBEq, Nat.reduceBNe, Int.reduceBEq, Int.reduceBNe, String.reduceEq]; first | done | rfl | (simp (disch := omega) only [w_nat, w_add, w_addl, w_addr, w_sub, w_subl, w_mul, w_mull, w_mulr, w_u32, w_u16, w_u8, w_u32a, N_zero]; first | done | rfl))
      · skip
        have hil : i = l.length := by have := hi.1; simp at c1; omega
        have hq : decide (l = m) = true := decide_eq_true (by have := hi.2; rwa [hil, List.take_length, he, List.take_length] at this)
        refine AWp.exit ?_
        simp only [thenQ, blockQ, reduceIte, Nat.reduceEqDiff]
        refine hK2 _ ?_
        refine AWp.regionW ?_
        refine AWp.ret ?_
        try simp only [thenQ, blockQ]
        refine bodyQ.m ?_
        clear hK4 K4 hK3 K3 hK2 K2 hK1 K1
        rw [hq]
        first | done | exact Hand.go

theorem same08_step (l r : List GNode) (hs : szs l ≤ 2 ^ 40) (ih : ∀ a ∈ l, ∀ b : GNode, PC Try.prog 28 [.sl false 3 (nodesA false a.kids), .sl false 3 (nodesA false b.kids)] (bool (sameL a.kids b.kids))) :
    PC Try.prog 28 [.sl false 3 (nodesA false l), .sl false 3 (nodesA false r)] (bool (sameL l r)) := by
  have hlen := szs_len l
  refine PC.of_bodyW (by simp only [push_cast]) Try.func28 rfl (by rw [Try.ntmps28]; simp) ?_
  refine AWp.regionW ?_
  refine AWp.seqK fun K1 hK1 => ?_
  refine AWp.regionW ?_
  refine AWp.condLM (fun c0 => ?_) (fun c0 => ?_)
  · skip
    have hne : l.length ≠ r.length := by simpa using c0
    refine AWp.regionW ?_
    refine AWp.ret ?_
    try simp only [thenQ, blockQ]
    refine bodyQ.m ?_
    clear hK1 K1
    rw [sameL_len hne]
    first | done | exact Hand.go
  · skip
    have he : l.length = r.length := by simpa using c0
    refine AWp.skip ?_
    refine hK1 _ ?_
    refine AWp.seqK fun K2 hK2 => ?_
    refine AWp.regionW ?_
    refine AWp.block ?_
    refine AWp.loopK0 [0, 1] (fun (i : Nat) => [(5, nat i)]) (fun i => i ≤ l.length ∧ sameL (l.take i) (r.take i) = true) (fun i => l.length - i) (0) ?_ ⟨Nat.zero_le _, rfl⟩ ?_
    · skip
      refine Le.m 0 ?_ ?_
      · first | with_reducible rfl | (simp only [push_cast, reduceIte, Nat.reduceEqDiff, Nat.reduceLT, Nat.reduceAdd, Nat.reduceSub, Nat.reduceMul, Nat.reduceLeDiff, Nat.reducePow, Int.reduceLT, Int.reduceToNat, reduceCtorEq, Int.reduceNeg, Int.reduceEq, Nat.reduceBEq, Nat.reduceBNe, Int.reduceBEq, Int.reduceBNe, String.reduceEq]; first | done | rfl | (simp (disch := omega) only [w_nat, w_add, w_addl, w_addr, w_sub, w_subl, w_mul, w_mull, w_mulr, w_u32, w_u16, w_u8, w_u32a, N_zero]; first | done | rfl))
      · first | (simp only [push_cast, reduceIte, Nat.reduceEqDiff, Nat.reduceLT, Nat.reduceAdd, Nat.reduceSub, Nat.reduceMul, Nat.reduceLeDiff, Nat.reducePow, Int.reduceLT, Int.reduceToNat, reduceCtorEq, Int.reduceNeg, Int.reduceEq, Nat.reduceBEq, Nat.reduceBNe, Int.reduceBEq, Int.reduceBNe, String.reduceEq]; first | done | rfl | (simp (disch := omega) only [w_nat, w_add, w_addl, w_addr, w_sub, w_subl, w_mul, w_mull, w_mulr, w_u32, w_u16, w_u8, w_u32a, N_zero]; first | done | rfl))
    · intro i hi K3 hK3
      refine AWp.seqK fun K4 hK4 => ?_
      refine AWp.regionW ?_
      refine AWp.condLM (fun c1 => ?_) (fun c1 => ?_)
      · skip
        have hil : i < l.length := by simpa using c1
        have hir : i < r.length := by omega
        have hm := List.getElem_mem hil
        have hsz := szs_mem hm
        have hse := GNode.sz_eq l[i]
        refine AWp.skip ?_
        refine hK4 _ ?_
        refine AWp.seqK fun K5 hK5 => ?_
        refine AWp.block ?_
        refine AWp.drS [[(0, none)], [(5, none)], [(17, some 0), (18, some 1)], [(19, some 2)], [(20, some 3)], [(1, none)], [(5, none)], [(22, some 5), (23, some 6)], [(24, some 7)], [(25, some 8)], [(21, some 4), (26, some 9)], [(27, some 10)], [(0, none), (28, some 11)], [(5, none), (28, some 11)], [(29, some 12), (30, some 13), (28, some 11)], [(31, some 14), (28, some 11)], [(32, some 15), (28, some 11)], [(1, none), (28, some 11)], [(5, none), (28, some 11)], [(34, some 17), (35, some 18), (28, some 11)], [(36, some 19), (28, some 11)], [(37, some 20), (28, some 11)], [(33, some 16), (38, some 21), (28, some 11)], [(39, some 22), (28, some 11)], [(28, some 11), (40, some 23)], [(41, some 24)], [(0, none), (42, some 25)], [(5, none), (42, some 25)], [(43, some 26), (44, some 27), (42, some 25)], [(45, some 28), (42, some 25)], [(46, some 29), (42, some 25)], [(1, none), (42, some 25)], [(5, none), (42, some 25)], [(48, some 31), (49, some 32), (42, some 25)], [(50, some 33), (42, some 25)], [(51, some 34), (42, some 25)], [(47, some 30), (52, some 35), (42, some 25)], [(53, some 36), (42, some 25)], [(42, some 25), (54, some 37)]] fun G hG => ?_
        refine Dr.sim ?_
        try simp only [List.cons_append, List.nil_append]
        refine Dr.sim ?_
        try simp only [List.cons_append, List.nil_append]
        refine Dr.idx (i) (nodeA false l[i]) ?_ ?_
        · exact nodesA_at _ _ _ hil
        try simp only [List.cons_append, List.nil_append]
        refine Dr.sim ?_
        try simp only [List.cons_append, List.nil_append]
        refine Dr.sim ?_
        try simp only [List.cons_append, List.nil_append]
        refine Dr.sim ?_
        try simp only [List.cons_append, List.nil_append]
        refine Dr.sim ?_
        try simp only [List.cons_append, List.nil_append]
        refine Dr.idx (i) (nodeA false r[i]) ?_ ?_
        · exact nodesA_at _ _ _ hir
        try simp only [List.cons_append, List.nil_append]
        refine Dr.sim ?_
        try simp only [List.cons_append, List.nil_append]
        refine Dr.sim ?_
        try simp only [List.cons_append, List.nil_append]
        refine Dr.sim ?_
        try simp only [List.cons_append, List.nil_append]
        refine Dr.sim ?_
        try simp only [List.cons_append, List.nil_append]
        refine Dr.simg ?_
        try simp only [List.cons_append, List.nil_append]
        refine Dr.simg ?_
        try simp only [List.cons_append, List.nil_append]
        refine Dr.idxg (i) (nodeA false l[i]) ?_ ?_
        · intro g11
          exact nodesA_at _ _ _ hil
        try simp only [List.cons_append, List.nil_append]
        refine Dr.simg ?_
        try simp only [List.cons_append, List.nil_append]
        refine Dr.simg ?_
        try simp only [List.cons_append, List.nil_append]
        refine Dr.simg ?_
        try simp only [List.cons_append, List.nil_append]
        refine Dr.simg ?_
        try simp only [List.cons_append, List.nil_append]
        refine Dr.idxg (i) (nodeA false r[i]) ?_ ?_
        · intro g11
          exact nodesA_at _ _ _ hir
        try simp only [List.cons_append, List.nil_append]
        refine Dr.simg ?_
        try simp only [List.cons_append, List.nil_append]
        refine Dr.simg ?_
        try simp only [List.cons_append, List.nil_append]
        refine Dr.callg (fun g11 => same01_c l[i].data r[i].data (by omega)) ?_
        try simp only [List.cons_append, List.nil_append]
        refine Dr.simg ?_
        try simp only [List.cons_append, List.nil_append]
        refine Dr.sim ?_
        try simp only [List.cons_append, List.nil_append]
        refine Dr.sim ?_
        try simp only [List.cons_append, List.nil_append]
        refine Dr.simg ?_
        try simp only [List.cons_append, List.nil_append]
        refine Dr.simg ?_
        try simp only [List.cons_append, List.nil_append]
        refine Dr.idxg (i) (nodeA false l[i]) ?_ ?_
        · intro g25
          exact nodesA_at _ _ _ hil
        try simp only [List.cons_append, List.nil_append]
        refine Dr.simg ?_
        try simp only [List.cons_append, List.nil_append]
        refine Dr.simg ?_
        try simp only [List.cons_append, List.nil_append]
        refine Dr.simg ?_
        try simp only [List.cons_append, List.nil_append]
        refine Dr.simg ?_
        try simp only [List.cons_append, List.nil_append]
        refine Dr.idxg (i) (nodeA false r[i]) ?_ ?_
        · intro g25
          exact nodesA_at _ _ _ hir
        try simp only [List.cons_append, List.nil_append]
        refine Dr.simg ?_
        try simp only [List.cons_append, List.nil_append]
        refine Dr.simg ?_
        try simp only [List.cons_append, List.nil_append]
        refine Dr.callg (fun g25 => ih l[i] hm r[i]) ?_
        try simp only [List.cons_append, List.nil_append]
        refine Dr.simg ?_
        try simp only [List.cons_append, List.nil_append]
        refine Dr.sim ?_
        try simp only [List.cons_append, List.nil_append]
        refine Dr.finM (n := 39) [(55, 38)] [0, 1, 5] hG Ytmcedkcehcacpaa.Facts.mixed fun KD hKD => ?_
        refine ARun2.endm (hKD _ ?_); clear hKD KD hG G
        refine AWp.condLM (fun c2 => ?_) (fun c2 => ?_)
        · skip
          have h5 : sameN l[i] r[i] = false := by rw [sameN_eq]; revert c2; cases h1 : l[i].ty == r[i].ty <;> cases h2 : decide (l[i].data = r[i].data) <;> cases h3 : sameL l[i].kids r[i].kids <;> simp_all
          refine AWp.regionW ?_
          refine AWp.ret ?_
          try simp only [thenQ, blockQ]
          refine bodyQ.m ?_
          clear hK5 K5 hK4 K4 hK3 K3 hK2 K2 hK1 K1
          rw [sameL_at hil hir h5]
          first | done | exact Hand.go
        · skip
          have h5 : sameN l[i] r[i] = true := by rw [sameN_eq]; revert c2; cases h1 : l[i].ty == r[i].ty <;> cases h2 : decide (l[i].data = r[i].data) <;> cases h3 : sameL l[i].kids r[i].kids <;> simp_all
          refine AWp.skip ?_
          refine hK5 _ ?_
          refine AWp.regionV ?_
          refine hK3 _ (i + 1) (⟨by omega, sameL_take hil hir hi.2 h5⟩) (by omega) ?_
          refine Le.m 0 ?_ ?_
          · first | with_reducible rfl | (simp only [push_cast, reduceIte, Nat.reduceEqDiff, Nat.reduceLT, Nat.reduceAdd, Nat.reduceSub, Nat.reduceMul, Nat.reduceLeDiff, Nat.reducePow, Int.reduceLT, Int.reduceToNat, reduceCtorEq, Int.reduceNeg, Int.reduceEq, Nat.reduceBEq, Nat.reduceBNe, Int.reduceBEq, Int.reduceBNe, String.reduceEq]; first | done | rfl | (simp (disch := omega) only [w_nat, w_add, w_addl, w_addr, w_sub, w_subl, w_mul, w_mull, w_mulr, w_u32, w_u16, w_u8, w_u32a, N_zero]; first | done | rfl))
          · first | (simp only [push_cast, reduceIte, Nat.reduceEqDiff, Nat.reduceLT, Nat.reduceAdd, Nat.reduceSub, Nat.reduceMul, Nat.reduceLeDiff, Nat.reducePow, Int.reduceLT, Int.reduceToNat, reduceCtorEq, Int.reduceNeg, Int.reduceEq, Nat.reduceBEq, Nat.reduceBNe, Int.reduceBEq, Int.reduceBNe, String.reduceEq]; first | done | rfl | (simp (disch := omega) only [w_nat, w_add, w_addl, w_addr, w_sub, w_subl, w_mul, w_mull, w_mulr, w_u32, w_u16, w_u8, w_u32a, N_zero]; first | done | rfl))
      · skip
        have hil : i = l.length := by have := hi.1; simp at c1; omega
        have hs : sameL l r = true := by have := hi.2; rwa [hil, List.take_length, he, List.take_length] at this
        refine AWp.exit ?_
        simp only [thenQ, blockQ, reduceIte, Nat.reduceEqDiff]
        refine hK2 _ ?_
        refine AWp.regionW ?_
        refine AWp.ret ?_
        try simp only [thenQ, blockQ]
        refine bodyQ.m ?_
        clear hK4 K4 hK3 K3 hK2 K2 hK1 K1
        rw [hs]
        first | done | exact Hand.go

theorem same08_w : ∀ (w : Nat) (l r : List GNode), szs l ≤ w → szs l ≤ 2 ^ 40 → PC Try.prog 28 [.sl false 3 (nodesA false l), .sl false 3 (nodesA false r)] (bool (sameL l r)) := by
  have kl : ∀ (a : GNode) (l : List GNode), a ∈ l → szs a.kids < szs l := by
    intro a l ha
    have := szs_mem ha; rw [GNode.sz_eq] at this; omega
  intro w
  induction w with
  | zero => exact fun l r hw hs => same08_step l r hs (fun a ha b => by have := kl a l ha; omega)
  | succ w ih => exact fun l r hw hs => same08_step l r hs (fun a ha b => by have := kl a l ha; exact ih _ _ (by omega) (by omega))
theorem same08_c (l r : List GNode) (hs : szs l ≤ 2 ^ 40) : PC Try.prog 28 [.sl false 3 (nodesA false l), .sl false 3 (nodesA false r)] (bool (sameL l r)) := same08_w _ l r (Nat.le_refl _) hs

theorem same10_c (n m : GNode) (hs : n.sz ≤ 2 ^ 40) : PC Try.prog 11 [nodeA false n, nodeA false m] (bool (sameN n m)) := by
  refine PC.of_bodyW (by simp only [push_cast]) Try.func11 rfl (by rw [Try.ntmps11]; simp) ?_
  refine AWp.regionW ?_
  refine AWp.regionM fun K1 hK1 => ?_
  refine ARun2.callM (same08_c [n] [m] (by simp only [szs]; omega)) ?_
  refine ARun2.endm (hK1 _ ?_)
  refine AWp.ret ?_
  try simp only [thenQ, blockQ]
  refine bodyQ.m ?_
  clear hK1 K1
  simp only [sameL, Bool.and_true]
  first | done | exact Hand.go

/-- the two bytes of a number -/
def twoB (t : Nat) : List UInt8 := [UInt8.ofNat (t / 256), UInt8.ofNat t]
theorem twoB_len (l : List Nat) : (l.flatMap twoB).length = l.length * 2 := by
  induction l with
  | nil => rfl
  | cons a l ih => rw [List.flatMap_cons, List.length_append, ih, List.length_cons]; simp only [twoB, List.length_cons, List.length_nil]; omega
theorem u8_low (x : Nat) : IntKind.u8.wrap (N x) = N (UInt8.ofNat x).toNat := by rw [IntKind.wrap_u8]; simp [N, UInt8.toNat_ofNat']
theorem u8_high (x : Nat) : IntKind.u8.wrap ((N x).fdiv (2 ^ min 8 IntKind.u16.bits)) = N (UInt8.ofNat (x / 256)).toNat := by
  have h2 : IntKind.u16.bits = 16 := rfl
  rw [h2, ← u8_low]
  congr 1
  show (x : Int).fdiv ((256 : Nat) : Int) = ((x / 256 : Nat) : Int)
  rw [Int.fdiv_eq_ediv_of_nonneg _ (Int.natCast_nonneg _)]; rfl
/-- what the reference holds for the cause of missing elements -/
def refMissD (ts : List Nat) : List UInt8 := [0, 0, UInt8.ofNat (ts.length / 256), UInt8.ofNat (ts.length % 256)] ++ ts.flatMap twoB
def refMissN (ts : List Nat) : GNode × Bool := if ts.length = 0 ∨ 32763 < ts.length then (.zero, false) else (.mk 2 (refMissD ts) [], true)

theorem refMissing_c (ts : List Nat) (hl : ts.length ≤ 2 ^ 22) (ht : ∀ t ∈ ts, t < 2 ^ 16) : PC Try.prog 20 [.sl false 1 (u16s ts)] (.tup [nodeA false (refMissN ts).1, bool (refMissN ts).2]) := by
  refine PC.of_bodyW (by simp only [push_cast]) Try.func20 rfl (by rw [Try.ntmps20]; simp) ?_
  refine AWp.regionW ?_
  refine AWp.seqK fun K1 hK1 => ?_
  refine AWp.regionA fun K2 hK2 => ?_
  refine ARun.segm 4 fun KS hKS => ?_
  refine ARun2.endm (hKS _ ?_); clear hKS KS
  apply ARun.grpM 3 3 false 12 [0, 2, 9]
  · intro g3 KG hKG
    refine ARun2.gom ?_
    exact ARun2.endm (hKG _ Le.grpM)
  refine ARun2.gom ?_
  refine ARun2.endm (hK2 _ ?_)
  refine AWp.condLM (fun c0 => ?_) (fun c0 => ?_)
  · skip
    have h0 : ts.length = 0 ∨ 32763 < ts.length := by cases h1 : ts.length == 0 <;> simp_all
    have hr : refMissN ts = (.zero, false) := if_pos h0
    refine AWp.regionW ?_
    refine AWp.ret ?_
    try simp only [thenQ, blockQ]
    refine bodyQ.m ?_
    clear hK2 K2 hK1 K1
    rw [hr]
    first | done | exact Hand.go
  · skip
    have h0 : ¬ (ts.length = 0 ∨ 32763 < ts.length) := by cases h1 : ts.length == 0 <;> simp_all
    have hr : refMissN ts = (.mk 2 (refMissD ts) [], true) := if_neg h0
    have h1 : ts.length ≤ 32763 := by omega
    refine AWp.skip ?_
    refine hK1 _ ?_
    refine AWp.regionA fun K3 hK3 => ?_
    refine ARun.segm 8 fun KS hKS => ?_
    refine ARun2.endm (hKS _ ?_); clear hKS KS
    refine ARun.ownM ?_
    refine ARun2.gom ?_
    refine ARun2.endm (hK3 _ ?_)
    refine AWp.seqK fun K4 hK4 => ?_
    refine AWp.regionW ?_
    refine AWp.block ?_
    -- SLOTS THAT TURN AND ARE NOT TOLD: [4]
    refine AWp.loopK [0, 2, 4] (fun (i : Nat) => [(5, nat i)]) (fun i => [.box 28 [.val (.int .u16 0), .val (.slice none 0 0), .val (.slice none 0 0)], .row 5 1 (bys ([0, 0, UInt8.ofNat (ts.length / 256), UInt8.ofNat (ts.length % 256)] ++ (ts.take i).flatMap twoB))]) (fun i => i ≤ ts.length) (fun i => ts.length - i) (0) ?_ (Nat.zero_le _) ?_
    · skip
      refine Le.m 2 ?_ ?_
      · try simp only [push_cast, reduceIte, Nat.reduceEqDiff, Nat.reduceLT, Nat.reduceAdd, Nat.reduceSub, Nat.reduceMul, Nat.reduceLeDiff, Nat.reducePow, Int.reduceLT, Int.reduceToNat, reduceCtorEq, Int.reduceNeg, Int.reduceEq, Nat.reduceBEq, Nat.reduceBNe, Int.reduceBEq, Int.reduceBNe, String.reduceEq]
        try simp (disch := omega) only [w_nat, w_add, w_addl, w_addr, w_sub, w_subl, w_mul, w_mull, w_mulr, w_u32, w_u16, w_u8, w_u32a, N_zero]
        first | done | skip
        have a1 : N (ts.length / 256) = N (UInt8.ofNat (ts.length / 256)).toNat := by
          congr 1; rw [UInt8.toNat_ofNat']; omega
        have a2 : N (ts.length % 256) = N (UInt8.ofNat (ts.length % 256)).toNat := by
          congr 1; rw [UInt8.toNat_ofNat']; omega
        rw [a1, a2]; rfl
      · first | (simp only [push_cast, reduceIte, Nat.reduceEqDiff, Nat.reduceLT, Nat.reduceAdd, Nat.reduceSub, Nat.reduceMul, Nat.reduceLeDiff, Nat.reducePow, Int.reduceLT, Int.reduceToNat, reduceCtorEq, Int.reduceNeg, Int.reduceEq, Nat.reduceBEq, Nat.reduceBNe, Int.reduceBEq, Int.reduceBNe, String.reduceEq]; first | done | rfl | (simp (disch := omega) only [w_nat, w_add, w_addl, w_addr, w_sub, w_subl, w_mul, w_mull, w_mulr, w_u32, w_u16, w_u8, w_u32a, N_zero]; first | done | rfl))
    · intro i hi K5 hK5
      refine AWp.seqK fun K6 hK6 => ?_
      refine AWp.regionW ?_
      refine AWp.condLM (fun c1 => ?_) (fun c1 => ?_)
      · skip
        have hil : i < ts.length := by simpa using c1
        have hti := ht ts[i] (List.getElem_mem hil)
        have htk := List.length_take_le i ts
        refine AWp.skip ?_
        refine hK6 _ ?_
        refine AWp.seqK fun K7 hK7 => ?_
        refine AWp.block ?_
        refine AWp.drE [[(4, none)], [(0, none)], [(5, none)], [(31, some 1), (32, some 2)], [(33, some 3)], [(34, some 4)], [(35, some 5)], [(0, none)], [(5, none)], [(37, some 7), (38, some 8)], [(39, some 9)], [(40, some 10)], [(36, some 6), (41, some 11)]] fun G hG => ?_
        refine Dr.sim ?_
        try simp only [List.cons_append, List.nil_append]
        refine Dr.sim ?_
        try simp only [List.cons_append, List.nil_append]
        refine Dr.sim ?_
        try simp only [List.cons_append, List.nil_append]
        refine Dr.idx (i) (u16 ts[i]) ?_ ?_
        · exact u16s_at _ _ hil
        try simp only [List.cons_append, List.nil_append]
        refine Dr.sim ?_
        try simp only [List.cons_append, List.nil_append]
        refine Dr.sim ?_
        try simp only [List.cons_append, List.nil_append]
        refine Dr.sim ?_
        try simp only [List.cons_append, List.nil_append]
        refine Dr.sim ?_
        try simp only [List.cons_append, List.nil_append]
        refine Dr.sim ?_
        try simp only [List.cons_append, List.nil_append]
        refine Dr.idx (i) (u16 ts[i]) ?_ ?_
        · exact u16s_at _ _ hil
        try simp only [List.cons_append, List.nil_append]
        refine Dr.sim ?_
        try simp only [List.cons_append, List.nil_append]
        refine Dr.sim ?_
        try simp only [List.cons_append, List.nil_append]
        refine Dr.build ?_
        try simp only [List.cons_append, List.nil_append]
        refine Dr.finN (n := 13) [(30, 0), (42, 12)] [0, 2, 5] hG Ytmcedkcehcacpaa.Facts.mixed fun KD hKD => ?_
        refine ARun2.appendM ?_ ?_ ?_
        · rw [Ytmcedkcehcacpaa.Facts.eb25, bys_len]; simp only [List.length_cons, List.length_nil, twoB_len]; omega
        · rw [bys_len]; simp only [List.length_cons, List.length_nil, twoB_len]; omega
        refine ARun2.endm (hKD _ ?_); clear hKD KD hG G
        refine hK7 _ ?_
        refine AWp.regionV ?_
        refine hK5 _ (i + 1) (by omega) (by omega) ?_
        refine Le.m 2 ?_ ?_
        · try simp only [push_cast, reduceIte, Nat.reduceEqDiff, Nat.reduceLT, Nat.reduceAdd, Nat.reduceSub, Nat.reduceMul, Nat.reduceLeDiff, Nat.reducePow, Int.reduceLT, Int.reduceToNat, reduceCtorEq, Int.reduceNeg, Int.reduceEq, Nat.reduceBEq, Nat.reduceBNe, Int.reduceBEq, Int.reduceBNe, String.reduceEq]
          try simp (disch := omega) only [w_nat, w_add, w_addl, w_addr, w_sub, w_subl, w_mul, w_mull, w_mulr, w_u32, w_u16, w_u8, w_u32a, N_zero]
          first | done | skip
          rw [u8_high, u8_low, List.take_succ_eq_append_getElem hil, List.flatMap_append]; simp [twoB, bys]
        · first | (simp only [push_cast, reduceIte, Nat.reduceEqDiff, Nat.reduceLT, Nat.reduceAdd, Nat.reduceSub, Nat.reduceMul, Nat.reduceLeDiff, Nat.reducePow, Int.reduceLT, Int.reduceToNat, reduceCtorEq, Int.reduceNeg, Int.reduceEq, Nat.reduceBEq, Nat.reduceBNe, Int.reduceBEq, Int.reduceBNe, String.reduceEq]; first | done | rfl | (simp (disch := omega) only [w_nat, w_add, w_addl, w_addr, w_sub, w_subl, w_mul, w_mull, w_mulr, w_u32, w_u16, w_u8, w_u32a, N_zero]; first | done | rfl))
      · skip
        have hil : i = ts.length := by simp at c1; omega
        subst hil
        refine AWp.exit ?_
        simp only [thenQ, blockQ, reduceIte, Nat.reduceEqDiff]
        refine hK4 _ ?_
        refine AWp.pubD 1 ?_
        rw [List.take_length]
        refine AWp.regionW ?_
        refine AWp.ret ?_
        try simp only [thenQ, blockQ]
        refine bodyQ.m ?_
        clear hK6 K6 hK5 K5 hK4 K4 hK3 K3 hK2 K2 hK1 K1
        rw [hr]
        first | done | exact Hand.go
end Go.Proofs.Ytmcedkcehcacpaa.C

/- Plain laws on causes. -/
set_option linter.unusedVariables false
set_option linter.unusedSimpArgs false
namespace Go.Proofs.Ytmcedkcehcacpaa.C
open Go.Abs

theorem putB2 (x : Nat) : putB 2 x = twoB x := by
  simp [putB, twoB, List.range_succ]
theorem putB4 (x : Nat) (h : x < 65536) : putB 4 x = [0, 0, UInt8.ofNat (x / 256), UInt8.ofNat (x % 256)] := by
  have h1 : x / 256 ^ 3 = 0 := by omega
  have h2 : x / 256 ^ 2 = 0 := by omega
  have h3 : UInt8.ofNat x = UInt8.ofNat (x % 256) := by
    apply UInt8.toNat_inj.1
    rw [UInt8.toNat_ofNat', UInt8.toNat_ofNat']; omega
  have e : putB 4 x = [UInt8.ofNat (x / 256 ^ 3), UInt8.ofNat (x / 256 ^ 2), UInt8.ofNat (x / 256), UInt8.ofNat x] := by
    simp [putB, List.range_succ]
  rw [e, h1, h2, h3]; rfl
theorem missD_eq (ts : List Nat) (h : ts.length ≤ 32763) : missingD ts = refMissD ts := by
  rw [missingD, refMissD, putB4 _ (by omega)]
  congr 1
  clear h
  induction ts with
  | nil => rfl
  | cons a l ih => rw [List.flatMap_cons, List.flatMap_cons, ih, putB2]

theorem beN_two (t : Nat) (h : t < 2 ^ 16) : beN (twoB t) = t := by
  simp only [beN, twoB, List.foldl_cons, List.foldl_nil, UInt8.toNat_ofNat']
  omega
theorem nums_cons (k : Nat) (hk : 0 < k) (a l : List UInt8) (h : a.length = k) : numsOf k (a ++ l) = beN a :: numsOf k l := by
  unfold numsOf
  have e : (a ++ l).length / k = l.length / k + 1 := by
    rw [List.length_append, h, Nat.add_comm, Nat.add_div_right _ hk]
  rw [e, List.range_succ_eq_map, List.map_cons, List.map_map]
  congr 1
  · simp only [Nat.zero_mul, List.drop_zero]
    rw [← h, List.take_left]
  · apply List.map_congr_left
    intro i hi
    simp only [Function.comp_apply]
    congr 2
    rw [Nat.succ_mul, Nat.add_comm, ← h, List.drop_append, ]
    simp
theorem nums_two : ∀ (ts : List Nat), (∀ t ∈ ts, t < 2 ^ 16) → numsOf 2 (ts.flatMap twoB) = ts
  | [], _ => rfl
  | t :: l, h => by
    rw [List.flatMap_cons, nums_cons 2 (by omega) (twoB t) _ rfl, beN_two t (h t (by simp)), nums_two l (fun x hx => h x (by simp [hx]))]
theorem numsA_two (ts : List Nat) (h : ∀ t ∈ ts, t < 2 ^ 16) : numsA 2 (ts.flatMap twoB) = ts := by
  unfold numsA
  rw [if_pos (by rw [twoB_len]; omega), nums_two ts h]

theorem missing_check (ts : List Nat) (h : ts.length ≤ 32763) : checkN 2 1 (.mk 2 (refMissD ts) []) = if ts.length = 0 then 7 else 0 := by
  have hl : (refMissD ts).length = 4 + ts.length * 2 := by rw [← missD_eq ts h, missingD_len]
  have h1 : peekN 4 (refMissD ts) 0 = ts.length := by
    have e : (refMissD ts).take 4 = [0, 0, UInt8.ofNat (ts.length / 256), UInt8.ofNat (ts.length % 256)] := rfl
    unfold peekN
    rw [if_pos (by omega), List.drop_zero, e]
    simp only [beN, List.foldl_cons, List.foldl_nil, UInt8.toNat_ofNat']
    simp
    omega
  have hf : badN 2 2 (4 + ts.length * 2) [] = decide (ts.length = 0) := by
    have e : shapeOf 2 2 = ⟨2, 2, ⟨#[109, 105, 115, 115, 105, 110, 103, 45, 112, 97, 114, 97, 109, 101, 116, 101, 114]⟩, 6, 65531, 2, 0⟩ := rfl
    have e2 : shapeHas 2 2 = true := rfl
    unfold badN
    rw [e2, e]
    have e3 : fitsN ⟨2, 2, ⟨#[109, 105, 115, 115, 105, 110, 103, 45, 112, 97, 114, 97, 109, 101, 116, 101, 114]⟩, 6, 65531, 2, 0⟩ (4 + ts.length * 2) = !decide (ts.length = 0) := by
      unfold fitsN
      clear e2 h1 hl
      generalize ts.length = n at *
      rw [Bool.eq_iff_iff]
      simp
      omega
    have e4 : kidsOk ⟨2, 2, ⟨#[109, 105, 115, 115, 105, 110, 103, 45, 112, 97, 114, 97, 109, 101, 116, 101, 114]⟩, 6, 65531, 2, 0⟩ [] = true := rfl
    rw [e3, e4]
    simp
  have hc : countedN 2 2 (refMissD ts) = false := by
    unfold countedN
    rw [h1, hl]
    simp
  have hs : nSize [GNode.mk 2 (refMissD ts) []] ≤ 65535 := by
    have : nSize [GNode.mk 2 (refMissD ts) []] = 4 + (4 + ts.length * 2) := by simp [nSize, nLens, vlen, tlvSize, sumUp, upN, gapN, hl]
    omega
  rw [checkN_eq]
  simp only [GNode.ty_mk, GNode.data_mk, GNode.kids_mk, hl, hf, hc]
  by_cases h0 : ts.length = 0
  · simp [h0]
  · simp [h0, checkL]; omega

theorem missing_eq (ts : List Nat) : missingN ts = refMissN ts := by
  unfold missingN refMissN rightN
  by_cases h : ts.length ≤ 32763
  · rw [missD_eq ts h, missing_check ts h]
    by_cases h0 : ts.length = 0
    · simp [h0]
    · rw [if_neg h0, if_neg (by omega)]; rfl
  · rw [if_pos (by omega)]
    have hc : checkN 2 1 (.mk 2 (missingD ts) []) ≠ 0 := by
      have hb : badN 2 2 (missingD ts).length [] = true := by
        rw [missingD_len]
        have e : shapeOf 2 2 = ⟨2, 2, ⟨#[109, 105, 115, 115, 105, 110, 103, 45, 112, 97, 114, 97, 109, 101, 116, 101, 114]⟩, 6, 65531, 2, 0⟩ := rfl
        have e2 : shapeHas 2 2 = true := rfl
        unfold badN
        rw [e2, e]
        have e3 : fitsN ⟨2, 2, ⟨#[109, 105, 115, 115, 105, 110, 103, 45, 112, 97, 114, 97, 109, 101, 116, 101, 114]⟩, 6, 65531, 2, 0⟩ (4 + ts.length * 2) = false := by
          unfold fitsN
          simp
          omega
        rw [e3]; rfl
      rw [checkN_eq]
      simp only [GNode.ty_mk, GNode.data_mk, GNode.kids_mk, hb]
      simp
    have : (checkN 2 1 (.mk 2 (missingD ts) []) == 0) = false := by simpa using hc
    rw [this]; rfl

theorem types_missing (ts : List Nat) (ht : ∀ t ∈ ts, t < 2 ^ 16) : typesN (refMissN ts).1 = if (refMissN ts).2 = true then (ts, true) else ([], false) := by
  unfold refMissN
  by_cases h : ts.length = 0 ∨ 32763 < ts.length
  · rw [if_pos h]; rfl
  · rw [if_neg h]
    have hc : rightN (.mk 2 (refMissD ts) []) true = (.mk 2 (refMissD ts) [], true) := by
      unfold rightN
      rw [missing_check ts (by omega), if_neg (by omega)]; rfl
    have hd : (refMissD ts).drop 4 = ts.flatMap twoB := rfl
    have hx : (rightN (.mk 2 (refMissD ts) []) ((GNode.mk 2 (refMissD ts) []).ty == 2)).2 = true := by
      show (rightN (.mk 2 (refMissD ts) []) true).2 = true
      rw [hc]
    show typesN (.mk 2 (refMissD ts) []) = if true = true then (ts, true) else ([], false)
    rw [typesN, if_pos hx, if_pos rfl, GNode.data_mk, hd, numsA_two ts ht]
end Go.Proofs.Ytmcedkcehcacpaa.C

/- Truth values compared. No condition. -/
namespace Go.Abs
set_option linter.unusedVariables false
set_option linter.unusedSectionVars false
set_option linter.unusedSimpArgs false

def isBl (P : Program) (T : TypeId) : Bool := match P.underlying T with
  | some .bool => true
  | _ => false
theorem isBl_spec {P : Program} {T : TypeId} (h : isBl P T = true) : P.underlying T = some .bool := by
  unfold isBl at h
  split at h
  · assumption
  · cases h

section
variable {P : Program} {ops : Array Oper} {E : Env} {s s' : AS} {ρ : List Value} {B : Nat → Prop} {a : Act} {w w' : World} {o : Oper} {rest : List Oper} {Q : AS → Prop} {R : Exit → AS → Prop}

theorem AOp.boolEq {op : BinOp} {T X : TypeId} {x y : Operand} {b c : Bool} (ho : o.op = .binOp op T x y X) (hop : op = .eql ∨ op = .neq) (hT : isBl P T = true) (hx : s.ev x = .val (.bool b)) (hy : s.ev y = .val (.bool c))
    (k : ARun P ops rest (s.put o.dst (.val (.bool (if op = .eql then b == c else b != c)))) Q) : AOp P ops o rest s Q := by
  refine AOp.pure1 (fun E ρ B a w hs => ⟨.bool (if op = .eql then b == c else b != c), ?_, .val _⟩) k
  have hu := isBl_spec hT
  have e1 : a.eval x = .bool b := (hx ▸ hs.ev x : Rel w B E.bs ρ (.val (.bool b)) (a.eval x)).val_eq
  have e2 : a.eval y = .bool c := (hy ▸ hs.ev y : Rel w B E.bs ρ (.val (.bool c)) (a.eval y)).val_eq
  have he : (Op.equal T (.bool b) (.bool c)).run P w = .ok (b == c) w := equal_run fun d => by simp [Op.equalIn, run_underlying hu]
  have hg : (eqGuard op T x y (.bool b) (.bool c)).run P w = .ok () w := by rcases hop with rfl | rfl <;> simp [eqGuard]
  simp only [execOp, ho, e1, e2]
  rcases hop with rfl | rfl
  · simp [binOp, hg, he]
  · simp [binOp, hg, he, bne]

theorem ARun2.boolEqM {op : BinOp} {T X : TypeId} {x y : Operand} {b c : Bool} {p : List Oper × AS} (K : ARun2 P ops p Q) (ho : o.op = .binOp op T x y X := by rfl) (hop : op = .eql ∨ op = .neq := by first | exact .inl rfl | exact .inr rfl) (hT : isBl P T = true := by kernel_rfl)
    (hg : gd ops s o = some true := by first | with_reducible rfl | (simp only [push_cast, reduceIte, Nat.reduceEqDiff, Nat.reduceLT, Nat.reduceAdd, Nat.reduceSub, Nat.reduceMul, Nat.reduceLeDiff, Nat.reducePow, Int.reduceLT, Int.reduceToNat, reduceCtorEq, Int.reduceNeg, Int.reduceEq, Nat.reduceBEq, Nat.reduceBNe, Int.reduceBEq, Int.reduceBNe, String.reduceEq]; first | done | rfl | (simp (disch := omega) only [w_nat, w_add, w_addl, w_addr, w_sub, w_subl, w_mul, w_mull, w_mulr, w_u32, w_u16, w_u8, w_u32a, N_zero]; first | done | rfl | (simp only [push_cast, reduceIte, Nat.reduceEqDiff, Nat.reduceLT, Nat.reduceAdd, Nat.reduceSub, Nat.reduceMul, Nat.reduceLeDiff, Nat.reducePow, Int.reduceLT, Int.reduceToNat, reduceCtorEq, Int.reduceNeg, Int.reduceEq, Nat.reduceBEq, Nat.reduceBNe, Int.reduceBEq, Int.reduceBNe, String.reduceEq]; first | done | rfl)))) (hx : s.ev x = .val (.bool b) := by first | with_reducible rfl | (simp only [push_cast, reduceIte, Nat.reduceEqDiff, Nat.reduceLT, Nat.reduceAdd, Nat.reduceSub, Nat.reduceMul, Nat.reduceLeDiff, Nat.reducePow, Int.reduceLT, Int.reduceToNat, reduceCtorEq, Int.reduceNeg, Int.reduceEq, Nat.reduceBEq, Nat.reduceBNe, Int.reduceBEq, Int.reduceBNe, String.reduceEq]; first | done | rfl | (simp (disch := omega) only [w_nat, w_add, w_addl, w_addr, w_sub, w_subl, w_mul, w_mull, w_mulr, w_u32, w_u16, w_u8, w_u32a, N_zero]; first | done | rfl | (simp only [push_cast, reduceIte, Nat.reduceEqDiff, Nat.reduceLT, Nat.reduceAdd, Nat.reduceSub, Nat.reduceMul, Nat.reduceLeDiff, Nat.reducePow, Int.reduceLT, Int.reduceToNat, reduceCtorEq, Int.reduceNeg, Int.reduceEq, Nat.reduceBEq, Nat.reduceBNe, Int.reduceBEq, Int.reduceBNe, String.reduceEq]; first | done | rfl)))) (hy : s.ev y = .val (.bool c) := by first | with_reducible rfl | (simp only [push_cast, reduceIte, Nat.reduceEqDiff, Nat.reduceLT, Nat.reduceAdd, Nat.reduceSub, Nat.reduceMul, Nat.reduceLeDiff, Nat.reducePow, Int.reduceLT, Int.reduceToNat, reduceCtorEq, Int.reduceNeg, Int.reduceEq, Nat.reduceBEq, Nat.reduceBNe, Int.reduceBEq, Int.reduceBNe, String.reduceEq]; first | done | rfl | (simp (disch := omega) only [w_nat, w_add, w_addl, w_addr, w_sub, w_subl, w_mul, w_mull, w_mulr, w_u32, w_u16, w_u8, w_u32a, N_zero]; first | done | rfl | (simp only [push_cast, reduceIte, Nat.reduceEqDiff, Nat.reduceLT, Nat.reduceAdd, Nat.reduceSub, Nat.reduceMul, Nat.reduceLeDiff, Nat.reducePow, Int.reduceLT, Int.reduceToNat, reduceCtorEq, Int.reduceNeg, Int.reduceEq, Nat.reduceBEq, Nat.reduceBNe, Int.reduceBEq, Int.reduceBNe, String.reduceEq]; first | done | rfl))))
    (h : srun P ops rest (s.put o.dst (.val (.bool (if op = .eql then b == c else b != c)))) = p := by
        try simp only [push_cast, reduceIte, Nat.reduceEqDiff, Nat.reduceLT, Nat.reduceAdd, Nat.reduceSub, Nat.reduceMul, Nat.reduceLeDiff, Nat.reducePow, Int.reduceLT, Int.reduceToNat, reduceCtorEq, Int.reduceNeg, Int.reduceEq, Nat.reduceBEq, Nat.reduceBNe, Int.reduceBEq, Int.reduceBNe, String.reduceEq]
        try simp (disch := omega) only [w_nat, w_add, w_addl, w_addr, w_sub, w_subl, w_mul, w_mull, w_mulr, w_u32, w_u16, w_u8, w_u32a, N_zero]
        try simp only [push_cast, reduceIte, Nat.reduceEqDiff, Nat.reduceLT, Nat.reduceAdd, Nat.reduceSub, Nat.reduceMul, Nat.reduceLeDiff, Nat.reducePow, Int.reduceLT, Int.reduceToNat, reduceCtorEq, Int.reduceNeg, Int.reduceEq, Nat.reduceBEq, Nat.reduceBNe, Int.reduceBEq, Int.reduceBNe, String.reduceEq]
        rfl) : ARun2 P ops (o :: rest, s) Q :=
  ARun.exec hg (AOp.boolEq ho hop hT hx hy (ARun.srun (h ▸ K)))
end
attribute [push_cast] bne_self_eq_false
end Go.Abs

/- The reference: Gap, Number, Counted, Inside, Fits, wanted, Table, Of. -/
set_option linter.unusedVariables false
set_option linter.unusedSimpArgs false
namespace Go.Proofs.Ytmcedkcehcacpaa.C
open Go.Abs

theorem gap03_c (n : Nat) (h : n < 2 ^ 60) : PC Try.prog 48 [nat n] (nat (gapN n)) := by
  refine PC.of_bodyW (by simp only [push_cast]) Try.func48 rfl (by rw [Try.ntmps48]; simp) ?_
  refine AWp.regionW ?_
  refine AWp.regionW ?_
  refine AWp.seqK fun K1 hK1 => ?_
  refine AWp.block ?_
  refine AWp.loopK0 [0] (fun (i : Nat) => [(3, nat i)]) (fun i => i ≤ gapN n ∧ i ≤ 3) (fun i => gapN n - i) (0) ?_ ⟨Nat.zero_le _, by omega⟩ ?_
  · skip
    refine Le.m 0 ?_ ?_
    · first | with_reducible rfl | (simp only [push_cast, reduceIte, Nat.reduceEqDiff, Nat.reduceLT, Nat.reduceAdd, Nat.reduceSub, Nat.reduceMul, Nat.reduceLeDiff, Nat.reducePow, Int.reduceLT, Int.reduceToNat, reduceCtorEq, Int.reduceNeg, Int.reduceEq, Nat.reduceBEq, Nat.reduceBNe, Int.reduceBEq, Int.reduceBNe, String.reduceEq]; first | done | rfl | (simp (disch := omega) only [w_nat, w_add, w_addl, w_addr, w_sub, w_subl, w_mul, w_mull, w_mulr, w_u32, w_u16, w_u8, w_u32a, N_zero]; first | done | rfl))
    · first | (simp only [push_cast, reduceIte, Nat.reduceEqDiff, Nat.reduceLT, Nat.reduceAdd, Nat.reduceSub, Nat.reduceMul, Nat.reduceLeDiff, Nat.reducePow, Int.reduceLT, Int.reduceToNat, reduceCtorEq, Int.reduceNeg, Int.reduceEq, Nat.reduceBEq, Nat.reduceBNe, Int.reduceBEq, Int.reduceBNe, String.reduceEq]; first | done | rfl | (simp (disch := omega) only [w_nat, w_add, w_addl, w_addr, w_sub, w_subl, w_mul, w_mull, w_mulr, w_u32, w_u16, w_u8, w_u32a, N_zero]; first | done | rfl))
  · intro i hi K2 hK2
    refine AWp.seqK fun K3 hK3 => ?_
    refine AWp.regionW ?_
    refine AWp.condLM (fun c0 => ?_) (fun c0 => ?_)
    · skip
      have h0 : i < gapN n := by have := hi.1; simp at c0; unfold gapN at *; omega
      refine AWp.skip ?_
      refine hK3 _ ?_
      refine AWp.block ?_
      refine AWp.regionV ?_
      refine hK2 _ (i + 1) (⟨h0, by have := gapN_le n; omega⟩) (by omega) ?_
      refine Le.m 0 ?_ ?_
      · first | with_reducible rfl | (simp only [push_cast, reduceIte, Nat.reduceEqDiff, Nat.reduceLT, Nat.reduceAdd, Nat.reduceSub, Nat.reduceMul, Nat.reduceLeDiff, Nat.reducePow, Int.reduceLT, Int.reduceToNat, reduceCtorEq, Int.reduceNeg, Int.reduceEq, Nat.reduceBEq, Nat.reduceBNe, Int.reduceBEq, Int.reduceBNe, String.reduceEq]; first | done | rfl | (simp (disch := omega) only [w_nat, w_add, w_addl, w_addr, w_sub, w_subl, w_mul, w_mull, w_mulr, w_u32, w_u16, w_u8, w_u32a, N_zero]; first | done | rfl))
      · first | (simp only [push_cast, reduceIte, Nat.reduceEqDiff, Nat.reduceLT, Nat.reduceAdd, Nat.reduceSub, Nat.reduceMul, Nat.reduceLeDiff, Nat.reducePow, Int.reduceLT, Int.reduceToNat, reduceCtorEq, Int.reduceNeg, Int.reduceEq, Nat.reduceBEq, Nat.reduceBNe, Int.reduceBEq, Int.reduceBNe, String.reduceEq]; first | done | rfl | (simp (disch := omega) only [w_nat, w_add, w_addl, w_addr, w_sub, w_subl, w_mul, w_mull, w_mulr, w_u32, w_u16, w_u8, w_u32a, N_zero]; first | done | rfl))
    · skip
      have h0 : i = gapN n := by have := hi.1; simp at c0; unfold gapN at *; omega
      refine AWp.exit ?_
      simp only [thenQ, blockQ, reduceIte, Nat.reduceEqDiff]
      refine hK1 _ ?_
      refine AWp.regionW ?_
      refine AWp.ret ?_
      try simp only [thenQ, blockQ]
      refine bodyQ.m ?_
      clear hK3 K3 hK2 K2 hK1 K1
      rw [h0]
      first | done | exact Hand.go

theorem right01_c (k : Nat) : PC Try.prog 54 [nat k] (bool (k == 1 || k == 2 || k == 4)) := by
  refine PC.of_bodyW (by simp only [push_cast]) Try.func54 rfl (by rw [Try.ntmps54]; simp) ?_
  refine AWp.regionW ?_
  refine AWp.regionA fun K1 hK1 => ?_
  refine ARun.segm 3 fun KS hKS => ?_
  refine ARun2.endm (hKS _ ?_); clear hKS KS
  apply ARun.grpM 2 2 false 7 [0, 5]
  · intro g2 KG hKG
    refine ARun2.gom ?_
    exact ARun2.endm (hKG _ Le.grpM)
  refine ARun.segm 2 fun KS hKS => ?_
  refine ARun2.endm (hKS _ ?_); clear hKS KS
  apply ARun.grpM 2 6 false 11 [9]
  · intro g6 KG hKG
    refine ARun2.gom ?_
    exact ARun2.endm (hKG _ Le.grpM)
  refine ARun2.gom ?_
  refine ARun2.endm (hK1 _ ?_)
  refine AWp.ret ?_
  try simp only [thenQ, blockQ]
  refine bodyQ.m ?_
  clear hK1 K1
  simp only [Bool.or_assoc]
  first | done | exact Hand.go

theorem mul8 {x : Nat} {b : UInt8} (h : x < 2 ^ 24) : IntKind.u32.wrap (IntKind.u32.wrap (N x * 256) + N b.toNat) = N (x * 256 + b.toNat) := by
  have := b.toNat_lt
  rw [IntKind.wrap_u32, IntKind.wrap_u32]; unfold N; omega
theorem number01_c (k : Nat) (l : List UInt8) (i : Nat) (hk : k = 1 ∨ k = 2 ∨ k = 4) (hl : l.length ≤ 2 ^ 40) (hi : i ≤ 2 ^ 40) :
    PC Try.prog 47 [.sl false 1 (bys l), nat i, nat k] (.tup [u32 (peekN k l i), bool (decide (i + k ≤ l.length))]) := by
  have hr : (k == 1 || k == 2 || k == 4) = true := by rcases hk with rfl | rfl | rfl <;> rfl
  refine PC.of_bodyW (by simp only [push_cast]) Try.func47 rfl (by rw [Try.ntmps47]; simp) ?_
  refine AWp.regionW ?_
  refine AWp.seqK fun K1 hK1 => ?_
  refine AWp.regionM fun K2 hK2 => ?_
  refine ARun2.callM (hr ▸ right01_c k) ?_
  refine ARun2.endm (hK2 _ ?_)
  refine AWp.condLM (fun c0 => ?_) (fun c0 => ?_)
  · skip
    have h0 : ¬ i + k ≤ l.length := by simpa using c0
    have e : peekN k l i = 0 := if_neg h0
    have e2 : decide (i + k ≤ l.length) = false := decide_eq_false h0
    refine AWp.regionW ?_
    refine AWp.ret ?_
    try simp only [thenQ, blockQ]
    refine bodyQ.m ?_
    clear hK2 K2 hK1 K1
    rw [e, e2]
    first | done | exact Hand.go
  · skip
    have h0 : i + k ≤ l.length := by simpa using c0
    have e : peekN k l i = beN ((l.drop i).take k) := if_pos h0
    have e2 : decide (i + k ≤ l.length) = true := decide_eq_true h0
    refine AWp.skip ?_
    refine hK1 _ ?_
    refine AWp.regionW ?_
    refine AWp.seqK fun K3 hK3 => ?_
    refine AWp.regionW ?_
    refine AWp.block ?_
    refine AWp.loopK0 [0, 1, 2] (fun (j : Nat) => [(9, nat j), (8, u32 (beN ((l.drop i).take j)))]) (fun j => j ≤ k) (fun j => k - j) (0) ?_ (Nat.zero_le _) ?_
    · skip
      refine Le.m 0 ?_ ?_
      · first | with_reducible rfl | (simp only [push_cast, reduceIte, Nat.reduceEqDiff, Nat.reduceLT, Nat.reduceAdd, Nat.reduceSub, Nat.reduceMul, Nat.reduceLeDiff, Nat.reducePow, Int.reduceLT, Int.reduceToNat, reduceCtorEq, Int.reduceNeg, Int.reduceEq, Nat.reduceBEq, Nat.reduceBNe, Int.reduceBEq, Int.reduceBNe, String.reduceEq]; first | done | rfl | (simp (disch := omega) only [w_nat, w_add, w_addl, w_addr, w_sub, w_subl, w_mul, w_mull, w_mulr, w_u32, w_u16, w_u8, w_u32a, N_zero]; first | done | rfl))
      · first | (simp only [push_cast, reduceIte, Nat.reduceEqDiff, Nat.reduceLT, Nat.reduceAdd, Nat.reduceSub, Nat.reduceMul, Nat.reduceLeDiff, Nat.reducePow, Int.reduceLT, Int.reduceToNat, reduceCtorEq, Int.reduceNeg, Int.reduceEq, Nat.reduceBEq, Nat.reduceBNe, Int.reduceBEq, Int.reduceBNe, String.reduceEq]; first | done | rfl | (simp (disch := omega) only [w_nat, w_add, w_addl, w_addr, w_sub, w_subl, w_mul, w_mull, w_mulr, w_u32, w_u16, w_u8, w_u32a, N_zero]; first | done | rfl))
    · intro j hj K4 hK4
      refine AWp.seqK fun K5 hK5 => ?_
      refine AWp.regionW ?_
      refine AWp.condLM (fun c1 => ?_) (fun c1 => ?_)
      · skip
        have hjk : j < k := by simpa using c1
        have hlt : i + j < l.length := by omega
        have hjd : j < (l.drop i).length := by rw [List.length_drop]; omega
        have hx : beN ((l.drop i).take j) < 2 ^ 24 := Nat.lt_of_lt_of_le (beN_lt2 _ 3 (Nat.le_trans (List.length_take_le _ _) (by omega))) (by decide)
        have hs : beN ((l.drop i).take (j + 1)) = beN ((l.drop i).take j) * 256 + l[i + j].toNat := by
          rw [List.take_succ_eq_append_getElem hjd, beN_snoc, List.getElem_drop]
        refine AWp.skip ?_
        refine hK5 _ ?_
        refine AWp.seqK fun K6 hK6 => ?_
        refine AWp.block ?_
        refine AWp.regionN fun K7 hK7 => ?_
        refine ARun2.indexM (i + j) (.val (.int .u8 (N l[i + j].toNat))) ?_ ?_
        · exact bys_at _ _ hlt
        refine ARun2.endm (hK7 _ ?_)
        refine hK6 _ ?_
        refine AWp.regionV ?_
        refine hK4 _ (j + 1) (by omega) (by omega) ?_
        refine Le.m 0 ?_ ?_
        · first | with_reducible rfl | (simp only [push_cast, reduceIte, Nat.reduceEqDiff, Nat.reduceLT, Nat.reduceAdd, Nat.reduceSub, Nat.reduceMul, Nat.reduceLeDiff, Nat.reducePow, Int.reduceLT, Int.reduceToNat, reduceCtorEq, Int.reduceNeg, Int.reduceEq, Nat.reduceBEq, Nat.reduceBNe, Int.reduceBEq, Int.reduceBNe, String.reduceEq]; first | done | rfl | (simp (disch := omega) only [w_nat, w_add, w_addl, w_addr, w_sub, w_subl, w_mul, w_mull, w_mulr, w_u32, w_u16, w_u8, w_u32a, N_zero]; first | done | rfl))
        · simp only [push_cast, reduceIte, Nat.reduceEqDiff, Nat.reduceLT, Nat.reduceAdd, Nat.reduceSub, Nat.reduceMul, Nat.reduceLeDiff, Nat.reducePow, Int.reduceLT, Int.reduceToNat, reduceCtorEq, Int.reduceNeg, Int.reduceEq, Nat.reduceBEq, Nat.reduceBNe, Int.reduceBEq, Int.reduceBNe, String.reduceEq]
          try simp (disch := omega) only [w_nat, w_add, w_addl, w_addr, w_sub, w_subl, w_mul, w_mull, w_mulr, w_u32, w_u16, w_u8, w_u32a, N_zero]
          rw [mul8 hx, hs]
      · skip
        have hjk : j = k := by simp at c1; omega
        subst hjk
        refine AWp.exit ?_
        simp only [thenQ, blockQ, reduceIte, Nat.reduceEqDiff]
        refine hK3 _ ?_
        refine AWp.regionW ?_
        refine AWp.ret ?_
        try simp only [thenQ, blockQ]
        refine bodyQ.m ?_
        clear hK5 K5 hK4 K4 hK3 K3 hK2 K2 hK1 K1
        rw [e, e2]
        first | done | exact Hand.go

/-- is the number in the data right? -/
def countedR (d : List UInt8) : Bool := decide (4 ≤ d.length ∧ 2 * peekN 4 d 0 = d.length - 4)
theorem counted08_c (d : List UInt8) (hl : d.length ≤ 2 ^ 40) : PC Try.prog 36 [.sl false 1 (bys d)] (bool (countedR d)) := by
  have hp := peekN_lt 4 d 0 (by omega)
  have hc : (N (2 * peekN 4 d 0) == IntKind.i64.wrap (N d.length - 4)) = countedR d := by
    unfold countedR
    rw [IntKind.wrap_i64, Bool.eq_iff_iff, beq_iff_eq, decide_eq_true_iff]
    unfold N; omega
  refine PC.of_bodyW (by simp only [push_cast]) Try.func36 rfl (by rw [Try.ntmps36]; simp) ?_
  refine AWp.regionW ?_
  refine AWp.regionM fun K1 hK1 => ?_
  refine ARun2.callM (number01_c 4 d 0 (by omega) hl (by omega)) ?_
  refine ARun2.endm (hK1 _ ?_)
  refine AWp.regionW ?_
  refine AWp.ret ?_
  try simp only [thenQ, blockQ]
  refine bodyQ.m ?_
  clear hK1 K1
  rw [hc]
  first | done | exact Hand.go

theorem inside08_c (k : Nat) (hk : k ≤ 4) : PC Try.prog 37 [nat k] (nat (insideN k).1) := by
  have hq : (insideN k).1 = if k = 3 then 2 else if k = 0 then 0 else 1 := by
    have h : k = 0 ∨ k = 1 ∨ k = 2 ∨ k = 3 ∨ k = 4 := by omega
    rcases h with rfl | rfl | rfl | rfl | rfl <;> rfl
  refine PC.of_bodyW (by simp only [push_cast]) Try.func37 rfl (by rw [Try.ntmps37]; simp) ?_
  refine AWp.regionW ?_
  refine AWp.seqK fun K1 hK1 => ?_
  refine AWp.regionW ?_
  refine AWp.condLM (fun c0 => ?_) (fun c0 => ?_)
  · skip
    refine AWp.regionW ?_
    refine AWp.ret ?_
    try simp only [thenQ, blockQ]
    refine bodyQ.m ?_
    clear hK1 K1
    rw [hq, if_pos (by simpa using c0)]
    first | done | exact Hand.go
  · skip
    refine AWp.skip ?_
    refine hK1 _ ?_
    refine AWp.seqK fun K2 hK2 => ?_
    refine AWp.regionW ?_
    refine AWp.condLM (fun c1 => ?_) (fun c1 => ?_)
    · skip
      refine AWp.regionW ?_
      refine AWp.ret ?_
      try simp only [thenQ, blockQ]
      refine bodyQ.m ?_
      clear hK2 K2 hK1 K1
      rw [hq, if_neg (by simpa using c0), if_pos (by simpa using c1)]
      first | done | exact Hand.go
    · skip
      refine AWp.skip ?_
      refine hK2 _ ?_
      refine AWp.regionW ?_
      refine AWp.ret ?_
      try simp only [thenQ, blockQ]
      refine bodyQ.m ?_
      clear hK2 K2 hK1 K1
      rw [hq, if_neg (by simpa using c0), if_neg (by simpa using c1)]
      first | done | exact Hand.go

theorem fits07_c (f : ShForm) (n : Nat) (hn : n < 2 ^ 40) (hl : f.least < 2 ^ 40) (hm : f.most < 2 ^ 40) (hu : 0 < f.unit) (hu2 : f.unit < 2 ^ 40) : PC Try.prog 34 [formA f, nat n] (bool (fitsN f n)) := by
  refine PC.of_bodyW (by simp only [push_cast]) Try.func34 rfl (by rw [Try.ntmps34]; simp) ?_
  refine AWp.regionW ?_
  refine AWp.seqK fun K1 hK1 => ?_
  refine AWp.regionW ?_
  refine AWp.block ?_
  refine AWp.loopK [1, 2] (fun (i : Nat) => [(5, nat (f.least + i * f.unit))]) (fun i => [.box 61 [nat f.cls, u16 f.ty, .val (.string f.name), nat f.least, nat f.most, nat f.unit, nat f.kids]]) (fun i => ∀ j, j < i → f.least + j * f.unit ≠ n) (fun i => f.most + 1 - (f.least + i * f.unit)) (0) ?_ (fun j h => by omega) ?_
  · skip
    refine Le.m 1 ?_ ?_
    · first | with_reducible rfl | (simp only [push_cast, reduceIte, Nat.reduceEqDiff, Nat.reduceLT, Nat.reduceAdd, Nat.reduceSub, Nat.reduceMul, Nat.reduceLeDiff, Nat.reducePow, Int.reduceLT, Int.reduceToNat, reduceCtorEq, Int.reduceNeg, Int.reduceEq, Nat.reduceBEq, Nat.reduceBNe, Int.reduceBEq, Int.reduceBNe, String.reduceEq]; first | done | rfl | (simp (disch := omega) only [w_nat, w_add, w_addl, w_addr, w_sub, w_subl, w_mul, w_mull, w_mulr, w_u32, w_u16, w_u8, w_u32a, N_zero]; first | done | rfl))
    · simp only [push_cast, reduceIte, Nat.reduceEqDiff, Nat.reduceLT, Nat.reduceAdd, Nat.reduceSub, Nat.reduceMul, Nat.reduceLeDiff, Nat.reducePow, Int.reduceLT, Int.reduceToNat, reduceCtorEq, Int.reduceNeg, Int.reduceEq, Nat.reduceBEq, Nat.reduceBNe, Int.reduceBEq, Int.reduceBNe, String.reduceEq]
      try simp (disch := omega) only [w_nat, w_add, w_addl, w_addr, w_sub, w_subl, w_mul, w_mull, w_mulr, w_u32, w_u16, w_u8, w_u32a, N_zero]
      simp only [Nat.zero_mul, Nat.add_zero]
  · intro i hi K2 hK2
    refine AWp.seqK fun K3 hK3 => ?_
    refine AWp.regionW ?_
    refine AWp.condLM (fun c0 => ?_) (fun c0 => ?_)
    · skip
      have h0 : f.least + i * f.unit ≤ f.most := by simpa using c0
      have hs : (i + 1) * f.unit = i * f.unit + f.unit := by rw [Nat.add_mul, Nat.one_mul]
      refine AWp.skip ?_
      refine hK3 _ ?_
      refine AWp.seqK fun K4 hK4 => ?_
      refine AWp.block ?_
      refine AWp.regionW ?_
      refine AWp.condLM (fun c1 => ?_) (fun c1 => ?_)
      · skip
        have h1 : f.least + i * f.unit = n := by simpa using c1
        have hf : fitsN f n = true := by
          have e : n - f.least = i * f.unit := by omega
          unfold fitsN
          rw [e, Nat.mul_mod_left]
          simp
          omega
        refine AWp.regionW ?_
        refine AWp.ret ?_
        try simp only [thenQ, blockQ]
        refine bodyQ.m ?_
        clear hK4 K4 hK3 K3 hK2 K2 hK1 K1
        rw [hf]
        first | done | exact Hand.go
      · skip
        have h1 : f.least + i * f.unit ≠ n := by simpa using c1
        refine AWp.skip ?_
        refine hK4 _ ?_
        refine AWp.regionV ?_
        refine hK2 _ (i + 1) ((fun j hj => (Nat.lt_or_ge j i).elim (fun h => hi j h) (fun h => (show j = i by omega) ▸ h1))) (by omega) ?_
        refine Le.m 1 ?_ ?_
        · first | with_reducible rfl | (simp only [push_cast, reduceIte, Nat.reduceEqDiff, Nat.reduceLT, Nat.reduceAdd, Nat.reduceSub, Nat.reduceMul, Nat.reduceLeDiff, Nat.reducePow, Int.reduceLT, Int.reduceToNat, reduceCtorEq, Int.reduceNeg, Int.reduceEq, Nat.reduceBEq, Nat.reduceBNe, Int.reduceBEq, Int.reduceBNe, String.reduceEq]; first | done | rfl | (simp (disch := omega) only [w_nat, w_add, w_addl, w_addr, w_sub, w_subl, w_mul, w_mull, w_mulr, w_u32, w_u16, w_u8, w_u32a, N_zero]; first | done | rfl))
        · simp only [push_cast, reduceIte, Nat.reduceEqDiff, Nat.reduceLT, Nat.reduceAdd, Nat.reduceSub, Nat.reduceMul, Nat.reduceLeDiff, Nat.reducePow, Int.reduceLT, Int.reduceToNat, reduceCtorEq, Int.reduceNeg, Int.reduceEq, Nat.reduceBEq, Nat.reduceBNe, Int.reduceBEq, Int.reduceBNe, String.reduceEq]
          try simp (disch := omega) only [w_nat, w_add, w_addl, w_addr, w_sub, w_subl, w_mul, w_mull, w_mulr, w_u32, w_u16, w_u8, w_u32a, N_zero]
          rw [hs, ← Nat.add_assoc]
    · skip
      have h0 : f.most < f.least + i * f.unit := by simpa using c0
      have hf : fitsN f n = false := by
        unfold fitsN
        by_cases h2 : f.least ≤ n ∧ n ≤ f.most
        · have h3 : (n - f.least) % f.unit ≠ 0 := by
            intro h3
            obtain ⟨j, hj⟩ := Nat.dvd_of_mod_eq_zero h3
            rw [Nat.mul_comm] at hj
            have hlt : j < i := by
              rcases Nat.lt_or_ge j i with h | h
              · exact h
              · have := Nat.mul_le_mul_right f.unit h
                omega
            exact hi j hlt (by omega)
          simp [h3]
        · rcases Nat.lt_or_ge n f.least with h4 | h4
          · simp; omega
          · simp; omega
      refine AWp.exit ?_
      simp only [thenQ, blockQ, reduceIte, Nat.reduceEqDiff]
      refine hK1 _ ?_
      refine AWp.regionW ?_
      refine AWp.ret ?_
      try simp only [thenQ, blockQ]
      refine bodyQ.m ?_
      clear hK3 K3 hK2 K2 hK1 K1
      rw [hf]
      first | done | exact Hand.go
end Go.Proofs.Ytmcedkcehcacpaa.C

/- The reference: wanted, Table, Of, Size. -/
set_option linter.unusedVariables false
set_option linter.unusedSimpArgs false
namespace Go.Proofs.Ytmcedkcehcacpaa.C
open Go.Abs

theorem kidsOk_eq (f : ShForm) (l : List GNode) (hf : f.kids ≤ 4) : kidsOk f l =
    if f.kids = 0 then l.length == 0 else if f.kids = 1 then l.length == 1 else if f.kids = 4 then (l.length == 1 && ((l.headD default).ty == 5 || (l.headD default).ty == 6)) else (decide (1 ≤ l.length) && decide (l.length ≤ 16384)) := by
  have key : ∀ k n : Nat, k ≤ 4 → ∀ b : Bool, (decide ((insideN k).2.1 ≤ n) && decide (n ≤ (insideN k).2.2) && (k != 4 || b)) = if k = 0 then n == 0 else if k = 1 then n == 1 else if k = 4 then (n == 1 && b) else (decide (1 ≤ n) && decide (n ≤ 16384)) := by
    intro k n hk b
    have h : k = 0 ∨ k = 1 ∨ k = 2 ∨ k = 3 ∨ k = 4 := by omega
    have h1 : (decide (1 ≤ n) && decide (n ≤ 1)) = (n == 1) := by rw [Bool.eq_iff_iff]; simp; omega
    rcases h with rfl | rfl | rfl | rfl | rfl
    · rw [Bool.eq_iff_iff]; simp [insideN]
    · rw [Bool.eq_iff_iff]; simp [insideN]; omega
    · simp [insideN]
    · simp [insideN]
    · simp [insideN, ← h1]
  unfold kidsOk
  rw [Bool.or_assoc]
  exact key _ _ hf _

theorem wanted_c (f : ShForm) (l : List GNode) (hl : l.length ≤ 2 ^ 40) (hf : f.kids ≤ 4) : PC Try.prog 35 [formA f, .sl false 3 (nodesA false l)] (bool (kidsOk f l)) := by
  have hq := kidsOk_eq f l hf
  refine PC.of_bodyW (by simp only [push_cast]) Try.func35 rfl (by rw [Try.ntmps35]; simp) ?_
  refine AWp.regionW ?_
  refine AWp.seqK fun K1 hK1 => ?_
  refine AWp.regionW ?_
  refine AWp.block ?_
  refine AWp.regionW ?_
  refine AWp.condLM (fun c0 => ?_) (fun c0 => ?_)
  · skip
    have h0 : f.kids = 0 := by simpa using c0
    refine AWp.regionW ?_
    refine AWp.ret ?_
    try simp only [thenQ, blockQ]
    refine bodyQ.m ?_
    clear hK1 K1
    rw [hq, if_pos h0]
    first | done | exact Hand.go
  · skip
    have h0 : ¬ f.kids = 0 := by simpa using c0
    refine AWp.regionW ?_
    refine AWp.condLM (fun c1 => ?_) (fun c1 => ?_)
    · skip
      have h1 : f.kids = 1 := by simpa using c1
      refine AWp.regionW ?_
      refine AWp.ret ?_
      try simp only [thenQ, blockQ]
      refine bodyQ.m ?_
      clear hK1 K1
      rw [hq, if_neg h0, if_pos h1]
      first | done | exact Hand.go
    · skip
      have h1 : ¬ f.kids = 1 := by simpa using c1
      refine AWp.regionW ?_
      refine AWp.condLM (fun c2 => ?_) (fun c2 => ?_)
      · skip
        have h2 : f.kids = 4 := by simpa using c2
        refine AWp.regionA fun K2 hK2 => ?_
        refine ARun.segm 4 fun KS hKS => ?_
        refine ARun2.endm (hKS _ ?_); clear hKS KS
        apply ARun.grpM 12 3 true 34 [22]
        · intro g3 KG hKG
          have hne : 0 < l.length := by have := beq_iff_eq.1 g3; omega
          refine ARun.segm 6 fun KS hKS => ?_
          refine ARun2.indexM (0) (nodeA false (l.headD default)) ?_ ?_
          · exact nodesA_head _ _ hne
          refine ARun2.endm (hKS _ ?_); clear hKS KS
          apply ARun.grpM 5 9 false 33 [22, 28]
          · intro g9 KG hKG
            refine ARun2.gom ?_
            refine ARun2.indexM (0) (nodeA false (l.headD default)) ?_ ?_
            · exact nodesA_head _ _ hne
            exact ARun2.endm (hKG _ Le.grpM)
          refine ARun2.gom ?_
          exact ARun2.endm (hKG _ Le.grpM)
        refine ARun2.gom ?_
        refine ARun2.endm (hK2 _ ?_)
        refine AWp.ret ?_
        try simp only [thenQ, blockQ]
        refine bodyQ.m ?_
        clear hK2 K2 hK1 K1
        rw [hq, if_neg h0, if_neg h1, if_pos h2]
        first | done | exact Hand.go
      · skip
        have h2 : ¬ f.kids = 4 := by simpa using c2
        refine AWp.skip ?_
        refine hK1 _ ?_
        refine AWp.regionA fun K3 hK3 => ?_
        refine ARun.segm 4 fun KS hKS => ?_
        refine ARun2.endm (hKS _ ?_); clear hKS KS
        apply ARun.grpM 3 3 true 42 [39]
        · intro g3 KG hKG
          refine ARun2.gom ?_
          exact ARun2.endm (hKG _ Le.grpM)
        refine ARun2.gom ?_
        refine ARun2.endm (hK3 _ ?_)
        refine AWp.ret ?_
        try simp only [thenQ, blockQ]
        refine bodyQ.m ?_
        clear hK3 K3 hK1 K1
        rw [hq, if_neg h0, if_neg h1, if_neg h2]
        first | done | exact Hand.go

def refForms : List ShForm := paramForms.map (fun f => { f with cls := 1 }) ++ causeForms.map (fun f => { f with cls := 2 })
set_option maxRecDepth 100000 in
set_option maxHeartbeats 1000000 in
theorem table07_c : PC Try.prog 46 [] (.sl false 7 (formsA refForms)) := by
  refine PC.of_bodyW (by simp only [push_cast]) Try.func46 rfl (by rw [Try.ntmps46]; simp) ?_
  refine AWp.regionW ?_
  refine AWp.regionW ?_
  refine AWp.regionW ?_
  refine AWp.ret ?_
  try simp only [thenQ, blockQ]
  refine bodyQ.m ?_
  simp only [refForms, formsA, paramForms, causeForms, List.map_cons, List.map_nil, List.cons_append, List.nil_append]
  first | done | exact Hand.go

theorem refOf_eq (c t : Nat) (hc : c = 1 ∨ c = 2) : (refForms.find? fun f => f.cls == c && f.ty == t).getD zeroForm = shapeOf c t := by
  have key : ∀ (l : List ShForm) (c' : Nat), (l.map (fun f => { f with cls := c' })).find? (fun f => f.cls == c && f.ty == t) = if c' = c then (l.find? fun f => f.ty == t).map (fun f => { f with cls := c' }) else none := by
    intro l c'
    induction l with
    | nil => simp
    | cons a l ih =>
      by_cases h : c' = c
      · subst h
        simp only [if_true] at ih
        by_cases ht : a.ty = t
        · simp [List.find?_cons, ht]
        · have ht' : (a.ty == t) = false := by simpa using ht
          simp [List.find?_cons, ht', ih]
      · have hcc : (c' == c) = false := by simpa using h
        simp only [if_neg h] at ih ⊢
        simp [List.find?_cons, hcc, ih]
  unfold refForms shapeOf
  rw [List.find?_append, key, key]
  rcases hc with rfl | rfl
  · simp [formsN]
  · simp [formsN]

theorem of07_c (c t : Nat) (hc : c = 1 ∨ c = 2) : PC Try.prog 33 [nat c, u16 t] (formA (shapeOf c t)) := by
  have hlen : refForms.length ≤ 2 ^ 40 := by decide
  have hq := refOf_eq c t hc
  refine PC.of_bodyW (by simp only [push_cast]) Try.func33 rfl (by rw [Try.ntmps33]; simp) ?_
  refine AWp.regionW ?_
  refine AWp.regionM fun K1 hK1 => ?_
  refine ARun2.callM (table07_c) ?_
  refine ARun2.endm (hK1 _ ?_)
  refine AWp.seqK fun K2 hK2 => ?_
  refine AWp.regionW ?_
  refine AWp.block ?_
  refine AWp.loopK0 [0, 1, 4, 5] (fun (i : Nat) => [(6, nat i)]) (fun i => i ≤ refForms.length ∧ refForms.find? (fun f => f.cls == c && f.ty == t) = (refForms.drop i).find? fun f => f.cls == c && f.ty == t) (fun i => refForms.length - i) (0) ?_ ⟨Nat.zero_le _, rfl⟩ ?_
  · skip
    refine Le.m 1 ?_ ?_
    · first | with_reducible rfl | (simp only [push_cast, reduceIte, Nat.reduceEqDiff, Nat.reduceLT, Nat.reduceAdd, Nat.reduceSub, Nat.reduceMul, Nat.reduceLeDiff, Nat.reducePow, Int.reduceLT, Int.reduceToNat, reduceCtorEq, Int.reduceNeg, Int.reduceEq, Nat.reduceBEq, Nat.reduceBNe, Int.reduceBEq, Int.reduceBNe, String.reduceEq]; first | done | rfl | (simp (disch := omega) only [w_nat, w_add, w_addl, w_addr, w_sub, w_subl, w_mul, w_mull, w_mulr, w_u32, w_u16, w_u8, w_u32a, N_zero]; first | done | rfl))
    · first | (simp only [push_cast, reduceIte, Nat.reduceEqDiff, Nat.reduceLT, Nat.reduceAdd, Nat.reduceSub, Nat.reduceMul, Nat.reduceLeDiff, Nat.reducePow, Int.reduceLT, Int.reduceToNat, reduceCtorEq, Int.reduceNeg, Int.reduceEq, Nat.reduceBEq, Nat.reduceBNe, Int.reduceBEq, Int.reduceBNe, String.reduceEq]; first | done | rfl | (simp (disch := omega) only [w_nat, w_add, w_addl, w_addr, w_sub, w_subl, w_mul, w_mull, w_mulr, w_u32, w_u16, w_u8, w_u32a, N_zero]; first | done | rfl))
  · intro i hi K3 hK3
    refine AWp.seqK fun K4 hK4 => ?_
    refine AWp.regionW ?_
    refine AWp.condLM (fun c0 => ?_) (fun c0 => ?_)
    · skip
      have hil : i < refForms.length := by simpa using c0
      have hd : refForms.drop i = refForms[i] :: refForms.drop (i + 1) := List.drop_eq_getElem_cons hil
      refine AWp.skip ?_
      refine hK4 _ ?_
      refine AWp.seqK fun K5 hK5 => ?_
      refine AWp.block ?_
      refine AWp.regionA fun K6 hK6 => ?_
      refine ARun.segm 8 fun KS hKS => ?_
      refine ARun2.indexM (i) (formA refForms[i]) ?_ ?_
      · exact formsA_at _ _ hil
      refine ARun2.endm (hKS _ ?_); clear hKS KS
      apply ARun.grpM 7 7 true 28 [0, 1, 4, 5, 6, 21]
      · intro g7 KG hKG
        refine ARun2.gom ?_
        refine ARun2.indexM (i) (formA refForms[i]) ?_ ?_
        · exact formsA_at _ _ hil
        exact ARun2.endm (hKG _ Le.grpM)
      refine ARun2.gom ?_
      refine ARun2.endm (hK6 _ ?_)
      refine AWp.condLM (fun c1 => ?_) (fun c1 => ?_)
      · skip
        have h1 : (refForms[i].cls == c && refForms[i].ty == t) = true := by simpa using c1
        have hv : shapeOf c t = refForms[i] := by rw [← hq, hi.2, hd, List.find?_cons, h1]; rfl
        refine AWp.regionM fun K7 hK7 => ?_
        refine ARun2.indexM (i) (formA refForms[i]) ?_ ?_
        · exact formsA_at _ _ hil
        refine ARun2.endm (hK7 _ ?_)
        refine AWp.ret ?_
        try simp only [thenQ, blockQ]
        refine bodyQ.m ?_
        clear hK7 K7 hK6 K6 hK5 K5 hK4 K4 hK3 K3 hK2 K2 hK1 K1
        rw [hv]
        first | done | exact Hand.go
      · skip
        have h1 : (refForms[i].cls == c && refForms[i].ty == t) = false := by simpa using c1
        refine AWp.skip ?_
        refine hK5 _ ?_
        refine AWp.regionV ?_
        refine hK3 _ (i + 1) (⟨by omega, by rw [hi.2, hd, List.find?_cons, h1]⟩) (by omega) ?_
        refine Le.m 1 ?_ ?_
        · first | with_reducible rfl | (simp only [push_cast, reduceIte, Nat.reduceEqDiff, Nat.reduceLT, Nat.reduceAdd, Nat.reduceSub, Nat.reduceMul, Nat.reduceLeDiff, Nat.reducePow, Int.reduceLT, Int.reduceToNat, reduceCtorEq, Int.reduceNeg, Int.reduceEq, Nat.reduceBEq, Nat.reduceBNe, Int.reduceBEq, Int.reduceBNe, String.reduceEq]; first | done | rfl | (simp (disch := omega) only [w_nat, w_add, w_addl, w_addr, w_sub, w_subl, w_mul, w_mull, w_mulr, w_u32, w_u16, w_u8, w_u32a, N_zero]; first | done | rfl))
        · first | (simp only [push_cast, reduceIte, Nat.reduceEqDiff, Nat.reduceLT, Nat.reduceAdd, Nat.reduceSub, Nat.reduceMul, Nat.reduceLeDiff, Nat.reducePow, Int.reduceLT, Int.reduceToNat, reduceCtorEq, Int.reduceNeg, Int.reduceEq, Nat.reduceBEq, Nat.reduceBNe, Int.reduceBEq, Int.reduceBNe, String.reduceEq]; first | done | rfl | (simp (disch := omega) only [w_nat, w_add, w_addl, w_addr, w_sub, w_subl, w_mul, w_mull, w_mulr, w_u32, w_u16, w_u8, w_u32a, N_zero]; first | done | rfl))
    · skip
      have hil : refForms.length ≤ i := by simpa using c0
      have hv : shapeOf c t = zeroForm := by rw [← hq, hi.2, List.drop_of_length_le hil]; rfl
      refine AWp.exit ?_
      simp only [thenQ, blockQ, reduceIte, Nat.reduceEqDiff]
      refine hK2 _ ?_
      refine AWp.regionW ?_
      refine AWp.ret ?_
      try simp only [thenQ, blockQ]
      refine bodyQ.m ?_
      clear hK4 K4 hK3 K3 hK2 K2 hK1 K1
      rw [hv]
      first | done | exact Hand.go

theorem sumUp_le (l : List GNode) (i : Nat) : sumUp 0 ((nLens (l.take i)).map (4 + ·)) ≤ nSize l := by
  have e : (nLens (l.take i)).map (4 + ·) = ((nLens l).map (4 + ·)).take i := by
    rw [nLens_map, nLens_map, List.map_take, List.map_take]
  rw [e]; exact sumUp_take _ i
/-- the size as the reference has it behind i nodes -/
def szR (l : List GNode) (i : Nat) : Nat := if i < l.length then upN (sumUp 0 ((nLens (l.take i)).map (4 + ·))) else nSize l

theorem upN_mod (n : Nat) : upN n % 4 = 0 := by unfold upN gapN; omega
theorem szR_step (l : List GNode) (i : Nat) (h : i < l.length) : szR l (i + 1) = if i < l.length - 1 then szR l i + (4 + vlen l[i]) + gapN (4 + vlen l[i]) else szR l i + (4 + vlen l[i]) := by
  have e : sumUp 0 ((nLens (l.take (i + 1))).map (4 + ·)) = upN (sumUp 0 ((nLens (l.take i)).map (4 + ·))) + (4 + vlen l[i]) := by
    rw [List.take_succ_eq_append_getElem h]
    have : nLens (l.take i ++ [l[i]]) = nLens (l.take i) ++ [vlen l[i]] := by rw [nLens_map, nLens_map, List.map_append]; rfl
    rw [this, List.map_append]
    exact sumUp_append _ _ _
  have hu := upN_mod (sumUp 0 ((nLens (l.take i)).map (4 + ·)))
  unfold szR
  rw [if_pos h]
  by_cases h2 : i < l.length - 1
  · rw [if_pos (by omega), if_pos h2, e]
    generalize upN (sumUp 0 ((nLens (l.take i)).map (4 + ·))) = u at hu
    unfold upN gapN; omega
  · rw [if_neg (by omega), if_neg h2, ← e]
    have : i + 1 = l.length := by omega
    rw [this, List.take_length]; rfl
theorem szR_le (l : List GNode) (i : Nat) : szR l i ≤ nSize l + 3 := by
  unfold szR
  split
  · have h1 := sumUp_le l i
    have h2 := gapN_le (sumUp 0 ((nLens (l.take i)).map (4 + ·)))
    unfold upN; omega
  · omega
theorem szR_zero (l : List GNode) : szR l 0 = 0 := by
  unfold szR
  split
  · simp [nLens, sumUp, upN, gapN]
  · have : l = [] := by cases l <;> simp_all
    subst this; rfl

theorem size08_step (l : List GNode) (hs : nSize l ≤ 2 ^ 30) (ih : ∀ a ∈ l, PC Try.prog 38 [.sl false 3 (nodesA false a.kids)] (nat (nSize a.kids))) :
    PC Try.prog 38 [.sl false 3 (nodesA false l)] (nat (nSize l)) := by
  have hlen := nSize_len l
  refine PC.of_bodyW (by simp only [push_cast]) Try.func38 rfl (by rw [Try.ntmps38]; simp) ?_
  refine AWp.regionW ?_
  refine AWp.regionW ?_
  refine AWp.seqK fun K1 hK1 => ?_
  refine AWp.regionW ?_
  refine AWp.block ?_
  refine AWp.loopK0 [0] (fun (i : Nat) => [(4, nat i), (3, nat (szR l i))]) (fun i => i ≤ l.length) (fun i => l.length - i) (0) ?_ (Nat.zero_le _) ?_
  · skip
    refine Le.m 0 ?_ ?_
    · first | with_reducible rfl | (simp only [push_cast, reduceIte, Nat.reduceEqDiff, Nat.reduceLT, Nat.reduceAdd, Nat.reduceSub, Nat.reduceMul, Nat.reduceLeDiff, Nat.reducePow, Int.reduceLT, Int.reduceToNat, reduceCtorEq, Int.reduceNeg, Int.reduceEq, Nat.reduceBEq, Nat.reduceBNe, Int.reduceBEq, Int.reduceBNe, String.reduceEq]; first | done | rfl | (simp (disch := omega) only [w_nat, w_add, w_addl, w_addr, w_sub, w_subl, w_mul, w_mull, w_mulr, w_u32, w_u16, w_u8, w_u32a, N_zero]; first | done | rfl))
    · simp only [push_cast, reduceIte, Nat.reduceEqDiff, Nat.reduceLT, Nat.reduceAdd, Nat.reduceSub, Nat.reduceMul, Nat.reduceLeDiff, Nat.reducePow, Int.reduceLT, Int.reduceToNat, reduceCtorEq, Int.reduceNeg, Int.reduceEq, Nat.reduceBEq, Nat.reduceBNe, Int.reduceBEq, Int.reduceBNe, String.reduceEq]
      try simp (disch := omega) only [w_nat, w_add, w_addl, w_addr, w_sub, w_subl, w_mul, w_mull, w_mulr, w_u32, w_u16, w_u8, w_u32a, N_zero]
      rw [szR_zero]; rfl
  · intro i hi K2 hK2
    refine AWp.seqK fun K3 hK3 => ?_
    refine AWp.regionW ?_
    refine AWp.condLM (fun c0 => ?_) (fun c0 => ?_)
    · skip
      have hil : i < l.length := by simpa using c0
      have hm := List.getElem_mem hil
      have hv := vlen_mem hm
      have he := vlen_eq l[i]
      have hst := szR_step l i hil
      have hle := szR_le l i
      have hg := gapN_le (4 + vlen l[i])
      refine AWp.skip ?_
      refine hK3 _ ?_
      refine AWp.seqK fun K4 hK4 => ?_
      refine AWp.block ?_
      refine AWp.drS [[(0, none)], [(4, none)], [(12, some 0), (13, some 1)], [(14, some 2)], [(15, some 3)], [(16, some 4)], [(17, some 5)], [(0, none)], [(4, none)], [(19, some 7), (20, some 8)], [(21, some 9)], [(22, some 10)], [(23, some 11)], [(18, some 6), (24, some 12)], [(25, some 13)]] fun G hG => ?_
      refine Dr.sim ?_
      try simp only [List.cons_append, List.nil_append]
      refine Dr.sim ?_
      try simp only [List.cons_append, List.nil_append]
      refine Dr.idx (i) (nodeA false l[i]) ?_ ?_
      · exact nodesA_at _ _ _ hil
      try simp only [List.cons_append, List.nil_append]
      refine Dr.sim ?_
      try simp only [List.cons_append, List.nil_append]
      refine Dr.sim ?_
      try simp only [List.cons_append, List.nil_append]
      refine Dr.sim ?_
      try simp only [List.cons_append, List.nil_append]
      refine Dr.sim ?_
      try simp only [List.cons_append, List.nil_append]
      refine Dr.sim ?_
      try simp only [List.cons_append, List.nil_append]
      refine Dr.sim ?_
      try simp only [List.cons_append, List.nil_append]
      refine Dr.idx (i) (nodeA false l[i]) ?_ ?_
      · exact nodesA_at _ _ _ hil
      try simp only [List.cons_append, List.nil_append]
      refine Dr.sim ?_
      try simp only [List.cons_append, List.nil_append]
      refine Dr.sim ?_
      try simp only [List.cons_append, List.nil_append]
      refine Dr.call (ih l[i] hm) ?_
      try simp only [List.cons_append, List.nil_append]
      refine Dr.sim ?_
      try simp only [List.cons_append, List.nil_append]
      refine Dr.sim ?_
      try simp only [List.cons_append, List.nil_append]
      refine Dr.finM (n := 15) [(5, 14)] [0, 3, 4] hG Ytmcedkcehcacpaa.Facts.mixed fun KD hKD => ?_
      refine ARun2.endm (hKD _ ?_); clear hKD KD hG G
      refine AWp.regionW ?_
      refine AWp.regionW ?_
      refine AWp.condLM (fun c1 => ?_) (fun c1 => ?_)
      · skip
        have h1 : i < l.length - 1 := by simpa using c1
        rw [if_pos h1] at hst
        refine AWp.regionN fun K5 hK5 => ?_
        rw [show 4 + l[i].data.length + nSize l[i].kids = 4 + vlen l[i] by omega]
        refine ARun2.callM (gap03_c (4 + vlen l[i]) (by omega)) ?_
        refine ARun2.endm (hK5 _ ?_)
        refine hK4 _ ?_
        refine AWp.regionV ?_
        refine hK2 _ (i + 1) (by omega) (by omega) ?_
        refine Le.m 0 ?_ ?_
        · first | with_reducible rfl | (simp only [push_cast, reduceIte, Nat.reduceEqDiff, Nat.reduceLT, Nat.reduceAdd, Nat.reduceSub, Nat.reduceMul, Nat.reduceLeDiff, Nat.reducePow, Int.reduceLT, Int.reduceToNat, reduceCtorEq, Int.reduceNeg, Int.reduceEq, Nat.reduceBEq, Nat.reduceBNe, Int.reduceBEq, Int.reduceBNe, String.reduceEq]; first | done | rfl | (simp (disch := omega) only [w_nat, w_add, w_addl, w_addr, w_sub, w_subl, w_mul, w_mull, w_mulr, w_u32, w_u16, w_u8, w_u32a, N_zero]; first | done | rfl))
        · simp only [push_cast, reduceIte, Nat.reduceEqDiff, Nat.reduceLT, Nat.reduceAdd, Nat.reduceSub, Nat.reduceMul, Nat.reduceLeDiff, Nat.reducePow, Int.reduceLT, Int.reduceToNat, reduceCtorEq, Int.reduceNeg, Int.reduceEq, Nat.reduceBEq, Nat.reduceBNe, Int.reduceBEq, Int.reduceBNe, String.reduceEq]
          try simp (disch := omega) only [w_nat, w_add, w_addl, w_addr, w_sub, w_subl, w_mul, w_mull, w_mulr, w_u32, w_u16, w_u8, w_u32a, N_zero]
          first | (rw [hst]; done) | (rw [hst]; congr 3; omega)
      · skip
        have h1 : ¬ i < l.length - 1 := by simpa using c1
        rw [if_neg h1] at hst
        refine AWp.skip ?_
        refine hK4 _ ?_
        refine AWp.regionV ?_
        refine hK2 _ (i + 1) (by omega) (by omega) ?_
        refine Le.m 0 ?_ ?_
        · first | with_reducible rfl | (simp only [push_cast, reduceIte, Nat.reduceEqDiff, Nat.reduceLT, Nat.reduceAdd, Nat.reduceSub, Nat.reduceMul, Nat.reduceLeDiff, Nat.reducePow, Int.reduceLT, Int.reduceToNat, reduceCtorEq, Int.reduceNeg, Int.reduceEq, Nat.reduceBEq, Nat.reduceBNe, Int.reduceBEq, Int.reduceBNe, String.reduceEq]; first | done | rfl | (simp (disch := omega) only [w_nat, w_add, w_addl, w_addr, w_sub, w_subl, w_mul, w_mull, w_mulr, w_u32, w_u16, w_u8, w_u32a, N_zero]; first | done | rfl))
        · simp only [push_cast, reduceIte, Nat.reduceEqDiff, Nat.reduceLT, Nat.reduceAdd, Nat.reduceSub, Nat.reduceMul, Nat.reduceLeDiff, Nat.reducePow, Int.reduceLT, Int.reduceToNat, reduceCtorEq, Int.reduceNeg, Int.reduceEq, Nat.reduceBEq, Nat.reduceBNe, Int.reduceBEq, Int.reduceBNe, String.reduceEq]
          try simp (disch := omega) only [w_nat, w_add, w_addl, w_addr, w_sub, w_subl, w_mul, w_mull, w_mulr, w_u32, w_u16, w_u8, w_u32a, N_zero]
          first | (rw [hst]; done) | (rw [hst]; congr 3; omega)
    · skip
      have hil : i = l.length := by simp at c0; omega
      subst hil
      refine AWp.exit ?_
      simp only [thenQ, blockQ, reduceIte, Nat.reduceEqDiff]
      refine hK1 _ ?_
      refine AWp.regionW ?_
      refine AWp.ret ?_
      try simp only [thenQ, blockQ]
      refine bodyQ.m ?_
      clear hK3 K3 hK2 K2 hK1 K1
      unfold szR; rw [if_neg (Nat.lt_irrefl _)]
      first | done | exact Hand.go
theorem size08_w : ∀ (w : Nat) (l : List GNode), szs l ≤ w → nSize l ≤ 2 ^ 30 → PC Try.prog 38 [.sl false 3 (nodesA false l)] (nat (nSize l)) := by
  have kl : ∀ (a : GNode) (l : List GNode), a ∈ l → szs a.kids < szs l := by
    intro a l ha
    have := szs_mem ha; rw [GNode.sz_eq] at this; omega
  intro w
  induction w with
  | zero => exact fun l hw hs => size08_step l hs (fun a ha => by have := kl a l ha; omega)
  | succ w ih => exact fun l hw hs => size08_step l hs (fun a ha => by have := kl a l ha; have := nSize_kids ha; exact ih _ (by omega) (by omega))
theorem size08_c (l : List GNode) (hs : nSize l ≤ 2 ^ 30) : PC Try.prog 38 [.sl false 3 (nodesA false l)] (nat (nSize l)) := size08_w _ l (Nat.le_refl _) hs
end Go.Proofs.Ytmcedkcehcacpaa.C

/- The reference: Check, Count, Value, Types. -/
set_option linter.unusedVariables false
set_option linter.unusedSimpArgs false
namespace Go.Proofs.Ytmcedkcehcacpaa.C
open Go.Abs

theorem form_small (c t : Nat) : (shapeOf c t).kids ≤ 4 ∧ (shapeOf c t).least < 2 ^ 40 ∧ (shapeOf c t).most < 2 ^ 40 ∧ (shapeOf c t).unit < 2 ^ 40 ∧ (shapeHas c t = true → (shapeOf c t).cls = c ∧ 0 < (shapeOf c t).unit) ∧ (shapeHas c t = false → shapeOf c t = zeroForm) := by
  have key : ∀ l : List ShForm, (∀ f ∈ l, f.kids ≤ 4 ∧ f.least < 2 ^ 40 ∧ f.most < 2 ^ 40 ∧ f.unit < 2 ^ 40 ∧ 0 < f.unit) →
      let g := (((l.find? fun f => f.ty == t).map fun f => { f with cls := c }).getD zeroForm)
      g.kids ≤ 4 ∧ g.least < 2 ^ 40 ∧ g.most < 2 ^ 40 ∧ g.unit < 2 ^ 40 ∧ ((l.find? fun f => f.ty == t).isSome = true → g.cls = c ∧ 0 < g.unit) ∧ ((l.find? fun f => f.ty == t).isSome = false → g = zeroForm) := by
    intro l hl
    cases hf : l.find? (fun f => f.ty == t) with
    | none => simp [zeroForm]
    | some f =>
      have := hl f (List.mem_of_find?_eq_some hf)
      simp
      omega
  refine key (formsN c) ?_
  match c with
  | 0 => intro f hf; simp [formsN] at hf
  | 1 => decide
  | 2 => decide
  | _ + 3 => intro f hf; simp [formsN] at hf

theorem counted_eq (c t : Nat) (d : List UInt8) (k : List GNode) (h : badN c t d.length k = false) (hc : c = 2) (ht : t = 2) : (!countedR d) = countedN c t d := by
  subst hc; subst ht
  have hf : fitsN (shapeOf 2 2) d.length = true := by
    unfold badN at h
    have : shapeHas 2 2 = true := rfl
    rw [this] at h
    cases hq : fitsN (shapeOf 2 2) d.length with
    | true => rfl
    | false => rw [hq] at h; simp at h
  have hl : 6 ≤ d.length ∧ (d.length - 6) % 2 = 0 := by
    have e : shapeOf 2 2 = ⟨2, 2, ⟨#[109, 105, 115, 115, 105, 110, 103, 45, 112, 97, 114, 97, 109, 101, 116, 101, 114]⟩, 6, 65531, 2, 0⟩ := rfl
    rw [e] at hf
    unfold fitsN at hf
    simp only [Bool.and_eq_true, decide_eq_true_eq, beq_iff_eq] at hf
    exact ⟨hf.1.1, hf.2⟩
  unfold countedR countedN
  rw [Bool.eq_iff_iff]
  simp
  omega

theorem check08_step (c dp : Nat) (n : GNode) (hc : c = 1 ∨ c = 2) (hdp : dp < 2 ^ 60) (hs : nSize [n] ≤ 2 ^ 30)
    (ih : ∀ (c dp : Nat) (a : GNode), a ∈ n.kids → (c = 1 ∨ c = 2) → dp < 2 ^ 60 → nSize [a] ≤ 2 ^ 30 → PC Try.prog 24 [nat c, nodeA false a, nat dp] (nat (checkN c dp a))) :
    PC Try.prog 24 [nat c, nodeA false n, nat dp] (nat (checkN c dp n)) := by
  have hkl := nSize_len n.kids
  have hk1 := nSize_kids1 n
  have hdl := nSize_data n
  obtain ⟨f1, f2, f3, f4, f5, f6⟩ := form_small c n.ty
  have hcl : (shapeOf c n.ty).cls = if shapeHas c n.ty = true then c else 0 := by
    cases h : shapeHas c n.ty with
    | true => exact (f5 h).1
    | false => rw [f6 h]; rfl
  have hc0 : ((shapeOf c n.ty).cls == 0) = !shapeHas c n.ty := by
    rw [hcl]; cases shapeHas c n.ty <;> simp; omega
  have hc1 : decide (0 < (shapeOf c n.ty).cls) = shapeHas c n.ty := by
    rw [hcl]; cases shapeHas c n.ty <;> simp; omega
  refine PC.of_bodyW (by simp only [push_cast]) Try.func24 rfl (by rw [Try.ntmps24]; simp) ?_
  refine AWp.regionW ?_
  refine AWp.seqK fun K1 hK1 => ?_
  refine AWp.regionW ?_
  refine AWp.condLM (fun c0 => ?_) (fun c0 => ?_)
  · skip
    have h0 : 4 < dp := by simpa using c0
    refine AWp.regionW ?_
    refine AWp.ret ?_
    try simp only [thenQ, blockQ]
    refine bodyQ.m ?_
    clear hK1 K1
    rw [checkN_eq, if_pos h0]
    first | done | exact Hand.go
  · skip
    have h0 : ¬ 4 < dp := by simpa using c0
    refine AWp.skip ?_
    refine hK1 _ ?_
    refine AWp.regionM fun K2 hK2 => ?_
    refine ARun2.callM (of07_c c n.ty hc) ?_
    refine ARun2.endm (hK2 _ ?_)
    refine AWp.seqK fun K3 hK3 => ?_
    refine AWp.regionA fun K4 hK4 => ?_
    refine ARun.segm 4 fun KS hKS => ?_
    refine ARun2.endm (hKS _ ?_); clear hKS KS
    apply ARun.grpM 4 3 true 23 [0, 2, 4, 7, 19]
    · intro g3 KG hKG
      refine ARun2.gom ?_
      exact ARun2.endm (hKG _ Le.grpM)
    refine ARun2.gom ?_
    refine ARun2.endm (hK4 _ ?_)
    refine AWp.condLM (fun c1 => ?_) (fun c1 => ?_)
    · skip
      rw [hc0] at c1
      have hb : badN c n.ty n.data.length n.kids = true := by unfold badN; rw [c1]; rfl
      refine AWp.regionW ?_
      refine AWp.ret ?_
      try simp only [thenQ, blockQ]
      refine bodyQ.m ?_
      clear hK4 K4 hK3 K3 hK2 K2 hK1 K1
      rw [checkN_eq, if_neg h0, if_pos hb]
      first | done | exact Hand.go
    · skip
      rw [hc0] at c1
      refine AWp.skip ?_
      refine hK3 _ ?_
      refine AWp.seqK fun K5 hK5 => ?_
      refine AWp.regionA fun K6 hK6 => ?_
      refine ARun.segm 4 fun KS hKS => ?_
      refine ARun2.endm (hKS _ ?_); clear hKS KS
      apply ARun.grpM 13 3 true 41 [0, 2, 4, 7, 28]
      · intro g3 KG hKG
        rw [hc1] at g3
        refine ARun.segm 7 fun KS hKS => ?_
        refine ARun2.callM (fits07_c (shapeOf c n.ty) n.data.length (by omega) f2 f3 (f5 g3).2 f4) ?_
        refine ARun2.endm (hKS _ ?_); clear hKS KS
        apply ARun.grpM 5 10 false 40 [0, 2, 4, 7, 28, 35]
        · intro g10 KG hKG
          refine ARun2.gom ?_
          refine ARun2.callM (wanted_c (shapeOf c n.ty) n.kids (by omega) f1) ?_
          exact ARun2.endm (hKG _ Le.grpM)
        refine ARun2.gom ?_
        exact ARun2.endm (hKG _ Le.grpM)
      refine ARun2.gom ?_
      refine ARun2.endm (hK6 _ ?_)
      refine AWp.condLM (fun c2 => ?_) (fun c2 => ?_)
      · skip
        rw [hc1] at c2
        have hb : badN c n.ty n.data.length n.kids = true := by
          unfold badN; revert c1 c2
          cases shapeHas c n.ty <;> cases fitsN (shapeOf c n.ty) n.data.length <;> cases kidsOk (shapeOf c n.ty) n.kids <;> simp
        refine AWp.regionW ?_
        refine AWp.ret ?_
        try simp only [thenQ, blockQ]
        refine bodyQ.m ?_
        clear hK6 K6 hK5 K5 hK4 K4 hK3 K3 hK2 K2 hK1 K1
        rw [checkN_eq, if_neg h0, if_pos hb]
        first | done | exact Hand.go
      · skip
        rw [hc1] at c2
        have hb : badN c n.ty n.data.length n.kids = false := by
          unfold badN; revert c1 c2
          cases shapeHas c n.ty <;> cases fitsN (shapeOf c n.ty) n.data.length <;> cases kidsOk (shapeOf c n.ty) n.kids <;> simp
        have hb' : ¬ badN c n.ty n.data.length n.kids = true := by rw [hb]; simp
        refine AWp.skip ?_
        refine hK5 _ ?_
        refine AWp.seqK fun K7 hK7 => ?_
        refine AWp.regionA fun K8 hK8 => ?_
        refine ARun.segm 3 fun KS hKS => ?_
        refine ARun2.endm (hKS _ ?_); clear hKS KS
        apply ARun.grpM 3 2 true 48 [2, 4, 7, 45]
        · intro g2 KG hKG
          refine ARun2.gom ?_
          exact ARun2.endm (hKG _ Le.grpM)
        refine ARun.segm 2 fun KS hKS => ?_
        refine ARun2.endm (hKS _ ?_); clear hKS KS
        apply ARun.grpM 4 7 true 54 [2, 4, 7, 50]
        · intro g7 KG hKG
          refine ARun2.gom ?_
          refine ARun2.callM (counted08_c n.data (by omega)) ?_
          exact ARun2.endm (hKG _ Le.grpM)
        refine ARun2.gom ?_
        refine ARun2.endm (hK8 _ ?_)
        refine AWp.condLM (fun c3 => ?_) (fun c3 => ?_)
        · skip
          have h3 : countedN c n.ty n.data = true := by
            simp only [Bool.and_eq_true, beq_iff_eq] at c3
            rw [← counted_eq c n.ty n.data n.kids hb c3.1.1 c3.1.2]; exact c3.2
          refine AWp.regionW ?_
          refine AWp.ret ?_
          try simp only [thenQ, blockQ]
          refine bodyQ.m ?_
          clear hK8 K8 hK7 K7 hK6 K6 hK5 K5 hK4 K4 hK3 K3 hK2 K2 hK1 K1
          rw [checkN_eq, if_neg h0, if_neg hb', if_pos h3]
          first | done | exact Hand.go
        · skip
          have h3 : ¬ countedN c n.ty n.data = true := by
            intro h3
            have e : c = 2 ∧ n.ty = 2 := by unfold countedN at h3; simp only [Bool.and_eq_true, beq_iff_eq] at h3; exact ⟨h3.1, h3.2.1⟩
            rw [← counted_eq c n.ty n.data n.kids hb e.1 e.2] at h3
            rw [e.1, e.2, h3] at c3
            simp at c3
          refine AWp.skip ?_
          refine hK7 _ ?_
          refine AWp.seqK fun K9 hK9 => ?_
          refine AWp.regionW ?_
          refine AWp.block ?_
          refine AWp.loopK0 [2, 4, 7] (fun (i : Nat) => [(8, nat i)]) (fun i => i ≤ n.kids.length ∧ checkL (insideN (shapeOf c n.ty).kids).1 (dp + 1) (n.kids.take i) = 0) (fun i => n.kids.length - i) (0) ?_ ⟨Nat.zero_le _, rfl⟩ ?_
          · skip
            refine Le.m 2 ?_ ?_
            · first | with_reducible rfl | (simp only [push_cast, reduceIte, Nat.reduceEqDiff, Nat.reduceLT, Nat.reduceAdd, Nat.reduceSub, Nat.reduceMul, Nat.reduceLeDiff, Nat.reducePow, Int.reduceLT, Int.reduceToNat, reduceCtorEq, Int.reduceNeg, Int.reduceEq, Nat.reduceBEq, Nat.reduceBNe, Int.reduceBEq, Int.reduceBNe, String.reduceEq]; first | done | rfl | (simp (disch := omega) only [w_nat, w_add, w_addl, w_addr, w_sub, w_subl, w_mul, w_mull, w_mulr, w_u32, w_u16, w_u8, w_u32a, N_zero]; first | done | rfl))
            · first | (simp only [push_cast, reduceIte, Nat.reduceEqDiff, Nat.reduceLT, Nat.reduceAdd, Nat.reduceSub, Nat.reduceMul, Nat.reduceLeDiff, Nat.reducePow, Int.reduceLT, Int.reduceToNat, reduceCtorEq, Int.reduceNeg, Int.reduceEq, Nat.reduceBEq, Nat.reduceBNe, Int.reduceBEq, Int.reduceBNe, String.reduceEq]; first | done | rfl | (simp (disch := omega) only [w_nat, w_add, w_addl, w_addr, w_sub, w_subl, w_mul, w_mull, w_mulr, w_u32, w_u16, w_u8, w_u32a, N_zero]; first | done | rfl))
          · intro i hi K10 hK10
            refine AWp.seqK fun K11 hK11 => ?_
            refine AWp.regionW ?_
            refine AWp.condLM (fun c4 => ?_) (fun c4 => ?_)
            · skip
              have hil : i < n.kids.length := by simpa using c4
              have hm := List.getElem_mem hil
              have hci := inside_class c n.ty n.data.length n.kids hb (by omega)
              refine AWp.skip ?_
              refine hK11 _ ?_
              refine AWp.seqK fun K12 hK12 => ?_
              refine AWp.block ?_
              refine AWp.drS [[(7, none)], [(63, some 0)], [(64, some 1)], [(4, none)], [(66, some 3)], [(8, none)], [(67, some 4), (68, some 5)], [(69, some 6)], [(2, none)], [(71, some 8)], [(65, some 2), (70, some 7), (72, some 9)], [(73, some 10)]] fun G hG => ?_
              refine Dr.sim ?_
              try simp only [List.cons_append, List.nil_append]
              refine Dr.sim ?_
              try simp only [List.cons_append, List.nil_append]
              refine Dr.call (inside08_c (shapeOf c n.ty).kids f1) ?_
              try simp only [List.cons_append, List.nil_append]
              refine Dr.sim ?_
              try simp only [List.cons_append, List.nil_append]
              refine Dr.sim ?_
              try simp only [List.cons_append, List.nil_append]
              refine Dr.sim ?_
              try simp only [List.cons_append, List.nil_append]
              refine Dr.idx (i) (nodeA false n.kids[i]) ?_ ?_
              · exact nodesA_at _ _ _ hil
              try simp only [List.cons_append, List.nil_append]
              refine Dr.sim ?_
              try simp only [List.cons_append, List.nil_append]
              refine Dr.sim ?_
              try simp only [List.cons_append, List.nil_append]
              refine Dr.sim ?_
              try simp only [List.cons_append, List.nil_append]
              refine Dr.call (ih (insideN (shapeOf c n.ty).kids).1 (dp + 1) n.kids[i] hm hci (by omega) (by have := nSize_one hm; omega)) ?_
              try simp only [List.cons_append, List.nil_append]
              refine Dr.sim ?_
              try simp only [List.cons_append, List.nil_append]
              refine Dr.finM (n := 12) [(9, 11)] [2, 4, 7, 8] hG Ytmcedkcehcacpaa.Facts.mixed fun KD hKD => ?_
              refine ARun2.endm (hKD _ ?_); clear hKD KD hG G
              refine AWp.regionW ?_
              refine AWp.condLM (fun c5 => ?_) (fun c5 => ?_)
              · skip
                have h5 : checkN (insideN (shapeOf c n.ty).kids).1 (dp + 1) n.kids[i] ≠ 0 := by simpa using c5
                refine AWp.regionW ?_
                refine AWp.ret ?_
                try simp only [thenQ, blockQ]
                refine bodyQ.m ?_
                clear hK12 K12 hK11 K11 hK10 K10 hK9 K9 hK8 K8 hK7 K7 hK6 K6 hK5 K5 hK4 K4 hK3 K3 hK2 K2 hK1 K1
                have hL := checkL_at _ _ n.kids i hil hi.2 h5
                rw [checkN_eq c dp n, if_neg h0, if_neg hb', if_neg h3, if_pos (by rw [hL]; exact h5), hL]
                first | done | exact Hand.go
              · skip
                have h5 : checkN (insideN (shapeOf c n.ty).kids).1 (dp + 1) n.kids[i] = 0 := by simpa using c5
                refine AWp.skip ?_
                refine hK12 _ ?_
                refine AWp.regionV ?_
                refine hK10 _ (i + 1) (⟨by omega, by rw [List.take_succ_eq_append_getElem hil, checkL_snoc, hi.2]; simpa using h5⟩) (by omega) ?_
                refine Le.m 2 ?_ ?_
                · first | with_reducible rfl | (simp only [push_cast, reduceIte, Nat.reduceEqDiff, Nat.reduceLT, Nat.reduceAdd, Nat.reduceSub, Nat.reduceMul, Nat.reduceLeDiff, Nat.reducePow, Int.reduceLT, Int.reduceToNat, reduceCtorEq, Int.reduceNeg, Int.reduceEq, Nat.reduceBEq, Nat.reduceBNe, Int.reduceBEq, Int.reduceBNe, String.reduceEq]; first | done | rfl | (simp (disch := omega) only [w_nat, w_add, w_addl, w_addr, w_sub, w_subl, w_mul, w_mull, w_mulr, w_u32, w_u16, w_u8, w_u32a, N_zero]; first | done | rfl))
                · first | (simp only [push_cast, reduceIte, Nat.reduceEqDiff, Nat.reduceLT, Nat.reduceAdd, Nat.reduceSub, Nat.reduceMul, Nat.reduceLeDiff, Nat.reducePow, Int.reduceLT, Int.reduceToNat, reduceCtorEq, Int.reduceNeg, Int.reduceEq, Nat.reduceBEq, Nat.reduceBNe, Int.reduceBEq, Int.reduceBNe, String.reduceEq]; first | done | rfl | (simp (disch := omega) only [w_nat, w_add, w_addl, w_addr, w_sub, w_subl, w_mul, w_mull, w_mulr, w_u32, w_u16, w_u8, w_u32a, N_zero]; first | done | rfl))
            · skip
              have hil : i = n.kids.length := by have := hi.1; simp at c4; omega
              have hL : checkL (insideN (shapeOf c n.ty).kids).1 (dp + 1) n.kids = 0 := by have := hi.2; rwa [hil, List.take_length] at this
              subst hil
              refine AWp.exit ?_
              simp only [thenQ, blockQ, reduceIte, Nat.reduceEqDiff]
              refine hK9 _ ?_
              refine AWp.seqK fun K13 hK13 => ?_
              refine AWp.regionM fun K14 hK14 => ?_
              refine ARun2.callM (size08_c [n] hs) ?_
              refine ARun2.endm (hK14 _ ?_)
              refine AWp.condLM (fun c6 => ?_) (fun c6 => ?_)
              · skip
                have h6 : 65535 < nSize [n] := by simpa using c6
                refine AWp.regionW ?_
                refine AWp.ret ?_
                try simp only [thenQ, blockQ]
                refine bodyQ.m ?_
                clear hK14 K14 hK13 K13 hK11 K11 hK10 K10 hK9 K9 hK8 K8 hK7 K7 hK6 K6 hK5 K5 hK4 K4 hK3 K3 hK2 K2 hK1 K1
                rw [checkN_eq, if_neg h0, if_neg hb', if_neg h3, if_neg (by rw [hL]; simp), if_pos h6]
                first | done | exact Hand.go
              · skip
                have h6 : ¬ 65535 < nSize [n] := by simpa using c6
                refine AWp.skip ?_
                refine hK13 _ ?_
                refine AWp.regionW ?_
                refine AWp.ret ?_
                try simp only [thenQ, blockQ]
                refine bodyQ.m ?_
                clear hK14 K14 hK13 K13 hK11 K11 hK10 K10 hK9 K9 hK8 K8 hK7 K7 hK6 K6 hK5 K5 hK4 K4 hK3 K3 hK2 K2 hK1 K1
                rw [checkN_eq, if_neg h0, if_neg hb', if_neg h3, if_neg (by rw [hL]; simp), if_neg h6]
                first | done | exact Hand.go
theorem check08_w : ∀ (w c dp : Nat) (n : GNode), n.sz ≤ w → (c = 1 ∨ c = 2) → dp < 2 ^ 60 → nSize [n] ≤ 2 ^ 30 → PC Try.prog 24 [nat c, nodeA false n, nat dp] (nat (checkN c dp n)) := by
  intro w
  induction w with
  | zero => intro c dp n h; have := n.sz_eq; omega
  | succ w ih => exact fun c dp n hw hc hdp hs => check08_step c dp n hc hdp hs (fun c dp a ha hc hdp hs => ih c dp a (by have := szs_lt ha; omega) hc hdp hs)
theorem check08_c (c dp : Nat) (n : GNode) (hc : c = 1 ∨ c = 2) (hdp : dp < 2 ^ 60) (hs : nSize [n] ≤ 2 ^ 30) : PC Try.prog 24 [nat c, nodeA false n, nat dp] (nat (checkN c dp n)) := check08_w _ c dp n (Nat.le_refl _) hc hdp hs
end Go.Proofs.Ytmcedkcehcacpaa.C

/- The reference: Count, Few, Value, Types. -/
set_option linter.unusedVariables false
set_option linter.unusedSimpArgs false
namespace Go.Proofs.Ytmcedkcehcacpaa.C
open Go.Abs

/-- the loop of Count -/
def cntL (g : GNode → Nat) : List GNode → Nat → Nat
  | [], s => s
  | n :: l, s => if s < 1000 then cntL g l (s + 1 + n.data.length / 1000 + g n) else s
/-- how many nodes there are, up to a bound; f: how much deeper it may go -/
def countF : Nat → List GNode → Nat
  | 0, _ => 1000
  | f + 1, l => cntL (fun n => countF f n.kids) l 0

theorem cntL_le (g : GNode → Nat) (hg : ∀ n, g n ≤ 1000 + 2000 * szs n.kids) : ∀ (l : List GNode) (s : Nat), cntL g l s ≤ s + 2000 * szs l
  | [], s => by simp [cntL, szs]
  | n :: l, s => by
    have h1 := n.sz_eq
    have h2 := hg n
    have h3 := cntL_le g hg l (s + 1 + n.data.length / 1000 + g n)
    simp only [cntL, szs]
    split <;> omega
theorem countF_le : ∀ (f : Nat) (l : List GNode), countF f l ≤ 1000 + 2000 * szs l
  | 0, l => by simp [countF]
  | f + 1, l => by
    have := cntL_le (fun n => countF f n.kids) (fun n => countF_le f n.kids) l 0
    simp only [countF]; omega
theorem szs_take (l : List GNode) (i : Nat) (h : i < l.length) : szs (l.take (i + 1)) = szs (l.take i) + l[i].sz := by
  rw [List.take_succ_eq_append_getElem h]
  generalize l.take i = a
  induction a with
  | nil => simp [szs]
  | cons x a ih => simp only [List.cons_append, szs, ih]; omega
theorem szs_take_le (l : List GNode) : ∀ i, szs (l.take i) ≤ szs l := by
  induction l with
  | nil => simp [szs]
  | cons x l ih => intro i; cases i with
    | zero => simp [szs]
    | succ i => have := ih i; simp only [List.take_succ_cons, szs]; omega

theorem count_step (f dp : Nat) (hf : f + dp = 21) (l : List GNode) (hs : szs l ≤ 2 ^ 30) (ih : ∀ a ∈ l, 0 < f → PC Try.prog 31 [.sl false 3 (nodesA false a.kids), nat (dp + 1)] (nat (countF (f - 1) a.kids))) :
    PC Try.prog 31 [.sl false 3 (nodesA false l), nat dp] (nat (countF f l)) := by
  have hlen := szs_len l
  refine PC.of_bodyW (by simp only [push_cast]) Try.func31 rfl (by rw [Try.ntmps31]; simp) ?_
  refine AWp.regionW ?_
  refine AWp.regionW ?_
  refine AWp.seqK fun K1 hK1 => ?_
  refine AWp.regionW ?_
  refine AWp.condLM (fun c0 => ?_) (fun c0 => ?_)
  · skip
    have h0 : f = 0 := by have := of_decide_eq_true c0; omega
    refine AWp.regionW ?_
    refine AWp.ret ?_
    try simp only [thenQ, blockQ]
    refine bodyQ.m ?_
    clear hK1 K1
    rw [h0, countF]
    first | done | exact Hand.go
  · skip
    obtain ⟨e, rfl⟩ : ∃ e, f = e + 1 := ⟨f - 1, by have : ¬ 20 < dp := of_decide_eq_false c0; omega⟩
    rw [Nat.add_sub_cancel] at ih
    have hq : countF (e + 1) l = cntL (fun n => countF e n.kids) l 0 := rfl
    refine AWp.skip ?_
    refine hK1 _ ?_
    refine AWp.seqK fun K2 hK2 => ?_
    refine AWp.regionW ?_
    refine AWp.block ?_
    refine AWp.loopK0 [0, 1] (fun (x : Nat × Nat) => [(6, nat x.1), (5, nat x.2)]) (fun x => x.1 ≤ l.length ∧ cntL (fun n => countF e n.kids) (l.drop x.1) x.2 = countF (e + 1) l ∧ x.2 ≤ 2000 * szs (l.take x.1)) (fun x => l.length - x.1) ((0, 0)) ?_ ⟨Nat.zero_le _, rfl, Nat.zero_le _⟩ ?_
    · skip
      refine Le.m 0 ?_ ?_
      · first | with_reducible rfl | (simp only [push_cast, reduceIte, Nat.reduceEqDiff, Nat.reduceLT, Nat.reduceAdd, Nat.reduceSub, Nat.reduceMul, Nat.reduceLeDiff, Nat.reducePow, Int.reduceLT, Int.reduceToNat, reduceCtorEq, Int.reduceNeg, Int.reduceEq, Nat.reduceBEq, Nat.reduceBNe, Int.reduceBEq, Int.reduceBNe, String.reduceEq]; first | done | rfl | (simp (disch := omega) only [w_nat, w_add, w_addl, w_addr, w_sub, w_subl, w_mul, w_mull, w_mulr, w_u32, w_u16, w_u8, w_u32a, N_zero]; first | done | rfl))
      · first | (simp only [push_cast, reduceIte, Nat.reduceEqDiff, Nat.reduceLT, Nat.reduceAdd, Nat.reduceSub, Nat.reduceMul, Nat.reduceLeDiff, Nat.reducePow, Int.reduceLT, Int.reduceToNat, reduceCtorEq, Int.reduceNeg, Int.reduceEq, Nat.reduceBEq, Nat.reduceBNe, Int.reduceBEq, Int.reduceBNe, String.reduceEq]; first | done | rfl | (simp (disch := omega) only [w_nat, w_add, w_addl, w_addr, w_sub, w_subl, w_mul, w_mull, w_mulr, w_u32, w_u16, w_u8, w_u32a, N_zero]; first | done | rfl))
    · intro x hx K3 hK3
      obtain ⟨i, s⟩ := x
      obtain ⟨hi, hc, hb⟩ := hx
      simp only at hi hc hb
      refine AWp.seqK fun K4 hK4 => ?_
      refine AWp.regionA fun K5 hK5 => ?_
      refine ARun.segm 5 fun KS hKS => ?_
      refine ARun2.endm (hKS _ ?_); clear hKS KS
      apply ARun.grpM 2 4 true 15 [0, 1, 5, 6, 13]
      · intro g4 KG hKG
        refine ARun2.gom ?_
        exact ARun2.endm (hKG _ Le.grpM)
      refine ARun2.gom ?_
      refine ARun2.endm (hK5 _ ?_)
      refine AWp.condLM (fun c1 => ?_) (fun c1 => ?_)
      · skip
        have h1 : i < l.length ∧ s < 1000 := by simpa using c1
        have hil := h1.1
        have hm := List.getElem_mem hil
        have hsm := szs_mem hm
        have hse := GNode.sz_eq l[i]
        have hcl := countF_le e l[i].kids
        have hst := szs_take l i hil
        have hd : l.drop i = l[i] :: l.drop (i + 1) := List.drop_eq_getElem_cons hil
        refine AWp.skip ?_
        refine hK4 _ ?_
        refine AWp.seqK fun K6 hK6 => ?_
        refine AWp.block ?_
        refine AWp.drE [[(5, none)], [(19, some 0)], [(0, none)], [(6, none)], [(21, some 2), (22, some 3)], [(23, some 4)], [(24, some 5)], [(25, some 6)], [(26, some 7)], [(20, some 1), (27, some 8)], [(0, none)], [(6, none)], [(29, some 10), (30, some 11)], [(31, some 12)], [(32, some 13)], [(1, none)], [(34, some 15)], [(33, some 14), (35, some 16)], [(28, some 9), (36, some 17)], [(37, some 18)]] fun G hG => ?_
        refine Dr.sim ?_
        try simp only [List.cons_append, List.nil_append]
        refine Dr.sim ?_
        try simp only [List.cons_append, List.nil_append]
        refine Dr.sim ?_
        try simp only [List.cons_append, List.nil_append]
        refine Dr.sim ?_
        try simp only [List.cons_append, List.nil_append]
        refine Dr.idx (i) (nodeA false l[i]) ?_ ?_
        · exact nodesA_at _ _ _ hil
        try simp only [List.cons_append, List.nil_append]
        refine Dr.sim ?_
        try simp only [List.cons_append, List.nil_append]
        refine Dr.sim ?_
        try simp only [List.cons_append, List.nil_append]
        refine Dr.sim ?_
        try simp only [List.cons_append, List.nil_append]
        refine Dr.sim ?_
        try simp only [List.cons_append, List.nil_append]
        refine Dr.sim ?_
        try simp only [List.cons_append, List.nil_append]
        refine Dr.sim ?_
        try simp only [List.cons_append, List.nil_append]
        refine Dr.sim ?_
        try simp only [List.cons_append, List.nil_append]
        refine Dr.idx (i) (nodeA false l[i]) ?_ ?_
        · exact nodesA_at _ _ _ hil
        try simp only [List.cons_append, List.nil_append]
        refine Dr.sim ?_
        try simp only [List.cons_append, List.nil_append]
        refine Dr.sim ?_
        try simp only [List.cons_append, List.nil_append]
        refine Dr.sim ?_
        try simp only [List.cons_append, List.nil_append]
        refine Dr.sim ?_
        try simp only [List.cons_append, List.nil_append]
        refine Dr.call (ih l[i] hm (by omega)) ?_
        try simp only [List.cons_append, List.nil_append]
        refine Dr.sim ?_
        try simp only [List.cons_append, List.nil_append]
        refine Dr.sim ?_
        try simp only [List.cons_append, List.nil_append]
        refine Dr.finN (n := 20) [(5, 19)] [0, 1, 6] hG Ytmcedkcehcacpaa.Facts.mixed fun KD hKD => ?_
        refine ARun2.endm (hKD _ ?_); clear hKD KD hG G
        refine hK6 _ ?_
        refine AWp.regionV ?_
        refine hK3 _ ((i + 1, s + 1 + l[i].data.length / 1000 + countF e l[i].kids)) (⟨hil, by rw [← hc, hd, cntL, if_pos h1.2], by simp only; omega⟩) (by simp only; omega) ?_
        refine Le.m 0 ?_ ?_
        · first | with_reducible rfl | (simp only [push_cast, reduceIte, Nat.reduceEqDiff, Nat.reduceLT, Nat.reduceAdd, Nat.reduceSub, Nat.reduceMul, Nat.reduceLeDiff, Nat.reducePow, Int.reduceLT, Int.reduceToNat, reduceCtorEq, Int.reduceNeg, Int.reduceEq, Nat.reduceBEq, Nat.reduceBNe, Int.reduceBEq, Int.reduceBNe, String.reduceEq]; first | done | rfl | (simp (disch := omega) only [w_nat, w_add, w_addl, w_addr, w_sub, w_subl, w_mul, w_mull, w_mulr, w_u32, w_u16, w_u8, w_u32a, N_zero]; first | done | rfl))
        · first | (simp only [push_cast, reduceIte, Nat.reduceEqDiff, Nat.reduceLT, Nat.reduceAdd, Nat.reduceSub, Nat.reduceMul, Nat.reduceLeDiff, Nat.reducePow, Int.reduceLT, Int.reduceToNat, reduceCtorEq, Int.reduceNeg, Int.reduceEq, Nat.reduceBEq, Nat.reduceBNe, Int.reduceBEq, Int.reduceBNe, String.reduceEq]; first | done | rfl | (simp (disch := omega) only [w_nat, w_add, w_addl, w_addr, w_sub, w_subl, w_mul, w_mull, w_mulr, w_u32, w_u16, w_u8, w_u32a, N_zero]; first | done | rfl))
      · skip
        have h1 : ¬ (i < l.length ∧ s < 1000) := by intro h; simp [h.1, h.2] at c1
        have hr : countF (e + 1) l = s := by
          rw [← hc]
          rcases Nat.lt_or_ge i l.length with h | h
          · rw [List.drop_eq_getElem_cons h, cntL, if_neg (fun h2 => h1 ⟨h, h2⟩)]
          · rw [List.drop_of_length_le h, cntL]
        refine AWp.exit ?_
        simp only [thenQ, blockQ, reduceIte, Nat.reduceEqDiff]
        refine hK2 _ ?_
        refine AWp.regionW ?_
        refine AWp.ret ?_
        try simp only [thenQ, blockQ]
        refine bodyQ.m ?_
        clear hK5 K5 hK4 K4 hK3 K3 hK2 K2 hK1 K1
        rw [hr]
        first | done | exact Hand.go
theorem count_w : ∀ (f dp : Nat) (l : List GNode), f + dp = 21 → szs l ≤ 2 ^ 30 → PC Try.prog 31 [.sl false 3 (nodesA false l), nat dp] (nat (countF f l)) := by
  intro f
  induction f with
  | zero => exact fun dp l h hs => count_step 0 dp h l hs (fun a _ h => by omega)
  | succ f ih => exact fun dp l h hs => count_step (f + 1) dp h l hs (fun a ha _ => ih (dp + 1) a.kids (by omega) (by have := szs_mem ha; rw [GNode.sz_eq] at this; omega))

/-- are there few nodes? -/
def fewN (l : List GNode) : Bool := decide (countF 21 l ≤ 200)
theorem few_c (l : List GNode) (hs : szs l ≤ 2 ^ 30) : PC Try.prog 14 [.sl false 3 (nodesA false l)] (bool (fewN l)) := by
  refine PC.of_bodyW (by simp only [push_cast]) Try.func14 rfl (by rw [Try.ntmps14]; simp) ?_
  refine AWp.regionW ?_
  refine AWp.regionM fun K1 hK1 => ?_
  refine ARun2.callM (count_w 21 0 l rfl hs) ?_
  refine ARun2.endm (hK1 _ ?_)
  refine AWp.ret ?_
  try simp only [thenQ, blockQ]
  refine bodyQ.m ?_
  clear hK1 K1
  rw [fewN]
  first | done | exact Hand.go

/-- a cause's number, as the reference has it -/
def refValueN (n : GNode) : Nat × Bool :=
  if n.data.length ≠ 4 ∨ 0 < n.kids.length ∨ (n.ty ≠ 1 ∧ n.ty ≠ 3 ∧ n.ty ≠ 9) then (0, false)
  else if n.ty = 1 then (beN n.data / 65536, beN n.data % 65536 == 0) else (beN n.data, true)
theorem shl_u32 {x k : Nat} (hk : k ≤ 24) (h : x < 256) : IntKind.u32.wrap (N x * 2 ^ min k IntKind.u32.bits) = N (x * 2 ^ k) := by
  have h2 : IntKind.u32.bits = 32 := rfl
  have h3 : (2 : Int) ^ k = ((2 ^ k : Nat) : Int) := by simp
  rw [h2, Nat.min_eq_left (by omega), IntKind.wrap_u32, h3]
  have h4 : x * 2 ^ k < 2 ^ 32 := by
    have : 2 ^ k ≤ 2 ^ 24 := Nat.pow_le_pow_right (by omega) hk
    calc x * 2 ^ k ≤ 255 * 2 ^ 24 := Nat.mul_le_mul (by omega) this
      _ < 2 ^ 32 := by decide
  have h5 : N x * ((2 ^ k : Nat) : Int) = ((x * 2 ^ k : Nat) : Int) := (Int.natCast_mul _ _).symm
  rw [h5]
  unfold N
  omega
theorem shr_u32 (x : Nat) : (N x).fdiv (2 ^ min 16 IntKind.u32.bits) = N (x / 65536) := by
  have h2 : IntKind.u32.bits = 32 := rfl
  rw [h2]
  show (x : Int).fdiv ((65536 : Nat) : Int) = ((x / 65536 : Nat) : Int)
  rw [Int.fdiv_eq_ediv_of_nonneg _ (Int.natCast_nonneg _)]; rfl
theorem be4 (d : List UInt8) (h : d.length = 4) : beN d = (d[0]'(by omega)).toNat * 2 ^ 24 + (d[1]'(by omega)).toNat * 2 ^ 16 + (d[2]'(by omega)).toNat * 2 ^ 8 + (d[3]'(by omega)).toNat := by
  match d, h with
  | [a, b, c, e], _ => simp [beN]; omega

theorem refValue_c (n : GNode) (hs : n.sz ≤ 2 ^ 30) : PC Try.prog 15 [nodeA false n] (.tup [u32 (refValueN n).1, bool (refValueN n).2]) := by
  have hsz := n.sz_eq
  refine PC.of_bodyW (by simp only [push_cast]) Try.func15 rfl (by rw [Try.ntmps15]; simp) ?_
  refine AWp.regionW ?_
  refine AWp.seqK fun K1 hK1 => ?_
  refine AWp.regionA fun K2 hK2 => ?_
  refine ARun.segm 5 fun KS hKS => ?_
  refine ARun2.endm (hKS _ ?_); clear hKS KS
  apply ARun.grpM 4 4 false 13 [1, 9]
  · intro g4 KG hKG
    refine ARun2.gom ?_
    exact ARun2.endm (hKG _ Le.grpM)
  refine ARun.segm 2 fun KS hKS => ?_
  refine ARun2.endm (hKS _ ?_); clear hKS KS
  apply ARun.grpM 13 10 false 28 [1, 15]
  · intro g10 KG hKG
    refine ARun.segm 4 fun KS hKS => ?_
    refine ARun2.endm (hKS _ ?_); clear hKS KS
    apply ARun.grpM 3 14 true 22 [1, 15, 19]
    · intro g14 KG hKG
      refine ARun2.gom ?_
      exact ARun2.endm (hKG _ Le.grpM)
    refine ARun.segm 2 fun KS hKS => ?_
    refine ARun2.endm (hKS _ ?_); clear hKS KS
    apply ARun.grpM 3 19 true 27 [1, 15, 24]
    · intro g19 KG hKG
      refine ARun2.gom ?_
      exact ARun2.endm (hKG _ Le.grpM)
    refine ARun2.gom ?_
    exact ARun2.endm (hKG _ Le.grpM)
  refine ARun2.gom ?_
  refine ARun2.endm (hK2 _ ?_)
  refine AWp.condLM (fun c0 => ?_) (fun c0 => ?_)
  · skip
    have h0 : n.data.length ≠ 4 ∨ 0 < n.kids.length ∨ (n.ty ≠ 1 ∧ n.ty ≠ 3 ∧ n.ty ≠ 9) := by
      by_cases a1 : n.data.length = 4
      · by_cases a2 : 0 < n.kids.length
        · exact .inr (.inl a2)
        · exact .inr (.inr (by simp_all))
      · exact .inl a1
    have hr : refValueN n = (0, false) := if_pos h0
    refine AWp.regionW ?_
    refine AWp.ret ?_
    try simp only [thenQ, blockQ]
    refine bodyQ.m ?_
    clear hK2 K2 hK1 K1
    rw [hr]
    first | done | exact Hand.go
  · skip
    have h0 : ¬ (n.data.length ≠ 4 ∨ 0 < n.kids.length ∨ (n.ty ≠ 1 ∧ n.ty ≠ 3 ∧ n.ty ≠ 9)) := by
      rintro (h | h | h)
      · simp [h] at c0
      · simp [h] at c0
      · simp [h.1, h.2.1, h.2.2] at c0
    have h4 : n.data.length = 4 := by omega
    have hbe := be4 n.data h4
    have hr : refValueN n = if n.ty = 1 then (beN n.data / 65536, beN n.data % 65536 == 0) else (beN n.data, true) := if_neg h0
    have t0 := (n.data[0]'(by omega)).toNat_lt
    have t1 := (n.data[1]'(by omega)).toNat_lt
    have t2 := (n.data[2]'(by omega)).toNat_lt
    have t3 := (n.data[3]'(by omega)).toNat_lt
    have hsum : IntKind.u32.wrap (IntKind.u32.wrap (IntKind.u32.wrap (IntKind.u32.wrap (N (n.data[0]'(by omega)).toNat * 2 ^ min 24 IntKind.u32.bits) + IntKind.u32.wrap (N (n.data[1]'(by omega)).toNat * 2 ^ min 16 IntKind.u32.bits)) + IntKind.u32.wrap (N (n.data[2]'(by omega)).toNat * 2 ^ min 8 IntKind.u32.bits)) + N (n.data[3]'(by omega)).toNat) = N (beN n.data) := by
      rw [shl_u32 (by omega) (by omega), shl_u32 (by omega) (by omega), shl_u32 (by omega) (by omega), w_u32a _ _ (by omega), w_u32a _ _ (by omega), w_u32a _ _ (by omega), hbe]
    refine AWp.skip ?_
    refine hK1 _ ?_
    refine AWp.drS [[(1, none)], [(30, some 0)], [(31, some 1)], [(32, some 2)], [(33, some 3)], [(34, some 4)], [(1, none)], [(36, some 6)], [(37, some 7)], [(38, some 8)], [(39, some 9)], [(40, some 10)], [(35, some 5), (41, some 11)], [(1, none)], [(43, some 13)], [(44, some 14)], [(45, some 15)], [(46, some 16)], [(47, some 17)], [(42, some 12), (48, some 18)], [(1, none)], [(50, some 20)], [(51, some 21)], [(52, some 22)], [(53, some 23)], [(49, some 19), (54, some 24)], [(55, some 25)]] fun G hG => ?_
    refine Dr.sim ?_
    try simp only [List.cons_append, List.nil_append]
    refine Dr.sim ?_
    try simp only [List.cons_append, List.nil_append]
    refine Dr.idx (0) (.val (.int .u8 (N (n.data[0]'(by omega)).toNat))) ?_ ?_
    · exact bys_at _ _ (by omega)
    try simp only [List.cons_append, List.nil_append]
    refine Dr.sim ?_
    try simp only [List.cons_append, List.nil_append]
    refine Dr.sim ?_
    try simp only [List.cons_append, List.nil_append]
    refine Dr.sim ?_
    try simp only [List.cons_append, List.nil_append]
    refine Dr.sim ?_
    try simp only [List.cons_append, List.nil_append]
    refine Dr.sim ?_
    try simp only [List.cons_append, List.nil_append]
    refine Dr.idx (1) (.val (.int .u8 (N (n.data[1]'(by omega)).toNat))) ?_ ?_
    · exact bys_at _ _ (by omega)
    try simp only [List.cons_append, List.nil_append]
    refine Dr.sim ?_
    try simp only [List.cons_append, List.nil_append]
    refine Dr.sim ?_
    try simp only [List.cons_append, List.nil_append]
    refine Dr.sim ?_
    try simp only [List.cons_append, List.nil_append]
    refine Dr.sim ?_
    try simp only [List.cons_append, List.nil_append]
    refine Dr.sim ?_
    try simp only [List.cons_append, List.nil_append]
    refine Dr.sim ?_
    try simp only [List.cons_append, List.nil_append]
    refine Dr.idx (2) (.val (.int .u8 (N (n.data[2]'(by omega)).toNat))) ?_ ?_
    · exact bys_at _ _ (by omega)
    try simp only [List.cons_append, List.nil_append]
    refine Dr.sim ?_
    try simp only [List.cons_append, List.nil_append]
    refine Dr.sim ?_
    try simp only [List.cons_append, List.nil_append]
    refine Dr.sim ?_
    try simp only [List.cons_append, List.nil_append]
    refine Dr.sim ?_
    try simp only [List.cons_append, List.nil_append]
    refine Dr.sim ?_
    try simp only [List.cons_append, List.nil_append]
    refine Dr.sim ?_
    try simp only [List.cons_append, List.nil_append]
    refine Dr.idx (3) (.val (.int .u8 (N (n.data[3]'(by omega)).toNat))) ?_ ?_
    · exact bys_at _ _ (by omega)
    try simp only [List.cons_append, List.nil_append]
    refine Dr.sim ?_
    try simp only [List.cons_append, List.nil_append]
    refine Dr.sim ?_
    try simp only [List.cons_append, List.nil_append]
    refine Dr.sim ?_
    try simp only [List.cons_append, List.nil_append]
    refine Dr.sim ?_
    try simp only [List.cons_append, List.nil_append]
    refine Dr.finM (n := 27) [(4, 26)] [1] hG Ytmcedkcehcacpaa.Facts.mixed fun KD hKD => ?_
    refine ARun2.endm (hKD _ ?_); clear hKD KD hG G
    refine AWp.seqK fun K3 hK3 => ?_
    rw [hsum]
    refine AWp.regionW ?_
    refine AWp.condLM (fun c1 => ?_) (fun c1 => ?_)
    · skip
      have h1 : n.ty = 1 := by simpa using c1
      refine AWp.regionW ?_
      refine AWp.ret ?_
      try simp only [thenQ, blockQ]
      refine bodyQ.m ?_
      clear hK3 K3 hK2 K2 hK1 K1
      rw [shr_u32, hr, if_pos h1]
      first | done | exact Hand.go
    · skip
      have h1 : ¬ n.ty = 1 := by simpa using c1
      refine AWp.skip ?_
      refine hK3 _ ?_
      refine AWp.regionW ?_
      refine AWp.ret ?_
      try simp only [thenQ, blockQ]
      refine bodyQ.m ?_
      clear hK3 K3 hK2 K2 hK1 K1
      rw [hr, if_neg h1]
      first | done | exact Hand.go
end Go.Proofs.Ytmcedkcehcacpaa.C

/- The reference: Types; plain laws on values. -/
set_option linter.unusedVariables false
set_option linter.unusedSimpArgs false
namespace Go.Proofs.Ytmcedkcehcacpaa.C
open Go.Abs

theorem right_snd (n : GNode) (ok : Bool) : (rightN n ok).2 = (ok && (checkN 2 1 n == 0)) := by
  unfold rightN; cases ok && (checkN 2 1 n == 0) <;> rfl
theorem two_u16 (a b : UInt8) : IntKind.u16.wrap (IntKind.u16.wrap (N a.toNat * 2 ^ min 8 IntKind.u16.bits) + N b.toNat) = N (a.toNat * 256 + b.toNat) := by
  have h2 : IntKind.u16.bits = 16 := rfl
  have h3 : (2 : Int) ^ min 8 16 = 256 := rfl
  have := a.toNat_lt
  have := b.toNat_lt
  rw [h2, h3, wrap_u16, wrap_u16]
  unfold N; omega
theorem types_even {n : GNode} (ht : n.ty = 2) (hc : checkN 2 1 n = 0) : 4 ≤ n.data.length ∧ n.data.length % 2 = 0 := by
  rw [checkN_eq, ht] at hc
  by_cases hb : badN 2 2 n.data.length n.kids = true
  · simp [hb] at hc
  · have e : shapeOf 2 2 = ⟨2, 2, ⟨#[109, 105, 115, 115, 105, 110, 103, 45, 112, 97, 114, 97, 109, 101, 116, 101, 114]⟩, 6, 65531, 2, 0⟩ := rfl
    have e2 : shapeHas 2 2 = true := rfl
    unfold badN at hb
    rw [e2, e] at hb
    have hf : fitsN ⟨2, 2, ⟨#[109, 105, 115, 115, 105, 110, 103, 45, 112, 97, 114, 97, 109, 101, 116, 101, 114]⟩, 6, 65531, 2, 0⟩ n.data.length = true := by
      cases hq : fitsN ⟨2, 2, ⟨#[109, 105, 115, 115, 105, 110, 103, 45, 112, 97, 114, 97, 109, 101, 116, 101, 114]⟩, 6, 65531, 2, 0⟩ n.data.length with
      | true => rfl
      | false => rw [hq] at hb; simp at hb
    unfold fitsN at hf
    simp only [Bool.and_eq_true, decide_eq_true_eq, beq_iff_eq] at hf
    omega

theorem refTypes_c (n : GNode) (hs : n.sz ≤ 2 ^ 26) : PC Try.prog 17 [nodeA false n] (.tup [.sl false 1 (u16s (typesN n).1), bool (typesN n).2]) := by
  have hsz := n.sz_eq
  have hns := nSize_sz n
  refine PC.of_bodyW (by simp only [push_cast]) Try.func17 rfl (by rw [Try.ntmps17]; simp) ?_
  refine AWp.regionW ?_
  refine AWp.seqK fun K1 hK1 => ?_
  refine AWp.regionA fun K2 hK2 => ?_
  refine ARun.segm 4 fun KS hKS => ?_
  refine ARun2.endm (hKS _ ?_); clear hKS KS
  apply ARun.grpM 3 3 false 12 [1, 9]
  · intro g3 KG hKG
    refine ARun2.gom ?_
    refine ARun2.callM (check08_c 2 1 n (by omega) (by omega) (by omega)) ?_
    exact ARun2.endm (hKG _ Le.grpM)
  refine ARun2.gom ?_
  refine ARun2.endm (hK2 _ ?_)
  refine AWp.condLM (fun c0 => ?_) (fun c0 => ?_)
  · skip
    have hr : typesN n = ([], false) := by
      refine if_neg ?_
      rw [right_snd]
      cases h1 : n.ty == 2 <;> cases h2 : checkN 2 1 n == 0 <;> simp_all
    refine AWp.regionW ?_
    refine AWp.ret ?_
    try simp only [thenQ, blockQ]
    refine bodyQ.m ?_
    clear hK2 K2 hK1 K1
    rw [hr]
    first | done | exact Hand.go
  · skip
    have ht : n.ty = 2 := by cases h1 : n.ty == 2 <;> simp_all
    have hc : checkN 2 1 n = 0 := by cases h2 : checkN 2 1 n == 0 <;> simp_all
    have hev := types_even ht hc
    have hr : typesN n = (numsOf 2 (n.data.drop 4), true) := by
      have h1 : (rightN n (n.ty == 2)).2 = true := by rw [right_snd, ht, hc]; rfl
      have h2 : numsA 2 (n.data.drop 4) = numsOf 2 (n.data.drop 4) := if_pos (by rw [List.length_drop]; omega)
      rw [typesN, if_pos h1, h2]
    obtain ⟨ns, hns⟩ : ∃ ns, ns = numsOf 2 (n.data.drop 4) := ⟨_, rfl⟩
    have hnl : ns.length = (n.data.length - 4) / 2 := by rw [hns, nums_len, List.length_drop]
    have hat : ∀ i (h : i < ns.length), ns[i] = (n.data[4 + 2 * i]'(by omega)).toNat * 256 + (n.data[4 + 2 * i + 1]'(by omega)).toNat := by
      intro i h
      have hd : (n.data.drop (4 + 2 * i)).take 2 = [n.data[4 + 2 * i]'(by omega), n.data[4 + 2 * i + 1]'(by omega)] := by
        rw [List.drop_eq_getElem_cons (by omega), List.drop_eq_getElem_cons (by omega)]; rfl
      subst hns
      simp only [numsOf, List.getElem_map, List.getElem_range, List.drop_drop]
      rw [Nat.mul_comm i 2, hd]
      simp [beN]
    rw [← hns] at hr
    refine AWp.skip ?_
    refine hK1 _ ?_
    refine AWp.regionW ?_
    refine AWp.seqK fun K3 hK3 => ?_
    refine AWp.regionW ?_
    refine AWp.block ?_
    -- SLOTS THAT TURN AND ARE NOT TOLD: [4]
    refine AWp.nilOwn 4 22 1 (by simp only [push_cast, reduceIte, Nat.reduceEqDiff, Nat.reduceLT, Nat.reduceAdd, Nat.reduceSub, Nat.reduceMul, Nat.reduceLeDiff, Nat.reducePow, Int.reduceLT, Int.reduceToNat, reduceCtorEq, Int.reduceNeg, Int.reduceEq, Nat.reduceBEq, Nat.reduceBNe, Int.reduceBEq, Int.reduceBNe, String.reduceEq]) ?_
    simp only [push_cast, reduceIte, Nat.reduceEqDiff, Nat.reduceLT, Nat.reduceAdd, Nat.reduceSub, Nat.reduceMul, Nat.reduceLeDiff, Nat.reducePow, Int.reduceLT, Int.reduceToNat, reduceCtorEq, Int.reduceNeg, Int.reduceEq, Nat.reduceBEq, Nat.reduceBNe, Int.reduceBEq, Int.reduceBNe, String.reduceEq]
    refine AWp.loopK [1, 4] (fun (i : Nat) => [(5, nat (4 + 2 * i))]) (fun i => [.box 28 [u16 n.ty, .sl false 1 (bys n.data), .sl false 3 (nodesA false n.kids)], .row 22 1 (u16s (ns.take i))]) (fun i => i ≤ ns.length) (fun i => ns.length - i) (0) ?_ (Nat.zero_le _) ?_
    · skip
      refine Le.m 2 ?_ ?_
      · first | with_reducible rfl | (simp only [push_cast, reduceIte, Nat.reduceEqDiff, Nat.reduceLT, Nat.reduceAdd, Nat.reduceSub, Nat.reduceMul, Nat.reduceLeDiff, Nat.reducePow, Int.reduceLT, Int.reduceToNat, reduceCtorEq, Int.reduceNeg, Int.reduceEq, Nat.reduceBEq, Nat.reduceBNe, Int.reduceBEq, Int.reduceBNe, String.reduceEq]; first | done | rfl | (simp (disch := omega) only [w_nat, w_add, w_addl, w_addr, w_sub, w_subl, w_mul, w_mull, w_mulr, w_u32, w_u16, w_u8, w_u32a, N_zero]; first | done | rfl))
      · first | (simp only [push_cast, reduceIte, Nat.reduceEqDiff, Nat.reduceLT, Nat.reduceAdd, Nat.reduceSub, Nat.reduceMul, Nat.reduceLeDiff, Nat.reducePow, Int.reduceLT, Int.reduceToNat, reduceCtorEq, Int.reduceNeg, Int.reduceEq, Nat.reduceBEq, Nat.reduceBNe, Int.reduceBEq, Int.reduceBNe, String.reduceEq]; first | done | rfl | (simp (disch := omega) only [w_nat, w_add, w_addl, w_addr, w_sub, w_subl, w_mul, w_mull, w_mulr, w_u32, w_u16, w_u8, w_u32a, N_zero]; first | done | rfl))
    · intro i hi K4 hK4
      refine AWp.seqK fun K5 hK5 => ?_
      refine AWp.regionW ?_
      refine AWp.condLM (fun c1 => ?_) (fun c1 => ?_)
      · skip
        have hlt : 4 + 2 * i < n.data.length := by simpa using c1
        have hil : i < ns.length := by omega
        have hai := hat i hil
        refine AWp.skip ?_
        refine hK5 _ ?_
        refine AWp.seqK fun K6 hK6 => ?_
        refine AWp.block ?_
        refine AWp.drE [[(4, none)], [(1, none)], [(22, some 1)], [(5, none)], [(23, some 2), (24, some 3)], [(25, some 4)], [(26, some 5)], [(27, some 6)], [(1, none)], [(29, some 8)], [(5, none)], [(31, some 10)], [(30, some 9), (32, some 11)], [(33, some 12)], [(34, some 13)], [(28, some 7), (35, some 14)], [(36, some 15)]] fun G hG => ?_
        refine Dr.sim ?_
        try simp only [List.cons_append, List.nil_append]
        refine Dr.sim ?_
        try simp only [List.cons_append, List.nil_append]
        refine Dr.sim ?_
        try simp only [List.cons_append, List.nil_append]
        refine Dr.sim ?_
        try simp only [List.cons_append, List.nil_append]
        refine Dr.idx (4 + 2 * i) (.val (.int .u8 (N (n.data[4 + 2 * i]'(by omega)).toNat))) ?_ ?_
        · exact bys_at _ _ (by omega)
        try simp only [List.cons_append, List.nil_append]
        refine Dr.sim ?_
        try simp only [List.cons_append, List.nil_append]
        refine Dr.sim ?_
        try simp only [List.cons_append, List.nil_append]
        refine Dr.sim ?_
        try simp only [List.cons_append, List.nil_append]
        refine Dr.sim ?_
        try simp only [List.cons_append, List.nil_append]
        refine Dr.sim ?_
        try simp only [List.cons_append, List.nil_append]
        refine Dr.sim ?_
        try simp only [List.cons_append, List.nil_append]
        refine Dr.sim ?_
        try simp only [List.cons_append, List.nil_append]
        refine Dr.idx (4 + 2 * i + 1) (.val (.int .u8 (N (n.data[4 + 2 * i + 1]'(by omega)).toNat))) ?_ ?_
        · exact bys_at _ _ (by omega)
        try simp only [List.cons_append, List.nil_append]
        refine Dr.sim ?_
        try simp only [List.cons_append, List.nil_append]
        refine Dr.sim ?_
        try simp only [List.cons_append, List.nil_append]
        refine Dr.sim ?_
        try simp only [List.cons_append, List.nil_append]
        refine Dr.build ?_
        try simp only [List.cons_append, List.nil_append]
        refine Dr.finN (n := 17) [(21, 0), (37, 16)] [1, 5] hG Ytmcedkcehcacpaa.Facts.mixed fun KD hKD => ?_
        refine ARun2.appendM ?_ ?_ ?_
        · rw [Ytmcedkcehcacpaa.Facts.eb37, u16s_len, List.length_take, List.length_cons, List.length_nil]; omega
        · rw [u16s_len, List.length_take, List.length_cons, List.length_nil]; omega
        refine ARun2.endm (hKD _ ?_); clear hKD KD hG G
        refine hK6 _ ?_
        refine AWp.regionV ?_
        refine hK4 _ (i + 1) (by omega) (by omega) ?_
        refine Le.m 2 ?_ ?_
        · try simp only [push_cast, reduceIte, Nat.reduceEqDiff, Nat.reduceLT, Nat.reduceAdd, Nat.reduceSub, Nat.reduceMul, Nat.reduceLeDiff, Nat.reducePow, Int.reduceLT, Int.reduceToNat, reduceCtorEq, Int.reduceNeg, Int.reduceEq, Nat.reduceBEq, Nat.reduceBNe, Int.reduceBEq, Int.reduceBNe, String.reduceEq]
          try simp (disch := omega) only [w_nat, w_add, w_addl, w_addr, w_sub, w_subl, w_mul, w_mull, w_mulr, w_u32, w_u16, w_u8, w_u32a, N_zero]
          first | done | skip
          rw [two_u16, List.take_succ_eq_append_getElem hil, u16s_snoc, hai]
        · first | (simp only [push_cast, reduceIte, Nat.reduceEqDiff, Nat.reduceLT, Nat.reduceAdd, Nat.reduceSub, Nat.reduceMul, Nat.reduceLeDiff, Nat.reducePow, Int.reduceLT, Int.reduceToNat, reduceCtorEq, Int.reduceNeg, Int.reduceEq, Nat.reduceBEq, Nat.reduceBNe, Int.reduceBEq, Int.reduceBNe, String.reduceEq]; first | done | rfl | (simp (disch := omega) only [w_nat, w_add, w_addl, w_addr, w_sub, w_subl, w_mul, w_mull, w_mulr, w_u32, w_u16, w_u8, w_u32a, N_zero]; first | done | rfl))
      · skip
        have hge : n.data.length ≤ 4 + 2 * i := by simpa using c1
        have hil : i = ns.length := by omega
        subst hil
        refine AWp.exit ?_
        simp only [thenQ, blockQ, reduceIte, Nat.reduceEqDiff]
        refine hK3 _ ?_
        refine AWp.pubD 1 ?_
        rw [List.take_length]
        refine AWp.regionW ?_
        refine AWp.ret ?_
        try simp only [thenQ, blockQ]
        refine bodyQ.m ?_
        clear hK5 K5 hK4 K4 hK3 K3 hK2 K2 hK1 K1
        rw [hr]
        first | done | exact Hand.go

theorem check4 (t : Nat) (d : List UInt8) (ht : t = 1 ∨ t = 3 ∨ t = 9) (hd : d.length = 4) : checkN 2 1 (.mk t d []) = 0 := by
  have hb : badN 2 t 4 [] = false := by rcases ht with rfl | rfl | rfl <;> rfl
  have hc : countedN 2 t d = false := by
    unfold countedN
    rcases ht with rfl | rfl | rfl <;> rfl
  have hs : nSize [GNode.mk t d []] = 8 := by simp [nSize, nLens, vlen, tlvSize, sumUp, upN, gapN, hd]
  rw [checkN_eq]
  simp only [GNode.ty_mk, GNode.data_mk, GNode.kids_mk, hd, hb, hc, hs]
  simp [checkL]
theorem putB2_be (a b : UInt8) : putB 2 (beN [a, b]) = [a, b] := by
  have ha := a.toNat_lt
  have hb := b.toNat_lt
  rw [putB2, twoB]
  have e : beN [a, b] = a.toNat * 256 + b.toNat := by simp [beN]
  rw [e]
  congr 1
  · apply UInt8.toNat_inj.1; rw [UInt8.toNat_ofNat']; omega
  · congr 1; apply UInt8.toNat_inj.1; rw [UInt8.toNat_ofNat']; omega
theorem putB4_eq (x : Nat) : putB 4 x = [UInt8.ofNat (x / 256 ^ 3), UInt8.ofNat (x / 256 ^ 2), UInt8.ofNat (x / 256), UInt8.ofNat x] := by
  simp [putB, List.range_succ]
theorem putB4_be (a b c e : UInt8) : putB 4 (beN [a, b, c, e]) = [a, b, c, e] := by
  have ha := a.toNat_lt
  have hb := b.toNat_lt
  have hc := c.toNat_lt
  have hd := e.toNat_lt
  have h : beN [a, b, c, e] = ((a.toNat * 256 + b.toNat) * 256 + c.toNat) * 256 + e.toNat := by simp [beN]
  rw [putB4_eq, h]
  congr 1
  · apply UInt8.toNat_inj.1; rw [UInt8.toNat_ofNat']; omega
  · congr 1
    · apply UInt8.toNat_inj.1; rw [UInt8.toNat_ofNat']; omega
    · congr 1
      · apply UInt8.toNat_inj.1; rw [UInt8.toNat_ofNat']; omega
      · congr 1; apply UInt8.toNat_inj.1; rw [UInt8.toNat_ofNat']; omega

theorem numberN_1 (v : Nat) (hv : v < 65536) : numberN 1 v = (.mk 1 (putB 2 v ++ putB 2 0) [], true) := by
  have h := check4 1 (putB 2 v ++ putB 2 0) (by omega) (by simp [putB_len])
  unfold numberN rightN
  rw [if_pos rfl, h, decide_eq_true (by omega)]; rfl
theorem numberN_3 (t v : Nat) (ht : t = 3 ∨ t = 9) : numberN t v = (.mk t (putB 4 v) [], true) := by
  have h := check4 t (putB 4 v) (by omega) (by simp [putB_len])
  unfold numberN rightN
  rw [if_neg (by omega), if_pos ht, h]; rfl
theorem numsA_first2 (d : List UInt8) : numsA 2 d = [] ∨ ∃ a b r ns, d = a :: b :: r ∧ numsA 2 d = beN [a, b] :: ns := by
  unfold numsA
  split
  · match d with
    | [] => exact .inl rfl
    | [a] => rename_i h; simp at h
    | a :: b :: r => exact .inr ⟨a, b, r, _, rfl, nums_cons 2 (by omega) [a, b] r rfl⟩
  · exact .inl rfl
theorem numsA_first4 (d : List UInt8) : numsA 4 d = [] ∨ ∃ a b c e r ns, d = a :: b :: c :: e :: r ∧ numsA 4 d = beN [a, b, c, e] :: ns := by
  unfold numsA
  split
  · match d with
    | [] => exact .inl rfl
    | [a] => rename_i h; simp at h
    | [a, b] => rename_i h; simp at h
    | [a, b, c] => rename_i h; simp at h
    | a :: b :: c :: e :: r => exact .inr ⟨a, b, c, e, r, _, rfl, nums_cons 4 (by omega) [a, b, c, e] r rfl⟩
  · exact .inl rfl
theorem numsA_len4 (k : Nat) (d : List UInt8) (hk : k = 2 ∨ k = 4) (h : numsA k d = []) : d.length ≠ 4 := by
  intro h4
  unfold numsA at h
  rw [if_pos (by rcases hk with rfl | rfl <;> rw [h4])] at h
  have := congrArg List.length h
  rw [nums_len, h4] at this
  rcases hk with rfl | rfl <;> simp at this
theorem same_mk (t : Nat) (d : List UInt8) (n : GNode) (ht : n.ty = t) : sameN (.mk t d []) n = (decide (n.data = d) && (n.kids.length == 0)) := by
  rw [Bool.eq_iff_iff, sameN_iff]
  cases n with
  | mk t' d' k' =>
    simp only [GNode.ty, GNode.data, GNode.kids] at *
    subst ht
    simp
    intro _
    exact ⟨fun h => decide_eq_true h.symm, fun h => (of_decide_eq_true h).symm⟩

theorem value_eq (n : GNode) : valueN n = (if (refValueN n).2 = true then (refValueN n).1 else 0, (refValueN n).2) := by
  by_cases h1 : n.ty = 1
  · unfold valueN
    rw [if_pos h1]
    rcases numsA_first2 n.data with hq | ⟨a, b, r, ns, hd, hq⟩
    · rw [hq]
      have h4 := numsA_len4 2 n.data (.inl rfl) hq
      have : refValueN n = (0, false) := if_pos (.inl h4)
      rw [this]; rfl
    · rw [hq]
      have hv : beN [a, b] < 65536 := beN_lt2 [a, b] 2 (Nat.le_refl _)
      simp only [h1, numberN_1 _ hv, same_mk 1 _ n h1, putB2_be]
      rw [hd]
      by_cases hr : r = [0, 0] ∧ n.kids.length = 0
      · obtain ⟨rfl, hk⟩ := hr
        have h0 : ¬ (n.data.length ≠ 4 ∨ 0 < n.kids.length ∨ (n.ty ≠ 1 ∧ n.ty ≠ 3 ∧ n.ty ≠ 9)) := by rw [hd, hk, h1]; simp
        have hb : beN n.data = beN [a, b] * 65536 := by rw [hd]; simp [beN]; omega
        have hrv : refValueN n = (beN [a, b], true) := by
          unfold refValueN
          rw [if_neg h0, if_pos h1, hb]
          simp
        have hp : putB 2 0 = [0, 0] := rfl
        rw [hrv, hp]
        simp [hk]
      · have hp : putB 2 0 = [0, 0] := rfl
        have hf : (decide (a :: b :: r = [a, b] ++ putB 2 0) && (n.kids.length == 0)) = false := by
          rw [hp]
          cases hz : (decide (a :: b :: r = [a, b] ++ [0, 0]) && (n.kids.length == 0)) with
          | false => rfl
          | true =>
            exfalso
            simp at hz
            exact hr ⟨hz.1, by simp [hz.2]⟩
        rw [hf]
        have hrv : (refValueN n).2 = false := by
          unfold refValueN
          split
          · rfl
          · rename_i h0
            have hl4 : n.data.length = 4 := by omega
            have hk0 : n.kids.length = 0 := by omega
            rw [hd] at hl4
            match r, hl4 with
            | [c, e], _ =>
              rw [hd]
              have hb : beN [a, b, c, e] = beN [a, b] * 65536 + (c.toNat * 256 + e.toNat) := by simp [beN]; omega
              have hc := c.toNat_lt
              have he := e.toNat_lt
              simp only [hb, beq_eq_false_iff_ne, ne_eq]
              intro hz
              have hc0 : c = 0 := by apply UInt8.toNat_inj.1; show c.toNat = 0; omega
              have he0 : e = 0 := by apply UInt8.toNat_inj.1; show e.toNat = 0; omega
              exact hr ⟨by rw [hc0, he0], hk0⟩
        rw [hrv]
        simp
  · unfold valueN
    rw [if_neg h1]
    by_cases h3 : n.ty = 3 ∨ n.ty = 9
    · rcases numsA_first4 n.data with hq | ⟨a, b, c, e, r, ns, hd, hq⟩
      · rw [hq]
        have h4 := numsA_len4 4 n.data (.inr rfl) hq
        have : refValueN n = (0, false) := if_pos (.inl h4)
        rw [this]; rfl
      · rw [hq]
        simp only [numberN_3 n.ty _ h3, same_mk n.ty _ n rfl, putB4_be]
        by_cases hr : r = [] ∧ n.kids.length = 0
        · obtain ⟨rfl, hk⟩ := hr
          have h0 : ¬ (n.data.length ≠ 4 ∨ 0 < n.kids.length ∨ (n.ty ≠ 1 ∧ n.ty ≠ 3 ∧ n.ty ≠ 9)) := by rw [hd, hk]; simp; omega
          have hrv : refValueN n = (beN [a, b, c, e], true) := by
            unfold refValueN
            rw [if_neg h0, if_neg h1, hd]
          rw [hrv, hd]
          simp [hk]
        · have hf : (decide (n.data = [a, b, c, e]) && (n.kids.length == 0)) = false := by
            cases hz : (decide (n.data = [a, b, c, e]) && (n.kids.length == 0)) with
            | false => rfl
            | true =>
              exfalso
              rw [hd] at hz
              simp at hz
              exact hr ⟨hz.1, by simp [hz.2]⟩
          rw [hf]
          have hrv : (refValueN n) = (0, false) := by
            refine if_pos ?_
            by_cases hl : n.data.length = 4
            · rw [hd] at hl
              have : r = [] := by cases r <;> simp_all
              exact .inr (.inl (Nat.pos_of_ne_zero fun hk => hr ⟨this, hk⟩))
            · exact .inl hl
          rw [hrv]
          simp
    · have hn : ∀ v, numberN n.ty v = (.zero, false) := by
        intro v
        unfold numberN
        rw [if_neg h1, if_neg h3]; rfl
      have hrv : refValueN n = (0, false) := if_pos (.inr (.inr (by omega)))
      rw [hrv]
      cases numsA 4 n.data with
      | nil => rfl
      | cons v l => simp [hn]
end Go.Proofs.Ytmcedkcehcacpaa.C

/- Rows of the call's own that a callee reads, and that change later; a string's bytes. No condition. -/
namespace Go.Abs
set_option linter.unusedVariables false
set_option linter.unusedSectionVars false
set_option linter.unusedSimpArgs false
set_option linter.unnecessarySimpa false

mutual
/-- all that it leads to was made since the call began -/
def AV.fresh : AV → Bool
  | .val _ => true
  | .any => false
  | .agg l | .tup l => AV.freshL l
  | .sl nw _ xs => nw && AV.freshL xs
  | .own _ | .ptr _ _ | .ept _ _ => false
  | .ref nw x => nw && x.fresh
  | .ifc _ x => x.fresh
  | .fn _ l m => AV.freshL l && AV.freshL m
def AV.freshL : List AV → Bool
  | [] => true
  | x :: xs => x.fresh && AV.freshL xs
end
theorem AV.freshL_cells (x : AV) : AV.freshL x.cells = x.fresh := by
  cases x <;> simp [AV.cells, AV.fresh, AV.freshL]

section fresh
variable {w : World} {B : Nat → Prop} {bs : Nat} {ρ : List Value}
mutual
theorem Rel.fresh : ∀ {x : AV} {v : Value}, Rel w B bs ρ x v → x.fresh = true → Rel w (fun b => B b ∧ bs ≤ b) bs ρ x v
  | _, _, .val v, _ => .val v
  | _, _, .agg h, e => .agg (h.fresh (by simpa [AV.fresh] using e))
  | _, _, .tup h, e => .tup (h.fresh (by simpa [AV.fresh] using e))
  | _, _, .slE nw sz A cap, _ => .slE nw sz A cap
  | _, _, .sl h hc, e => by
    simp only [AV.fresh, Bool.and_eq_true] at e
    exact .sl (RelRow.fresh' h e.1 e.2) hc
  | _, _, .own h h1, e => by simp [AV.fresh] at e
  | _, _, .ptr h, e => by simp [AV.fresh] at e
  | _, _, .ept h, e => by simp [AV.fresh] at e
  | _, _, .ref (x := x) h hn, e => by
    simp only [AV.fresh, Bool.and_eq_true] at e
    exact .ref (RelCells.fresh h e.1 (by rw [AV.freshL_cells]; exact e.2)) hn
  | _, _, .ifc h, e => .ifc (h.fresh (by simpa [AV.fresh] using e))
  | _, _, .fn h h2, e => .fn (h.fresh (by simp only [AV.fresh, Bool.and_eq_true] at e; exact e.1)) (h2.fresh (by simp only [AV.fresh, Bool.and_eq_true] at e; exact e.2))
  | _, _, .any v, e => by simp [AV.fresh] at e
theorem RelL.fresh : ∀ {xs : List AV} {vs : List Value}, RelL w B bs ρ xs vs → AV.freshL xs = true → RelL w (fun b => B b ∧ bs ≤ b) bs ρ xs vs
  | _, _, .nil, _ => .nil
  | _, _, .cons h h2, e => .cons (h.fresh (by simp only [AV.freshL, Bool.and_eq_true] at e; exact e.1)) (h2.fresh (by simp only [AV.freshL, Bool.and_eq_true] at e; exact e.2))
theorem RelCells.fresh : ∀ {nw : Bool} {b o : Nat} {xs : List AV}, RelCells w B bs ρ nw b o xs → nw = true → AV.freshL xs = true → RelCells w (fun b => B b ∧ bs ≤ b) bs ρ nw b o xs
  | _, _, _, _, .nil, _, _ => .nil
  | _, _, _, _, .cons h1 h2 h3 h4 h5 h6, g, e => .cons ⟨h1, h2 g⟩ h2 h3 h4 (h5.fresh (by simp only [AV.freshL, Bool.and_eq_true] at e; exact e.1)) (RelCells.fresh h6 g (by simp only [AV.freshL, Bool.and_eq_true] at e; exact e.2))
theorem RelRow.fresh' : ∀ {nw : Bool} {b sz o : Nat} {xs : List AV}, RelRow w B bs ρ nw b sz o xs → nw = true → AV.freshL xs = true → RelRow w (fun b => B b ∧ bs ≤ b) bs ρ nw b sz o xs
  | _, _, _, _, _, .nil, _, _ => .nil
  | _, _, _, _, _, .cons (x := x) h1 h2 h3, g, e => .cons (RelCells.fresh h1 g (by rw [AV.freshL_cells]; simp only [AV.freshL, Bool.and_eq_true] at e; exact e.1)) h2 (RelRow.fresh' h3 g (by simp only [AV.freshL, Bool.and_eq_true] at e; exact e.2))
end
end fresh

section
variable {P : Program} {ops : Array Oper} {E : Env} {s s' : AS} {ρ σ : List Value} {B : Nat → Prop} {a : Act} {w w' : World} {o : Oper} {rest : List Oper} {Q : AS → Prop} {R : Exit → AS → Prop}

theorem osubL_map {k : Nat} {r : AV} {u : Value} {bs : Nat} (hu : ρ[k]? = some u) (hr : Rel w B bs ρ r u) {xs : List AV} {vs : List Value} (h : RelL w B bs ρ xs vs) : RelL w B bs ρ (xs.map (AV.osub1 k r)) vs := by
  induction xs generalizing vs with
  | nil => cases h; exact .nil
  | cons x xs ih => cases h with | cons h1 h2 => exact .cons (Rel.osub1 hu hr h1) (ih h2)

theorem ba_loop' (b : ByteArray) : ∀ (n i : Nat) (r : List UInt8), b.size - i = n → ByteArray.toList.loop b i r = r.reverse ++ b.data.toList.drop i := by
  have hlen : b.data.toList.length = b.size := Array.length_toList
  intro n
  induction n with
  | zero =>
    intro i r h
    rw [ByteArray.toList.loop, if_neg (by omega), List.drop_of_length_le (by omega), List.append_nil]
  | succ n ih =>
    intro i r h
    have hi : i < b.size := by omega
    have hi' : i < b.data.toList.length := by omega
    have hg : b.get! i = b.data.toList[i] := by
      have hi2 : i < b.data.size := hi
      show b.data[i]! = _
      rw [getElem!_pos b.data i hi2, Array.getElem_toList]
    rw [ByteArray.toList.loop, if_pos hi, ih (i + 1) _ (by omega), List.drop_eq_getElem_cons hi', hg, List.reverse_cons, List.append_assoc]
    rfl

/-- a row of the call's own, as a callee reads it: its block is read, while the call lasts -/
theorem RW.lend {ob : List Ob} {k : Nat} {e : TypeId} {sz : Nat} {xs : List AV} (h : RW E ob ρ B w) (hk : ob[k]? = some (.row e sz xs)) :
    ∃ (B1 : Nat → Prop) (v : Value), ρ[k]? = some v ∧ (∀ b, B b → B1 b) ∧ (∀ b, B1 b → b < w.heap.size) ∧ (∀ b, B1 b → B b ∨ blk v = some b) ∧ Rel w B1 E.bs ρ (.sl false sz xs) v := by
  obtain ⟨h0, hr⟩ := h.obs k _ hk
  rcases hr with ⟨rfl, hr⟩ | ⟨b, cap, vs, ws, fz, h1, hh, h3, h4, h5, h6⟩
  · exact ⟨B, _, hr, fun _ h => h, h.blt, fun _ h => .inl h, .slE _ _ _ _⟩
  · obtain ⟨p1, p2, p3⟩ := h.prv k _ _ b hk rfl h1 rfl
    refine ⟨fun x => B x ∨ x = b, _, h1, fun _ h => .inl h, fun x hx => hx.elim (h.blt x) (fun e => e ▸ p2), fun x hx => hx.elim .inl (fun e => .inr (by rw [e]; rfl)), ?_⟩
    cases xs with
    | nil => exact .slE _ _ _ _
    | cons x xs =>
      refine .sl (RelRow.mk (.inr rfl) (fun h => by cases h) (vs := vs) (h6.mono (fun _ h => .inl h) (fun _ _ => rfl) (Nat.le_refl _) (fun _ _ h => h)) h0 ?_) h4
      intro j v hj
      exact block_cell hh 0 j v (by simpa using get_append_some hj)

/-- a call of a pure function that reads a row of the call's own; what it answers shares nothing with it -/
theorem AOp.callLend {f : FuncId} {args : Array Operand} {ts : Array TypeId} {ys : List AV} {r : AV} {k : Nat} {e : TypeId} {sz : Nat} {xs : List AV} (ho : o.op = .call { callee := .value (.func f), args := args, argTypes := ts }) (hc : callable P f = true)
    (hp : PC P f ys r) (hk : s.ob[k]? = some (.row e sz xs)) (hf : r.fresh = true) (hsub : SubL ((args.toList.map s.ev).map (AV.osub1 k (.sl false sz xs))) ys) (K : ARun P ops rest (s.put o.dst r) Q) : AOp P ops o rest s Q := by
  intro E hE ρ B a w hs Q' hQ
  unfold callable at hc
  split at hc <;> (try (simp at hc; done))
  rename_i fn hfn
  simp only [Bool.and_eq_true, Bool.not_eq_true'] at hc
  have hr := run_call_func (P := P) (w := w) (args := args) (ts := ts) (ty := o.type) (ρe := a.eval) hfn hc.1 hc.2 rfl
  have he : (execOp a.eval o).run P w = .ok (.enter f (args.map a.eval)) w := by
    simp only [execOp, ho]; exact hr
  have hrel : RelL w B E.bs ρ (args.toList.map s.ev) (args.toList.map a.eval) := RelL.map_ev hs _
  obtain ⟨B1, v, l1, l2, l3, l4, l5⟩ := hs.rw_.lend hk
  have hrel1 := osubL_map l1 l5 (hrel.mono l2 (fun _ _ => rfl) (Nat.le_refl _) (fun _ _ h => h))
  refine owp_enter he ?_
  have hargs : args.map a.eval = (args.toList.map a.eval).toArray := by apply Array.ext'; simp
  rw [hargs]
  have hrw1 : RW (E0 w B1 []) [] [] B1 w :=
    { os := rfl, tape := rfl, output := rfl, size := Nat.le_refl _, block := fun _ _ _ => rfl, pre := fun k v h => by simp at h, bsub := fun _ h => h, bnew := fun _ h => .inl h,
      blt := l3, len := rfl, obs := fun k o h => by simp at h, dis := fun i j o o' u v b _ h => by simp at h, prv := fun k o v b h => by simp at h }
  refine hp.2 w [] B1 _ hrw1 (hsub.rel hrel1) _ ?_
  rintro r' v' τ' ρ' B' w' ⟨rfl, rfl⟩ hw hv
  have hρ : ρ' = [] := by have := hw.len; simpa using this
  subst hρ
  have hw2 : RW (E0 w B []) [] [] (fun b => B' b ∧ (B1 b → B b)) w' :=
    { os := hw.os, tape := hw.tape, output := hw.output, size := hw.size, block := fun k h1 h2 => hw.block k h1 ⟨h2.1, fun h => by cases h⟩, pre := fun k v h => by simp at h, bsub := fun b h => ⟨hw.bsub b (l2 b h), fun _ => h⟩,
      bnew := fun b h => (hw.bnew b h.1).elim (fun h1 => .inl (h.2 h1)) .inr, blt := fun b h => hw.blt b h.1, len := rfl, obs := fun k o h => by simp at h, dis := fun i j o o' u v b _ h => by simp at h, prv := fun k o v b h => by simp at h }
  have hs' := hs.back hw2
  refine ⟨v', rfl, K E hE ρ _ _ w' (hs'.put o.dst ?_) Q' hQ⟩
  have hfr := (hv.fresh hf).mono (B' := fun b => B' b ∧ (B1 b → B b)) (w' := w') (bs' := E.bs) (ρ' := ([] : List Value)) (fun b hb => ⟨hb.1, fun h1 => by have h3 := l3 b h1; have h2 : w.heap.size ≤ b := hb.2; omega⟩) (fun _ _ => rfl) hs.rw_.size (fun _ _ h => h)
  refine hfr.ids (p := fun _ => false) ?_ hp.1
  intro _ _ h; simp at h

theorem ARun2.callLendM {f : FuncId} {args : Array Operand} {ts : Array TypeId} {ys : List AV} {r : AV} {e : TypeId} {sz : Nat} {xs : List AV} {p : List Oper × AS} (k : Nat) (hp : PC P f ys r) (K : ARun2 P ops p Q)
    (ho : o.op = .call { callee := .value (.func f), args := args, argTypes := ts } := by rfl) (hg : gd ops s o = some true := by first | with_reducible rfl | (simp only [push_cast, reduceIte, Nat.reduceEqDiff, Nat.reduceLT, Nat.reduceAdd, Nat.reduceSub, Nat.reduceMul, Nat.reduceLeDiff, Nat.reducePow, Int.reduceLT, Int.reduceToNat, reduceCtorEq, Int.reduceNeg, Int.reduceEq, Nat.reduceBEq, Nat.reduceBNe, Int.reduceBEq, Int.reduceBNe, String.reduceEq]; first | done | rfl | (simp (disch := omega) only [w_nat, w_add, w_addl, w_addr, w_sub, w_subl, w_mul, w_mull, w_mulr, w_u32, w_u16, w_u8, w_u32a, N_zero]; first | done | rfl | (simp only [push_cast, reduceIte, Nat.reduceEqDiff, Nat.reduceLT, Nat.reduceAdd, Nat.reduceSub, Nat.reduceMul, Nat.reduceLeDiff, Nat.reducePow, Int.reduceLT, Int.reduceToNat, reduceCtorEq, Int.reduceNeg, Int.reduceEq, Nat.reduceBEq, Nat.reduceBNe, Int.reduceBEq, Int.reduceBNe, String.reduceEq]; first | done | rfl)))) (hc : callable P f = true := by first | assumption | first | with_reducible rfl | (simp only [push_cast, reduceIte, Nat.reduceEqDiff, Nat.reduceLT, Nat.reduceAdd, Nat.reduceSub, Nat.reduceMul, Nat.reduceLeDiff, Nat.reducePow, Int.reduceLT, Int.reduceToNat, reduceCtorEq, Int.reduceNeg, Int.reduceEq, Nat.reduceBEq, Nat.reduceBNe, Int.reduceBEq, Int.reduceBNe, String.reduceEq]; first | done | rfl | (simp (disch := omega) only [w_nat, w_add, w_addl, w_addr, w_sub, w_subl, w_mul, w_mull, w_mulr, w_u32, w_u16, w_u8, w_u32a, N_zero]; first | done | rfl | (simp only [push_cast, reduceIte, Nat.reduceEqDiff, Nat.reduceLT, Nat.reduceAdd, Nat.reduceSub, Nat.reduceMul, Nat.reduceLeDiff, Nat.reducePow, Int.reduceLT, Int.reduceToNat, reduceCtorEq, Int.reduceNeg, Int.reduceEq, Nat.reduceBEq, Nat.reduceBNe, Int.reduceBEq, Int.reduceBNe, String.reduceEq]; first | done | rfl)))) (hk : s.ob[k]? = some (.row e sz xs) := by rfl) (hf : r.fresh = true := by first | with_reducible rfl | (simp only [push_cast, reduceIte, Nat.reduceEqDiff, Nat.reduceLT, Nat.reduceAdd, Nat.reduceSub, Nat.reduceMul, Nat.reduceLeDiff, Nat.reducePow, Int.reduceLT, Int.reduceToNat, reduceCtorEq, Int.reduceNeg, Int.reduceEq, Nat.reduceBEq, Nat.reduceBNe, Int.reduceBEq, Int.reduceBNe, String.reduceEq]; first | done | rfl | (simp (disch := omega) only [w_nat, w_add, w_addl, w_addr, w_sub, w_subl, w_mul, w_mull, w_mulr, w_u32, w_u16, w_u8, w_u32a, N_zero]; first | done | rfl | (simp only [push_cast, reduceIte, Nat.reduceEqDiff, Nat.reduceLT, Nat.reduceAdd, Nat.reduceSub, Nat.reduceMul, Nat.reduceLeDiff, Nat.reducePow, Int.reduceLT, Int.reduceToNat, reduceCtorEq, Int.reduceNeg, Int.reduceEq, Nat.reduceBEq, Nat.reduceBNe, Int.reduceBEq, Int.reduceBNe, String.reduceEq]; first | done | rfl))))
    (hsub : HandL [] ((args.toList.map s.ev).map (AV.osub1 k (.sl false sz xs))) ys := by
      try simp only [push_cast, reduceIte, Nat.reduceEqDiff, Nat.reduceLT, Nat.reduceAdd, Nat.reduceSub, Nat.reduceMul, Nat.reduceLeDiff, Nat.reducePow, Int.reduceLT, Int.reduceToNat, reduceCtorEq, Int.reduceNeg, Int.reduceEq, Nat.reduceBEq, Nat.reduceBNe, Int.reduceBEq, Int.reduceBNe, String.reduceEq]
      try simp (disch := omega) only [w_nat, w_add, w_addl, w_addr, w_sub, w_subl, w_mul, w_mull, w_mulr, w_u32, w_u16, w_u8, w_u32a, N_zero]
      repeat' (first | assumption | exact HandL.nil | exact Hand.nil | exact Hand.any | exact Hand.eq (by first | with_reducible rfl | (simp only [push_cast, reduceIte, Nat.reduceEqDiff, Nat.reduceLT, Nat.reduceAdd, Nat.reduceSub, Nat.reduceMul, Nat.reduceLeDiff, Nat.reducePow, Int.reduceLT, Int.reduceToNat, reduceCtorEq, Int.reduceNeg, Int.reduceEq, Nat.reduceBEq, Nat.reduceBNe, Int.reduceBEq, Int.reduceBNe, String.reduceEq]; first | done | rfl | (simp (disch := omega) only [w_nat, w_add, w_addl, w_addr, w_sub, w_subl, w_mul, w_mull, w_mulr, w_u32, w_u16, w_u8, w_u32a, N_zero]; first | done | rfl | (simp only [push_cast, reduceIte, Nat.reduceEqDiff, Nat.reduceLT, Nat.reduceAdd, Nat.reduceSub, Nat.reduceMul, Nat.reduceLeDiff, Nat.reducePow, Int.reduceLT, Int.reduceToNat, reduceCtorEq, Int.reduceNeg, Int.reduceEq, Nat.reduceBEq, Nat.reduceBNe, Int.reduceBEq, Int.reduceBNe, String.reduceEq]; first | done | rfl)))) (by first | with_reducible rfl | (simp only [push_cast, reduceIte, Nat.reduceEqDiff, Nat.reduceLT, Nat.reduceAdd, Nat.reduceSub, Nat.reduceMul, Nat.reduceLeDiff, Nat.reducePow, Int.reduceLT, Int.reduceToNat, reduceCtorEq, Int.reduceNeg, Int.reduceEq, Nat.reduceBEq, Nat.reduceBNe, Int.reduceBEq, Int.reduceBNe, String.reduceEq]; first | done | rfl | (simp (disch := omega) only [w_nat, w_add, w_addl, w_addr, w_sub, w_subl, w_mul, w_mull, w_mulr, w_u32, w_u16, w_u8, w_u32a, N_zero]; first | done | rfl | (simp only [push_cast, reduceIte, Nat.reduceEqDiff, Nat.reduceLT, Nat.reduceAdd, Nat.reduceSub, Nat.reduceMul, Nat.reduceLeDiff, Nat.reducePow, Int.reduceLT, Int.reduceToNat, reduceCtorEq, Int.reduceNeg, Int.reduceEq, Nat.reduceBEq, Nat.reduceBNe, Int.reduceBEq, Int.reduceBNe, String.reduceEq]; first | done | rfl)))) | refine HandL.cons ?_ ?_ | refine Hand.agg ?_ | refine Hand.tup ?_ | refine Hand.fn ?_ ?_))
    (h : srun P ops rest (s.put o.dst r) = p := by
        try simp only [push_cast, reduceIte, Nat.reduceEqDiff, Nat.reduceLT, Nat.reduceAdd, Nat.reduceSub, Nat.reduceMul, Nat.reduceLeDiff, Nat.reducePow, Int.reduceLT, Int.reduceToNat, reduceCtorEq, Int.reduceNeg, Int.reduceEq, Nat.reduceBEq, Nat.reduceBNe, Int.reduceBEq, Int.reduceBNe, String.reduceEq]
        try simp (disch := omega) only [w_nat, w_add, w_addl, w_addr, w_sub, w_subl, w_mul, w_mull, w_mulr, w_u32, w_u16, w_u8, w_u32a, N_zero]
        try simp only [push_cast, reduceIte, Nat.reduceEqDiff, Nat.reduceLT, Nat.reduceAdd, Nat.reduceSub, Nat.reduceMul, Nat.reduceLeDiff, Nat.reducePow, Int.reduceLT, Int.reduceToNat, reduceCtorEq, Int.reduceNeg, Int.reduceEq, Nat.reduceBEq, Nat.reduceBNe, Int.reduceBEq, Int.reduceBNe, String.reduceEq]
        rfl) : ARun2 P ops (o :: rest, s) Q :=
  ARun.exec hg (AOp.callLend ho hc hp hk hf (SubL.of hsub) (ARun.srun (h ▸ K)))

/-! ### an element of a row of the call's own (elements of one cell) -/
theorem flat_ones : ∀ {xs : List AV}, xs.all AV.one = true → xs.flatMap AV.cells = xs
  | [], _ => rfl
  | x :: xs, h => by
    simp only [List.all_cons, Bool.and_eq_true] at h
    rw [List.flatMap_cons, one_cells h.1, flat_ones h.2]; rfl

theorem row1 {bs : Nat} {e : TypeId} {xs : List AV} {k : Nat} (h : RO w B bs ρ k (.row e 1 xs)) (hne : xs ≠ []) (h1 : xs.all AV.one = true) : ∃ b cap vs ws fz, ρ[k]? = some (.slice (some ⟨b, 0, none⟩) xs.length cap) ∧ w.heap[b]? = some (.cells (List.toArray (vs ++ ws)) e fz) ∧
    (vs ++ ws).length = cap ∧ xs.length ≤ cap ∧ thaw fz (vs ++ ws).length ∧ RelL w B bs ρ xs vs := by
  obtain ⟨h0, h⟩ := h
  rcases h with h | ⟨b, cap, vs, ws, fz, h1', h2, h3, h4, h5, h6⟩
  · exact absurd h.1 hne
  · rw [flat_ones h1] at h6
    exact ⟨b, cap, vs, ws, fz, h1', h2, by simpa using h3, h4, h5, h6⟩

theorem AOp.indexOwn {T : TypeId} {x i : Operand} {k j : Nat} {e : TypeId} {xs : List AV} {kk : IntKind} (ho : o.op = .indexAddr T x i) (hx : s.ev x = .own k) (hk : s.ob[k]? = some (.row e 1 xs)) (hi : s.ev i = .val (.int kk (N j)))
    (hz : elSz P T = some 1) (hj : j < xs.length) (h1 : xs.all AV.one = true) (K : ARun P ops rest (s.put o.dst (.ept k j)) Q) : AOp P ops o rest s Q := by
  refine AOp.pure1 (fun E ρ B a w hs => ?_) K
  obtain ⟨e', ti, zv, hu, hti, hsz, _⟩ := elSz_spec hz
  obtain ⟨b, cap, vs, ws, fz, r1, r2, r3, r4, r5, r6⟩ := row1 (hs.rw_.obs k _ hk) (by rintro rfl; simp at hj) h1
  have hxr := hs.ev x
  have hir := hs.ev i
  rw [hx] at hxr
  rw [hi] at hir
  have hv := hir.val_eq
  simp only [execOp, ho, hv]
  generalize a.eval x = u at hxr
  cases hxr with
  | own hp _ =>
    rw [r1] at hp
    have := Option.some.inj hp
    subst this
    refine ⟨_, val_run (v := .pointer (some ⟨b, j, none⟩)) ?_, .ept r1⟩
    have hjj : 0 ≤ N j ∧ N j < (xs.length : Int) := ⟨Int.natCast_nonneg j, by unfold N; omega⟩
    simp only [Instr.indexAt, asIntOf, Sem.run_bind, Sem.run_pure, Result.andThen_ok, run_underlying hu]
    simp only [if_pos hjj, Sem.run_bind, run_sizeOf hti, hsz, Result.andThen_ok, addr_add, Sem.run_pure, N_toNat, Nat.mul_one, Nat.zero_add]

theorem AOp.loadE {T : TypeId} {x : Operand} {k j : Nat} {e : TypeId} {xs : List AV} {y : AV} (ho : o.op = .load T x) (hx : s.ev x = .ept k j) (hk : s.ob[k]? = some (.row e 1 xs)) (ht : tk P T = .scal) (hy : xs[j]? = some y) (h1 : xs.all AV.one = true)
    (K : ARun P ops rest (s.put o.dst y) Q) : AOp P ops o rest s Q := by
  refine AOp.pure1 (fun E ρ B a w hs => ?_) K
  obtain ⟨b, cap, vs, ws, fz, r1, r2, r3, r4, r5, r6⟩ := row1 (hs.rw_.obs k _ hk) (by rintro rfl; simp at hy) h1
  have hxr := hs.ev x
  rw [hx] at hxr
  obtain ⟨v, hv, hr⟩ := r6.get hy
  have hc : w.cell? ⟨b, j, none⟩ = some v := by
    have := block_cell r2 0 j v (by simpa using get_append_some hv)
    simpa using this
  simp only [execOp, ho]
  generalize a.eval x = u at hxr
  cases hxr with
  | ept hp =>
    rw [r1] at hp
    simp only [Option.some.injEq, Value.slice.injEq, Addr.mk.injEq, and_true] at hp
    obtain ⟨rfl, _, _⟩ := hp
    refine ⟨v, val_run ?_, hr⟩
    have := run_loadVar_scal (P := P) (w := w) ht hc
    simpa [Instr.loadAt, Instr.sureAddr] using this

theorem AOp.storeE {T : TypeId} {x y : Operand} {k j : Nat} {e : TypeId} {xs : List AV} (ho : o.op = .store T x y) (hx : s.ev x = .ept k j) (hk : s.ob[k]? = some (.row e 1 xs)) (ht : tk P T = .scal) (hj : j < xs.length) (h1 : xs.all AV.one = true) (hy : (s.ev y).one = true)
    (K : ARun P ops rest ({ s with ob := s.ob.set k (.row e 1 (xs.set j (s.ev y))) }.put o.dst .any) Q) : AOp P ops o rest s Q := by
  refine AOp.unit (s' := { s with ob := s.ob.set k (.row e 1 (xs.set j (s.ev y))) }) (fun E ρ B a w hs => ?_) (by rw [ho]; intro c h; cases h) K
  have hro := hs.rw_.obs k _ hk
  obtain ⟨b, cap, vs, ws, fz, r1, r2, r3, r4, r5, r6⟩ := row1 hro (by rintro rfl; simp at hj) h1
  have hxr := hs.ev x
  rw [hx] at hxr
  have hyr := hs.ev y
  obtain ⟨d, i, _, hi, hsz, _⟩ := tk_scal ht
  have hlv : vs.length = xs.length := r6.length_eq.symm
  have h1y := hyr.one hy
  have hst := run_storeVar (P := P) (w := w) (t := T) (b := b) (o := j) (T := e) hi (v := a.eval y) (us := [a.eval y]) (by rw [oneCell_iff _ h1y]) (by simp [hsz]) r2 r5 (by simp; omega) (by simpa using h1y)
  have hset : (vs ++ ws).take j ++ [a.eval y] ++ (vs ++ ws).drop (j + [a.eval y].length) = vs.set j (a.eval y) ++ ws := by
    have hjv : j < vs.length := by omega
    rw [List.take_append_of_le_length (by omega), List.length_singleton, List.drop_append_of_le_length (by omega)]
    rw [List.set_eq_take_append_cons_drop, if_pos hjv]
    simp
  rw [hset] at hst
  have h1s : (xs.set j (s.ev y)).all AV.one = true := by
    rw [List.all_eq_true] at h1 ⊢
    intro c hc
    rcases List.mem_or_eq_of_mem_set hc with hc | rfl
    · exact h1 c hc
    · exact hy
  have hw : RS E { s with ob := s.ob.set k (.row e 1 (xs.set j (s.ev y))) } ρ B a (setBlk w b (.cells (vs.set j (a.eval y) ++ ws).toArray e fz)) := by
    obtain ⟨p1, p2, p3⟩ := hs.rw_.prv k _ _ b hk rfl r1 rfl
    have hB : ∀ b', B b' → (setBlk w b (.cells (vs.set j (a.eval y) ++ ws).toArray e fz)).heap[b']? = w.heap[b']? := fun b' hb' => by
      rw [setBlk_get _ _ _ _ p2, if_neg (by rintro rfl; exact p1 hb')]
    refine hs.write (b := b) hk rfl r1 rfl ⟨?_, .inr ⟨b, cap, vs.set j (a.eval y), ws, fz, by rw [List.length_set]; exact r1, by rw [setBlk_get _ _ _ _ p2, if_pos rfl], by simpa using r3, by rw [List.length_set]; exact r4, by simpa using r5, ?_⟩⟩
    · intro c hc
      have := List.all_eq_true.1 h1s c hc
      rw [one_cells this]
      exact ⟨rfl, fun z hz => by simp at hz; subst hz; exact this⟩
    · rw [flat_ones h1s]
      exact (r6.set j hyr).mono (fun _ h => h) hB (Nat.le_refl _) (fun _ _ h => h)
  refine ⟨_, ρ, B, ?_, hw⟩
  simp only [execOp, ho]
  generalize a.eval x = u at hxr
  cases hxr with
  | ept hp =>
    rw [r1] at hp
    simp only [Option.some.injEq, Value.slice.injEq, Addr.mk.injEq, and_true] at hp
    obtain ⟨rfl, _, _⟩ := hp
    simp [Instr.storeAt, Instr.sureAddr, hst]

theorem ARun2.indexOwnM {T : TypeId} {x i : Operand} {k : Nat} {e : TypeId} {xs : List AV} {kk : IntKind} {p : List Oper × AS} (j : Nat) (hj : j < xs.length) (K : ARun2 P ops p Q) (ho : o.op = .indexAddr T x i := by rfl) (hg : gd ops s o = some true := by first | with_reducible rfl | (simp only [push_cast, reduceIte, Nat.reduceEqDiff, Nat.reduceLT, Nat.reduceAdd, Nat.reduceSub, Nat.reduceMul, Nat.reduceLeDiff, Nat.reducePow, Int.reduceLT, Int.reduceToNat, reduceCtorEq, Int.reduceNeg, Int.reduceEq, Nat.reduceBEq, Nat.reduceBNe, Int.reduceBEq, Int.reduceBNe, String.reduceEq]; first | done | rfl | (simp (disch := omega) only [w_nat, w_add, w_addl, w_addr, w_sub, w_subl, w_mul, w_mull, w_mulr, w_u32, w_u16, w_u8, w_u32a, N_zero]; first | done | rfl | (simp only [push_cast, reduceIte, Nat.reduceEqDiff, Nat.reduceLT, Nat.reduceAdd, Nat.reduceSub, Nat.reduceMul, Nat.reduceLeDiff, Nat.reducePow, Int.reduceLT, Int.reduceToNat, reduceCtorEq, Int.reduceNeg, Int.reduceEq, Nat.reduceBEq, Nat.reduceBNe, Int.reduceBEq, Int.reduceBNe, String.reduceEq]; first | done | rfl)))) (hx : s.ev x = .own k := by first | with_reducible rfl | (simp only [push_cast, reduceIte, Nat.reduceEqDiff, Nat.reduceLT, Nat.reduceAdd, Nat.reduceSub, Nat.reduceMul, Nat.reduceLeDiff, Nat.reducePow, Int.reduceLT, Int.reduceToNat, reduceCtorEq, Int.reduceNeg, Int.reduceEq, Nat.reduceBEq, Nat.reduceBNe, Int.reduceBEq, Int.reduceBNe, String.reduceEq]; first | done | rfl | (simp (disch := omega) only [w_nat, w_add, w_addl, w_addr, w_sub, w_subl, w_mul, w_mull, w_mulr, w_u32, w_u16, w_u8, w_u32a, N_zero]; first | done | rfl | (simp only [push_cast, reduceIte, Nat.reduceEqDiff, Nat.reduceLT, Nat.reduceAdd, Nat.reduceSub, Nat.reduceMul, Nat.reduceLeDiff, Nat.reducePow, Int.reduceLT, Int.reduceToNat, reduceCtorEq, Int.reduceNeg, Int.reduceEq, Nat.reduceBEq, Nat.reduceBNe, Int.reduceBEq, Int.reduceBNe, String.reduceEq]; first | done | rfl)))) (hk : s.ob[k]? = some (.row e 1 xs) := by rfl)
    (hi : s.ev i = .val (.int kk (N j)) := by first | with_reducible rfl | (simp only [push_cast, reduceIte, Nat.reduceEqDiff, Nat.reduceLT, Nat.reduceAdd, Nat.reduceSub, Nat.reduceMul, Nat.reduceLeDiff, Nat.reducePow, Int.reduceLT, Int.reduceToNat, reduceCtorEq, Int.reduceNeg, Int.reduceEq, Nat.reduceBEq, Nat.reduceBNe, Int.reduceBEq, Int.reduceBNe, String.reduceEq]; first | done | rfl | (simp (disch := omega) only [w_nat, w_add, w_addl, w_addr, w_sub, w_subl, w_mul, w_mull, w_mulr, w_u32, w_u16, w_u8, w_u32a, N_zero]; first | done | rfl | (simp only [push_cast, reduceIte, Nat.reduceEqDiff, Nat.reduceLT, Nat.reduceAdd, Nat.reduceSub, Nat.reduceMul, Nat.reduceLeDiff, Nat.reducePow, Int.reduceLT, Int.reduceToNat, reduceCtorEq, Int.reduceNeg, Int.reduceEq, Nat.reduceBEq, Nat.reduceBNe, Int.reduceBEq, Int.reduceBNe, String.reduceEq]; first | done | rfl)))) (hz : elSz P T = some 1 := by first | with_reducible rfl | (simp only [push_cast, reduceIte, Nat.reduceEqDiff, Nat.reduceLT, Nat.reduceAdd, Nat.reduceSub, Nat.reduceMul, Nat.reduceLeDiff, Nat.reducePow, Int.reduceLT, Int.reduceToNat, reduceCtorEq, Int.reduceNeg, Int.reduceEq, Nat.reduceBEq, Nat.reduceBNe, Int.reduceBEq, Int.reduceBNe, String.reduceEq]; first | done | rfl | (simp (disch := omega) only [w_nat, w_add, w_addl, w_addr, w_sub, w_subl, w_mul, w_mull, w_mulr, w_u32, w_u16, w_u8, w_u32a, N_zero]; first | done | rfl | (simp only [push_cast, reduceIte, Nat.reduceEqDiff, Nat.reduceLT, Nat.reduceAdd, Nat.reduceSub, Nat.reduceMul, Nat.reduceLeDiff, Nat.reducePow, Int.reduceLT, Int.reduceToNat, reduceCtorEq, Int.reduceNeg, Int.reduceEq, Nat.reduceBEq, Nat.reduceBNe, Int.reduceBEq, Int.reduceBNe, String.reduceEq]; first | done | rfl)))) (h1 : xs.all AV.one = true := by first | with_reducible rfl | (simp only [push_cast, reduceIte, Nat.reduceEqDiff, Nat.reduceLT, Nat.reduceAdd, Nat.reduceSub, Nat.reduceMul, Nat.reduceLeDiff, Nat.reducePow, Int.reduceLT, Int.reduceToNat, reduceCtorEq, Int.reduceNeg, Int.reduceEq, Nat.reduceBEq, Nat.reduceBNe, Int.reduceBEq, Int.reduceBNe, String.reduceEq]; first | done | rfl | (simp (disch := omega) only [w_nat, w_add, w_addl, w_addr, w_sub, w_subl, w_mul, w_mull, w_mulr, w_u32, w_u16, w_u8, w_u32a, N_zero]; first | done | rfl | (simp only [push_cast, reduceIte, Nat.reduceEqDiff, Nat.reduceLT, Nat.reduceAdd, Nat.reduceSub, Nat.reduceMul, Nat.reduceLeDiff, Nat.reducePow, Int.reduceLT, Int.reduceToNat, reduceCtorEq, Int.reduceNeg, Int.reduceEq, Nat.reduceBEq, Nat.reduceBNe, Int.reduceBEq, Int.reduceBNe, String.reduceEq]; first | done | rfl)))) (h : srun P ops rest (s.put o.dst (.ept k j)) = p := by
        try simp only [push_cast, reduceIte, Nat.reduceEqDiff, Nat.reduceLT, Nat.reduceAdd, Nat.reduceSub, Nat.reduceMul, Nat.reduceLeDiff, Nat.reducePow, Int.reduceLT, Int.reduceToNat, reduceCtorEq, Int.reduceNeg, Int.reduceEq, Nat.reduceBEq, Nat.reduceBNe, Int.reduceBEq, Int.reduceBNe, String.reduceEq]
        try simp (disch := omega) only [w_nat, w_add, w_addl, w_addr, w_sub, w_subl, w_mul, w_mull, w_mulr, w_u32, w_u16, w_u8, w_u32a, N_zero]
        try simp only [push_cast, reduceIte, Nat.reduceEqDiff, Nat.reduceLT, Nat.reduceAdd, Nat.reduceSub, Nat.reduceMul, Nat.reduceLeDiff, Nat.reducePow, Int.reduceLT, Int.reduceToNat, reduceCtorEq, Int.reduceNeg, Int.reduceEq, Nat.reduceBEq, Nat.reduceBNe, Int.reduceBEq, Int.reduceBNe, String.reduceEq]
        rfl) : ARun2 P ops (o :: rest, s) Q :=
  ARun.exec hg (AOp.indexOwn ho hx hk hi hz hj h1 (ARun.srun (h ▸ K)))
theorem ARun2.loadEM {T : TypeId} {x : Operand} {k j : Nat} {e : TypeId} {xs : List AV} {p : List Oper × AS} (y : AV) (hy : xs[j]? = some y) (K : ARun2 P ops p Q) (ho : o.op = .load T x := by rfl) (hg : gd ops s o = some true := by first | with_reducible rfl | (simp only [push_cast, reduceIte, Nat.reduceEqDiff, Nat.reduceLT, Nat.reduceAdd, Nat.reduceSub, Nat.reduceMul, Nat.reduceLeDiff, Nat.reducePow, Int.reduceLT, Int.reduceToNat, reduceCtorEq, Int.reduceNeg, Int.reduceEq, Nat.reduceBEq, Nat.reduceBNe, Int.reduceBEq, Int.reduceBNe, String.reduceEq]; first | done | rfl | (simp (disch := omega) only [w_nat, w_add, w_addl, w_addr, w_sub, w_subl, w_mul, w_mull, w_mulr, w_u32, w_u16, w_u8, w_u32a, N_zero]; first | done | rfl | (simp only [push_cast, reduceIte, Nat.reduceEqDiff, Nat.reduceLT, Nat.reduceAdd, Nat.reduceSub, Nat.reduceMul, Nat.reduceLeDiff, Nat.reducePow, Int.reduceLT, Int.reduceToNat, reduceCtorEq, Int.reduceNeg, Int.reduceEq, Nat.reduceBEq, Nat.reduceBNe, Int.reduceBEq, Int.reduceBNe, String.reduceEq]; first | done | rfl)))) (hx : s.ev x = .ept k j := by first | with_reducible rfl | (simp only [push_cast, reduceIte, Nat.reduceEqDiff, Nat.reduceLT, Nat.reduceAdd, Nat.reduceSub, Nat.reduceMul, Nat.reduceLeDiff, Nat.reducePow, Int.reduceLT, Int.reduceToNat, reduceCtorEq, Int.reduceNeg, Int.reduceEq, Nat.reduceBEq, Nat.reduceBNe, Int.reduceBEq, Int.reduceBNe, String.reduceEq]; first | done | rfl | (simp (disch := omega) only [w_nat, w_add, w_addl, w_addr, w_sub, w_subl, w_mul, w_mull, w_mulr, w_u32, w_u16, w_u8, w_u32a, N_zero]; first | done | rfl | (simp only [push_cast, reduceIte, Nat.reduceEqDiff, Nat.reduceLT, Nat.reduceAdd, Nat.reduceSub, Nat.reduceMul, Nat.reduceLeDiff, Nat.reducePow, Int.reduceLT, Int.reduceToNat, reduceCtorEq, Int.reduceNeg, Int.reduceEq, Nat.reduceBEq, Nat.reduceBNe, Int.reduceBEq, Int.reduceBNe, String.reduceEq]; first | done | rfl)))) (hk : s.ob[k]? = some (.row e 1 xs) := by rfl)
    (ht : tk P T = .scal := by first | with_reducible rfl | (simp only [push_cast, reduceIte, Nat.reduceEqDiff, Nat.reduceLT, Nat.reduceAdd, Nat.reduceSub, Nat.reduceMul, Nat.reduceLeDiff, Nat.reducePow, Int.reduceLT, Int.reduceToNat, reduceCtorEq, Int.reduceNeg, Int.reduceEq, Nat.reduceBEq, Nat.reduceBNe, Int.reduceBEq, Int.reduceBNe, String.reduceEq]; first | done | rfl | (simp (disch := omega) only [w_nat, w_add, w_addl, w_addr, w_sub, w_subl, w_mul, w_mull, w_mulr, w_u32, w_u16, w_u8, w_u32a, N_zero]; first | done | rfl | (simp only [push_cast, reduceIte, Nat.reduceEqDiff, Nat.reduceLT, Nat.reduceAdd, Nat.reduceSub, Nat.reduceMul, Nat.reduceLeDiff, Nat.reducePow, Int.reduceLT, Int.reduceToNat, reduceCtorEq, Int.reduceNeg, Int.reduceEq, Nat.reduceBEq, Nat.reduceBNe, Int.reduceBEq, Int.reduceBNe, String.reduceEq]; first | done | rfl)))) (h1 : xs.all AV.one = true := by first | with_reducible rfl | (simp only [push_cast, reduceIte, Nat.reduceEqDiff, Nat.reduceLT, Nat.reduceAdd, Nat.reduceSub, Nat.reduceMul, Nat.reduceLeDiff, Nat.reducePow, Int.reduceLT, Int.reduceToNat, reduceCtorEq, Int.reduceNeg, Int.reduceEq, Nat.reduceBEq, Nat.reduceBNe, Int.reduceBEq, Int.reduceBNe, String.reduceEq]; first | done | rfl | (simp (disch := omega) only [w_nat, w_add, w_addl, w_addr, w_sub, w_subl, w_mul, w_mull, w_mulr, w_u32, w_u16, w_u8, w_u32a, N_zero]; first | done | rfl | (simp only [push_cast, reduceIte, Nat.reduceEqDiff, Nat.reduceLT, Nat.reduceAdd, Nat.reduceSub, Nat.reduceMul, Nat.reduceLeDiff, Nat.reducePow, Int.reduceLT, Int.reduceToNat, reduceCtorEq, Int.reduceNeg, Int.reduceEq, Nat.reduceBEq, Nat.reduceBNe, Int.reduceBEq, Int.reduceBNe, String.reduceEq]; first | done | rfl)))) (h : srun P ops rest (s.put o.dst y) = p := by
        try simp only [push_cast, reduceIte, Nat.reduceEqDiff, Nat.reduceLT, Nat.reduceAdd, Nat.reduceSub, Nat.reduceMul, Nat.reduceLeDiff, Nat.reducePow, Int.reduceLT, Int.reduceToNat, reduceCtorEq, Int.reduceNeg, Int.reduceEq, Nat.reduceBEq, Nat.reduceBNe, Int.reduceBEq, Int.reduceBNe, String.reduceEq]
        try simp (disch := omega) only [w_nat, w_add, w_addl, w_addr, w_sub, w_subl, w_mul, w_mull, w_mulr, w_u32, w_u16, w_u8, w_u32a, N_zero]
        try simp only [push_cast, reduceIte, Nat.reduceEqDiff, Nat.reduceLT, Nat.reduceAdd, Nat.reduceSub, Nat.reduceMul, Nat.reduceLeDiff, Nat.reducePow, Int.reduceLT, Int.reduceToNat, reduceCtorEq, Int.reduceNeg, Int.reduceEq, Nat.reduceBEq, Nat.reduceBNe, Int.reduceBEq, Int.reduceBNe, String.reduceEq]
        rfl) : ARun2 P ops (o :: rest, s) Q :=
  ARun.exec hg (AOp.loadE ho hx hk ht hy h1 (ARun.srun (h ▸ K)))
theorem ARun2.storeEM {T : TypeId} {x y : Operand} {k j : Nat} {e : TypeId} {xs : List AV} {p : List Oper × AS} (hj : j < xs.length) (K : ARun2 P ops p Q) (ho : o.op = .store T x y := by rfl) (hg : gd ops s o = some true := by first | with_reducible rfl | (simp only [push_cast, reduceIte, Nat.reduceEqDiff, Nat.reduceLT, Nat.reduceAdd, Nat.reduceSub, Nat.reduceMul, Nat.reduceLeDiff, Nat.reducePow, Int.reduceLT, Int.reduceToNat, reduceCtorEq, Int.reduceNeg, Int.reduceEq, Nat.reduceBEq, Nat.reduceBNe, Int.reduceBEq, Int.reduceBNe, String.reduceEq]; first | done | rfl | (simp (disch := omega) only [w_nat, w_add, w_addl, w_addr, w_sub, w_subl, w_mul, w_mull, w_mulr, w_u32, w_u16, w_u8, w_u32a, N_zero]; first | done | rfl | (simp only [push_cast, reduceIte, Nat.reduceEqDiff, Nat.reduceLT, Nat.reduceAdd, Nat.reduceSub, Nat.reduceMul, Nat.reduceLeDiff, Nat.reducePow, Int.reduceLT, Int.reduceToNat, reduceCtorEq, Int.reduceNeg, Int.reduceEq, Nat.reduceBEq, Nat.reduceBNe, Int.reduceBEq, Int.reduceBNe, String.reduceEq]; first | done | rfl)))) (hx : s.ev x = .ept k j := by first | with_reducible rfl | (simp only [push_cast, reduceIte, Nat.reduceEqDiff, Nat.reduceLT, Nat.reduceAdd, Nat.reduceSub, Nat.reduceMul, Nat.reduceLeDiff, Nat.reducePow, Int.reduceLT, Int.reduceToNat, reduceCtorEq, Int.reduceNeg, Int.reduceEq, Nat.reduceBEq, Nat.reduceBNe, Int.reduceBEq, Int.reduceBNe, String.reduceEq]; first | done | rfl | (simp (disch := omega) only [w_nat, w_add, w_addl, w_addr, w_sub, w_subl, w_mul, w_mull, w_mulr, w_u32, w_u16, w_u8, w_u32a, N_zero]; first | done | rfl | (simp only [push_cast, reduceIte, Nat.reduceEqDiff, Nat.reduceLT, Nat.reduceAdd, Nat.reduceSub, Nat.reduceMul, Nat.reduceLeDiff, Nat.reducePow, Int.reduceLT, Int.reduceToNat, reduceCtorEq, Int.reduceNeg, Int.reduceEq, Nat.reduceBEq, Nat.reduceBNe, Int.reduceBEq, Int.reduceBNe, String.reduceEq]; first | done | rfl)))) (hk : s.ob[k]? = some (.row e 1 xs) := by rfl)
    (ht : tk P T = .scal := by first | with_reducible rfl | (simp only [push_cast, reduceIte, Nat.reduceEqDiff, Nat.reduceLT, Nat.reduceAdd, Nat.reduceSub, Nat.reduceMul, Nat.reduceLeDiff, Nat.reducePow, Int.reduceLT, Int.reduceToNat, reduceCtorEq, Int.reduceNeg, Int.reduceEq, Nat.reduceBEq, Nat.reduceBNe, Int.reduceBEq, Int.reduceBNe, String.reduceEq]; first | done | rfl | (simp (disch := omega) only [w_nat, w_add, w_addl, w_addr, w_sub, w_subl, w_mul, w_mull, w_mulr, w_u32, w_u16, w_u8, w_u32a, N_zero]; first | done | rfl | (simp only [push_cast, reduceIte, Nat.reduceEqDiff, Nat.reduceLT, Nat.reduceAdd, Nat.reduceSub, Nat.reduceMul, Nat.reduceLeDiff, Nat.reducePow, Int.reduceLT, Int.reduceToNat, reduceCtorEq, Int.reduceNeg, Int.reduceEq, Nat.reduceBEq, Nat.reduceBNe, Int.reduceBEq, Int.reduceBNe, String.reduceEq]; first | done | rfl)))) (h1 : xs.all AV.one = true := by first | with_reducible rfl | (simp only [push_cast, reduceIte, Nat.reduceEqDiff, Nat.reduceLT, Nat.reduceAdd, Nat.reduceSub, Nat.reduceMul, Nat.reduceLeDiff, Nat.reducePow, Int.reduceLT, Int.reduceToNat, reduceCtorEq, Int.reduceNeg, Int.reduceEq, Nat.reduceBEq, Nat.reduceBNe, Int.reduceBEq, Int.reduceBNe, String.reduceEq]; first | done | rfl | (simp (disch := omega) only [w_nat, w_add, w_addl, w_addr, w_sub, w_subl, w_mul, w_mull, w_mulr, w_u32, w_u16, w_u8, w_u32a, N_zero]; first | done | rfl | (simp only [push_cast, reduceIte, Nat.reduceEqDiff, Nat.reduceLT, Nat.reduceAdd, Nat.reduceSub, Nat.reduceMul, Nat.reduceLeDiff, Nat.reducePow, Int.reduceLT, Int.reduceToNat, reduceCtorEq, Int.reduceNeg, Int.reduceEq, Nat.reduceBEq, Nat.reduceBNe, Int.reduceBEq, Int.reduceBNe, String.reduceEq]; first | done | rfl)))) (hy : (s.ev y).one = true := by first | with_reducible rfl | (simp only [push_cast, reduceIte, Nat.reduceEqDiff, Nat.reduceLT, Nat.reduceAdd, Nat.reduceSub, Nat.reduceMul, Nat.reduceLeDiff, Nat.reducePow, Int.reduceLT, Int.reduceToNat, reduceCtorEq, Int.reduceNeg, Int.reduceEq, Nat.reduceBEq, Nat.reduceBNe, Int.reduceBEq, Int.reduceBNe, String.reduceEq]; first | done | rfl | (simp (disch := omega) only [w_nat, w_add, w_addl, w_addr, w_sub, w_subl, w_mul, w_mull, w_mulr, w_u32, w_u16, w_u8, w_u32a, N_zero]; first | done | rfl | (simp only [push_cast, reduceIte, Nat.reduceEqDiff, Nat.reduceLT, Nat.reduceAdd, Nat.reduceSub, Nat.reduceMul, Nat.reduceLeDiff, Nat.reducePow, Int.reduceLT, Int.reduceToNat, reduceCtorEq, Int.reduceNeg, Int.reduceEq, Nat.reduceBEq, Nat.reduceBNe, Int.reduceBEq, Int.reduceBNe, String.reduceEq]; first | done | rfl)))) (h : srun P ops rest ({ s with ob := s.ob.set k (.row e 1 (xs.set j (s.ev y))) }.put o.dst .any) = p := by
        try simp only [push_cast, reduceIte, Nat.reduceEqDiff, Nat.reduceLT, Nat.reduceAdd, Nat.reduceSub, Nat.reduceMul, Nat.reduceLeDiff, Nat.reducePow, Int.reduceLT, Int.reduceToNat, reduceCtorEq, Int.reduceNeg, Int.reduceEq, Nat.reduceBEq, Nat.reduceBNe, Int.reduceBEq, Int.reduceBNe, String.reduceEq]
        try simp (disch := omega) only [w_nat, w_add, w_addl, w_addr, w_sub, w_subl, w_mul, w_mull, w_mulr, w_u32, w_u16, w_u8, w_u32a, N_zero]
        try simp only [push_cast, reduceIte, Nat.reduceEqDiff, Nat.reduceLT, Nat.reduceAdd, Nat.reduceSub, Nat.reduceMul, Nat.reduceLeDiff, Nat.reducePow, Int.reduceLT, Int.reduceToNat, reduceCtorEq, Int.reduceNeg, Int.reduceEq, Nat.reduceBEq, Nat.reduceBNe, Int.reduceBEq, Int.reduceBNe, String.reduceEq]
        rfl) : ARun2 P ops (o :: rest, s) Q :=
  ARun.exec hg (AOp.storeE ho hx hk ht hj h1 hy (ARun.srun (h ▸ K)))

/-! ### make, as a row of the call's own -/
theorem AOp.makeOwn {T e : TypeId} {x y : Operand} {k1 k2 : IntKind} {n : Nat} {z : Value} (ho : o.op = .makeSlice T x y) (hx : s.ev x = .val (.int k1 n)) (hy : s.ev y = .val (.int k2 n)) (hz : elSz P T = some 1) (he : elT P T = some e) (hzc : zc P e = some [z])
    (hn : n ≤ 2 ^ 31) (hb : elB P T ≤ 2 ^ 10) (k : ARun P ops rest (({ s with ob := s.ob ++ [Ob.row e 1 (List.replicate n (.val z))] } : AS).put o.dst (.own s.ob.length)) Q) : AOp P ops o rest s Q := by
  refine AOp.value (s' := { s with ob := s.ob ++ [.row e 1 (List.replicate n (.val z))] }) (fun E ρ B a w hs => ?_) k
  obtain ⟨e', h1, _, h3, h4⟩ := make_run hs ho hx hy hz (by rw [he]; exact hzc) hn hb
  have hee : e' = e := by rw [he] at h3; exact (Option.some.inj h3).symm
  subst hee
  have hsame := same_alloc w (.cells (List.replicate n z).toArray e')
  have hall : (List.replicate n (AV.val z)).all AV.one = true := by
    rw [List.all_eq_true]; intro c hc; rw [(List.mem_replicate.1 hc).2]; exact h4
  have hrl : ∀ (m : Nat) (W : World) (B1 : Nat → Prop) (ρ1 : List Value), RelL W B1 E.bs ρ1 (List.replicate m (AV.val z)) (List.replicate m z) := by
    intro m W B1 ρ1
    induction m with
    | zero => exact .nil
    | succ m ih => exact .cons (.val _) ih
  refine ⟨.slice (some ⟨w.heap.size, 0, none⟩) n n, _, ρ ++ [.slice (some ⟨w.heap.size, 0, none⟩) n n], B, h1, hs.new hsame ⟨?_, .inr ⟨w.heap.size, n, List.replicate n z, [], (0, 0), ?_, ?_, ?_, ?_, .inl (Nat.le_refl _), ?_⟩⟩ ?_, .own ?_ rfl⟩
  · intro c hc
    have := List.all_eq_true.1 hall c hc
    rw [one_cells this]
    exact ⟨rfl, fun u hu => by simp at hu; subst hu; exact this⟩
  · rw [List.length_replicate, ← hs.rw_.len, List.getElem?_append_right (Nat.le_refl _), Nat.sub_self]; rfl
  · rw [List.append_nil]; exact alloc_get _ _
  · simp
  · simp
  · rw [flat_ones hall]; exact hrl n _ _ _
  · intro b hb
    simp only [blk, Option.some.injEq] at hb
    subst hb
    exact ⟨Nat.le_refl _, by simp⟩
  · rw [← hs.rw_.len, List.getElem?_append_right (Nat.le_refl _), Nat.sub_self]; rfl

theorem ARun2.makeOwnM {T e : TypeId} {x y : Operand} {k1 k2 : IntKind} {z : Value} {p : List Oper × AS} (n : Nat) (hn : n ≤ 2 ^ 31) (K : ARun2 P ops p Q) (ho : o.op = .makeSlice T x y := by rfl) (hg : gd ops s o = some true := by first | with_reducible rfl | (simp only [push_cast, reduceIte, Nat.reduceEqDiff, Nat.reduceLT, Nat.reduceAdd, Nat.reduceSub, Nat.reduceMul, Nat.reduceLeDiff, Nat.reducePow, Int.reduceLT, Int.reduceToNat, reduceCtorEq, Int.reduceNeg, Int.reduceEq, Nat.reduceBEq, Nat.reduceBNe, Int.reduceBEq, Int.reduceBNe, String.reduceEq]; first | done | rfl | (simp (disch := omega) only [w_nat, w_add, w_addl, w_addr, w_sub, w_subl, w_mul, w_mull, w_mulr, w_u32, w_u16, w_u8, w_u32a, N_zero]; first | done | rfl | (simp only [push_cast, reduceIte, Nat.reduceEqDiff, Nat.reduceLT, Nat.reduceAdd, Nat.reduceSub, Nat.reduceMul, Nat.reduceLeDiff, Nat.reducePow, Int.reduceLT, Int.reduceToNat, reduceCtorEq, Int.reduceNeg, Int.reduceEq, Nat.reduceBEq, Nat.reduceBNe, Int.reduceBEq, Int.reduceBNe, String.reduceEq]; first | done | rfl))))
    (hx : s.ev x = .val (.int k1 (N n)) := by first | with_reducible rfl | (simp only [push_cast, reduceIte, Nat.reduceEqDiff, Nat.reduceLT, Nat.reduceAdd, Nat.reduceSub, Nat.reduceMul, Nat.reduceLeDiff, Nat.reducePow, Int.reduceLT, Int.reduceToNat, reduceCtorEq, Int.reduceNeg, Int.reduceEq, Nat.reduceBEq, Nat.reduceBNe, Int.reduceBEq, Int.reduceBNe, String.reduceEq]; first | done | rfl | (simp (disch := omega) only [w_nat, w_add, w_addl, w_addr, w_sub, w_subl, w_mul, w_mull, w_mulr, w_u32, w_u16, w_u8, w_u32a, N_zero]; first | done | rfl | (simp only [push_cast, reduceIte, Nat.reduceEqDiff, Nat.reduceLT, Nat.reduceAdd, Nat.reduceSub, Nat.reduceMul, Nat.reduceLeDiff, Nat.reducePow, Int.reduceLT, Int.reduceToNat, reduceCtorEq, Int.reduceNeg, Int.reduceEq, Nat.reduceBEq, Nat.reduceBNe, Int.reduceBEq, Int.reduceBNe, String.reduceEq]; first | done | rfl)))) (hy : s.ev y = .val (.int k2 (N n)) := by first | with_reducible rfl | (simp only [push_cast, reduceIte, Nat.reduceEqDiff, Nat.reduceLT, Nat.reduceAdd, Nat.reduceSub, Nat.reduceMul, Nat.reduceLeDiff, Nat.reducePow, Int.reduceLT, Int.reduceToNat, reduceCtorEq, Int.reduceNeg, Int.reduceEq, Nat.reduceBEq, Nat.reduceBNe, Int.reduceBEq, Int.reduceBNe, String.reduceEq]; first | done | rfl | (simp (disch := omega) only [w_nat, w_add, w_addl, w_addr, w_sub, w_subl, w_mul, w_mull, w_mulr, w_u32, w_u16, w_u8, w_u32a, N_zero]; first | done | rfl | (simp only [push_cast, reduceIte, Nat.reduceEqDiff, Nat.reduceLT, Nat.reduceAdd, Nat.reduceSub, Nat.reduceMul, Nat.reduceLeDiff, Nat.reducePow, Int.reduceLT, Int.reduceToNat, reduceCtorEq, Int.reduceNeg, Int.reduceEq, Nat.reduceBEq, Nat.reduceBNe, Int.reduceBEq, Int.reduceBNe, String.reduceEq]; first | done | rfl)))) (hz : elSz P T = some 1 := by first | with_reducible rfl | (simp only [push_cast, reduceIte, Nat.reduceEqDiff, Nat.reduceLT, Nat.reduceAdd, Nat.reduceSub, Nat.reduceMul, Nat.reduceLeDiff, Nat.reducePow, Int.reduceLT, Int.reduceToNat, reduceCtorEq, Int.reduceNeg, Int.reduceEq, Nat.reduceBEq, Nat.reduceBNe, Int.reduceBEq, Int.reduceBNe, String.reduceEq]; first | done | rfl | (simp (disch := omega) only [w_nat, w_add, w_addl, w_addr, w_sub, w_subl, w_mul, w_mull, w_mulr, w_u32, w_u16, w_u8, w_u32a, N_zero]; first | done | rfl | (simp only [push_cast, reduceIte, Nat.reduceEqDiff, Nat.reduceLT, Nat.reduceAdd, Nat.reduceSub, Nat.reduceMul, Nat.reduceLeDiff, Nat.reducePow, Int.reduceLT, Int.reduceToNat, reduceCtorEq, Int.reduceNeg, Int.reduceEq, Nat.reduceBEq, Nat.reduceBNe, Int.reduceBEq, Int.reduceBNe, String.reduceEq]; first | done | rfl)))) (he : elT P T = some e := by first | with_reducible rfl | (simp only [push_cast, reduceIte, Nat.reduceEqDiff, Nat.reduceLT, Nat.reduceAdd, Nat.reduceSub, Nat.reduceMul, Nat.reduceLeDiff, Nat.reducePow, Int.reduceLT, Int.reduceToNat, reduceCtorEq, Int.reduceNeg, Int.reduceEq, Nat.reduceBEq, Nat.reduceBNe, Int.reduceBEq, Int.reduceBNe, String.reduceEq]; first | done | rfl | (simp (disch := omega) only [w_nat, w_add, w_addl, w_addr, w_sub, w_subl, w_mul, w_mull, w_mulr, w_u32, w_u16, w_u8, w_u32a, N_zero]; first | done | rfl | (simp only [push_cast, reduceIte, Nat.reduceEqDiff, Nat.reduceLT, Nat.reduceAdd, Nat.reduceSub, Nat.reduceMul, Nat.reduceLeDiff, Nat.reducePow, Int.reduceLT, Int.reduceToNat, reduceCtorEq, Int.reduceNeg, Int.reduceEq, Nat.reduceBEq, Nat.reduceBNe, Int.reduceBEq, Int.reduceBNe, String.reduceEq]; first | done | rfl)))) (hzc : zc P e = some [z] := by first | with_reducible rfl | (simp only [push_cast, reduceIte, Nat.reduceEqDiff, Nat.reduceLT, Nat.reduceAdd, Nat.reduceSub, Nat.reduceMul, Nat.reduceLeDiff, Nat.reducePow, Int.reduceLT, Int.reduceToNat, reduceCtorEq, Int.reduceNeg, Int.reduceEq, Nat.reduceBEq, Nat.reduceBNe, Int.reduceBEq, Int.reduceBNe, String.reduceEq]; first | done | rfl | (simp (disch := omega) only [w_nat, w_add, w_addl, w_addr, w_sub, w_subl, w_mul, w_mull, w_mulr, w_u32, w_u16, w_u8, w_u32a, N_zero]; first | done | rfl | (simp only [push_cast, reduceIte, Nat.reduceEqDiff, Nat.reduceLT, Nat.reduceAdd, Nat.reduceSub, Nat.reduceMul, Nat.reduceLeDiff, Nat.reducePow, Int.reduceLT, Int.reduceToNat, reduceCtorEq, Int.reduceNeg, Int.reduceEq, Nat.reduceBEq, Nat.reduceBNe, Int.reduceBEq, Int.reduceBNe, String.reduceEq]; first | done | rfl)))) (hb : decide (elB P T ≤ 2 ^ 10) = true := by first | with_reducible rfl | (simp only [push_cast, reduceIte, Nat.reduceEqDiff, Nat.reduceLT, Nat.reduceAdd, Nat.reduceSub, Nat.reduceMul, Nat.reduceLeDiff, Nat.reducePow, Int.reduceLT, Int.reduceToNat, reduceCtorEq, Int.reduceNeg, Int.reduceEq, Nat.reduceBEq, Nat.reduceBNe, Int.reduceBEq, Int.reduceBNe, String.reduceEq]; first | done | rfl | (simp (disch := omega) only [w_nat, w_add, w_addl, w_addr, w_sub, w_subl, w_mul, w_mull, w_mulr, w_u32, w_u16, w_u8, w_u32a, N_zero]; first | done | rfl | (simp only [push_cast, reduceIte, Nat.reduceEqDiff, Nat.reduceLT, Nat.reduceAdd, Nat.reduceSub, Nat.reduceMul, Nat.reduceLeDiff, Nat.reducePow, Int.reduceLT, Int.reduceToNat, reduceCtorEq, Int.reduceNeg, Int.reduceEq, Nat.reduceBEq, Nat.reduceBNe, Int.reduceBEq, Int.reduceBNe, String.reduceEq]; first | done | rfl))))
    (h : srun P ops rest (({ s with ob := s.ob ++ [Ob.row e 1 (List.replicate n (.val z))] } : AS).put o.dst (.own s.ob.length)) = p := by
        try simp only [push_cast, reduceIte, Nat.reduceEqDiff, Nat.reduceLT, Nat.reduceAdd, Nat.reduceSub, Nat.reduceMul, Nat.reduceLeDiff, Nat.reducePow, Int.reduceLT, Int.reduceToNat, reduceCtorEq, Int.reduceNeg, Int.reduceEq, Nat.reduceBEq, Nat.reduceBNe, Int.reduceBEq, Int.reduceBNe, String.reduceEq]
        try simp (disch := omega) only [w_nat, w_add, w_addl, w_addr, w_sub, w_subl, w_mul, w_mull, w_mulr, w_u32, w_u16, w_u8, w_u32a, N_zero]
        try simp only [push_cast, reduceIte, Nat.reduceEqDiff, Nat.reduceLT, Nat.reduceAdd, Nat.reduceSub, Nat.reduceMul, Nat.reduceLeDiff, Nat.reducePow, Int.reduceLT, Int.reduceToNat, reduceCtorEq, Int.reduceNeg, Int.reduceEq, Nat.reduceBEq, Nat.reduceBNe, Int.reduceBEq, Int.reduceBNe, String.reduceEq]
        rfl) : ARun2 P ops (o :: rest, s) Q :=
  ARun.exec hg (AOp.makeOwn ho hx hy hz he hzc hn (of_decide_eq_true hb) (ARun.srun (h ▸ K)))

/-! ### a string's bytes -/
theorem AOp.strBytes {T T' : TypeId} {x : Operand} {b : ByteArray} (ho : o.op = .convert T T' x) (hT : isStr P T = true) (hT' : isBys P T' = true) (hx : s.ev x = .val (.string b))
    (k : ARun P ops rest (s.put o.dst (.sl true 1 (bys b.toList))) Q) : AOp P ops o rest s Q := by
  refine AOp.value (s' := s) (fun E ρ B a w hs => ?_) k
  obtain ⟨e, hu, he⟩ := isBys_spec hT'
  have hxv := (hx ▸ hs.ev x : Rel w B E.bs ρ (.val (.string b)) (a.eval x)).val_eq
  have hbl : b.toList = b.data.toList := by
    unfold ByteArray.toList
    rw [ba_loop' b b.size 0 [] (by omega)]; simp
  have hsame : Same w (Go.Lib.bytesWorld w e b) := by
    refine ⟨?_, ?_, ?_, by rw [Go.Lib.bytesWorld_size]; omega, fun k hk => Go.Lib.bytesWorld_at_old w e b k hk⟩
    all_goals simp [Go.Lib.bytesWorld, World.freeze, World.alloc, World.drew, -World.alloc_eq, -World.drew_eq]
  have hcells : Go.Lib.bytesCells w e b = List.toArray ((b.data.toList.map fun c => Value.int .u8 c.toNat) ++ List.replicate (grownCap w b.size 0 e - b.size) (.int .u8 0)) := by
    apply Array.ext'; simp [Go.Lib.bytesCells]
  have hnew := Go.Lib.bytesWorld_at_new w e b
  rw [hcells] at hnew
  have hrl : ∀ l : List UInt8, RelL w B E.bs ρ ((bys l).flatMap AV.cells) (l.map fun c => Value.int .u8 c.toNat) := by
    intro l
    rw [bys_flat]
    induction l with
    | nil => exact .nil
    | cons c l ih => exact .cons (.val _) ih
  refine ⟨.slice (some ⟨w.heap.size, 0, none⟩) b.size (grownCap w b.size 0 e), _, ρ, _, ?_, hs.pubNew hsame (Nat.le_refl _) (by rw [Go.Lib.bytesWorld_size]; omega), ?_⟩
  · simp only [execOp, ho, hxv]
    exact val_run (Go.Lib.run_convert_string_bytes w T T' e b (isStr_spec hT) hu he)
  · rw [hbl]
    refine RelRow.fresh (sz := 1) (bs := E.bs) hs.rw_.size hs.rw_.blt (hrl b.data.toList) (fun x hx => bys_cells hx) (by rw [bys_len]; exact Array.length_toList.symm) ?_ _ _ hsame hnew
    simp [grownCap, Question.cut]

theorem ARun2.strBytesM {T T' : TypeId} {x : Operand} {b : ByteArray} {p : List Oper × AS} (K : ARun2 P ops p Q) (ho : o.op = .convert T T' x := by rfl) (hg : gd ops s o = some true := by first | with_reducible rfl | (simp only [push_cast, reduceIte, Nat.reduceEqDiff, Nat.reduceLT, Nat.reduceAdd, Nat.reduceSub, Nat.reduceMul, Nat.reduceLeDiff, Nat.reducePow, Int.reduceLT, Int.reduceToNat, reduceCtorEq, Int.reduceNeg, Int.reduceEq, Nat.reduceBEq, Nat.reduceBNe, Int.reduceBEq, Int.reduceBNe, String.reduceEq]; first | done | rfl | (simp (disch := omega) only [w_nat, w_add, w_addl, w_addr, w_sub, w_subl, w_mul, w_mull, w_mulr, w_u32, w_u16, w_u8, w_u32a, N_zero]; first | done | rfl | (simp only [push_cast, reduceIte, Nat.reduceEqDiff, Nat.reduceLT, Nat.reduceAdd, Nat.reduceSub, Nat.reduceMul, Nat.reduceLeDiff, Nat.reducePow, Int.reduceLT, Int.reduceToNat, reduceCtorEq, Int.reduceNeg, Int.reduceEq, Nat.reduceBEq, Nat.reduceBNe, Int.reduceBEq, Int.reduceBNe, String.reduceEq]; first | done | rfl)))) (hT : isStr P T = true := by first | with_reducible rfl | (simp only [push_cast, reduceIte, Nat.reduceEqDiff, Nat.reduceLT, Nat.reduceAdd, Nat.reduceSub, Nat.reduceMul, Nat.reduceLeDiff, Nat.reducePow, Int.reduceLT, Int.reduceToNat, reduceCtorEq, Int.reduceNeg, Int.reduceEq, Nat.reduceBEq, Nat.reduceBNe, Int.reduceBEq, Int.reduceBNe, String.reduceEq]; first | done | rfl | (simp (disch := omega) only [w_nat, w_add, w_addl, w_addr, w_sub, w_subl, w_mul, w_mull, w_mulr, w_u32, w_u16, w_u8, w_u32a, N_zero]; first | done | rfl | (simp only [push_cast, reduceIte, Nat.reduceEqDiff, Nat.reduceLT, Nat.reduceAdd, Nat.reduceSub, Nat.reduceMul, Nat.reduceLeDiff, Nat.reducePow, Int.reduceLT, Int.reduceToNat, reduceCtorEq, Int.reduceNeg, Int.reduceEq, Nat.reduceBEq, Nat.reduceBNe, Int.reduceBEq, Int.reduceBNe, String.reduceEq]; first | done | rfl)))) (hT' : isBys P T' = true := by first | with_reducible rfl | (simp only [push_cast, reduceIte, Nat.reduceEqDiff, Nat.reduceLT, Nat.reduceAdd, Nat.reduceSub, Nat.reduceMul, Nat.reduceLeDiff, Nat.reducePow, Int.reduceLT, Int.reduceToNat, reduceCtorEq, Int.reduceNeg, Int.reduceEq, Nat.reduceBEq, Nat.reduceBNe, Int.reduceBEq, Int.reduceBNe, String.reduceEq]; first | done | rfl | (simp (disch := omega) only [w_nat, w_add, w_addl, w_addr, w_sub, w_subl, w_mul, w_mull, w_mulr, w_u32, w_u16, w_u8, w_u32a, N_zero]; first | done | rfl | (simp only [push_cast, reduceIte, Nat.reduceEqDiff, Nat.reduceLT, Nat.reduceAdd, Nat.reduceSub, Nat.reduceMul, Nat.reduceLeDiff, Nat.reducePow, Int.reduceLT, Int.reduceToNat, reduceCtorEq, Int.reduceNeg, Int.reduceEq, Nat.reduceBEq, Nat.reduceBNe, Int.reduceBEq, Int.reduceBNe, String.reduceEq]; first | done | rfl)))) (hx : s.ev x = .val (.string b) := by first | with_reducible rfl | (simp only [push_cast, reduceIte, Nat.reduceEqDiff, Nat.reduceLT, Nat.reduceAdd, Nat.reduceSub, Nat.reduceMul, Nat.reduceLeDiff, Nat.reducePow, Int.reduceLT, Int.reduceToNat, reduceCtorEq, Int.reduceNeg, Int.reduceEq, Nat.reduceBEq, Nat.reduceBNe, Int.reduceBEq, Int.reduceBNe, String.reduceEq]; first | done | rfl | (simp (disch := omega) only [w_nat, w_add, w_addl, w_addr, w_sub, w_subl, w_mul, w_mull, w_mulr, w_u32, w_u16, w_u8, w_u32a, N_zero]; first | done | rfl | (simp only [push_cast, reduceIte, Nat.reduceEqDiff, Nat.reduceLT, Nat.reduceAdd, Nat.reduceSub, Nat.reduceMul, Nat.reduceLeDiff, Nat.reducePow, Int.reduceLT, Int.reduceToNat, reduceCtorEq, Int.reduceNeg, Int.reduceEq, Nat.reduceBEq, Nat.reduceBNe, Int.reduceBEq, Int.reduceBNe, String.reduceEq]; first | done | rfl))))
    (h : srun P ops rest (s.put o.dst (.sl true 1 (bys b.toList))) = p := by
        try simp only [push_cast, reduceIte, Nat.reduceEqDiff, Nat.reduceLT, Nat.reduceAdd, Nat.reduceSub, Nat.reduceMul, Nat.reduceLeDiff, Nat.reducePow, Int.reduceLT, Int.reduceToNat, reduceCtorEq, Int.reduceNeg, Int.reduceEq, Nat.reduceBEq, Nat.reduceBNe, Int.reduceBEq, Int.reduceBNe, String.reduceEq]
        try simp (disch := omega) only [w_nat, w_add, w_addl, w_addr, w_sub, w_subl, w_mul, w_mull, w_mulr, w_u32, w_u16, w_u8, w_u32a, N_zero]
        try simp only [push_cast, reduceIte, Nat.reduceEqDiff, Nat.reduceLT, Nat.reduceAdd, Nat.reduceSub, Nat.reduceMul, Nat.reduceLeDiff, Nat.reducePow, Int.reduceLT, Int.reduceToNat, reduceCtorEq, Int.reduceNeg, Int.reduceEq, Nat.reduceBEq, Nat.reduceBNe, Int.reduceBEq, Int.reduceBNe, String.reduceEq]
        rfl) : ARun2 P ops (o :: rest, s) Q :=
  ARun.exec hg (AOp.strBytes ho hT hT' hx (ARun.srun (h ▸ K)))

theorem ARun2.toStrM {T T' : TypeId} {x : Operand} {p : List Oper × AS} (l : List UInt8) (K : ARun2 P ops p Q) (ho : o.op = .convert T T' x := by rfl) (hg : gd ops s o = some true := by first | with_reducible rfl | (simp only [push_cast, reduceIte, Nat.reduceEqDiff, Nat.reduceLT, Nat.reduceAdd, Nat.reduceSub, Nat.reduceMul, Nat.reduceLeDiff, Nat.reducePow, Int.reduceLT, Int.reduceToNat, reduceCtorEq, Int.reduceNeg, Int.reduceEq, Nat.reduceBEq, Nat.reduceBNe, Int.reduceBEq, Int.reduceBNe, String.reduceEq]; first | done | rfl | (simp (disch := omega) only [w_nat, w_add, w_addl, w_addr, w_sub, w_subl, w_mul, w_mull, w_mulr, w_u32, w_u16, w_u8, w_u32a, N_zero]; first | done | rfl | (simp only [push_cast, reduceIte, Nat.reduceEqDiff, Nat.reduceLT, Nat.reduceAdd, Nat.reduceSub, Nat.reduceMul, Nat.reduceLeDiff, Nat.reducePow, Int.reduceLT, Int.reduceToNat, reduceCtorEq, Int.reduceNeg, Int.reduceEq, Nat.reduceBEq, Nat.reduceBNe, Int.reduceBEq, Int.reduceBNe, String.reduceEq]; first | done | rfl)))) (hT : isBys P T = true := by first | with_reducible rfl | (simp only [push_cast, reduceIte, Nat.reduceEqDiff, Nat.reduceLT, Nat.reduceAdd, Nat.reduceSub, Nat.reduceMul, Nat.reduceLeDiff, Nat.reducePow, Int.reduceLT, Int.reduceToNat, reduceCtorEq, Int.reduceNeg, Int.reduceEq, Nat.reduceBEq, Nat.reduceBNe, Int.reduceBEq, Int.reduceBNe, String.reduceEq]; first | done | rfl | (simp (disch := omega) only [w_nat, w_add, w_addl, w_addr, w_sub, w_subl, w_mul, w_mull, w_mulr, w_u32, w_u16, w_u8, w_u32a, N_zero]; first | done | rfl | (simp only [push_cast, reduceIte, Nat.reduceEqDiff, Nat.reduceLT, Nat.reduceAdd, Nat.reduceSub, Nat.reduceMul, Nat.reduceLeDiff, Nat.reducePow, Int.reduceLT, Int.reduceToNat, reduceCtorEq, Int.reduceNeg, Int.reduceEq, Nat.reduceBEq, Nat.reduceBNe, Int.reduceBEq, Int.reduceBNe, String.reduceEq]; first | done | rfl)))) (hT' : isStr P T' = true := by first | with_reducible rfl | (simp only [push_cast, reduceIte, Nat.reduceEqDiff, Nat.reduceLT, Nat.reduceAdd, Nat.reduceSub, Nat.reduceMul, Nat.reduceLeDiff, Nat.reducePow, Int.reduceLT, Int.reduceToNat, reduceCtorEq, Int.reduceNeg, Int.reduceEq, Nat.reduceBEq, Nat.reduceBNe, Int.reduceBEq, Int.reduceBNe, String.reduceEq]; first | done | rfl | (simp (disch := omega) only [w_nat, w_add, w_addl, w_addr, w_sub, w_subl, w_mul, w_mull, w_mulr, w_u32, w_u16, w_u8, w_u32a, N_zero]; first | done | rfl | (simp only [push_cast, reduceIte, Nat.reduceEqDiff, Nat.reduceLT, Nat.reduceAdd, Nat.reduceSub, Nat.reduceMul, Nat.reduceLeDiff, Nat.reducePow, Int.reduceLT, Int.reduceToNat, reduceCtorEq, Int.reduceNeg, Int.reduceEq, Nat.reduceBEq, Nat.reduceBNe, Int.reduceBEq, Int.reduceBNe, String.reduceEq]; first | done | rfl)))) (hx : srcOf s 1 (s.ev x) = some (bys l) := by first | with_reducible rfl | (simp only [push_cast, reduceIte, Nat.reduceEqDiff, Nat.reduceLT, Nat.reduceAdd, Nat.reduceSub, Nat.reduceMul, Nat.reduceLeDiff, Nat.reducePow, Int.reduceLT, Int.reduceToNat, reduceCtorEq, Int.reduceNeg, Int.reduceEq, Nat.reduceBEq, Nat.reduceBNe, Int.reduceBEq, Int.reduceBNe, String.reduceEq]; first | done | rfl | (simp (disch := omega) only [w_nat, w_add, w_addl, w_addr, w_sub, w_subl, w_mul, w_mull, w_mulr, w_u32, w_u16, w_u8, w_u32a, N_zero]; first | done | rfl | (simp only [push_cast, reduceIte, Nat.reduceEqDiff, Nat.reduceLT, Nat.reduceAdd, Nat.reduceSub, Nat.reduceMul, Nat.reduceLeDiff, Nat.reducePow, Int.reduceLT, Int.reduceToNat, reduceCtorEq, Int.reduceNeg, Int.reduceEq, Nat.reduceBEq, Nat.reduceBNe, Int.reduceBEq, Int.reduceBNe, String.reduceEq]; first | done | rfl))))
    (h : srun P ops rest (s.put o.dst (.val (.string (bstr l)))) = p := by
        try simp only [push_cast, reduceIte, Nat.reduceEqDiff, Nat.reduceLT, Nat.reduceAdd, Nat.reduceSub, Nat.reduceMul, Nat.reduceLeDiff, Nat.reducePow, Int.reduceLT, Int.reduceToNat, reduceCtorEq, Int.reduceNeg, Int.reduceEq, Nat.reduceBEq, Nat.reduceBNe, Int.reduceBEq, Int.reduceBNe, String.reduceEq]
        try simp (disch := omega) only [w_nat, w_add, w_addl, w_addr, w_sub, w_subl, w_mul, w_mull, w_mulr, w_u32, w_u16, w_u8, w_u32a, N_zero]
        try simp only [push_cast, reduceIte, Nat.reduceEqDiff, Nat.reduceLT, Nat.reduceAdd, Nat.reduceSub, Nat.reduceMul, Nat.reduceLeDiff, Nat.reducePow, Int.reduceLT, Int.reduceToNat, reduceCtorEq, Int.reduceNeg, Int.reduceEq, Nat.reduceBEq, Nat.reduceBNe, Int.reduceBEq, Int.reduceBNe, String.reduceEq]
        rfl) : ARun2 P ops (o :: rest, s) Q :=
  ARun.exec hg (AOp.toStr ho hT hT' hx (ARun.srun (h ▸ K)))

/-! ### a result told with less, but with what is new in it -/
def Wk (x y : AV) : Prop := ∀ (w : World) (B : Nat → Prop) (bs : Nat) (ρ : List Value) (v : Value), Rel w B bs ρ x v → Rel w B bs ρ y v
def WkL (xs ys : List AV) : Prop := ∀ (w : World) (B : Nat → Prop) (bs : Nat) (ρ : List Value) (vs : List Value), RelL w B bs ρ xs vs → RelL w B bs ρ ys vs
theorem Wk.eq {x y : AV} (h : x = y) : Wk x y := by subst h; exact fun _ _ _ _ _ h => h
theorem Wk.nil {nw : Bool} {sz : Nat} : Wk (.val (.slice none 0 0)) (.sl nw sz []) := by
  intro w B bs ρ v h; cases h; exact .slE _ _ _ _
theorem WkL.nil : WkL [] [] := fun _ _ _ _ _ h => h
theorem WkL.cons {x y : AV} {xs ys : List AV} (h : Wk x y) (h2 : WkL xs ys) : WkL (x :: xs) (y :: ys) := by
  intro w B bs ρ v hr; cases hr with | cons a b => exact .cons (h _ _ _ _ _ a) (h2 _ _ _ _ _ b)
theorem Wk.agg {xs ys : List AV} (h : WkL xs ys) : Wk (.agg xs) (.agg ys) := by
  intro w B bs ρ v hr; cases hr with | agg a => exact .agg (h _ _ _ _ _ a)
theorem Wk.tup {xs ys : List AV} (h : WkL xs ys) : Wk (.tup xs) (.tup ys) := by
  intro w B bs ρ v hr; cases hr with | tup a => exact .tup (h _ _ _ _ _ a)
theorem Wk.go {x y : AV} (h : Wk x y := by
      try simp only [push_cast, reduceIte, Nat.reduceEqDiff, Nat.reduceLT, Nat.reduceAdd, Nat.reduceSub, Nat.reduceMul, Nat.reduceLeDiff, Nat.reducePow, Int.reduceLT, Int.reduceToNat, reduceCtorEq, Int.reduceNeg, Int.reduceEq, Nat.reduceBEq, Nat.reduceBNe, Int.reduceBEq, Int.reduceBNe, String.reduceEq]
      try simp (disch := omega) only [w_nat, w_add, w_addl, w_addr, w_sub, w_subl, w_mul, w_mull, w_mulr, w_u32, w_u16, w_u8, w_u32a, N_zero]
      repeat' (first | assumption | exact WkL.nil | exact Wk.nil | exact Wk.eq (by first | with_reducible rfl | (simp only [push_cast, reduceIte, Nat.reduceEqDiff, Nat.reduceLT, Nat.reduceAdd, Nat.reduceSub, Nat.reduceMul, Nat.reduceLeDiff, Nat.reducePow, Int.reduceLT, Int.reduceToNat, reduceCtorEq, Int.reduceNeg, Int.reduceEq, Nat.reduceBEq, Nat.reduceBNe, Int.reduceBEq, Int.reduceBNe, String.reduceEq]; first | done | rfl | (simp (disch := omega) only [w_nat, w_add, w_addl, w_addr, w_sub, w_subl, w_mul, w_mull, w_mulr, w_u32, w_u16, w_u8, w_u32a, N_zero]; first | done | rfl | (simp only [push_cast, reduceIte, Nat.reduceEqDiff, Nat.reduceLT, Nat.reduceAdd, Nat.reduceSub, Nat.reduceMul, Nat.reduceLeDiff, Nat.reducePow, Int.reduceLT, Int.reduceToNat, reduceCtorEq, Int.reduceNeg, Int.reduceEq, Nat.reduceBEq, Nat.reduceBNe, Int.reduceBEq, Int.reduceBNe, String.reduceEq]; first | done | rfl)))) | refine WkL.cons ?_ ?_ | refine Wk.agg ?_ | refine Wk.tup ?_)) : Wk x y := h
theorem PC.of_bodyK {f : FuncId} {fn : Func} {c : Code} {args : List AV} {r : AV} (hr : r.idsOk (fun _ => false) = true) (hf : P.funcs[f]? = some fn) (hb : fn.body = some c) (hn : args.length ≤ fn.ntmps)
    (h : AWp P c { n := fn.ntmps, m := 0, fr := frOf 0 args, ob := [] } (bodyQ P fn fun r' _ => Wk r' r)) : PC P f args r := by
  refine ⟨hr, ?_⟩
  intro w ρ B vs hw hrel R' hR'
  refine ACalls.of_body (τ := []) (R := fun r' _ => Wk r' r) hf hb hn h w ρ B vs hw hrel R' ?_
  rintro r' v τ' ρ' B' w' hh hw' hv
  have hρ : ρ = [] := by have := hw.len; simpa using this
  subst hρ
  refine hR' _ v [] [] B' w' ⟨rfl, rfl⟩ ?_ ((hh _ _ _ _ _ hv).ids (p := fun _ => false) (by intro _ _ h; simp at h) hr)
  have := hw'.cut (n := 0) (by simp) (by intro k o h; simp at h)
  simpa using this
end
attribute [push_cast] AV.fresh AV.freshL
end Go.Abs
