/- What is made anew: Clone, right, Chunk, Message. -/
import Derived.Test.YtmcedkcehcacpaaM4
import Derived.WalkKit
import Derived.ProofKit
import Derived.OpenShut
import Derived.JoinedCond
import Derived.Carry
import Derived.ChangeSlices
import Derived.Test.YtmcedkcehcacpaaRows
import Derived.Deep.Strs
set_option linter.unusedVariables false
set_option linter.unusedSimpArgs false
namespace Go.Abs
@[push_cast] theorem bys_fresh (l : List UInt8) : AV.freshL (bys l) = true := by
  unfold bys
  induction l with
  | nil => rfl
  | cons x l ih => simp only [List.map_cons, AV.freshL, AV.fresh, ih]; rfl
@[push_cast] theorem bys_ones (l : List UInt8) : (bys l).all AV.one = true := by
  unfold bys
  rw [List.all_eq_true]; intro x hx; simp only [List.mem_map] at hx; obtain ⟨b, _, rfl⟩ := hx; rfl
mutual
theorem nodeA_fresh : ∀ n : GNode, (nodeA true n).fresh = true
  | .mk t d k => by simp only [nodeA, AV.fresh, AV.freshL, bys_fresh, nodesA_fresh k, Bool.and_true]
theorem nodesA_fresh : ∀ l : List GNode, AV.freshL (nodesA true l) = true
  | [] => by simp [nodesA, AV.freshL]
  | n :: l => by simp only [nodesA, AV.freshL, nodeA_fresh n, nodesA_fresh l, Bool.and_true]
end
attribute [push_cast] nodesA_fresh
end Go.Abs
namespace Go.Proofs.Ytmcedkcehcacpaa.C
open Go.Abs

theorem nclone_fstep (n : GNode) (hs : n.sz ≤ 2 ^ 40) (ih : ∀ a : GNode, a.sz < n.sz → PC Try.prog 40 [nodeA false a] (nodeA true a)) : PC Try.prog 40 [nodeA false n] (nodeA true n) := by
  have hsz := n.sz_eq
  have hlen := szs_len n.kids
  refine PC.of_bodyK (by simp only [push_cast]) Try.func40 rfl (by rw [Try.ntmps40]; simp) ?_
  refine AWp.regionW ?_
  refine AWp.drS [[(1, none)], [(6, some 0)], [(1, none)], [(8, some 2)], [(9, some 3)], [(7, some 1), (10, some 4)], []] fun G hG => ?_
  refine Dr.sim ?_
  try simp only [List.cons_append, List.nil_append]
  refine Dr.sim ?_
  try simp only [List.cons_append, List.nil_append]
  refine Dr.sim ?_
  try simp only [List.cons_append, List.nil_append]
  refine Dr.sim ?_
  try simp only [List.cons_append, List.nil_append]
  refine Dr.call (clone_c n.data (by omega)) ?_
  try simp only [List.cons_append, List.nil_append]
  refine Dr.sim ?_
  try simp only [List.cons_append, List.nil_append]
  refine Dr.al ?_
  try simp only [List.cons_append, List.nil_append]
  refine Dr.finA (n := 7) 6 [(11, 5), (3, 6)] [1, 2] hG Ytmcedkcehcacpaa.Facts.mixed fun KD hKD => ?_
  refine ARun2.endm (hKD _ ?_); clear hKD KD hG G
  refine AWp.seqK fun K1 hK1 => ?_
  refine AWp.regionW ?_
  refine AWp.block ?_
  refine AWp.nilBox 2 2 28 3 rfl rfl ?_
  simp only [push_cast, reduceIte, Nat.reduceEqDiff, Nat.reduceLT, Nat.reduceAdd, Nat.reduceSub, Nat.reduceMul, Nat.reduceLeDiff, Nat.reducePow, Int.reduceLT, Int.reduceToNat, reduceCtorEq, Int.reduceNeg, Int.reduceEq, Nat.reduceBEq, Nat.reduceBNe, Int.reduceBEq, Int.reduceBNe, String.reduceEq]
  refine AWp.loopK [2, 3, 13, 14] (fun (i : Nat) => [(15, nat i)]) (fun i => [.box 28 [u16 n.ty, .sl false 1 (bys n.data), .sl false 3 (nodesA false n.kids)], .box 28 [.val (.int .u16 0), .val (.slice none 0 0), .val (.slice none 0 0)], .box 28 [u16 n.ty, .sl true 1 (bys n.data), .own 3], .row 28 3 (nodesA true (n.kids.take i))]) (fun i => i ≤ n.kids.length) (fun i => n.kids.length - i) (0) ?_ (Nat.zero_le _) ?_
  · skip
    refine Le.m 4 ?_ ?_
    · first | with_reducible rfl | (simp only [push_cast, reduceIte, Nat.reduceEqDiff, Nat.reduceLT, Nat.reduceAdd, Nat.reduceSub, Nat.reduceMul, Nat.reduceLeDiff, Nat.reducePow, Int.reduceLT, Int.reduceToNat, reduceCtorEq, Int.reduceNeg, Int.reduceEq, Nat.reduceBEq, Nat.reduceBNe, Int.reduceBEq, Int.reduceBNe, String.reduceEq]; first | done | rfl | (simp (disch := omega) only [w_nat, w_add, w_addl, w_addr, w_sub, w_subl, w_mul, w_mull, w_mulr, w_u32, w_u16, w_u8, w_u32a, N_zero]; first | done | rfl))
    · first | (simp only [push_cast, reduceIte, Nat.reduceEqDiff, Nat.reduceLT, Nat.reduceAdd, Nat.reduceSub, Nat.reduceMul, Nat.reduceLeDiff, Nat.reducePow, Int.reduceLT, Int.reduceToNat, reduceCtorEq, Int.reduceNeg, Int.reduceEq, Nat.reduceBEq, Nat.reduceBNe, Int.reduceBEq, Int.reduceBNe, String.reduceEq]; first | done | rfl | (simp (disch := omega) only [w_nat, w_add, w_addl, w_addr, w_sub, w_subl, w_mul, w_mull, w_mulr, w_u32, w_u16, w_u8, w_u32a, N_zero]; first | done | rfl))
  · intro i hi K2 hK2
    refine AWp.regionW ?_
    refine AWp.seqK fun K3 hK3 => ?_
    refine AWp.condLM (fun c0 => ?_) (fun c0 => ?_)
    · skip
      have hil : i < n.kids.length := by simpa using c0
      refine AWp.skip ?_
      refine hK3 _ ?_
      refine AWp.seqK fun K4 hK4 => ?_
      refine AWp.block ?_
      refine AWp.regionM fun K5 hK5 => ?_
      refine ARun2.indexM (i) (nodeA false n.kids[i]) ?_ ?_
      · exact nodesA_at _ _ _ hil
      refine ARun2.endm (hK5 _ ?_)
      refine AWp.drE [[(3, none)], [(19, some 0)], [(5, none)], [(21, some 2)], [(22, some 3)]] fun G hG => ?_
      refine Dr.sim ?_
      try simp only [List.cons_append, List.nil_append]
      refine Dr.sim ?_
      try simp only [List.cons_append, List.nil_append]
      refine Dr.sim ?_
      try simp only [List.cons_append, List.nil_append]
      refine Dr.call (ih n.kids[i] (szs_lt (List.getElem_mem hil))) ?_
      try simp only [List.cons_append, List.nil_append]
      refine Dr.build ?_
      try simp only [List.cons_append, List.nil_append]
      refine Dr.finN (n := 5) [(20, 1), (23, 4)] [2, 3, 13, 14, 15] hG Ytmcedkcehcacpaa.Facts.mixed fun KD hKD => ?_
      refine ARun2.appendM ?_ ?_ ?_
      · rw [Ytmcedkcehcacpaa.Facts.eb26, nodesA_len, List.length_take, List.length_cons, List.length_nil]; omega
      · rw [nodesA_len, List.length_take, List.length_cons, List.length_nil]; omega
      refine ARun2.endm (hKD _ ?_); clear hKD KD hG G
      refine hK4 _ ?_
      refine AWp.regionV ?_
      refine hK2 _ (i + 1) (by omega) (by omega) ?_
      refine Le.m 4 ?_ ?_
      · try simp only [push_cast, reduceIte, Nat.reduceEqDiff, Nat.reduceLT, Nat.reduceAdd, Nat.reduceSub, Nat.reduceMul, Nat.reduceLeDiff, Nat.reducePow, Int.reduceLT, Int.reduceToNat, reduceCtorEq, Int.reduceNeg, Int.reduceEq, Nat.reduceBEq, Nat.reduceBNe, Int.reduceBEq, Int.reduceBNe, String.reduceEq]
        try simp (disch := omega) only [w_nat, w_add, w_addl, w_addr, w_sub, w_subl, w_mul, w_mull, w_mulr, w_u32, w_u16, w_u8, w_u32a, N_zero]
        first | done | skip
        rw [List.take_succ_eq_append_getElem hil, nodesA_snoc, nodeA_eq]
      · first | (simp only [push_cast, reduceIte, Nat.reduceEqDiff, Nat.reduceLT, Nat.reduceAdd, Nat.reduceSub, Nat.reduceMul, Nat.reduceLeDiff, Nat.reducePow, Int.reduceLT, Int.reduceToNat, reduceCtorEq, Int.reduceNeg, Int.reduceEq, Nat.reduceBEq, Nat.reduceBNe, Int.reduceBEq, Int.reduceBNe, String.reduceEq]; first | done | rfl | (simp (disch := omega) only [w_nat, w_add, w_addl, w_addr, w_sub, w_subl, w_mul, w_mull, w_mulr, w_u32, w_u16, w_u8, w_u32a, N_zero]; first | done | rfl))
    · skip
      have hil : i = n.kids.length := by simp at c0; omega
      subst hil
      refine AWp.exit ?_
      simp only [thenQ, blockQ, reduceIte, Nat.reduceEqDiff]
      refine hK1 _ ?_
      refine AWp.pubD 3 ?_
      refine AWp.regionW ?_
      refine AWp.ret ?_
      try simp only [thenQ, blockQ]
      refine bodyQ.m ?_
      clear hK3 K3 hK2 K2 hK1 K1
      rw [List.take_length]
      first | done | exact Wk.go
theorem nclone_fw : ∀ (w : Nat) (n : GNode), n.sz ≤ w → n.sz ≤ 2 ^ 40 → PC Try.prog 40 [nodeA false n] (nodeA true n) := by
  intro w
  induction w with
  | zero => intro n h; have := n.sz_eq; omega
  | succ w ih => exact fun n hw hs => nclone_fstep n hs (fun a h => ih a (by omega) (by omega))
theorem nclone_f (n : GNode) (hs : n.sz ≤ 2 ^ 40) : PC Try.prog 40 [nodeA false n] (nodeA true n) := nclone_fw _ n (Nat.le_refl _) hs

theorem right_f (n : GNode) (ok : Bool) (hs : n.sz ≤ 2 ^ 26) : PC Try.prog 26 [nodeA false n, bool ok] (.tup [nodeA true (rightN n ok).1, bool (rightN n ok).2]) := by
  have h1 := nSize_sz n
  refine PC.of_bodyK (by simp only [push_cast]) Try.func26 rfl (by rw [Try.ntmps26]; simp) ?_
  refine AWp.regionW ?_
  refine AWp.seqK fun K1 hK1 => ?_
  refine AWp.regionA fun K2 hK2 => ?_
  refine ARun.segm 3 fun KS hKS => ?_
  refine ARun2.endm (hKS _ ?_); clear hKS KS
  apply ARun.grpM 3 2 false 11 [2, 4, 8]
  · intro g2 KG hKG
    refine ARun2.gom ?_
    refine ARun2.callM (check_c 2 n (by omega) (by omega)) ?_
    exact ARun2.endm (hKG _ Le.grpM)
  refine ARun2.gom ?_
  refine ARun2.endm (hK2 _ ?_)
  refine AWp.condLM (fun c0 => ?_) (fun c0 => ?_)
  · skip
    have h0 : rightN n ok = (.zero, false) := by unfold rightN; cases ok <;> cases h : checkN 2 1 n == 0 <;> simp_all
    refine AWp.regionW ?_
    refine AWp.ret ?_
    try simp only [thenQ, blockQ]
    refine bodyQ.m ?_
    clear hK2 K2 hK1 K1
    rw [h0]
    first | done | exact Wk.go
  · skip
    have h0 : rightN n ok = (n, true) := by unfold rightN; cases ok <;> cases h : checkN 2 1 n == 0 <;> simp_all
    refine AWp.skip ?_
    refine hK1 _ ?_
    refine AWp.regionM fun K3 hK3 => ?_
    refine ARun2.callM (nclone_f n (by omega)) ?_
    refine ARun2.endm (hK3 _ ?_)
    refine AWp.ret ?_
    try simp only [thenQ, blockQ]
    refine bodyQ.m ?_
    clear hK3 K3 hK2 K2 hK1 K1
    rw [h0]
    first | done | exact Wk.go
theorem chunk_f (b : List UInt8) (hl : b.length ≤ 2 ^ 24) : PC Try.prog 21 [.sl false 1 (bys b)] (.tup [nodeA true (chunkN b).1, bool (chunkN b).2]) := by
  refine PC.of_bodyK (by simp only [push_cast]) Try.func21 rfl (by rw [Try.ntmps21]; simp) ?_
  refine AWp.regionW ?_
  refine AWp.regionM fun K1 hK1 => ?_
  refine ARun2.callM (right_f (.mk 6 b []) true (by simp only [GNode.sz, szs]; omega)) ?_
  refine ARun2.endm (hK1 _ ?_)
  refine AWp.ret ?_
  try simp only [thenQ, blockQ]
  refine bodyQ.m ?_
  clear hK1 K1
  rw [chunkN]
  first | done | exact Wk.go

/-- a cause with a text -/
def messageN (t : Nat) (b : List UInt8) : GNode × Bool := rightN (.mk t b []) (t == 12 || t == 13)
theorem message_c (t : Nat) (b : ByteArray) (hl : b.size ≤ 2 ^ 24) : PC Try.prog 22 [u16 t, .val (.string b)] (.tup [nodeA false (messageN t b.toList).1, bool (messageN t b.toList).2]) := by
  have hbl : b.toList.length = b.size := by
    unfold ByteArray.toList
    rw [ba_loop' b b.size 0 [] (by omega)]; simp
  refine PC.of_bodyW (by simp only [push_cast]) Try.func22 rfl (by rw [Try.ntmps22]; simp) ?_
  refine AWp.regionW ?_
  refine AWp.regionA fun K1 hK1 => ?_
  refine ARun.segm 7 fun KS hKS => ?_
  refine ARun2.strBytesM ?_
  refine ARun2.endm (hKS _ ?_); clear hKS KS
  apply ARun.grpM 2 6 false 14 [4, 9, 12]
  · intro g6 KG hKG
    refine ARun2.gom ?_
    exact ARun2.endm (hKG _ Le.grpM)
  refine ARun2.gom ?_
  refine ARun2.callM (right_c (.mk t b.toList []) (t == 12 || t == 13) (by simp only [GNode.sz, szs]; omega)) ?_
  refine ARun2.endm (hK1 _ ?_)
  refine AWp.ret ?_
  try simp only [thenQ, blockQ]
  refine bodyQ.m ?_
  clear hK1 K1
  rw [messageN]
  first | done | exact Hand.go
end Go.Proofs.Ytmcedkcehcacpaa.C

/- wharflaw10: awake, CauseMissing. -/
set_option linter.unusedVariables false
set_option linter.unusedSimpArgs false
namespace Go.Proofs.Ytmcedkcehcacpaa.C
open Go.Abs

theorem awake_c : PC Try.prog 8 [] (bool true) := by
  have e1 : PC Try.prog 9 [u16 1, u32 258] (.tup [nodeA false (.mk 1 [1, 2, 0, 0] []), bool true]) := number_cc 1 258 (by decide)
  have e2 : PC Try.prog 13 [nodeA false (.mk 1 [1, 2, 0, 0] [])] (.tup [u32 258, bool true]) := value_c (.mk 1 [1, 2, 0, 0] []) (by decide)
  have e3 : PC Try.prog 9 [u16 1, u32 65536] (.tup [nodeA false .zero, bool false]) := number_cc 1 65536 (by decide)
  have e4 : PC Try.prog 19 [.sl false 1 [u16 7]] (.tup [nodeA false (.mk 2 [0, 0, 0, 1, 0, 7] []), bool true]) := missing_c [7] (by decide) (by decide)
  have e5 : PC Try.prog 16 [nodeA false (.mk 2 [0, 0, 0, 1, 0, 7] [])] (.tup [.sl false 1 (u16s [7]), bool true]) := types_c (.mk 2 [0, 0, 0, 1, 0, 7] []) (by decide)
  have e6 : PC Try.prog 21 [.sl false 1 [u8 1, u8 2, u8 3]] (.tup [nodeA false .zero, bool false]) := chunk_cc [1, 2, 3] (by decide)
  have e7 : PC Try.prog 25 [.sl false 1 (bys [1, 2, 0, 0]), .sl false 1 [u8 1, u8 2, u8 0, u8 0]] (bool true) := same01_c [1, 2, 0, 0] [1, 2, 0, 0] (by decide)
  have e8 : PC Try.prog 18 [.sl false 1 (u16s [7]), .sl false 1 [u16 7]] (bool true) := equal16_c [7] [7] (by decide)
  refine PC.of_bodyW (by simp only [push_cast]) Try.func8 rfl (by rw [Try.ntmps8]; simp) ?_
  refine AWp.regionW ?_
  refine AWp.regionM fun K1 hK1 => ?_
  refine ARun2.callM (e1) ?_
  refine ARun2.endm (hK1 _ ?_)
  refine AWp.regionM fun K2 hK2 => ?_
  refine ARun2.callM (e2) ?_
  refine ARun2.endm (hK2 _ ?_)
  refine AWp.regionM fun K3 hK3 => ?_
  refine ARun2.callM (e3) ?_
  refine ARun2.endm (hK3 _ ?_)
  refine AWp.regionM fun K4 hK4 => ?_
  refine ARun2.callM (e4) ?_
  refine ARun2.endm (hK4 _ ?_)
  refine AWp.regionM fun K5 hK5 => ?_
  refine ARun2.callM (e5) ?_
  refine ARun2.endm (hK5 _ ?_)
  refine AWp.regionM fun K6 hK6 => ?_
  refine ARun2.callM (e6) ?_
  refine ARun2.endm (hK6 _ ?_)
  refine AWp.regionA fun K7 hK7 => ?_
  refine ARun.segm 5 fun KS hKS => ?_
  refine ARun2.callM (e7) ?_
  refine ARun2.endm (hKS _ ?_); clear hKS KS
  apply ARun.grpM 1 4 true 46 [3, 4, 6, 8, 9, 10, 12, 45]
  · intro g4 KG hKG
    refine ARun2.gom ?_
    exact ARun2.endm (hKG _ Le.grpM)
  refine ARun.segm 2 fun KS hKS => ?_
  refine ARun2.endm (hKS _ ?_); clear hKS KS
  apply ARun.grpM 2 7 true 50 [4, 6, 8, 9, 10, 12, 48]
  · intro g7 KG hKG
    refine ARun2.gom ?_
    exact ARun2.endm (hKG _ Le.grpM)
  refine ARun.segm 2 fun KS hKS => ?_
  refine ARun2.endm (hKS _ ?_); clear hKS KS
  apply ARun.grpM 1 11 true 53 [6, 8, 9, 10, 12, 52]
  · intro g11 KG hKG
    refine ARun2.gom ?_
    exact ARun2.endm (hKG _ Le.grpM)
  refine ARun.segm 2 fun KS hKS => ?_
  refine ARun2.endm (hKS _ ?_); clear hKS KS
  apply ARun.grpM 2 14 true 57 [8, 9, 10, 12, 55]
  · intro g14 KG hKG
    refine ARun2.gom ?_
    exact ARun2.endm (hKG _ Le.grpM)
  refine ARun.segm 2 fun KS hKS => ?_
  refine ARun2.endm (hKS _ ?_); clear hKS KS
  apply ARun.grpM 1 18 true 60 [9, 10, 12, 59]
  · intro g18 KG hKG
    refine ARun2.gom ?_
    exact ARun2.endm (hKG _ Le.grpM)
  refine ARun.segm 2 fun KS hKS => ?_
  refine ARun2.endm (hKS _ ?_); clear hKS KS
  apply ARun.grpM 3 21 true 65 [10, 12, 62]
  · intro g21 KG hKG
    refine ARun2.gom ?_
    refine ARun2.callM (e8) ?_
    exact ARun2.endm (hKG _ Le.grpM)
  refine ARun.segm 2 fun KS hKS => ?_
  refine ARun2.endm (hKS _ ?_); clear hKS KS
  apply ARun.grpM 1 26 true 68 [12, 67]
  · intro g26 KG hKG
    refine ARun2.gom ?_
    exact ARun2.endm (hKG _ Le.grpM)
  refine ARun.segm 2 fun KS hKS => ?_
  refine ARun2.endm (hKS _ ?_); clear hKS KS
  apply ARun.grpM 2 29 true 72 [70]
  · intro g29 KG hKG
    refine ARun2.gom ?_
    exact ARun2.endm (hKG _ Le.grpM)
  refine ARun2.gom ?_
  refine ARun2.endm (hK7 _ ?_)
  refine AWp.ret ?_
  try simp only [thenQ, blockQ]
  refine bodyQ.m ?_
  clear hK7 K7 hK6 K6 hK5 K5 hK4 K4 hK3 K3 hK2 K2 hK1 K1
  first | done | exact Hand.go

theorem zeros_u16 (n : Nat) : List.replicate n (AV.val (.int .u16 0)) = u16s (List.replicate n 0) := by simp [u16s, N]

theorem miss_key (l : List Nat) (hl : l.length ≤ 2 ^ 22) (ht : ∀ t ∈ l, t < 2 ^ 16) : ∃ (nd : GNode) (ok : Bool),
    PC Try.prog 19 [.sl false 1 (u16s l)] (.tup [nodeA false nd, bool ok]) ∧
    PC Try.prog 20 [.sl false 1 (u16s l)] (.tup [nodeA false nd, bool ok]) ∧
    PC Try.prog 11 [nodeA false nd, nodeA false nd] (bool true) ∧
    PC Try.prog 16 [nodeA false nd] (.tup [.sl false 1 (u16s (bif ok then l else [])), bool ok]) ∧
    PC Try.prog 18 [.sl false 1 (u16s (bif ok then l else [])), .sl false 1 (u16s l)] (bool (decide ((bif ok then l else []) = l))) := by
  have hz : (refMissN l).1.sz ≤ 2 ^ 26 := by
    unfold refMissN
    split
    · exact (by decide : GNode.zero.sz ≤ 2 ^ 26)
    · simp only [GNode.sz, szs, refMissD, List.length_append, twoB_len, List.length_cons, List.length_nil]; omega
  have h1 := missing_c l hl ht
  rw [missing_eq] at h1
  have h2 := refMissing_c l hl ht
  have h3 := same10_c (refMissN l).1 (refMissN l).1 (by omega)
  rw [(sameN_iff _ _).2 rfl] at h3
  have h4 := types_c (refMissN l).1 hz
  rw [types_missing l ht] at h4
  refine ⟨(refMissN l).1, (refMissN l).2, h1, h2, h3, ?_, equal16_c _ _ ?_⟩
  · cases hk : (refMissN l).2 with
    | true => rw [hk] at h4; exact h4
    | false => rw [hk] at h4; exact h4
  · cases (refMissN l).2 with
    | true => exact Nat.le_trans hl (by omega)
    | false => exact Nat.zero_le _

theorem causeMissing_c (ts : List Nat) (v : Nat) (hl : ts.length ≤ 2 ^ 22) (ht : ∀ t ∈ ts, t < 2 ^ 16) (hv : v < 2 ^ 16) : PC Try.prog 5 [.sl false 1 (u16s ts), u16 v] (bool true) := by
  refine PC.of_bodyW (by simp only [push_cast]) Try.func5 rfl (by rw [Try.ntmps5]; simp) ?_
  refine AWp.regionW ?_
  refine AWp.seqK fun K1 hK1 => ?_
  refine AWp.regionM fun K2 hK2 => ?_
  refine ARun2.callM (awake_c) ?_
  refine ARun2.endm (hK2 _ ?_)
  refine AWp.condLM (fun c0 => ?_) (fun c0 => ?_)
  · skip
    refine AWp.regionM fun K3 hK3 => ?_
    refine ARun2.callM (awake_c) ?_
    refine ARun2.endm (hK3 _ ?_)
    refine AWp.ret ?_
    try simp only [thenQ, blockQ]
    refine bodyQ.m ?_
    clear hK3 K3 hK2 K2 hK1 K1
    first | done | exact Hand.go
  · skip
    refine AWp.skip ?_
    refine hK1 _ ?_
    refine AWp.seqK fun K4 hK4 => ?_
    refine AWp.regionW ?_
    refine AWp.block ?_
    refine AWp.loopK0 [0, 1] (fun (i : Nat) => [(5, nat i)]) (fun i => i ≤ 2) (fun i => 2 - i) (0) ?_ (Nat.zero_le _) ?_
    · skip
      refine Le.m 0 ?_ ?_
      · first | with_reducible rfl | (simp only [push_cast, reduceIte, Nat.reduceEqDiff, Nat.reduceLT, Nat.reduceAdd, Nat.reduceSub, Nat.reduceMul, Nat.reduceLeDiff, Nat.reducePow, Int.reduceLT, Int.reduceToNat, reduceCtorEq, Int.reduceNeg, Int.reduceEq, Nat.reduceBEq, Nat.reduceBNe, Int.reduceBEq, Int.reduceBNe, String.reduceEq]; first | done | rfl | (simp (disch := omega) only [w_nat, w_add, w_addl, w_addr, w_sub, w_subl, w_mul, w_mull, w_mulr, w_u32, w_u16, w_u8, w_u32a, N_zero]; first | done | rfl))
      · first | (simp only [push_cast, reduceIte, Nat.reduceEqDiff, Nat.reduceLT, Nat.reduceAdd, Nat.reduceSub, Nat.reduceMul, Nat.reduceLeDiff, Nat.reducePow, Int.reduceLT, Int.reduceToNat, reduceCtorEq, Int.reduceNeg, Int.reduceEq, Nat.reduceBEq, Nat.reduceBNe, Int.reduceBEq, Int.reduceBNe, String.reduceEq]; first | done | rfl | (simp (disch := omega) only [w_nat, w_add, w_addl, w_addr, w_sub, w_subl, w_mul, w_mull, w_mulr, w_u32, w_u16, w_u8, w_u32a, N_zero]; first | done | rfl))
    · intro i hi K5 hK5
      refine AWp.seqK fun K6 hK6 => ?_
      refine AWp.regionW ?_
      refine AWp.condLM (fun c1 => ?_) (fun c1 => ?_)
      · skip
        have hi2 : i < 2 := by simpa using c1
        refine AWp.skip ?_
        refine hK6 _ ?_
        refine AWp.seqK fun K7 hK7 => ?_
        refine AWp.block ?_
        refine AWp.regionW ?_
        refine AWp.seqK fun K8 hK8 => ?_
        refine AWp.regionW ?_
        refine AWp.condLM (fun c2 => ?_) (fun c2 => ?_)
        · skip
          obtain ⟨l, hl0⟩ : ∃ l : List Nat, l = List.replicate (32700 + v % 100) 0 := ⟨_, rfl⟩
          obtain ⟨nd, ok, hm, hrf, hsm, hty, heq⟩ := miss_key l (by rw [hl0, List.length_replicate]; omega) (by intro t h; rw [hl0] at h; rw [List.eq_of_mem_replicate h]; omega)
          refine AWp.regionN fun K9 hK9 => ?_
          refine ARun2.makeM (32700 + v % 100) ?_ ?_
          · omega
          refine ARun2.endm (hK9 _ ?_)
          rw [zeros_u16, ← hl0]
          refine hK8 _ ?_
          refine AWp.regionM fun K10 hK10 => ?_
          refine ARun2.callM (hm) ?_
          refine ARun2.endm (hK10 _ ?_)
          refine AWp.regionM fun K11 hK11 => ?_
          refine ARun2.callM (hrf) ?_
          refine ARun2.endm (hK11 _ ?_)
          refine AWp.seqK fun K12 hK12 => ?_
          refine AWp.regionM fun K13 hK13 => ?_
          refine ARun2.callM (hsm) ?_
          refine ARun2.boolEqM ?_
          refine ARun2.endm (hK13 _ ?_)
          refine AWp.condLM (fun c3 => ?_) (fun c3 => ?_)
          · skip
            exact absurd c3 (by cases ok <;> simp)
          · skip
            refine AWp.skip ?_
            refine hK12 _ ?_
            refine AWp.regionM fun K14 hK14 => ?_
            refine ARun2.callM (hty) ?_
            refine ARun2.endm (hK14 _ ?_)
            refine AWp.regionA fun K15 hK15 => ?_
            refine ARun.segm 6 fun KS hKS => ?_
            refine ARun2.boolEqM ?_
            refine ARun2.endm (hKS _ ?_); clear hKS KS
            apply ARun.grpM 4 5 true 66 [0, 1, 5, 60, 62]
            · intro g5 KG hKG
              refine ARun2.gom ?_
              refine ARun2.callM (heq) ?_
              exact ARun2.endm (hKG _ Le.grpM)
            refine ARun2.gom ?_
            refine ARun2.endm (hK15 _ ?_)
            refine AWp.condLM (fun c4 => ?_) (fun c4 => ?_)
            · skip
              exact absurd c4 (by cases ok <;> simp)
            · skip
              refine AWp.skip ?_
              refine hK7 _ ?_
              refine AWp.regionV ?_
              refine hK5 _ (i + 1) (by omega) (by omega) ?_
              refine Le.m 0 ?_ ?_
              · first | with_reducible rfl | (simp only [push_cast, reduceIte, Nat.reduceEqDiff, Nat.reduceLT, Nat.reduceAdd, Nat.reduceSub, Nat.reduceMul, Nat.reduceLeDiff, Nat.reducePow, Int.reduceLT, Int.reduceToNat, reduceCtorEq, Int.reduceNeg, Int.reduceEq, Nat.reduceBEq, Nat.reduceBNe, Int.reduceBEq, Int.reduceBNe, String.reduceEq]; first | done | rfl | (simp (disch := omega) only [w_nat, w_add, w_addl, w_addr, w_sub, w_subl, w_mul, w_mull, w_mulr, w_u32, w_u16, w_u8, w_u32a, N_zero]; first | done | rfl))
              · first | (simp only [push_cast, reduceIte, Nat.reduceEqDiff, Nat.reduceLT, Nat.reduceAdd, Nat.reduceSub, Nat.reduceMul, Nat.reduceLeDiff, Nat.reducePow, Int.reduceLT, Int.reduceToNat, reduceCtorEq, Int.reduceNeg, Int.reduceEq, Nat.reduceBEq, Nat.reduceBNe, Int.reduceBEq, Int.reduceBNe, String.reduceEq]; first | done | rfl | (simp (disch := omega) only [w_nat, w_add, w_addl, w_addr, w_sub, w_subl, w_mul, w_mull, w_mulr, w_u32, w_u16, w_u8, w_u32a, N_zero]; first | done | rfl))
        · skip
          obtain ⟨nd, ok, hm, hrf, hsm, hty, heq⟩ := miss_key ts hl ht
          refine AWp.skip ?_
          refine hK8 _ ?_
          refine AWp.regionM fun K16 hK16 => ?_
          refine ARun2.callM (hm) ?_
          refine ARun2.endm (hK16 _ ?_)
          refine AWp.regionM fun K17 hK17 => ?_
          refine ARun2.callM (hrf) ?_
          refine ARun2.endm (hK17 _ ?_)
          refine AWp.seqK fun K18 hK18 => ?_
          refine AWp.regionM fun K19 hK19 => ?_
          refine ARun2.callM (hsm) ?_
          refine ARun2.boolEqM ?_
          refine ARun2.endm (hK19 _ ?_)
          refine AWp.condLM (fun c3 => ?_) (fun c3 => ?_)
          · skip
            exact absurd c3 (by cases ok <;> simp)
          · skip
            refine AWp.skip ?_
            refine hK18 _ ?_
            refine AWp.regionM fun K20 hK20 => ?_
            refine ARun2.callM (hty) ?_
            refine ARun2.endm (hK20 _ ?_)
            refine AWp.regionA fun K21 hK21 => ?_
            refine ARun.segm 6 fun KS hKS => ?_
            refine ARun2.boolEqM ?_
            refine ARun2.endm (hKS _ ?_); clear hKS KS
            apply ARun.grpM 4 5 true 66 [0, 1, 5, 60, 62]
            · intro g5 KG hKG
              refine ARun2.gom ?_
              refine ARun2.callM (heq) ?_
              exact ARun2.endm (hKG _ Le.grpM)
            refine ARun2.gom ?_
            refine ARun2.endm (hK21 _ ?_)
            refine AWp.condLM (fun c4 => ?_) (fun c4 => ?_)
            · skip
              exact absurd c4 (by cases ok <;> simp)
            · skip
              refine AWp.skip ?_
              refine hK7 _ ?_
              refine AWp.regionV ?_
              refine hK5 _ (i + 1) (by omega) (by omega) ?_
              refine Le.m 0 ?_ ?_
              · first | with_reducible rfl | (simp only [push_cast, reduceIte, Nat.reduceEqDiff, Nat.reduceLT, Nat.reduceAdd, Nat.reduceSub, Nat.reduceMul, Nat.reduceLeDiff, Nat.reducePow, Int.reduceLT, Int.reduceToNat, reduceCtorEq, Int.reduceNeg, Int.reduceEq, Nat.reduceBEq, Nat.reduceBNe, Int.reduceBEq, Int.reduceBNe, String.reduceEq]; first | done | rfl | (simp (disch := omega) only [w_nat, w_add, w_addl, w_addr, w_sub, w_subl, w_mul, w_mull, w_mulr, w_u32, w_u16, w_u8, w_u32a, N_zero]; first | done | rfl))
              · first | (simp only [push_cast, reduceIte, Nat.reduceEqDiff, Nat.reduceLT, Nat.reduceAdd, Nat.reduceSub, Nat.reduceMul, Nat.reduceLeDiff, Nat.reducePow, Int.reduceLT, Int.reduceToNat, reduceCtorEq, Int.reduceNeg, Int.reduceEq, Nat.reduceBEq, Nat.reduceBNe, Int.reduceBEq, Int.reduceBNe, String.reduceEq]; first | done | rfl | (simp (disch := omega) only [w_nat, w_add, w_addl, w_addr, w_sub, w_subl, w_mul, w_mull, w_mulr, w_u32, w_u16, w_u8, w_u32a, N_zero]; first | done | rfl))
      · skip
        refine AWp.exit ?_
        simp only [thenQ, blockQ, reduceIte, Nat.reduceEqDiff]
        refine hK4 _ ?_
        refine AWp.regionW ?_
        refine AWp.ret ?_
        try simp only [thenQ, blockQ]
        refine bodyQ.m ?_
        clear hK6 K6 hK5 K5 hK4 K4 hK2 K2 hK1 K1
        first | done | exact Hand.go
end Go.Proofs.Ytmcedkcehcacpaa.C

/- wharflaw10: CauseMatchesReference, CauseParams. -/
set_option linter.unusedVariables false
set_option linter.unusedSimpArgs false
namespace Go.Proofs.Ytmcedkcehcacpaa.C
open Go.Abs

theorem u8_shr (x k : Nat) (hk : k ≤ 32) : IntKind.u8.wrap ((N x).fdiv (2 ^ min k IntKind.u32.bits)) = N (UInt8.ofNat (x / 2 ^ k)).toNat := by
  have h2 : IntKind.u32.bits = 32 := rfl
  rw [h2, Nat.min_eq_left hk, ← u8_low]
  congr 1
  have h3 : (2 : Int) ^ k = ((2 ^ k : Nat) : Int) := by simp
  rw [h3]
  show (x : Int).fdiv ((2 ^ k : Nat) : Int) = ((x / 2 ^ k : Nat) : Int)
  rw [Int.fdiv_eq_ediv_of_nonneg _ (Int.natCast_nonneg _)]; rfl
theorem lits4 (a b c d : UInt8) : [AV.val (.int .u8 (N a.toNat)), AV.val (.int .u8 (N b.toNat)), AV.val (.int .u8 (N c.toNat)), AV.val (.int .u8 (N d.toNat))] = bys [a, b, c, d] := rfl
theorem lits4z (a b : UInt8) : [AV.val (.int .u8 (N a.toNat)), AV.val (.int .u8 (N b.toNat)), AV.val (.int .u8 0), AV.val (.int .u8 0)] = bys [a, b, 0, 0] := rfl

theorem refNumber_c (t v : Nat) (hv : v < 2 ^ 32) : PC Try.prog 10 [u16 t, u32 v] (.tup [nodeA false (numberN t v).1, bool (numberN t v).2]) := by
  have hp : putB 4 v = [UInt8.ofNat (v / 2 ^ 24), UInt8.ofNat (v / 2 ^ 16), UInt8.ofNat (v / 2 ^ 8), UInt8.ofNat v] := putB4_eq v
  refine PC.of_bodyW (by simp only [push_cast]) Try.func10 rfl (by rw [Try.ntmps10]; simp) ?_
  refine AWp.regionW ?_
  refine AWp.regionW ?_
  rw [u8_shr v 24 (by omega), u8_shr v 16 (by omega), u8_shr v 8 (by omega), u8_low, lits4]
  refine AWp.seqK fun K1 hK1 => ?_
  refine AWp.regionA fun K2 hK2 => ?_
  refine ARun.segm 3 fun KS hKS => ?_
  refine ARun2.endm (hKS _ ?_); clear hKS KS
  apply ARun.grpM 2 2 false 23 [0, 1, 4, 6, 21]
  · intro g2 KG hKG
    refine ARun2.gom ?_
    exact ARun2.endm (hKG _ Le.grpM)
  refine ARun2.gom ?_
  refine ARun2.endm (hK2 _ ?_)
  refine AWp.condLM (fun c0 => ?_) (fun c0 => ?_)
  · skip
    have h0 : t = 3 ∨ t = 9 := by cases h1 : t == 3 <;> simp_all
    have hr := numberN_3 t v h0
    rw [hp] at hr
    refine AWp.regionW ?_
    refine AWp.ret ?_
    try simp only [thenQ, blockQ]
    refine bodyQ.m ?_
    clear hK2 K2 hK1 K1
    rw [hr]
    first | done | exact Hand.go
  · skip
    have h0 : ¬ (t = 3 ∨ t = 9) := by cases h1 : t == 3 <;> simp_all
    refine AWp.skip ?_
    refine hK1 _ ?_
    refine AWp.seqK fun K3 hK3 => ?_
    refine AWp.regionA fun K4 hK4 => ?_
    refine ARun.segm 3 fun KS hKS => ?_
    refine ARun2.endm (hKS _ ?_); clear hKS KS
    apply ARun.grpM 2 2 true 32 [0, 4, 6, 30]
    · intro g2 KG hKG
      refine ARun2.gom ?_
      exact ARun2.endm (hKG _ Le.grpM)
    refine ARun2.gom ?_
    refine ARun2.endm (hK4 _ ?_)
    refine AWp.condLM (fun c1 => ?_) (fun c1 => ?_)
    · skip
      have h1 : t = 1 ∧ v < 65536 := by cases h1 : t == 1 <;> simp_all
      have hr : numberN t v = (.mk 1 [UInt8.ofNat (v / 2 ^ 8), UInt8.ofNat v, 0, 0] [], true) := by
        rw [h1.1, numberN_1 v h1.2, putB2]; rfl
      refine AWp.drS [[(0, none)], [(6, none)], [(35, some 1)], [(36, some 2)], [(6, none)], [(38, some 4)], [(39, some 5)], [(37, some 3), (40, some 6)], [(34, some 0), (41, some 7)]] fun G hG => ?_
      refine Dr.sim ?_
      try simp only [List.cons_append, List.nil_append]
      refine Dr.sim ?_
      try simp only [List.cons_append, List.nil_append]
      refine Dr.idx (2) (.val (.int .u8 (N (UInt8.ofNat (v / 2 ^ 8)).toNat))) ?_ ?_
      · rfl
      try simp only [List.cons_append, List.nil_append]
      refine Dr.sim ?_
      try simp only [List.cons_append, List.nil_append]
      refine Dr.sim ?_
      try simp only [List.cons_append, List.nil_append]
      refine Dr.idx (3) (.val (.int .u8 (N (UInt8.ofNat v).toNat))) ?_ ?_
      · rfl
      try simp only [List.cons_append, List.nil_append]
      refine Dr.sim ?_
      try simp only [List.cons_append, List.nil_append]
      refine Dr.build ?_
      try simp only [List.cons_append, List.nil_append]
      refine Dr.sim ?_
      try simp only [List.cons_append, List.nil_append]
      refine Dr.finM (n := 9) [(42, 8)] [4] hG Ytmcedkcehcacpaa.Facts.mixed fun KD hKD => ?_
      refine ARun2.endm (hKD _ ?_); clear hKD KD hG G
      refine AWp.ret ?_
      try simp only [thenQ, blockQ]
      refine bodyQ.m ?_
      clear hK4 K4 hK3 K3 hK2 K2 hK1 K1
      rw [hr, lits4z, h1.1]
      first | done | exact Hand.go
    · skip
      have h1 : ¬ (t = 1 ∧ v < 65536) := by intro h; simp [h.1, h.2] at c1
      have hr : numberN t v = (.zero, false) := by
        unfold numberN
        by_cases h2 : t = 1
        · rw [if_pos h2, decide_eq_false (by omega)]; rfl
        · rw [if_neg h2, if_neg h0]; rfl
      refine AWp.skip ?_
      refine hK3 _ ?_
      refine AWp.regionW ?_
      refine AWp.ret ?_
      try simp only [thenQ, blockQ]
      refine bodyQ.m ?_
      clear hK4 K4 hK3 K3 hK2 K2 hK1 K1
      rw [hr]
      first | done | exact Hand.go

theorem right12_c (n : GNode) (ok : Bool) (hs : n.sz ≤ 2 ^ 26) : PC Try.prog 12 [nodeA false n, bool ok] (bool (bif ok then checkN 2 1 n == 0 else sameN n .zero)) := by
  have h1 := nSize_sz n
  refine PC.of_bodyW (by simp only [push_cast]) Try.func12 rfl (by rw [Try.ntmps12]; simp) ?_
  refine AWp.regionW ?_
  refine AWp.seqK fun K1 hK1 => ?_
  refine AWp.regionW ?_
  refine AWp.condLM (fun c0 => ?_) (fun c0 => ?_)
  · skip
    have hok : ok = false := by simpa using c0
    subst hok
    refine AWp.regionM fun K2 hK2 => ?_
    refine ARun2.callM (same10_c n .zero (by omega)) ?_
    refine ARun2.endm (hK2 _ ?_)
    refine AWp.ret ?_
    try simp only [thenQ, blockQ]
    refine bodyQ.m ?_
    clear hK2 K2 hK1 K1
    first | done | exact Hand.go
  · skip
    have hok : ok = true := by simpa using c0
    subst hok
    refine AWp.skip ?_
    refine hK1 _ ?_
    refine AWp.regionM fun K3 hK3 => ?_
    refine ARun2.callM (check08_c 2 1 n (by omega) (by omega) (by omega)) ?_
    refine ARun2.endm (hK3 _ ?_)
    refine AWp.ret ?_
    try simp only [thenQ, blockQ]
    refine bodyQ.m ?_
    clear hK3 K3 hK1 K1
    first | done | exact Hand.go

theorem rightN_spec (n : GNode) (ok : Bool) : (bif (rightN n ok).2 then checkN 2 1 (rightN n ok).1 == 0 else sameN (rightN n ok).1 .zero) = true := by
  unfold rightN
  cases h : ok && (checkN 2 1 n == 0) with
  | true =>
    simp only [Bool.and_eq_true] at h
    exact h.2
  | false => exact (sameN_iff _ _).2 rfl
theorem numberN_spec (t v : Nat) : (bif (numberN t v).2 then checkN 2 1 (numberN t v).1 == 0 else sameN (numberN t v).1 .zero) = true := by
  unfold numberN
  split
  · exact rightN_spec _ _
  · split
    · exact rightN_spec _ _
    · exact rightN_spec _ _

theorem be_put4 (v : Nat) (h : v < 2 ^ 32) : beN (putB 4 v) = v := by
  rw [putB4_eq]
  simp only [beN, List.foldl_cons, List.foldl_nil, UInt8.toNat_ofNat']
  omega
theorem be_put2 (v : Nat) (h : v < 65536) : beN (putB 2 v ++ putB 2 0) = v * 65536 := by
  rw [putB2, putB2]
  simp only [twoB, List.cons_append, List.nil_append, beN, List.foldl_cons, List.foldl_nil, UInt8.toNat_ofNat']
  omega
theorem refValue_number (t v : Nat) (h : v < 2 ^ 32) : refValueN (numberN t v).1 = if (numberN t v).2 = true then (v, true) else (0, false) := by
  by_cases h1 : t = 1 ∧ v < 65536
  · rw [h1.1, numberN_1 v h1.2]
    have h0 : ¬ ((GNode.mk 1 (putB 2 v ++ putB 2 0) []).data.length ≠ 4 ∨ 0 < (GNode.mk 1 (putB 2 v ++ putB 2 0) []).kids.length ∨ ((GNode.mk 1 (putB 2 v ++ putB 2 0) []).ty ≠ 1 ∧ (GNode.mk 1 (putB 2 v ++ putB 2 0) []).ty ≠ 3 ∧ (GNode.mk 1 (putB 2 v ++ putB 2 0) []).ty ≠ 9)) := by
      simp [GNode.data_mk, GNode.kids_mk, GNode.ty_mk, putB_len]
    show refValueN (.mk 1 (putB 2 v ++ putB 2 0) []) = (v, true)
    unfold refValueN
    rw [if_neg h0]
    simp only [GNode.ty_mk, GNode.data_mk, be_put2 v h1.2]
    simp
  · by_cases h2 : t = 3 ∨ t = 9
    · rw [numberN_3 t v h2]
      have h0 : ¬ ((GNode.mk t (putB 4 v) []).data.length ≠ 4 ∨ 0 < (GNode.mk t (putB 4 v) []).kids.length ∨ ((GNode.mk t (putB 4 v) []).ty ≠ 1 ∧ (GNode.mk t (putB 4 v) []).ty ≠ 3 ∧ (GNode.mk t (putB 4 v) []).ty ≠ 9)) := by
        simp [GNode.data_mk, GNode.kids_mk, GNode.ty_mk, putB_len]; omega
      show refValueN (.mk t (putB 4 v) []) = (v, true)
      unfold refValueN
      rw [if_neg h0]
      simp only [GNode.ty_mk, GNode.data_mk, be_put4 v h]
      rw [if_neg (by omega)]
    · have hr : numberN t v = (.zero, false) := by
        unfold numberN
        by_cases h3 : t = 1
        · rw [if_pos h3, decide_eq_false (by omega)]; rfl
        · rw [if_neg h3, if_neg h2]; rfl
      rw [hr]; rfl

theorem number_key (t v : Nat) (hv : v < 2 ^ 32) : ∃ (nd : GNode) (ok : Bool) (w : Nat),
    PC Try.prog 9 [u16 t, u32 v] (.tup [nodeA false nd, bool ok]) ∧ PC Try.prog 10 [u16 t, u32 v] (.tup [nodeA false nd, bool ok]) ∧
    PC Try.prog 11 [nodeA false nd, nodeA false nd] (bool true) ∧ PC Try.prog 12 [nodeA false nd, bool ok] (bool true) ∧
    PC Try.prog 13 [nodeA false nd] (.tup [u32 w, bool ok]) ∧ (ok = true → w = v) := by
  have hz := numberN_sz t v
  have h3 := same10_c (numberN t v).1 (numberN t v).1 (by omega)
  rw [(sameN_iff _ _).2 rfl] at h3
  have h4 := right12_c (numberN t v).1 (numberN t v).2 (by omega)
  rw [numberN_spec] at h4
  have h5 := value_c (numberN t v).1 (by omega)
  have h6 := refValue_number t v hv
  rw [value_eq] at h5
  refine ⟨(numberN t v).1, (numberN t v).2, (if (refValueN (numberN t v).1).2 = true then (refValueN (numberN t v).1).1 else 0), number_cc t v hv, refNumber_c t v hv, h3, h4, ?_, ?_⟩
  · have e : (refValueN (numberN t v).1).2 = (numberN t v).2 := by rw [h6]; cases (numberN t v).2 <;> rfl
    rw [← e]; exact h5
  · intro hk
    rw [h6, if_pos hk]; rfl

theorem causeMatches_c (t v : Nat) (hv : v < 2 ^ 32) : PC Try.prog 3 [u16 t, u32 v] (bool true) := by
  obtain ⟨nd, ok, w, h1, h2, h3, h4, h5, h6⟩ := number_key t v hv
  refine PC.of_bodyW (by simp only [push_cast]) Try.func3 rfl (by rw [Try.ntmps3]; simp) ?_
  refine AWp.regionW ?_
  refine AWp.seqK fun K1 hK1 => ?_
  refine AWp.regionM fun K2 hK2 => ?_
  refine ARun2.callM (awake_c) ?_
  refine ARun2.endm (hK2 _ ?_)
  refine AWp.condF ?_
  refine AWp.skip ?_
  refine hK1 _ ?_
  refine AWp.regionM fun K3 hK3 => ?_
  refine ARun2.callM (h1) ?_
  refine ARun2.endm (hK3 _ ?_)
  refine AWp.regionM fun K4 hK4 => ?_
  refine ARun2.callM (h2) ?_
  refine ARun2.endm (hK4 _ ?_)
  refine AWp.seqK fun K5 hK5 => ?_
  refine AWp.regionM fun K6 hK6 => ?_
  refine ARun2.callM (h3) ?_
  refine ARun2.boolEqM ?_
  refine ARun2.callM (h4) ?_
  refine ARun2.endm (hK6 _ ?_)
  refine AWp.condF ?_
  refine AWp.skip ?_
  refine hK5 _ ?_
  refine AWp.regionM fun K7 hK7 => ?_
  refine ARun2.callM (h5) ?_
  refine ARun2.endm (hK7 _ ?_)
  refine AWp.regionA fun K8 hK8 => ?_
  refine ARun.segm 4 fun KS hKS => ?_
  refine ARun2.boolEqM ?_
  refine ARun2.endm (hKS _ ?_); clear hKS KS
  apply ARun.grpM 7 3 true 55 [48]
  · intro g3 KG hKG
    refine ARun.segm 3 fun KS hKS => ?_
    refine ARun2.endm (hKS _ ?_); clear hKS KS
    apply ARun.grpM 3 6 false 54 [48, 51]
    · intro g6 KG hKG
      refine ARun2.gom ?_
      exact ARun2.endm (hKG _ Le.grpM)
    refine ARun2.gom ?_
    exact ARun2.endm (hKG _ Le.grpM)
  refine ARun2.gom ?_
  refine ARun2.endm (hK8 _ ?_)
  refine AWp.ret ?_
  try simp only [thenQ, blockQ]
  refine bodyQ.m ?_
  clear hK8 K8 hK7 K7 hK6 K6 hK5 K5 hK4 K4 hK3 K3 hK2 K2 hK1 K1
  have hw : (!ok || w == v) = true := by cases ok <;> simp_all
  simp only [push_cast]
  rw [hw]
  first | done | exact Hand.go

theorem params_key (t : Nat) (l : List GNode) (hs : szs l ≤ 2 ^ 24) : ∃ (nd : GNode) (ok s1 s2 : Bool),
    PC Try.prog 26 [nodeA false (.mk t [] l), bool true] (.tup [nodeA false nd, bool ok]) ∧ (checkN 2 1 (.mk t [] l) == 0) = ok ∧
    PC Try.prog 11 [nodeA false nd, nodeA false (.mk t [] l)] (bool s1) ∧ PC Try.prog 11 [nodeA false nd, nodeA false .zero] (bool s2) ∧ (ok = true → s1 = true) ∧ (ok = false → s2 = true) := by
  have hz : (GNode.mk t [] l).sz ≤ 2 ^ 26 := by simp only [GNode.sz, List.length_nil]; omega
  have hz2 := rightN_sz (.mk t [] l) true
  refine ⟨(rightN (.mk t [] l) true).1, (rightN (.mk t [] l) true).2, _, _, right_c _ true hz, by rw [right_snd]; rfl, same10_c _ _ (by omega), same10_c _ _ (by omega), ?_, ?_⟩
  · intro h
    rw [right_snd] at h
    unfold rightN
    rw [h]; exact (sameN_iff _ _).2 rfl
  · intro h
    rw [right_snd] at h
    unfold rightN
    rw [h]; exact (sameN_iff _ _).2 rfl

theorem params_c (t : Nat) (l : List GNode) {nd : GNode} {ok : Bool} (h : PC Try.prog 26 [nodeA false (.mk t [] l), bool true] (.tup [nodeA false nd, bool ok])) :
    PC Try.prog 23 [u16 t, .sl false 3 (nodesA false l)] (.tup [nodeA false nd, bool ok]) := by
  refine PC.of_bodyW (by simp only [push_cast]) Try.func23 rfl (by rw [Try.ntmps23]; simp) ?_
  refine AWp.regionW ?_
  refine AWp.regionM fun K1 hK1 => ?_
  refine ARun2.callM (h) ?_
  refine ARun2.endm (hK1 _ ?_)
  refine AWp.ret ?_
  try simp only [thenQ, blockQ]
  refine bodyQ.m ?_
  clear hK1 K1
  first | done | exact Hand.go

theorem causeParams_c (t : Nat) (l : List GNode) (hs : szs l ≤ 2 ^ 24) : PC Try.prog 7 [u16 t, .sl false 3 (nodesA false l)] (bool true) := by
  obtain ⟨nd, ok, s1, s2, h1, h2, h3, h4, h5, h6⟩ := params_key t l hs
  have hz : (GNode.mk t [] l).sz ≤ 2 ^ 26 := by simp only [GNode.sz, List.length_nil]; omega
  have hn := nSize_sz (.mk t [] l)
  refine PC.of_bodyW (by simp only [push_cast]) Try.func7 rfl (by rw [Try.ntmps7]; simp) ?_
  refine AWp.regionW ?_
  refine AWp.seqK fun K1 hK1 => ?_
  refine AWp.regionM fun K2 hK2 => ?_
  refine ARun2.callM (awake_c) ?_
  refine ARun2.callM (few_c l (by omega)) ?_
  refine ARun2.endm (hK2 _ ?_)
  refine AWp.condLM (fun c0 => ?_) (fun c0 => ?_)
  · skip
    refine AWp.regionM fun K3 hK3 => ?_
    refine ARun2.callM (awake_c) ?_
    refine ARun2.endm (hK3 _ ?_)
    refine AWp.ret ?_
    try simp only [thenQ, blockQ]
    refine bodyQ.m ?_
    clear hK3 K3 hK2 K2 hK1 K1
    first | done | exact Hand.go
  · skip
    refine AWp.skip ?_
    refine hK1 _ ?_
    refine AWp.regionM fun K4 hK4 => ?_
    refine ARun2.callM (params_c t l h1) ?_
    refine ARun2.endm (hK4 _ ?_)
    refine AWp.regionW ?_
    refine AWp.seqK fun K5 hK5 => ?_
    refine AWp.regionM fun K6 hK6 => ?_
    refine ARun2.callM (check08_c 2 1 (.mk t [] l) (by omega) (by omega) (by omega)) ?_
    rw [h2]
    refine ARun2.boolEqM ?_
    refine ARun2.endm (hK6 _ ?_)
    refine AWp.condF ?_
    refine AWp.skip ?_
    refine hK5 _ ?_
    refine AWp.regionA fun K7 hK7 => ?_
    refine ARun.segm 2 fun KS hKS => ?_
    refine ARun2.endm (hKS _ ?_); clear hKS KS
    apply ARun.grpM 3 1 true 34 [5, 6, 31]
    · intro g1 KG hKG
      refine ARun2.gom ?_
      refine ARun2.callM (h3) ?_
      exact ARun2.endm (hKG _ Le.grpM)
    refine ARun.segm 2 fun KS hKS => ?_
    refine ARun2.endm (hKS _ ?_); clear hKS KS
    apply ARun.grpM 7 6 false 43 [36]
    · intro g6 KG hKG
      refine ARun.segm 3 fun KS hKS => ?_
      refine ARun2.endm (hKS _ ?_); clear hKS KS
      apply ARun.grpM 3 9 true 42 [36, 39]
      · intro g9 KG hKG
        refine ARun2.gom ?_
        refine ARun2.callM (h4) ?_
        exact ARun2.endm (hKG _ Le.grpM)
      refine ARun2.gom ?_
      exact ARun2.endm (hKG _ Le.grpM)
    refine ARun2.gom ?_
    refine ARun2.endm (hK7 _ ?_)
    refine AWp.ret ?_
    try simp only [thenQ, blockQ]
    refine bodyQ.m ?_
    clear hK7 K7 hK6 K6 hK5 K5 hK4 K4 hK2 K2 hK1 K1
    have hw : (ok && s1 || !ok && s2) = true := by cases ok <;> simp_all
    simp only [push_cast]
    rw [hw]
    first | done | exact Hand.go
end Go.Proofs.Ytmcedkcehcacpaa.C

/- wharflaw10: CauseBytes. -/
set_option linter.unusedVariables false
set_option linter.unusedSimpArgs false
namespace Go.Proofs.Ytmcedkcehcacpaa.C
open Go.Abs

theorem chunk_ok (b : List UInt8) : (chunkN b).2 = (decide (4 ≤ b.length) && decide (b.length ≤ 65531)) := by
  have hb : badN 2 6 b.length [] = !(decide (4 ≤ b.length) && decide (b.length ≤ 65531)) := by
    have e : shapeOf 2 6 = ⟨2, 6, ⟨#[117, 110, 114, 101, 99, 111, 103, 110, 105, 122, 101, 100, 45, 99, 104, 117, 110, 107]⟩, 4, 65531, 1, 0⟩ := rfl
    have e2 : shapeHas 2 6 = true := rfl
    have e4 : kidsOk ⟨2, 6, ⟨#[117, 110, 114, 101, 99, 111, 103, 110, 105, 122, 101, 100, 45, 99, 104, 117, 110, 107]⟩, 4, 65531, 1, 0⟩ [] = true := rfl
    unfold badN
    rw [e2, e, e4]
    unfold fitsN
    rw [Bool.eq_iff_iff]
    simp [Nat.mod_one]
  have hc : countedN 2 6 b = false := rfl
  have hs : nSize [GNode.mk 6 b []] = 4 + b.length := by simp [nSize, nLens, vlen, tlvSize, sumUp, upN, gapN]
  unfold chunkN
  rw [right_snd, checkN_eq]
  simp only [GNode.ty_mk, GNode.data_mk, GNode.kids_mk, hb, hc, hs, checkL]
  by_cases h : 4 ≤ b.length ∧ b.length ≤ 65531
  · have : ¬ 65535 < 4 + b.length := by omega
    simp [h.1, h.2, this]
  · have h' : (decide (4 ≤ b.length) && decide (b.length ≤ 65531)) = false := by
      rw [Bool.and_eq_false_iff]; simp; omega
    rw [h']; simp

theorem message_ok (t : Nat) (b : List UInt8) : (messageN t b).2 = ((t == 12 || t == 13) && decide (b.length ≤ 65531)) := by
  unfold messageN
  rw [right_snd]
  cases ht : (t == 12 || t == 13) with
  | false => rfl
  | true =>
    have ht' : t = 12 ∨ t = 13 := by simpa using ht
    have hs : nSize [GNode.mk t b []] = 4 + b.length := by simp [nSize, nLens, vlen, tlvSize, sumUp, upN, gapN]
    have hb : badN 2 t b.length [] = !decide (b.length ≤ 65531) := by
      have e2 : shapeHas 2 t = true := by rcases ht' with rfl | rfl <;> rfl
      have e : (shapeOf 2 t).least = 0 ∧ (shapeOf 2 t).most = 65531 ∧ (shapeOf 2 t).unit = 1 := by rcases ht' with rfl | rfl <;> exact ⟨rfl, rfl, rfl⟩
      have e4 : kidsOk (shapeOf 2 t) [] = true := by rcases ht' with rfl | rfl <;> rfl
      unfold badN
      rw [e2, e4]
      unfold fitsN
      rw [e.1, e.2.1, e.2.2, Bool.eq_iff_iff]
      simp [Nat.mod_one]
    have hc : countedN 2 t b = false := by unfold countedN; rcases ht' with rfl | rfl <;> rfl
    rw [checkN_eq]
    simp only [GNode.ty_mk, GNode.data_mk, GNode.kids_mk, hb, hc, hs, checkL]
    by_cases h : b.length ≤ 65531
    · have : ¬ 65535 < 4 + b.length := by omega
      simp [h, this]
    · simp [h]

theorem right_fst {n : GNode} {ok : Bool} (h : (rightN n ok).2 = true) : (rightN n ok).1 = n := by
  unfold rightN at h ⊢
  cases hk : ok && (checkN 2 1 n == 0) with
  | true => rfl
  | false => rw [hk] at h; cases h

/-- i bytes counted up -/
def incN (d : List UInt8) (i : Nat) : List UInt8 := (d.take i).map (· + 1) ++ d.drop i
@[push_cast] theorem incN_len (d : List UInt8) (i : Nat) : (incN d i).length = d.length := by simp [incN]; omega
theorem incN_at (d : List UInt8) (i : Nat) (h : i < d.length) : (incN d i)[i]'(by rw [incN_len]; exact h) = d[i] := by
  have hl : ((d.take i).map (· + 1)).length = i := by simp; omega
  simp only [incN]
  rw [List.getElem_append_right (by omega)]
  simp only [hl, Nat.sub_self, List.getElem_drop, Nat.add_zero]
theorem u8_inc (x : UInt8) : IntKind.u8.wrap (N x.toNat + 1) = N (x + 1).toNat := by
  rw [IntKind.wrap_u8, UInt8.toNat_add]
  have := x.toNat_lt
  show (_ : Int) = N ((x.toNat + 1) % 256)
  unfold N; omega
theorem incN_step (d : List UInt8) (i : Nat) (h : i < d.length) : (bys (incN d i)).set i (.val (.int .u8 (N (d[i] + 1).toNat))) = bys (incN d (i + 1)) := by
  have hl : ((d.take i).map (· + 1)).length = i := by simp; omega
  have e : (incN d i).set i (d[i] + 1) = incN d (i + 1) := by
    unfold incN
    rw [List.set_append_right _ _ (by omega), hl, Nat.sub_self, List.drop_eq_getElem_cons h, List.set_cons_zero, List.take_succ_eq_append_getElem h, List.map_append]
    simp only [List.map_cons, List.map_nil, List.append_assoc, List.cons_append, List.nil_append]
  rw [← e]
  simp [bys, List.map_set]
@[push_cast] theorem bstr_size (d : List UInt8) : (bstr d).size = d.length := by simp [bstr, ByteArray.size]
theorem incN_zero (d : List UInt8) : incN d 0 = d := by simp [incN]

theorem bytes_key (t : Nat) (d : List UInt8) (hl : d.length ≤ 2 ^ 20) : ∃ (n1 n2 : GNode) (o1 o2 : Bool),
    PC Try.prog 21 [.sl false 1 (bys d)] (.tup [nodeA true n1, bool o1]) ∧ PC Try.prog 22 [u16 t, .val (.string (bstr d))] (.tup [nodeA false n2, bool o2]) ∧
    PC Try.prog 12 [nodeA false n1, bool o1] (bool true) ∧ PC Try.prog 12 [nodeA false n2, bool o2] (bool true) ∧
    o1 = (decide (4 ≤ d.length) && decide (d.length ≤ 65531)) ∧ o2 = ((t == 12 || t == 13) && decide (d.length ≤ 65531)) ∧
    (o1 = true → n1 = .mk 6 d []) ∧ (o2 = true → n2 = .mk t d []) := by
  have hbl : (bstr d).size = d.length := by simp [bstr, ByteArray.size]
  have h2 := message_c t (bstr d) (by omega)
  rw [bstr_list] at h2
  have hz : ∀ t : Nat, (GNode.mk t d []).sz ≤ 2 ^ 26 := by intro t; simp only [GNode.sz, szs]; omega
  have z1 := rightN_sz (.mk 6 d []) true
  have z2 := rightN_sz (.mk t d []) (t == 12 || t == 13)
  have h3 := right12_c (chunkN d).1 (chunkN d).2 (Nat.le_trans z1 (hz 6))
  rw [show (bif (chunkN d).2 then checkN 2 1 (chunkN d).1 == 0 else sameN (chunkN d).1 .zero) = true from rightN_spec _ _] at h3
  have h4 := right12_c (messageN t d).1 (messageN t d).2 (Nat.le_trans z2 (hz t))
  rw [show (bif (messageN t d).2 then checkN 2 1 (messageN t d).1 == 0 else sameN (messageN t d).1 .zero) = true from rightN_spec _ _] at h4
  exact ⟨(chunkN d).1, (messageN t d).1, (chunkN d).2, (messageN t d).2, chunk_f d (by omega), h2, h3, h4, chunk_ok d, message_ok t d, fun h => right_fst h, fun h => right_fst h⟩

set_option maxHeartbeats 2000000 in
theorem causeBytes_c (b : List UInt8) (t : Nat) (big : Bool) (hl : b.length ≤ 2 ^ 40) : PC Try.prog 6 [.sl false 1 (bys b), u16 t, bool big] (bool true) := by
  refine PC.of_bodyW (by simp only [push_cast]) Try.func6 rfl (by rw [Try.ntmps6]; simp) ?_
  refine AWp.regionW ?_
  refine AWp.seqK fun K1 hK1 => ?_
  refine AWp.regionM fun K2 hK2 => ?_
  refine ARun2.callM (awake_c) ?_
  refine ARun2.endm (hK2 _ ?_)
  refine AWp.condLM (fun c0 => ?_) (fun c0 => ?_)
  · skip
    refine AWp.regionM fun K3 hK3 => ?_
    refine ARun2.callM (awake_c) ?_
    refine ARun2.endm (hK3 _ ?_)
    refine AWp.ret ?_
    try simp only [thenQ, blockQ]
    refine bodyQ.m ?_
    clear hK3 K3 hK2 K2 hK1 K1
    first | done | exact Hand.go
  · skip
    have h1000 : b.length ≤ 1000 := by simpa using c0
    refine AWp.skip ?_
    refine hK1 _ ?_
    refine AWp.regionM fun K4 hK4 => ?_
    refine ARun2.toStrM b ?_
    refine ARun2.endm (hK4 _ ?_)
    refine AWp.regionM fun K5 hK5 => ?_
    refine ARun2.buildOwnM ?_
    refine ARun2.appendM ?_ ?_ ?_
    · rw [Ytmcedkcehcacpaa.Facts.eb25, bys_len, List.length_nil]; omega
    · rw [bys_len, List.length_nil]; omega
    refine ARun2.endm (hK5 _ ?_)
    refine AWp.seqK fun K6 hK6 => ?_
    refine AWp.regionW ?_
    refine AWp.condLM (fun c1 => ?_) (fun c1 => ?_)
    · skip
      obtain ⟨d, hd⟩ : ∃ d : List UInt8, d = List.replicate (65525 + b.length % 10) 0 := ⟨_, rfl⟩
      have hdl : d.length ≤ 2 ^ 20 := by rw [hd, List.length_replicate]; omega
      obtain ⟨n1, n2, o1, o2, k1, k2, k3, k4, k5, k6, k7, k8⟩ := bytes_key t d hdl
      refine AWp.regionM fun K7 hK7 => ?_
      refine ARun2.makeOwnM (65525 + b.length % 10) ?_ ?_
      · omega
      refine ARun2.endm (hK7 _ ?_)
      rw [← hd]
      refine AWp.regionN fun K8 hK8 => ?_
      refine ARun2.toStrM d ?_
      refine ARun2.endm (hK8 _ ?_)
      refine hK6 _ ?_
      refine AWp.regionM fun K9 hK9 => ?_
      refine ARun2.callLendM 1 k1 ?_
      refine ARun2.endm (hK9 _ ?_)
      refine AWp.seqK fun K10 hK10 => ?_
      refine AWp.regionW ?_
      refine AWp.block ?_
      refine AWp.loopK [1, 7, 8, 9, 10] (fun (i : Nat) => [(11, nat i)]) (fun i => [.row 5 1 (bys b), .row 5 1 (bys (incN d i)), .box 28 [u16 n1.ty, .sl true 1 (bys n1.data), .sl true 3 (nodesA true n1.kids)]]) (fun i => i ≤ d.length) (fun i => d.length - i) (0) ?_ (Nat.zero_le _) ?_
      · skip
        refine Le.m 3 ?_ ?_
        · try simp only [push_cast, reduceIte, Nat.reduceEqDiff, Nat.reduceLT, Nat.reduceAdd, Nat.reduceSub, Nat.reduceMul, Nat.reduceLeDiff, Nat.reducePow, Int.reduceLT, Int.reduceToNat, reduceCtorEq, Int.reduceNeg, Int.reduceEq, Nat.reduceBEq, Nat.reduceBNe, Int.reduceBEq, Int.reduceBNe, String.reduceEq]
          try simp (disch := omega) only [w_nat, w_add, w_addl, w_addr, w_sub, w_subl, w_mul, w_mull, w_mulr, w_u32, w_u16, w_u8, w_u32a, N_zero]
          first | done | skip
          rw [incN_zero]
        · first | (simp only [push_cast, reduceIte, Nat.reduceEqDiff, Nat.reduceLT, Nat.reduceAdd, Nat.reduceSub, Nat.reduceMul, Nat.reduceLeDiff, Nat.reducePow, Int.reduceLT, Int.reduceToNat, reduceCtorEq, Int.reduceNeg, Int.reduceEq, Nat.reduceBEq, Nat.reduceBNe, Int.reduceBEq, Int.reduceBNe, String.reduceEq]; first | done | rfl | (simp (disch := omega) only [w_nat, w_add, w_addl, w_addr, w_sub, w_subl, w_mul, w_mull, w_mulr, w_u32, w_u16, w_u8, w_u32a, N_zero]; first | done | rfl))
      · intro i hi K11 hK11
        refine AWp.seqK fun K12 hK12 => ?_
        refine AWp.regionW ?_
        refine AWp.condLM (fun c2 => ?_) (fun c2 => ?_)
        · skip
          have hil : i < d.length := by simpa using c2
          refine AWp.skip ?_
          refine hK12 _ ?_
          refine AWp.seqK fun K13 hK13 => ?_
          refine AWp.block ?_
          refine AWp.regionN fun K14 hK14 => ?_
          refine ARun2.indexOwnM (xs := bys (incN d i)) i (by rw [bys_len, incN_len]; exact hil) ?_
          refine ARun2.loadEM (xs := bys (incN d i)) (.val (.int .u8 (N d[i].toNat))) (by rw [bys_at _ _ (by rw [incN_len]; exact hil), incN_at d i hil]) ?_
          refine ARun2.indexOwnM (xs := bys (incN d i)) i (by rw [bys_len, incN_len]; exact hil) ?_
          refine ARun2.storeEM (xs := bys (incN d i)) (by rw [bys_len, incN_len]; exact hil) ?_
          refine ARun2.endm (hK14 _ ?_)
          refine hK13 _ ?_
          refine AWp.regionV ?_
          refine hK11 _ (i + 1) (by omega) (by omega) ?_
          refine Le.m 3 ?_ ?_
          · try simp only [push_cast, reduceIte, Nat.reduceEqDiff, Nat.reduceLT, Nat.reduceAdd, Nat.reduceSub, Nat.reduceMul, Nat.reduceLeDiff, Nat.reducePow, Int.reduceLT, Int.reduceToNat, reduceCtorEq, Int.reduceNeg, Int.reduceEq, Nat.reduceBEq, Nat.reduceBNe, Int.reduceBEq, Int.reduceBNe, String.reduceEq]
            try simp (disch := omega) only [w_nat, w_add, w_addl, w_addr, w_sub, w_subl, w_mul, w_mull, w_mulr, w_u32, w_u16, w_u8, w_u32a, N_zero]
            first | done | skip
            rw [u8_inc, incN_step d i hil]
          · first | (simp only [push_cast, reduceIte, Nat.reduceEqDiff, Nat.reduceLT, Nat.reduceAdd, Nat.reduceSub, Nat.reduceMul, Nat.reduceLeDiff, Nat.reducePow, Int.reduceLT, Int.reduceToNat, reduceCtorEq, Int.reduceNeg, Int.reduceEq, Nat.reduceBEq, Nat.reduceBNe, Int.reduceBEq, Int.reduceBNe, String.reduceEq]; first | done | rfl | (simp (disch := omega) only [w_nat, w_add, w_addl, w_addr, w_sub, w_subl, w_mul, w_mull, w_mulr, w_u32, w_u16, w_u8, w_u32a, N_zero]; first | done | rfl))
        · skip
          refine AWp.exit ?_
          simp only [thenQ, blockQ, reduceIte, Nat.reduceEqDiff]
          refine hK10 _ ?_
          refine AWp.regionM fun K15 hK15 => ?_
          refine ARun2.callM (k2) ?_
          refine ARun2.endm (hK15 _ ?_)
          refine AWp.seqK fun K16 hK16 => ?_
          refine AWp.regionA fun K17 hK17 => ?_
          refine ARun.segm 5 fun KS hKS => ?_
          refine ARun2.endm (hKS _ ?_); clear hKS KS
          apply ARun.grpM 3 4 true 67 [1, 7, 9, 10, 12, 13, 60, 64]
          · intro g4 KG hKG
            refine ARun2.gom ?_
            exact ARun2.endm (hKG _ Le.grpM)
          refine ARun.segm 7 fun KS hKS => ?_
          rw [← k5]
          refine ARun2.boolEqM ?_
          refine ARun2.endm (hKS _ ?_); clear hKS KS
          apply ARun.grpM 2 14 false 76 [1, 7, 9, 10, 12, 13, 70, 71, 74]
          · intro g14 KG hKG
            refine ARun2.gom ?_
            exact ARun2.endm (hKG _ Le.grpM)
          refine ARun.segm 2 fun KS hKS => ?_
          refine ARun2.endm (hKS _ ?_); clear hKS KS
          apply ARun.grpM 3 18 true 81 [1, 7, 9, 10, 12, 13, 70, 71, 78]
          · intro g18 KG hKG
            refine ARun2.gom ?_
            exact ARun2.endm (hKG _ Le.grpM)
          refine ARun2.gom ?_
          rw [← k6]
          refine ARun2.boolEqM ?_
          refine ARun2.callM (k3) ?_
          refine ARun2.callM (k4) ?_
          refine ARun2.endm (hK17 _ ?_)
          refine AWp.condF ?_
          refine AWp.skip ?_
          refine hK16 _ ?_
          refine AWp.regionA fun K18 hK18 => ?_
          refine ARun.segm 3 fun KS hKS => ?_
          refine ARun2.endm (hKS _ ?_); clear hKS KS
          apply ARun.grpM 16 2 false 115 [1, 7, 12, 13, 99]
          · intro g2 KG hKG
            refine ARun.segm 4 fun KS hKS => ?_
            refine ARun2.endm (hKS _ ?_); clear hKS KS
            apply ARun.grpM 5 6 true 108 [1, 7, 9, 12, 13, 99, 103]
            · intro g6 KG hKG
              refine ARun2.gom ?_
              refine ARun2.toStrM n1.data ?_
              exact ARun2.endm (hKG _ Le.grpM)
            refine ARun.segm 2 fun KS hKS => ?_
            refine ARun2.endm (hKS _ ?_); clear hKS KS
            apply ARun.grpM 4 13 true 114 [1, 7, 12, 13, 99, 110]
            · intro g13 KG hKG
              refine ARun2.gom ?_
              exact ARun2.endm (hKG _ Le.grpM)
            refine ARun2.gom ?_
            exact ARun2.endm (hKG _ Le.grpM)
          refine ARun.segm 2 fun KS hKS => ?_
          refine ARun2.endm (hKS _ ?_); clear hKS KS
          apply ARun.grpM 21 20 true 138 [117]
          · intro g20 KG hKG
            refine ARun.segm 3 fun KS hKS => ?_
            refine ARun2.endm (hKS _ ?_); clear hKS KS
            apply ARun.grpM 17 23 false 137 [117, 120]
            · intro g23 KG hKG
              refine ARun.segm 5 fun KS hKS => ?_
              refine ARun2.endm (hKS _ ?_); clear hKS KS
              apply ARun.grpM 5 28 true 130 [12, 117, 120, 125]
              · intro g28 KG hKG
                refine ARun2.gom ?_
                refine ARun2.toStrM n2.data ?_
                exact ARun2.endm (hKG _ Le.grpM)
              refine ARun.segm 2 fun KS hKS => ?_
              refine ARun2.endm (hKS _ ?_); clear hKS KS
              apply ARun.grpM 4 35 true 136 [117, 120, 132]
              · intro g35 KG hKG
                refine ARun2.gom ?_
                exact ARun2.endm (hKG _ Le.grpM)
              refine ARun2.gom ?_
              exact ARun2.endm (hKG _ Le.grpM)
            refine ARun2.gom ?_
            exact ARun2.endm (hKG _ Le.grpM)
          refine ARun2.gom ?_
          refine ARun2.endm (hK18 _ ?_)
          refine AWp.ret ?_
          try simp only [thenQ, blockQ]
          refine bodyQ.m ?_
          clear hK18 K18 hK17 K17 hK16 K16 hK15 K15 hK12 K12 hK11 K11 hK10 K10 hK9 K9 hK8 K8 hK7 K7 hK6 K6 hK5 K5 hK4 K4 hK2 K2 hK1 K1
          clear hd hdl k1 k2 k3 k4 k5 k6
          exact Hand.eq (by simp [AV.idsOk]) (by simp only [AV.hand]; congr 2; cases o1 <;> cases o2 <;> simp_all [GNode.ty_mk, GNode.data_mk, GNode.kids_mk])
    · skip
      obtain ⟨d, hd⟩ : ∃ d : List UInt8, d = b := ⟨_, rfl⟩
      have hdl : d.length ≤ 2 ^ 20 := by rw [hd]; omega
      obtain ⟨n1, n2, o1, o2, k1, k2, k3, k4, k5, k6, k7, k8⟩ := bytes_key t d hdl
      rw [← hd]
      refine AWp.skip ?_
      refine hK6 _ ?_
      refine AWp.regionM fun K19 hK19 => ?_
      refine ARun2.callLendM 0 k1 ?_
      refine ARun2.endm (hK19 _ ?_)
      refine AWp.seqK fun K20 hK20 => ?_
      refine AWp.regionW ?_
      refine AWp.block ?_
      refine AWp.loopK [1, 7, 8, 9, 10] (fun (i : Nat) => [(11, nat i)]) (fun i => [.row 5 1 (bys (incN d i)), .box 28 [u16 n1.ty, .sl true 1 (bys n1.data), .sl true 3 (nodesA true n1.kids)]]) (fun i => i ≤ d.length) (fun i => d.length - i) (0) ?_ (Nat.zero_le _) ?_
      · skip
        refine Le.m 2 ?_ ?_
        · try simp only [push_cast, reduceIte, Nat.reduceEqDiff, Nat.reduceLT, Nat.reduceAdd, Nat.reduceSub, Nat.reduceMul, Nat.reduceLeDiff, Nat.reducePow, Int.reduceLT, Int.reduceToNat, reduceCtorEq, Int.reduceNeg, Int.reduceEq, Nat.reduceBEq, Nat.reduceBNe, Int.reduceBEq, Int.reduceBNe, String.reduceEq]
          try simp (disch := omega) only [w_nat, w_add, w_addl, w_addr, w_sub, w_subl, w_mul, w_mull, w_mulr, w_u32, w_u16, w_u8, w_u32a, N_zero]
          first | done | skip
          rw [incN_zero]
        · first | (simp only [push_cast, reduceIte, Nat.reduceEqDiff, Nat.reduceLT, Nat.reduceAdd, Nat.reduceSub, Nat.reduceMul, Nat.reduceLeDiff, Nat.reducePow, Int.reduceLT, Int.reduceToNat, reduceCtorEq, Int.reduceNeg, Int.reduceEq, Nat.reduceBEq, Nat.reduceBNe, Int.reduceBEq, Int.reduceBNe, String.reduceEq]; first | done | rfl | (simp (disch := omega) only [w_nat, w_add, w_addl, w_addr, w_sub, w_subl, w_mul, w_mull, w_mulr, w_u32, w_u16, w_u8, w_u32a, N_zero]; first | done | rfl))
      · intro i hi K21 hK21
        refine AWp.seqK fun K22 hK22 => ?_
        refine AWp.regionW ?_
        refine AWp.condLM (fun c2 => ?_) (fun c2 => ?_)
        · skip
          have hil : i < d.length := by simpa using c2
          refine AWp.skip ?_
          refine hK22 _ ?_
          refine AWp.seqK fun K23 hK23 => ?_
          refine AWp.block ?_
          refine AWp.regionN fun K24 hK24 => ?_
          refine ARun2.indexOwnM (xs := bys (incN d i)) i (by rw [bys_len, incN_len]; exact hil) ?_
          refine ARun2.loadEM (xs := bys (incN d i)) (.val (.int .u8 (N d[i].toNat))) (by rw [bys_at _ _ (by rw [incN_len]; exact hil), incN_at d i hil]) ?_
          refine ARun2.indexOwnM (xs := bys (incN d i)) i (by rw [bys_len, incN_len]; exact hil) ?_
          refine ARun2.storeEM (xs := bys (incN d i)) (by rw [bys_len, incN_len]; exact hil) ?_
          refine ARun2.endm (hK24 _ ?_)
          refine hK23 _ ?_
          refine AWp.regionV ?_
          refine hK21 _ (i + 1) (by omega) (by omega) ?_
          refine Le.m 2 ?_ ?_
          · try simp only [push_cast, reduceIte, Nat.reduceEqDiff, Nat.reduceLT, Nat.reduceAdd, Nat.reduceSub, Nat.reduceMul, Nat.reduceLeDiff, Nat.reducePow, Int.reduceLT, Int.reduceToNat, reduceCtorEq, Int.reduceNeg, Int.reduceEq, Nat.reduceBEq, Nat.reduceBNe, Int.reduceBEq, Int.reduceBNe, String.reduceEq]
            try simp (disch := omega) only [w_nat, w_add, w_addl, w_addr, w_sub, w_subl, w_mul, w_mull, w_mulr, w_u32, w_u16, w_u8, w_u32a, N_zero]
            first | done | skip
            rw [u8_inc, incN_step d i hil]
          · first | (simp only [push_cast, reduceIte, Nat.reduceEqDiff, Nat.reduceLT, Nat.reduceAdd, Nat.reduceSub, Nat.reduceMul, Nat.reduceLeDiff, Nat.reducePow, Int.reduceLT, Int.reduceToNat, reduceCtorEq, Int.reduceNeg, Int.reduceEq, Nat.reduceBEq, Nat.reduceBNe, Int.reduceBEq, Int.reduceBNe, String.reduceEq]; first | done | rfl | (simp (disch := omega) only [w_nat, w_add, w_addl, w_addr, w_sub, w_subl, w_mul, w_mull, w_mulr, w_u32, w_u16, w_u8, w_u32a, N_zero]; first | done | rfl))
        · skip
          refine AWp.exit ?_
          simp only [thenQ, blockQ, reduceIte, Nat.reduceEqDiff]
          refine hK20 _ ?_
          refine AWp.regionM fun K25 hK25 => ?_
          refine ARun2.callM (k2) ?_
          refine ARun2.endm (hK25 _ ?_)
          refine AWp.seqK fun K26 hK26 => ?_
          refine AWp.regionA fun K27 hK27 => ?_
          refine ARun.segm 5 fun KS hKS => ?_
          refine ARun2.endm (hKS _ ?_); clear hKS KS
          apply ARun.grpM 3 4 true 67 [1, 7, 9, 10, 12, 13, 60, 64]
          · intro g4 KG hKG
            refine ARun2.gom ?_
            exact ARun2.endm (hKG _ Le.grpM)
          refine ARun.segm 7 fun KS hKS => ?_
          rw [← k5]
          refine ARun2.boolEqM ?_
          refine ARun2.endm (hKS _ ?_); clear hKS KS
          apply ARun.grpM 2 14 false 76 [1, 7, 9, 10, 12, 13, 70, 71, 74]
          · intro g14 KG hKG
            refine ARun2.gom ?_
            exact ARun2.endm (hKG _ Le.grpM)
          refine ARun.segm 2 fun KS hKS => ?_
          refine ARun2.endm (hKS _ ?_); clear hKS KS
          apply ARun.grpM 3 18 true 81 [1, 7, 9, 10, 12, 13, 70, 71, 78]
          · intro g18 KG hKG
            refine ARun2.gom ?_
            exact ARun2.endm (hKG _ Le.grpM)
          refine ARun2.gom ?_
          rw [← k6]
          refine ARun2.boolEqM ?_
          refine ARun2.callM (k3) ?_
          refine ARun2.callM (k4) ?_
          refine ARun2.endm (hK27 _ ?_)
          refine AWp.condF ?_
          refine AWp.skip ?_
          refine hK26 _ ?_
          refine AWp.regionA fun K28 hK28 => ?_
          refine ARun.segm 3 fun KS hKS => ?_
          refine ARun2.endm (hKS _ ?_); clear hKS KS
          apply ARun.grpM 16 2 false 115 [1, 7, 12, 13, 99]
          · intro g2 KG hKG
            refine ARun.segm 4 fun KS hKS => ?_
            refine ARun2.endm (hKS _ ?_); clear hKS KS
            apply ARun.grpM 5 6 true 108 [1, 7, 9, 12, 13, 99, 103]
            · intro g6 KG hKG
              refine ARun2.gom ?_
              refine ARun2.toStrM n1.data ?_
              exact ARun2.endm (hKG _ Le.grpM)
            refine ARun.segm 2 fun KS hKS => ?_
            refine ARun2.endm (hKS _ ?_); clear hKS KS
            apply ARun.grpM 4 13 true 114 [1, 7, 12, 13, 99, 110]
            · intro g13 KG hKG
              refine ARun2.gom ?_
              exact ARun2.endm (hKG _ Le.grpM)
            refine ARun2.gom ?_
            exact ARun2.endm (hKG _ Le.grpM)
          refine ARun.segm 2 fun KS hKS => ?_
          refine ARun2.endm (hKS _ ?_); clear hKS KS
          apply ARun.grpM 21 20 true 138 [117]
          · intro g20 KG hKG
            refine ARun.segm 3 fun KS hKS => ?_
            refine ARun2.endm (hKS _ ?_); clear hKS KS
            apply ARun.grpM 17 23 false 137 [117, 120]
            · intro g23 KG hKG
              refine ARun.segm 5 fun KS hKS => ?_
              refine ARun2.endm (hKS _ ?_); clear hKS KS
              apply ARun.grpM 5 28 true 130 [12, 117, 120, 125]
              · intro g28 KG hKG
                refine ARun2.gom ?_
                refine ARun2.toStrM n2.data ?_
                exact ARun2.endm (hKG _ Le.grpM)
              refine ARun.segm 2 fun KS hKS => ?_
              refine ARun2.endm (hKS _ ?_); clear hKS KS
              apply ARun.grpM 4 35 true 136 [117, 120, 132]
              · intro g35 KG hKG
                refine ARun2.gom ?_
                exact ARun2.endm (hKG _ Le.grpM)
              refine ARun2.gom ?_
              exact ARun2.endm (hKG _ Le.grpM)
            refine ARun2.gom ?_
            exact ARun2.endm (hKG _ Le.grpM)
          refine ARun2.gom ?_
          refine ARun2.endm (hK28 _ ?_)
          refine AWp.ret ?_
          try simp only [thenQ, blockQ]
          refine bodyQ.m ?_
          clear hK28 K28 hK27 K27 hK26 K26 hK25 K25 hK22 K22 hK21 K21 hK20 K20 hK19 K19 hK6 K6 hK5 K5 hK4 K4 hK2 K2 hK1 K1
          clear hd hdl k1 k2 k3 k4 k5 k6
          exact Hand.eq (by simp [AV.idsOk]) (by simp only [AV.hand]; congr 2; cases o1 <;> cases o2 <;> simp_all [GNode.ty_mk, GNode.data_mk, GNode.kids_mk])
end Go.Proofs.Ytmcedkcehcacpaa.C

/- From the statement's reading to abstract values, and back. No condition. -/
namespace Go.Abs
open Go.ChangeShapes Go.WideShapes Go.RowKit
set_option linter.unusedVariables false
set_option linter.unusedSectionVars false
set_option linter.unusedSimpArgs false

/-- all that is there when the call begins -/
abbrev Old (W : World) : Nat → Prop := fun b => b < W.heap.size

theorem RW.start (W : World) : RW (E0 W (Old W) []) [] [] (Old W) W :=
  { os := rfl, tape := rfl, output := rfl, size := Nat.le_refl _, block := fun _ _ _ => rfl, pre := fun k v h => by simp at h, bsub := fun _ h => h, bnew := fun _ h => .inl h,
    blt := fun _ h => h, len := rfl, obs := fun k o h => by simp at h, dis := fun i j o o' u v b _ h => by simp at h, prv := fun k o v b h => by simp at h }

theorem PC.answers {P : Program} {f : FuncId} {ys : List AV} {v : Value} (h : PC P f ys (.val v)) {W : World} {args : Array Value} (ha : RelL W (Old W) W.heap.size [] ys args.toList) :
    Calls P f args W fun e W' => e = .returned v ∧ Below W.heap.size W W' := by
  have := h.2 W [] (Old W) args.toList (RW.start W) ha (fun e W' => e = .returned v ∧ Below W.heap.size W W') (by
    rintro r' v' τ' ρ' B' w' ⟨rfl, rfl⟩ hw hr
    cases hr
    exact ⟨rfl, ⟨hw.os, hw.tape, hw.output, hw.size, fun k hk => hw.block k hk ⟨fun ⟨u, hu, _⟩ => by simp at hu, fun h => by cases h⟩⟩⟩)
  simpa using this

section
variable {H : Type} {enc : TypeId × Value → H} {P : Program} {W W' : World}

theorem trodAll_stays (hl : laidOutB P = true) (hb : Below W.heap.size W W') {sp' : Nat → Bool} : ∀ {ts : List TypeId} {vs : List Value} {ds : List (DataW H)} {ps : List MemPlace}, (∀ t ∈ ts, P.readableRec t = true ∧ t < P.types.size) →
    DataW.TrodAll enc P W 0 (fun _ => true) true ts vs ds ps → (∀ p ∈ ps, p.block < W.heap.size) → (∀ p ∈ ps, sp' p.block = true) → DataW.TrodAll enc P W' 0 sp' true ts vs ds ps
  | [], _, _, _, _, h, _, _ => by
    obtain ⟨rfl, rfl, rfl⟩ := trodAll_nil h
    rfl
  | t :: ts, _, _, _, ht, h, hlt, hs => by
    obtain ⟨v, vs1, d, ds1, a, b, rfl, rfl, rfl, h1, h2⟩ := trodAll_cons h
    have := ht t (by simp)
    exact ⟨a, b, WideElems.Trod_stays hl this.1 this.2 h1 (fun x hx => hb.same (hlt x (by simp [hx]))) (fun x hx => hs x (by simp [hx])),
      trodAll_stays hl hb (fun u hu => ht u (by simp [hu])) h2 (fun x hx => hlt x (by simp [hx])) (fun x hx => hs x (by simp [hx])), rfl⟩

/-- a law holds: it answers true, and all that was there is as it was -/
theorem post_true {f : Func} {s : ChangeSpec} {fresh : Bool} {args : Array Value} {ds gs : List (DataW H)} {before : List MemPlace} {tb : TypeId}
    (hW : DataW.Whole enc P f.params.toList s.vars false W args.toList ds gs before) (hv : s.vars = []) (hs : s.fn H (ds ++ gs) = { results := [.lit (.bool true)], args := ds }) (hr : f.resultTypes = #[tb]) (hb : P.underlying tb = some .bool)
    (hl : laidOutB P = true) (ht : (f.params.toList.all fun t => P.readableRec t && decide (t < P.types.size)) = true) (hB : Below W.heap.size W W') :
    s.post enc P f false fresh false false W args (.bool true) W' := by
  have hW0 := hW
  obtain ⟨p, q, hA, hV, rfl, hfz, _⟩ := hW
  rw [hv] at hV
  have hg : gs = [] ∧ q = [] := by
    cases gs with
    | nil => exact ⟨rfl, hV⟩
    | cons g gs => exact hV.elim
  obtain ⟨rfl, rfl⟩ := hg
  have hlt : ∀ x ∈ p ++ [], x.block < W.heap.size := fun x hx => by simpa using hW0.lt x hx
  refine ⟨ds, [], p ++ [], [], p, [], hW0, ?_, ?_, ?_, ?_, fun h => by cases h⟩
  · rw [hs, hr]
    exact trodAll_cons_mk (p := []) (p' := []) (shut_bool hb _) trodAll_mk0
  · rw [hs]
    refine trodAll_stays hl hB (fun t h => ?_) hA (fun x hx => hlt x (by simp [hx])) (fun x hx => by simpa using hlt x (by simp [hx]))
    have := List.all_eq_true.1 ht t h
    simpa using this
  · rw [hs, hv]; exact rfl
  · refine ⟨hB.os, hB.output, fun i hi => ?_⟩
    rw [hB.block i hi]
    cases W.heap[i]? with
    | none => rfl
    | some o => cases o <;> simp

theorem addr_of_cell {w : World} {a : Addr} {v : Value} (h : w.cell? a = some v) : a.spot = none := by
  unfold World.cell? at h
  split at h
  · split at h
    · cases h
    · rename_i hs; cases hh : a.spot <;> simp_all
  · cases h

/-- a slice of numbers, read -/
theorem rel_ints0 {t e : TypeId} {k : IntKind} {v : Value} {d : DataW H} {ps : List MemPlace} {fuel : Nat} (ht : P.underlying t = some (.slice e)) (he : P.underlying e = some (.int k)) (hc : P.cellsOf e = 1)
    (hf : DataW.trod enc P W 0 (fun _ => true) true fuel t [v] = some (d, ps)) :
    ∃ (zs : List Int), Rel W (Old W) W.heap.size [] (.sl false 1 (zs.map fun n => .val (.int k n))) v ∧ (∀ n ∈ zs, (Lit.int k n).wf = true) ∧ ((d = .nil ∧ zs = []) ∨ ∃ rest, d = .slice (lits k zs) rest) := by
  rcases open_ints ht he hc hf with ⟨h1, h2⟩ | ⟨a, len, cap, zs, h1, h2, h3, h4, h5, h6, h7, h8⟩
  · simp only [List.cons.injEq, and_true] at h1
    subst h1
    exact ⟨[], .slE _ _ _ _, by simp, .inl ⟨congrArg Prod.fst h2, rfl⟩⟩
  · simp only [List.cons.injEq, and_true] at h1
    subst h1
    simp only [if_true] at h5
    refine ⟨zs.take len, ?_, fun n hn => h8 n (List.mem_of_mem_take hn), .inr ⟨_, congrArg Prod.fst h6⟩⟩
    have hlen : (zs.take len).length = len := by rw [List.length_take]; omega
    cases hq : zs.take len with
    | nil =>
      rw [hq] at hlen
      simp at hlen
      subst hlen
      exact .slE _ _ _ _
    | cons z l =>
      have hpos : 0 < zs.length := by rw [hq] at hlen; simp at hlen; omega
      have h0 := h7 0 hpos
      have hsp : a.spot = none := addr_of_cell (show W.cell? a = _ from h0)
      obtain ⟨b, o, sp⟩ := a
      simp only at hsp
      subst hsp
      have hblk : b < W.heap.size := by
        have := World.block_lt_of_cell? W _ h0
        simpa [Addr.add] using this
      rw [hq] at hlen
      simp only [List.length_cons] at hlen
      subst hlen
      have hrow := RelRow.mk (w := W) (B := Old W) (bs := W.heap.size) (ρ := []) (nw := false) (b := b) (sz := 1) (o := o) (xs := (z :: l).map fun n => AV.val (.int k n)) (vs := (z :: l).map fun n => Value.int k n) hblk (fun h => by cases h) ?_ ?_ ?_
      · have := Rel.sl (cap := cap) (by simpa using hrow) (by simpa using h3)
        simpa using this
      · have : (((z :: l).map fun n => AV.val (.int k n)).flatMap AV.cells) = ((z :: l).map fun n => Value.int k n).map AV.val := by
          generalize z :: l = m
          induction m with
          | nil => rfl
          | cons x m ih => simp only [List.map_cons, List.flatMap_cons, ih]; rfl
        rw [this]
        have key : ∀ l : List Value, RelL W (Old W) W.heap.size [] (l.map AV.val) l := fun l => by induction l with
          | nil => exact .nil
          | cons x l ih => exact .cons (.val x) ih
        exact key _
      · intro x hx
        simp only [List.mem_map] at hx
        obtain ⟨n, _, rfl⟩ := hx
        exact ⟨rfl, fun c hc => by simp [AV.cells] at hc; subst hc; rfl⟩
      · intro j v hj
        rw [← hq, List.getElem?_map, List.getElem?_take] at hj
        split at hj
        · rename_i hjl
          simp only [Option.map_eq_some_iff] at hj
          obtain ⟨n, hn, rfl⟩ := hj
          have hlt : j < zs.length := by have := List.getElem?_eq_some_iff.1 hn; exact this.1
          have := h7 j hlt
          rw [addr_add] at this
          rw [this, List.getD_eq_getElem?_getD, hn]; rfl
        · simp at hj
/-- the same, of an argument -/
theorem rel_ints {r : Reach} {b0 : Nat} {t e : TypeId} {k : IntKind} {v : Value} {d : DataW H} {ps : List MemPlace} (ht : P.underlying t = some (.slice e)) (he : P.underlying e = some (.int k)) (hc : P.cellsOf e = 1)
    (hval : Value.okWide P W r b0 t v) (hd : DataW.Trod enc P W 0 (fun _ => true) true t v d ps) :
    ∃ (zs : List Int), Rel W (Old W) W.heap.size [] (.sl false 1 (zs.map fun n => .val (.int k n))) v ∧ (∀ n ∈ zs, (Lit.int k n).wf = true) ∧ ((d = .nil ∧ zs = []) ∨ ∃ rest, d = .slice (lits k zs) rest) := by
  obtain ⟨A, len0, cap0, rfl⟩ := okWide_slice ht hval
  obtain ⟨fuel, hf⟩ := hd
  exact rel_ints0 ht he hc hf
end
end Go.Abs

/- Nodes, read. -/
set_option linter.unusedVariables false
set_option linter.unusedSimpArgs false
namespace Go.Proofs.Ytmcedkcehcacpaa.C
open Go.Abs Go.ChangeShapes Go.WideShapes Go.ChangeAt Go.RowKit

theorem own : ownKnob Try.prog.godebug = none := by kernel_rfl
theorem laidOut : laidOutB Try.prog = true := by kernel_rfl
theorem nat_of {n : Int} {m : Nat} (h : 0 ≤ n ∧ n ≤ m) : ∃ x : Nat, n = N x ∧ x < m + 1 := ⟨n.toNat, by unfold N; omega, by omega⟩
theorem u8_of {n : Int} (h : (Lit.int .u8 n).wf = true) : ∃ m : Nat, n = N m ∧ m < 2 ^ 8 := nat_of (m := 255) (by simpa [Lit.wf, IntKind.min, IntKind.max, IntKind.signed, IntKind.bits] using h)
theorem u16_of {n : Int} (h : (Lit.int .u16 n).wf = true) : ∃ m : Nat, n = N m ∧ m < 2 ^ 16 := nat_of (m := 65535) (by simpa [Lit.wf, IntKind.min, IntKind.max, IntKind.signed, IntKind.bits] using h)
theorem u32_of {n : Int} (h : (Lit.int .u32 n).wf = true) : ∃ m : Nat, n = N m ∧ m < 2 ^ 32 := nat_of (m := 4294967295) (by simpa [Lit.wf, IntKind.min, IntKind.max, IntKind.signed, IntKind.bits] using h)
theorem int_bounds {k : IntKind} {n : Int} (h : (Lit.int k n).wf = true) : k.min ≤ n ∧ n ≤ k.max := by simpa [Lit.wf] using h
theorem bys_of {zs : List Int} (h : ∀ n ∈ zs, (Lit.int .u8 n).wf = true) : (zs.map fun n => AV.val (.int .u8 n)) = bys (zs.map fun n => UInt8.ofNat n.toNat) := by
  unfold bys
  rw [List.map_map]
  refine List.map_congr_left fun n hn => ?_
  have h2 : 0 ≤ n ∧ n ≤ 255 := by simpa [Lit.wf, IntKind.min, IntKind.max, IntKind.signed, IntKind.bits] using h n hn
  have h3 : N (UInt8.ofNat n.toNat).toNat = n := by
    rw [UInt8.toNat_ofNat']; unfold N; omega
  show AV.val (.int .u8 n) = .val (.int .u8 (N (UInt8.ofNat n.toNat).toNat))
  rw [h3]

theorem bulk_one {H : Type} (d : DataW H) : 1 ≤ Rows.uptoBulk d := by
  cases d with
  | lit l => cases l <;> simp [Rows.uptoBulk]
  | _ => simp [Rows.uptoBulk]
theorem bulk_len {H : Type} : ∀ l : List (DataW H), l.length ≤ Rows.uptoBulkAll l
  | [] => by simp [Rows.uptoBulkAll]
  | x :: r => by
    have h1 := bulk_one x
    have h2 := bulk_len r
    simp only [Rows.uptoBulkAll, List.length_cons]; omega
theorem bulk_lits' {H : Type} (k : IntKind) (zs : List Int) (rest : List (DataW H)) : zs.length + 1 ≤ Rows.uptoBulk (.slice (lits k zs) rest : DataW H) := by
  have := bulk_len (lits k zs : List (DataW H))
  simp only [lits, List.length_map] at this
  simp only [Rows.uptoBulk, lits]
  omega

theorem one_cell_of {cs : List Value} (h : cs.length = 1) : ∃ v, cs = [v] := by
  match cs, h with
  | [v], _ => exact ⟨v, rfl⟩

section
variable {H : Type} {enc : TypeId × Value → H} {W : World}

/-- bytes -/
theorem rel_bytes0 {v : Value} {d : DataW H} {ps : List MemPlace} {fuel : Nat} (hf : DataW.trod enc Try.prog W 0 (fun _ => true) true fuel 25 [v] = some (d, ps)) :
    ∃ l : List UInt8, Rel W (Old W) W.heap.size [] (.sl false 1 (bys l)) v ∧ l.length ≤ Rows.uptoBulk d := by
  have hc : Try.prog.cellsOf 5 = 1 := by kernel_rfl
  obtain ⟨zs, k0, k1, k2⟩ := rel_ints0 Try.underlying25 Try.underlying5 hc hf
  rw [bys_of k1] at k0
  refine ⟨_, k0, ?_⟩
  rw [List.length_map]
  rcases k2 with ⟨_, rfl⟩ | ⟨rest, rfl⟩
  · simp
  · have := bulk_lits' .u8 zs rest; omega

theorem nodeA_one (n : GNode) : ∀ c ∈ (nodeA false n).cells, c.one = true := by
  rw [nodeA_eq]; simp [AV.cells, AV.one, Value.oneCell']

theorem node_fields : ∃ f0 f1 f2 : Field, Try.prog.underlying 28 = some (.struct #[f0, f1, f2]) ∧ f0.type = 22 ∧ f0.offset = 0 ∧ f1.type = 25 ∧ f1.offset = 1 ∧ f2.type = 26 ∧ f2.offset = 2 :=
  ⟨_, _, _, Try.underlying28, rfl, rfl, rfl, rfl, rfl, rfl⟩

set_option maxRecDepth 100000 in
theorem rel_node0 : ∀ (fuel : Nat),
    (∀ (cs : List Value) (d : DataW H) (ps : List MemPlace), DataW.trod enc Try.prog W 0 (fun _ => true) true fuel 28 cs = some (d, ps) → ∃ n : GNode, RelL W (Old W) W.heap.size [] (nodeA false n).cells cs ∧ n.sz ≤ Rows.uptoBulk d) ∧
    (∀ (v : Value) (d : DataW H) (ps : List MemPlace), DataW.trod enc Try.prog W 0 (fun _ => true) true fuel 26 [v] = some (d, ps) → ∃ l : List GNode, Rel W (Old W) W.heap.size [] (.sl false 3 (nodesA false l)) v ∧ szs l ≤ Rows.uptoBulk d) := by
  have c16 : Try.prog.cellsOf 22 = 1 := by kernel_rfl
  have c8 : Try.prog.cellsOf 25 = 1 := by kernel_rfl
  have cn : Try.prog.cellsOf 26 = 1 := by kernel_rfl
  have c3 : Try.prog.cellsOf 28 = 3 := by kernel_rfl
  intro fuel
  induction fuel with
  | zero => exact ⟨fun cs d ps h => by simp [DataW.trod] at h, fun v d ps h => by simp [DataW.trod] at h⟩
  | succ fuel ih =>
    refine ⟨?_, ?_⟩
    · intro cs d ps h
      obtain ⟨f0, f1, f2, hs, a0, b0, a1, b1, a2, b2⟩ := node_fields
      obtain ⟨xs, m, hm, hx, hl, hlen, hall⟩ := DataW.trod_struct hs h
      have hm' : m = fuel := by omega
      subst hm'
      have e0 := hall 0 f0 rfl
      have e1 := hall 1 f1 rfl
      have e2 := hall 2 f2 rfl
      rw [a0, b0, c16] at e0
      rw [a1, b1, c8] at e1
      rw [a2, b2, cn] at e2
      rw [c3] at hl
      match xs, hlen, cs, hl with
      | [y0, y1, y2], _, [v0, v1, v2], _ =>
        simp only [List.drop_zero, List.take_succ_cons, List.take_zero, List.drop_succ_cons, List.getElem?_cons_zero, List.getElem?_cons_succ] at e0 e1 e2
        obtain ⟨n0, h0, hy0, hw0⟩ := DataW.trod_int Try.underlying22 e0
        obtain ⟨l1, r1, s1⟩ := rel_bytes0 (d := y1.1) (ps := y1.2) e1
        obtain ⟨l2, r2, s2⟩ := ih.2 v2 y2.1 y2.2 e2
        have hb := int_bounds hw0
        have hn : N n0.toNat = n0 := by
          have : (0 : Int) ≤ n0 := hb.1
          unfold N; omega
        refine ⟨.mk n0.toNat l1 l2, ?_, ?_⟩
        · rw [nodeA_eq]
          simp only [List.cons.injEq, and_true] at h0
          subst h0
          have := Rel.val (w := W) (B := Old W) (bs := W.heap.size) (ρ := []) (.int .u16 (N n0.toNat))
          rw [hn] at this
          exact .cons (by show Rel _ _ _ _ (.val (.int .u16 (N n0.toNat))) _; rw [hn]; exact this) (.cons r1 (.cons r2 .nil))
        · have hd : d = .agg [y0.1, y1.1, y2.1] := congrArg Prod.fst hx
          rw [hd]
          have := bulk_one y0.1
          simp only [GNode.sz, Rows.uptoBulk, Rows.uptoBulkAll]
          omega
    · intro v d ps h
      rcases DataW.trod_slice Try.underlying26 h with ⟨h1, h2⟩ | ⟨a, len, cap, elems, rest, m, hm, h1, h2, _, hlc, hcm, hlen, hel, _, _⟩
      · simp only [List.cons.injEq, and_true] at h1
        subst h1
        refine ⟨[], by simpa [nodesA] using Rel.slE false 3 none 0, by simp [szs]⟩
      · have hm' : m = fuel := by omega
        subst hm'
        simp only [List.cons.injEq, and_true] at h1
        subst h1
        rw [c3] at hel
        -- every element is a node
        have each : ∀ i (hi : i < elems.length), ∃ (n : GNode) (cs : List Value), cs.length = 3 ∧ (∀ j, j < 3 → W.cell? ((a.add (i * 3)).add j) = cs[j]?) ∧ RelL W (Old W) W.heap.size [] (nodeA false n).cells cs ∧ n.sz ≤ Rows.uptoBulk elems[i].1 := by
          intro i hi
          have hk := hel i (by omega)
          rw [List.getElem?_eq_getElem hi] at hk
          obtain ⟨cs, hcs, hy⟩ := Option.bind_eq_some_iff.1 hk
          obtain ⟨_, hl3, hcell⟩ := World.cells?_some hcs
          obtain ⟨n, r, s⟩ := ih.1 cs elems[i].1 elems[i].2 hy
          exact ⟨n, cs, hl3, hcell, r, s⟩
        cases hq : elems with
        | nil =>
          rw [hq] at hlen
          simp at hlen
          subst hlen
          exact ⟨[], by simpa [nodesA] using Rel.slE false 3 (some a) cap, by simp [szs]⟩
        | cons x r =>
          have hpos : 0 < elems.length := by rw [hq]; simp
          obtain ⟨n0, cs0, hl0, hc0, _, _⟩ := each 0 hpos
          have hcell0 := hc0 0 (by omega)
          simp only [Nat.zero_mul] at hcell0
          rw [List.getElem?_eq_getElem (by omega)] at hcell0
          have hsp : a.spot = none := addr_of_cell (show W.cell? a = _ from hcell0)
          obtain ⟨b, o, sp⟩ := a
          simp only at hsp
          subst hsp
          have hblk : b < W.heap.size := by
            have := World.block_lt_of_cell? W _ hcell0
            simpa [Addr.add] using this
          have rows : ∀ k, k ≤ elems.length → ∃ l : List GNode, l.length = k ∧ RelRow W (Old W) W.heap.size [] false b 3 (o + (elems.length - k) * 3) (nodesA false l) ∧ szs l ≤ Rows.uptoBulkAll ((elems.drop (elems.length - k)).map (·.1)) := by
            intro k
            induction k with
            | zero => exact fun _ => ⟨[], rfl, by simpa [nodesA] using RelRow.nil, by simp [szs]⟩
            | succ k ihk =>
              intro hk
              obtain ⟨l, p1, p2, p3⟩ := ihk (by omega)
              have hi : elems.length - (k + 1) < elems.length := by omega
              obtain ⟨n, cs, q1, q2, q3, q4⟩ := each _ hi
              have hd : elems.drop (elems.length - (k + 1)) = elems[elems.length - (k + 1)] :: elems.drop (elems.length - k) := by
                rw [List.drop_eq_getElem_cons hi, show elems.length - (k + 1) + 1 = elems.length - k by omega]
              refine ⟨n :: l, by simp [p1], ?_, ?_⟩
              · rw [nodesA_cons]
                refine .cons (RelCells.mk (B := Old W) (bs := W.heap.size) (nw := false) hblk (fun h => by cases h) q3 (nodeA_one n) ?_) (by rw [nodeA_eq]; rfl) ?_
                · intro j v hj
                  have hj3 : j < 3 := by rw [← q1]; exact (List.getElem?_eq_some_iff.1 hj).1
                  have := q2 j hj3
                  rw [addr_add, addr_add] at this
                  rw [this, hj]
                · have e : o + (elems.length - (k + 1)) * 3 + 3 = o + (elems.length - k) * 3 := by omega
                  rw [e]; exact p2
              · rw [hd]
                simp only [szs, List.map_cons, Rows.uptoBulkAll]
                omega
          obtain ⟨l, p1, p2, p3⟩ := rows elems.length (Nat.le_refl _)
          rw [Nat.sub_self] at p2 p3
          have hd : d = .slice (elems.map (·.1)) (rest.map (·.1)) := congrArg Prod.fst h2
          refine ⟨l, ?_, ?_⟩
          · match l, p1 with
            | n :: l, p1 =>
              rw [nodesA_cons] at p2 ⊢
              have := Rel.sl (cap := cap) (by simpa using p2) (by rw [nodesA_len]; simp at p1; omega)
              rw [nodesA_len] at this
              have e : l.length + 1 = len := by simp at p1; omega
              rw [e] at this
              exact this
            | [], p1 => simp at p1; omega
          · rw [hd]
            simp only [Rows.uptoBulk, List.drop_zero] at *
            omega

set_option maxRecDepth 100000 in
/-- a node, read -/
theorem rel_node {r : Reach} {b0 : Nat} {v : Value} {d : DataW H} {ps : List MemPlace} (hval : Value.okWide Try.prog W r b0 28 v) (hd : DataW.Trod enc Try.prog W 0 (fun _ => true) true 28 v d ps) :
    ∃ n : GNode, Rel W (Old W) W.heap.size [] (nodeA false n) v ∧ n.sz ≤ Rows.uptoBulk d := by
  obtain ⟨f0, f1, f2, hs, _⟩ := node_fields
  obtain ⟨cs, rfl, _⟩ := okWide_struct hs hval
  obtain ⟨fuel, hf⟩ := hd
  obtain ⟨n, h1, h2⟩ := (rel_node0 fuel).1 _ d ps hf
  refine ⟨n, ?_, h2⟩
  have := Rel.agg h1
  rw [nodeA_eq] at this ⊢
  simpa [AV.cells, Value.cells] using this
set_option maxRecDepth 100000 in
/-- nodes, read -/
theorem rel_nodes {r : Reach} {b0 : Nat} {v : Value} {d : DataW H} {ps : List MemPlace} (hval : Value.okWide Try.prog W r b0 26 v) (hd : DataW.Trod enc Try.prog W 0 (fun _ => true) true 26 v d ps) :
    ∃ l : List GNode, Rel W (Old W) W.heap.size [] (.sl false 3 (nodesA false l)) v ∧ szs l ≤ Rows.uptoBulk d := by
  obtain ⟨A, len0, cap0, rfl⟩ := okWide_slice Try.underlying26 hval
  obtain ⟨fuel, hf⟩ := hd
  exact (rel_node0 fuel).2 _ d ps hf
set_option maxRecDepth 100000 in
/-- bytes, read -/
theorem rel_bytes {r : Reach} {b0 : Nat} {v : Value} {d : DataW H} {ps : List MemPlace} (hval : Value.okWide Try.prog W r b0 25 v) (hd : DataW.Trod enc Try.prog W 0 (fun _ => true) true 25 v d ps) :
    ∃ l : List UInt8, Rel W (Old W) W.heap.size [] (.sl false 1 (bys l)) v ∧ l.length ≤ Rows.uptoBulk d := by
  obtain ⟨A, len0, cap0, rfl⟩ := okWide_slice Try.underlying25 hval
  obtain ⟨fuel, hf⟩ := hd
  exact rel_bytes0 hf
end
end Go.Proofs.Ytmcedkcehcacpaa.C

/- CauseBytes: the statement. No condition. -/
set_option linter.unusedVariables false
set_option linter.unusedSimpArgs false
namespace Go.Proofs.Ytmcedkcehcacpaa.C
open Go.Abs Go.ChangeShapes Go.WideShapes Go.ChangeAt Go.RowKit

set_option maxRecDepth 100000 in
theorem causeBytes_contract (H : Type) (enc : TypeId × Value → H) (W : World) (base : Nat) (args : Array Value) (ds gs : List (DataW H)) (before : List MemPlace)
    (hval : ∀ (j : Nat) t v, Try.f6.params[j]? = some t → args[j]? = some v → Value.okWide Try.prog W .any base t v)
    (hW : DataW.Whole enc Try.prog Try.f6.params.toList Rows.causeBytesSpec.vars false W args.toList ds gs before) (hk : Rows.uptoSmall H (ds ++ gs) = true) :
    Calls Try.prog 6 args W fun e W' => ∃ v, e = .returned v ∧ Rows.causeBytesSpec.post enc Try.prog Try.f6 false true false false W args v W' := by
  have hW' := hW
  obtain ⟨p, q, hA0, hV, rfl, hfz, hnd⟩ := hW
  have hA : DataW.TrodAll enc Try.prog W 0 (fun _ => true) true Try.f6.params.toList args.toList ds p := hA0
  rw [Try.params6] at hA hval
  obtain ⟨v0, vs0, d0, ds0, p0, q0, hargs, rfl, rfl, h0, r0⟩ := trodAll_cons hA
  obtain ⟨v1, vs1, d1, ds1, p1, q1, rfl, rfl, rfl, h1, r1⟩ := trodAll_cons r0
  obtain ⟨v2, vs2, d2, ds2, p2, q2, rfl, rfl, rfl, h2, r2⟩ := trodAll_cons r1
  obtain ⟨rfl, rfl, rfl⟩ := trodAll_nil r2
  obtain rfl : args = #[v0, v1, v2] := by cases args; simp_all
  obtain ⟨rfl, rfl⟩ := trodVars_none hV
  obtain ⟨x0, k0, b0⟩ := rel_bytes (hval 0 25 v0 (by simp) (by simp)) h0
  obtain ⟨n1, rfl, rfl, rfl, w1⟩ := open_int Try.underlying22 (hval 1 22 v1 (by simp) (by simp)) h1
  obtain ⟨x1, rfl, b1⟩ := u16_of w1
  obtain ⟨x2, rfl, rfl, rfl⟩ := open_bool Try.underlying4 (hval 2 4 v2 (by simp) (by simp)) h2
  have hbulk := of_decide_eq_true hk
  simp only [List.append_nil, Rows.uptoBulkAll] at hbulk
  have hc := PC.answers (W := W) (args := #[v0, .int .u16 (N x1), .bool x2]) (causeBytes_c x0 x1 x2 (by omega)) (.cons k0 (.cons (.val _) (.cons (.val _) .nil)))
  refine hc.mono fun e W' ⟨he, hB⟩ => ⟨_, he, ?_⟩
  exact post_true (tb := 4) hW' rfl rfl (by kernel_rfl) Try.underlying4 laidOut (by kernel_rfl) hB

set_option maxRecDepth 100000 in
theorem causeBytes_lifted (os : Os) (started : os.Started) (H : Type) (enc : TypeId × Value → H) (F : Stop.Interp) :
    ReturnsInHanded {} Try.checked os 6 .any ((Rows.OpenSpec.upto Rows.causeBytesSpec).pre6 enc Try.prog Try.f6 Rows.causeBytesUptoRow.domain false) (((Rows.OpenSpec.upto Rows.causeBytesSpec).at F).post enc Try.prog Try.f6 false true false false) := by
  refine returnsInHanded_of_cond (C := Try.checked) (s := Rows.OpenSpec.upto Rows.causeBytesSpec) (k := Rows.uptoSmall) rfl own started (by kernel_rfl) Try.func6
    (OpenSpec.witness (enc := enc) (C := Try.checked) (s := Rows.OpenSpec.upto Rows.causeBytesSpec) (k := Rows.uptoSmall) rfl false ⟨#[], #[(.slice none 0 0), (.int .u16 0), (.bool false)], []⟩ 8 (by kernel_rfl) (by kernel_rfl) (by kernel_rfl)
      (x := ([.nil, .lit (.int .u16 0), .lit (.bool false)], [], [])) (by kernel_rfl) rfl (by kernel_rfl)) ?_
  intro W base args ds gs before hval hW _ hk _
  exact causeBytes_contract H enc W base args ds gs before hval hW hk

theorem causeBytes_holds : Rows.CauseBytesUptoSaid :=
  OpenClaim.holds_of_cond 6 Try.f6 rfl rfl rfl rfl rfl rfl rfl ⟨rfl, rfl, rfl, rfl, rfl⟩ rfl rfl rfl rfl rfl (by kernel_rfl) Try.func6 (by kernel_rfl)
    (of_decide_eq_true (by kernel_rfl)) (by unfold Func.isWrapper; first | (rw [if_pos (by decide +kernel)]; kernel_rfl) | (rw [if_neg (by decide +kernel)]; exact ⟨rfl, rfl⟩))
    (fun os started H enc _ F => causeBytes_lifted os started H enc F)
end Go.Proofs.Ytmcedkcehcacpaa.C
