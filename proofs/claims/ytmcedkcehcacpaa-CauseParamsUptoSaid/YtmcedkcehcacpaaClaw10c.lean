/- wharflaw10: CauseMatchesReference, CauseParams. -/
import Derived.Test.YtmcedkcehcacpaaCref6
import Derived.Test.YtmcedkcehcacpaaClaw10a
set_option linter.unusedVariables false
set_option linter.unusedSimpArgs false
namespace Go.Proofs.Ytmcedkcehcacpaa.C
open Go.Abs

theorem u8_shr (x k : Nat) (hk : k ≤ 32) : IntKind.u8.wrap ((N x).fdiv (2 ^ min k IntKind.u32.bits)) = N (UInt8.ofNat (x / 2 ^ k)).toNat := by
  have h2 : IntKind.u32.bits = 32 := rfl
  rw [h2, Nat.min_eq_left hk, ← u8_low]
  congr 1
  have h3 : (2 : Int) ^ k = ((2 ^ k : Nat) : Int) := by simp
  rw [h3]
  show (x : Int).fdiv ((2 ^ k : Nat) : Int) = ((x / 2 ^ k : Nat) : Int)
  rw [Int.fdiv_eq_ediv_of_nonneg _ (Int.natCast_nonneg _)]; rfl
theorem lits4 (a b c d : UInt8) : [AV.val (.int .u8 (N a.toNat)), AV.val (.int .u8 (N b.toNat)), AV.val (.int .u8 (N c.toNat)), AV.val (.int .u8 (N d.toNat))] = bys [a, b, c, d] := rfl
theorem lits4z (a b : UInt8) : [AV.val (.int .u8 (N a.toNat)), AV.val (.int .u8 (N b.toNat)), AV.val (.int .u8 0), AV.val (.int .u8 0)] = bys [a, b, 0, 0] := rfl

theorem refNumber_c (t v : Nat) (hv : v < 2 ^ 32) : PC Try.prog 10 [u16 t, u32 v] (.tup [nodeA false (numberN t v).1, bool (numberN t v).2]) := by
  have hp : putB 4 v = [UInt8.ofNat (v / 2 ^ 24), UInt8.ofNat (v / 2 ^ 16), UInt8.ofNat (v / 2 ^ 8), UInt8.ofNat v] := putB4_eq v
  refine PC.of_bodyW (by simp only [push_cast]) Try.func10 rfl (by rw [Try.ntmps10]; simp) ?_
  refine AWp.regionW ?_
  refine AWp.regionW ?_
  rw [u8_shr v 24 (by omega), u8_shr v 16 (by omega), u8_shr v 8 (by omega), u8_low, lits4]
  refine AWp.seqK fun K1 hK1 => ?_
  refine AWp.regionA fun K2 hK2 => ?_
  refine ARun.segm 3 fun KS hKS => ?_
  refine ARun2.endm (hKS _ ?_); clear hKS KS
  apply ARun.grpM 2 2 false 23 [0, 1, 4, 6, 21]
  · intro g2 KG hKG
    refine ARun2.gom ?_
    exact ARun2.endm (hKG _ Le.grpM)
  refine ARun2.gom ?_
  refine ARun2.endm (hK2 _ ?_)
  refine AWp.condLM (fun c0 => ?_) (fun c0 => ?_)
  · skip
    have h0 : t = 3 ∨ t = 9 := by cases h1 : t == 3 <;> simp_all
    have hr := numberN_3 t v h0
    rw [hp] at hr
    refine AWp.regionW ?_
    refine AWp.ret ?_
    try simp only [thenQ, blockQ]
    refine bodyQ.m ?_
    clear hK2 K2 hK1 K1
    rw [hr]
    first | done | exact Hand.go
  · skip
    have h0 : ¬ (t = 3 ∨ t = 9) := by cases h1 : t == 3 <;> simp_all
    refine AWp.skip ?_
    refine hK1 _ ?_
    refine AWp.seqK fun K3 hK3 => ?_
    refine AWp.regionA fun K4 hK4 => ?_
    refine ARun.segm 3 fun KS hKS => ?_
    refine ARun2.endm (hKS _ ?_); clear hKS KS
    apply ARun.grpM 2 2 true 32 [0, 4, 6, 30]
    · intro g2 KG hKG
      refine ARun2.gom ?_
      exact ARun2.endm (hKG _ Le.grpM)
    refine ARun2.gom ?_
    refine ARun2.endm (hK4 _ ?_)
    refine AWp.condLM (fun c1 => ?_) (fun c1 => ?_)
    · skip
      have h1 : t = 1 ∧ v < 65536 := by cases h1 : t == 1 <;> simp_all
      have hr : numberN t v = (.mk 1 [UInt8.ofNat (v / 2 ^ 8), UInt8.ofNat v, 0, 0] [], true) := by
        rw [h1.1, numberN_1 v h1.2, putB2]; rfl
      refine AWp.drS [[(0, none)], [(6, none)], [(35, some 1)], [(36, some 2)], [(6, none)], [(38, some 4)], [(39, some 5)], [(37, some 3), (40, some 6)], [(34, some 0), (41, some 7)]] fun G hG => ?_
      refine Dr.sim ?_
      try simp only [List.cons_append, List.nil_append]
      refine Dr.sim ?_
      try simp only [List.cons_append, List.nil_append]
      refine Dr.idx (2) (.val (.int .u8 (N (UInt8.ofNat (v / 2 ^ 8)).toNat))) ?_ ?_
      · rfl
      try simp only [List.cons_append, List.nil_append]
      refine Dr.sim ?_
      try simp only [List.cons_append, List.nil_append]
      refine Dr.sim ?_
      try simp only [List.cons_append, List.nil_append]
      refine Dr.idx (3) (.val (.int .u8 (N (UInt8.ofNat v).toNat))) ?_ ?_
      · rfl
      try simp only [List.cons_append, List.nil_append]
      refine Dr.sim ?_
      try simp only [List.cons_append, List.nil_append]
      refine Dr.build ?_
      try simp only [List.cons_append, List.nil_append]
      refine Dr.sim ?_
      try simp only [List.cons_append, List.nil_append]
      refine Dr.finM (n := 9) [(42, 8)] [4] hG Ytmcedkcehcacpaa.Facts.mixed fun KD hKD => ?_
      refine ARun2.endm (hKD _ ?_); clear hKD KD hG G
      refine AWp.ret ?_
      try simp only [thenQ, blockQ]
      refine bodyQ.m ?_
      clear hK4 K4 hK3 K3 hK2 K2 hK1 K1
      rw [hr, lits4z, h1.1]
      first | done | exact Hand.go
    · skip
      have h1 : ¬ (t = 1 ∧ v < 65536) := by intro h; simp [h.1, h.2] at c1
      have hr : numberN t v = (.zero, false) := by
        unfold numberN
        by_cases h2 : t = 1
        · rw [if_pos h2, decide_eq_false (by omega)]; rfl
        · rw [if_neg h2, if_neg h0]; rfl
      refine AWp.skip ?_
      refine hK3 _ ?_
      refine AWp.regionW ?_
      refine AWp.ret ?_
      try simp only [thenQ, blockQ]
      refine bodyQ.m ?_
      clear hK4 K4 hK3 K3 hK2 K2 hK1 K1
      rw [hr]
      first | done | exact Hand.go

theorem right12_c (n : GNode) (ok : Bool) (hs : n.sz ≤ 2 ^ 26) : PC Try.prog 12 [nodeA false n, bool ok] (bool (bif ok then checkN 2 1 n == 0 else sameN n .zero)) := by
  have h1 := nSize_sz n
  refine PC.of_bodyW (by simp only [push_cast]) Try.func12 rfl (by rw [Try.ntmps12]; simp) ?_
  refine AWp.regionW ?_
  refine AWp.seqK fun K1 hK1 => ?_
  refine AWp.regionW ?_
  refine AWp.condLM (fun c0 => ?_) (fun c0 => ?_)
  · skip
    have hok : ok = false := by simpa using c0
    subst hok
    refine AWp.regionM fun K2 hK2 => ?_
    refine ARun2.callM (same10_c n .zero (by omega)) ?_
    refine ARun2.endm (hK2 _ ?_)
    refine AWp.ret ?_
    try simp only [thenQ, blockQ]
    refine bodyQ.m ?_
    clear hK2 K2 hK1 K1
    first | done | exact Hand.go
  · skip
    have hok : ok = true := by simpa using c0
    subst hok
    refine AWp.skip ?_
    refine hK1 _ ?_
    refine AWp.regionM fun K3 hK3 => ?_
    refine ARun2.callM (check08_c 2 1 n (by omega) (by omega) (by omega)) ?_
    refine ARun2.endm (hK3 _ ?_)
    refine AWp.ret ?_
    try simp only [thenQ, blockQ]
    refine bodyQ.m ?_
    clear hK3 K3 hK1 K1
    first | done | exact Hand.go

theorem rightN_spec (n : GNode) (ok : Bool) : (bif (rightN n ok).2 then checkN 2 1 (rightN n ok).1 == 0 else sameN (rightN n ok).1 .zero) = true := by
  unfold rightN
  cases h : ok && (checkN 2 1 n == 0) with
  | true =>
    simp only [Bool.and_eq_true] at h
    exact h.2
  | false => exact (sameN_iff _ _).2 rfl
theorem numberN_spec (t v : Nat) : (bif (numberN t v).2 then checkN 2 1 (numberN t v).1 == 0 else sameN (numberN t v).1 .zero) = true := by
  unfold numberN
  split
  · exact rightN_spec _ _
  · split
    · exact rightN_spec _ _
    · exact rightN_spec _ _

theorem be_put4 (v : Nat) (h : v < 2 ^ 32) : beN (putB 4 v) = v := by
  rw [putB4_eq]
  simp only [beN, List.foldl_cons, List.foldl_nil, UInt8.toNat_ofNat']
  omega
theorem be_put2 (v : Nat) (h : v < 65536) : beN (putB 2 v ++ putB 2 0) = v * 65536 := by
  rw [putB2, putB2]
  simp only [twoB, List.cons_append, List.nil_append, beN, List.foldl_cons, List.foldl_nil, UInt8.toNat_ofNat']
  omega
theorem refValue_number (t v : Nat) (h : v < 2 ^ 32) : refValueN (numberN t v).1 = if (numberN t v).2 = true then (v, true) else (0, false) := by
  by_cases h1 : t = 1 ∧ v < 65536
  · rw [h1.1, numberN_1 v h1.2]
    have h0 : ¬ ((GNode.mk 1 (putB 2 v ++ putB 2 0) []).data.length ≠ 4 ∨ 0 < (GNode.mk 1 (putB 2 v ++ putB 2 0) []).kids.length ∨ ((GNode.mk 1 (putB 2 v ++ putB 2 0) []).ty ≠ 1 ∧ (GNode.mk 1 (putB 2 v ++ putB 2 0) []).ty ≠ 3 ∧ (GNode.mk 1 (putB 2 v ++ putB 2 0) []).ty ≠ 9)) := by
      simp [GNode.data_mk, GNode.kids_mk, GNode.ty_mk, putB_len]
    show refValueN (.mk 1 (putB 2 v ++ putB 2 0) []) = (v, true)
    unfold refValueN
    rw [if_neg h0]
    simp only [GNode.ty_mk, GNode.data_mk, be_put2 v h1.2]
    simp
  · by_cases h2 : t = 3 ∨ t = 9
    · rw [numberN_3 t v h2]
      have h0 : ¬ ((GNode.mk t (putB 4 v) []).data.length ≠ 4 ∨ 0 < (GNode.mk t (putB 4 v) []).kids.length ∨ ((GNode.mk t (putB 4 v) []).ty ≠ 1 ∧ (GNode.mk t (putB 4 v) []).ty ≠ 3 ∧ (GNode.mk t (putB 4 v) []).ty ≠ 9)) := by
        simp [GNode.data_mk, GNode.kids_mk, GNode.ty_mk, putB_len]; omega
      show refValueN (.mk t (putB 4 v) []) = (v, true)
      unfold refValueN
      rw [if_neg h0]
      simp only [GNode.ty_mk, GNode.data_mk, be_put4 v h]
      rw [if_neg (by omega)]
    · have hr : numberN t v = (.zero, false) := by
        unfold numberN
        by_cases h3 : t = 1
        · rw [if_pos h3, decide_eq_false (by omega)]; rfl
        · rw [if_neg h3, if_neg h2]; rfl
      rw [hr]; rfl

theorem number_key (t v : Nat) (hv : v < 2 ^ 32) : ∃ (nd : GNode) (ok : Bool) (w : Nat),
    PC Try.prog 9 [u16 t, u32 v] (.tup [nodeA false nd, bool ok]) ∧ PC Try.prog 10 [u16 t, u32 v] (.tup [nodeA false nd, bool ok]) ∧
    PC Try.prog 11 [nodeA false nd, nodeA false nd] (bool true) ∧ PC Try.prog 12 [nodeA false nd, bool ok] (bool true) ∧
    PC Try.prog 13 [nodeA false nd] (.tup [u32 w, bool ok]) ∧ (ok = true → w = v) := by
  have hz := numberN_sz t v
  have h3 := same10_c (numberN t v).1 (numberN t v).1 (by omega)
  rw [(sameN_iff _ _).2 rfl] at h3
  have h4 := right12_c (numberN t v).1 (numberN t v).2 (by omega)
  rw [numberN_spec] at h4
  have h5 := value_c (numberN t v).1 (by omega)
  have h6 := refValue_number t v hv
  rw [value_eq] at h5
  refine ⟨(numberN t v).1, (numberN t v).2, (if (refValueN (numberN t v).1).2 = true then (refValueN (numberN t v).1).1 else 0), number_cc t v hv, refNumber_c t v hv, h3, h4, ?_, ?_⟩
  · have e : (refValueN (numberN t v).1).2 = (numberN t v).2 := by rw [h6]; cases (numberN t v).2 <;> rfl
    rw [← e]; exact h5
  · intro hk
    rw [h6, if_pos hk]; rfl

theorem causeMatches_c (t v : Nat) (hv : v < 2 ^ 32) : PC Try.prog 3 [u16 t, u32 v] (bool true) := by
  obtain ⟨nd, ok, w, h1, h2, h3, h4, h5, h6⟩ := number_key t v hv
  refine PC.of_bodyW (by simp only [push_cast]) Try.func3 rfl (by rw [Try.ntmps3]; simp) ?_
  refine AWp.regionW ?_
  refine AWp.seqK fun K1 hK1 => ?_
  refine AWp.regionM fun K2 hK2 => ?_
  refine ARun2.callM (awake_c) ?_
  refine ARun2.endm (hK2 _ ?_)
  refine AWp.condF ?_
  refine AWp.skip ?_
  refine hK1 _ ?_
  refine AWp.regionM fun K3 hK3 => ?_
  refine ARun2.callM (h1) ?_
  refine ARun2.endm (hK3 _ ?_)
  refine AWp.regionM fun K4 hK4 => ?_
  refine ARun2.callM (h2) ?_
  refine ARun2.endm (hK4 _ ?_)
  refine AWp.seqK fun K5 hK5 => ?_
  refine AWp.regionM fun K6 hK6 => ?_
  refine ARun2.callM (h3) ?_
  refine ARun2.boolEqM ?_
  refine ARun2.callM (h4) ?_
  refine ARun2.endm (hK6 _ ?_)
  refine AWp.condF ?_
  refine AWp.skip ?_
  refine hK5 _ ?_
  refine AWp.regionM fun K7 hK7 => ?_
  refine ARun2.callM (h5) ?_
  refine ARun2.endm (hK7 _ ?_)
  refine AWp.regionA fun K8 hK8 => ?_
  refine ARun.segm 4 fun KS hKS => ?_
  refine ARun2.boolEqM ?_
  refine ARun2.endm (hKS _ ?_); clear hKS KS
  apply ARun.grpM 7 3 true 55 [48]
  · intro g3 KG hKG
    refine ARun.segm 3 fun KS hKS => ?_
    refine ARun2.endm (hKS _ ?_); clear hKS KS
    apply ARun.grpM 3 6 false 54 [48, 51]
    · intro g6 KG hKG
      refine ARun2.gom ?_
      exact ARun2.endm (hKG _ Le.grpM)
    refine ARun2.gom ?_
    exact ARun2.endm (hKG _ Le.grpM)
  refine ARun2.gom ?_
  refine ARun2.endm (hK8 _ ?_)
  refine AWp.ret ?_
  try simp only [thenQ, blockQ]
  refine bodyQ.m ?_
  clear hK8 K8 hK7 K7 hK6 K6 hK5 K5 hK4 K4 hK3 K3 hK2 K2 hK1 K1
  have hw : (!ok || w == v) = true := by cases ok <;> simp_all
  simp only [push_cast]
  rw [hw]
  first | done | exact Hand.go

theorem params_key (t : Nat) (l : List GNode) (hs : szs l ≤ 2 ^ 24) : ∃ (nd : GNode) (ok s1 s2 : Bool),
    PC Try.prog 26 [nodeA false (.mk t [] l), bool true] (.tup [nodeA false nd, bool ok]) ∧ (checkN 2 1 (.mk t [] l) == 0) = ok ∧
    PC Try.prog 11 [nodeA false nd, nodeA false (.mk t [] l)] (bool s1) ∧ PC Try.prog 11 [nodeA false nd, nodeA false .zero] (bool s2) ∧ (ok = true → s1 = true) ∧ (ok = false → s2 = true) := by
  have hz : (GNode.mk t [] l).sz ≤ 2 ^ 26 := by simp only [GNode.sz, List.length_nil]; omega
  have hz2 := rightN_sz (.mk t [] l) true
  refine ⟨(rightN (.mk t [] l) true).1, (rightN (.mk t [] l) true).2, _, _, right_c _ true hz, by rw [right_snd]; rfl, same10_c _ _ (by omega), same10_c _ _ (by omega), ?_, ?_⟩
  · intro h
    rw [right_snd] at h
    unfold rightN
    rw [h]; exact (sameN_iff _ _).2 rfl
  · intro h
    rw [right_snd] at h
    unfold rightN
    rw [h]; exact (sameN_iff _ _).2 rfl

theorem params_c (t : Nat) (l : List GNode) {nd : GNode} {ok : Bool} (h : PC Try.prog 26 [nodeA false (.mk t [] l), bool true] (.tup [nodeA false nd, bool ok])) :
    PC Try.prog 23 [u16 t, .sl false 3 (nodesA false l)] (.tup [nodeA false nd, bool ok]) := by
  refine PC.of_bodyW (by simp only [push_cast]) Try.func23 rfl (by rw [Try.ntmps23]; simp) ?_
  refine AWp.regionW ?_
  refine AWp.regionM fun K1 hK1 => ?_
  refine ARun2.callM (h) ?_
  refine ARun2.endm (hK1 _ ?_)
  refine AWp.ret ?_
  try simp only [thenQ, blockQ]
  refine bodyQ.m ?_
  clear hK1 K1
  first | done | exact Hand.go

theorem causeParams_c (t : Nat) (l : List GNode) (hs : szs l ≤ 2 ^ 24) : PC Try.prog 7 [u16 t, .sl false 3 (nodesA false l)] (bool true) := by
  obtain ⟨nd, ok, s1, s2, h1, h2, h3, h4, h5, h6⟩ := params_key t l hs
  have hz : (GNode.mk t [] l).sz ≤ 2 ^ 26 := by simp only [GNode.sz, List.length_nil]; omega
  have hn := nSize_sz (.mk t [] l)
  refine PC.of_bodyW (by simp only [push_cast]) Try.func7 rfl (by rw [Try.ntmps7]; simp) ?_
  refine AWp.regionW ?_
  refine AWp.seqK fun K1 hK1 => ?_
  refine AWp.regionM fun K2 hK2 => ?_
  refine ARun2.callM (awake_c) ?_
  refine ARun2.callM (few_c l (by omega)) ?_
  refine ARun2.endm (hK2 _ ?_)
  refine AWp.condLM (fun c0 => ?_) (fun c0 => ?_)
  · skip
    refine AWp.regionM fun K3 hK3 => ?_
    refine ARun2.callM (awake_c) ?_
    refine ARun2.endm (hK3 _ ?_)
    refine AWp.ret ?_
    try simp only [thenQ, blockQ]
    refine bodyQ.m ?_
    clear hK3 K3 hK2 K2 hK1 K1
    first | done | exact Hand.go
  · skip
    refine AWp.skip ?_
    refine hK1 _ ?_
    refine AWp.regionM fun K4 hK4 => ?_
    refine ARun2.callM (params_c t l h1) ?_
    refine ARun2.endm (hK4 _ ?_)
    refine AWp.regionW ?_
    refine AWp.seqK fun K5 hK5 => ?_
    refine AWp.regionM fun K6 hK6 => ?_
    refine ARun2.callM (check08_c 2 1 (.mk t [] l) (by omega) (by omega) (by omega)) ?_
    rw [h2]
    refine ARun2.boolEqM ?_
    refine ARun2.endm (hK6 _ ?_)
    refine AWp.condF ?_
    refine AWp.skip ?_
    refine hK5 _ ?_
    refine AWp.regionA fun K7 hK7 => ?_
    refine ARun.segm 2 fun KS hKS => ?_
    refine ARun2.endm (hKS _ ?_); clear hKS KS
    apply ARun.grpM 3 1 true 34 [5, 6, 31]
    · intro g1 KG hKG
      refine ARun2.gom ?_
      refine ARun2.callM (h3) ?_
      exact ARun2.endm (hKG _ Le.grpM)
    refine ARun.segm 2 fun KS hKS => ?_
    refine ARun2.endm (hKS _ ?_); clear hKS KS
    apply ARun.grpM 7 6 false 43 [36]
    · intro g6 KG hKG
      refine ARun.segm 3 fun KS hKS => ?_
      refine ARun2.endm (hKS _ ?_); clear hKS KS
      apply ARun.grpM 3 9 true 42 [36, 39]
      · intro g9 KG hKG
        refine ARun2.gom ?_
        refine ARun2.callM (h4) ?_
        exact ARun2.endm (hKG _ Le.grpM)
      refine ARun2.gom ?_
      exact ARun2.endm (hKG _ Le.grpM)
    refine ARun2.gom ?_
    refine ARun2.endm (hK7 _ ?_)
    refine AWp.ret ?_
    try simp only [thenQ, blockQ]
    refine bodyQ.m ?_
    clear hK7 K7 hK6 K6 hK5 K5 hK4 K4 hK2 K2 hK1 K1
    have hw : (ok && s1 || !ok && s2) = true := by cases ok <;> simp_all
    simp only [push_cast]
    rw [hw]
    first | done | exact Hand.go
end Go.Proofs.Ytmcedkcehcacpaa.C
