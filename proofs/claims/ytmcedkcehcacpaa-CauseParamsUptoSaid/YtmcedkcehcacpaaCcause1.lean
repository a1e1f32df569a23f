/- cause: right, Number, Value, Missing, Types, Chunk. -/
import Derived.Test.YtmcedkcehcacpaaCnode4
set_option linter.unusedVariables false
set_option linter.unusedSimpArgs false
namespace Go.Abs
@[push_cast] theorem GNode.ty_mk (t : Nat) (d : List UInt8) (k : List GNode) : (GNode.mk t d k).ty = t := rfl
@[push_cast] theorem GNode.data_mk (t : Nat) (d : List UInt8) (k : List GNode) : (GNode.mk t d k).data = d := rfl
@[push_cast] theorem GNode.kids_mk (t : Nat) (d : List UInt8) (k : List GNode) : (GNode.mk t d k).kids = k := rfl
@[push_cast] theorem GNode.zero_mk : GNode.zero = .mk 0 [] [] := rfl
end Go.Abs
namespace Go.Proofs.Ytmcedkcehcacpaa.C
open Go.Abs

theorem tlv_le : ∀ (l : List Nat) (s : Nat), sumUp s (l.map (4 + ·)) ≤ s + l.sum + 7 * l.length
  | [], s => by simp [sumUp]
  | n :: l, s => by
    have := tlv_le l (upN s + (4 + n))
    have h := gapN_le s
    simp only [List.map_cons, sumUp, List.length_cons, List.sum_cons, upN] at *
    omega
mutual
theorem vlen_sz : ∀ n : GNode, vlen n + 7 ≤ 8 * n.sz
  | .mk t d k => by
    have h1 := nLens_sz k
    have h2 := tlv_le (nLens k) 0
    have h3 : (nLens k).length = k.length := by rw [nLens_map]; simp
    simp only [vlen, GNode.sz, tlvSize] at *
    omega
theorem nLens_sz : ∀ l : List GNode, (nLens l).sum + 7 * l.length ≤ 8 * szs l
  | [] => by simp [nLens, szs]
  | n :: l => by
    have h1 := vlen_sz n
    have h2 := nLens_sz l
    simp only [nLens, szs, List.sum_cons, List.length_cons] at *
    omega
end
theorem nSize_sz (n : GNode) : nSize [n] ≤ 8 * n.sz := by
  have h := vlen_sz n
  have e : nSize [n] = 4 + vlen n := by simp [nSize, nLens, tlvSize, sumUp, upN, gapN]
  omega

/-- a right cause, or none -/
def rightN (n : GNode) (ok : Bool) : GNode × Bool := bif ok && (checkN 2 1 n == 0) then (n, true) else (.zero, false)

theorem right_c (n : GNode) (ok : Bool) (hs : n.sz ≤ 2 ^ 26) : PC Try.prog 26 [nodeA false n, bool ok] (.tup [nodeA false (rightN n ok).1, bool (rightN n ok).2]) := by
  have h1 := nSize_sz n
  refine PC.of_bodyW (by simp only [push_cast]) Try.func26 rfl (by rw [Try.ntmps26]; simp) ?_
  refine AWp.regionW ?_
  refine AWp.seqK fun K1 hK1 => ?_
  refine AWp.regionA fun K2 hK2 => ?_
  refine ARun.segm 3 fun KS hKS => ?_
  refine ARun2.endm (hKS _ ?_); clear hKS KS
  apply ARun.grpM 3 2 false 11 [2, 4, 8]
  · intro g2 KG hKG
    refine ARun2.gom ?_
    refine ARun2.callM (check_c 2 n (by omega) (by omega)) ?_
    exact ARun2.endm (hKG _ Le.grpM)
  refine ARun2.gom ?_
  refine ARun2.endm (hK2 _ ?_)
  refine AWp.condLM (fun c0 => ?_) (fun c0 => ?_)
  · skip
    have h0 : rightN n ok = (.zero, false) := by unfold rightN; cases ok <;> cases h : checkN 2 1 n == 0 <;> simp_all
    refine AWp.regionW ?_
    refine AWp.ret ?_
    try simp only [thenQ, blockQ]
    refine bodyQ.m ?_
    clear hK2 K2 hK1 K1
    rw [h0]
    first | done | exact Hand.go
  · skip
    have h0 : rightN n ok = (n, true) := by unfold rightN; cases ok <;> cases h : checkN 2 1 n == 0 <;> simp_all
    refine AWp.skip ?_
    refine hK1 _ ?_
    refine AWp.regionM fun K3 hK3 => ?_
    refine ARun2.callM (nclone_c n (by omega)) ?_
    refine ARun2.endm (hK3 _ ?_)
    refine AWp.ret ?_
    try simp only [thenQ, blockQ]
    refine bodyQ.m ?_
    clear hK3 K3 hK2 K2 hK1 K1
    rw [h0]
    first | done | exact Hand.go

/-- the numbers in the data, if they come out -/
def numsA (k : Nat) (l : List UInt8) : List Nat := if l.length % k = 0 then numsOf k l else []
theorem numbers_a (k : Nat) (l : List UInt8) (hk : k = 1 ∨ k = 2 ∨ k = 4) (hl : l.length ≤ 2 ^ 40) : PC Try.prog 29 [nat k, .sl false 1 (bys l)] (.sl true 1 (u32s (numsA k l))) := by
  unfold numsA
  split
  · rename_i h; exact numbers_n k l hk hl h
  · rename_i h; exact numbers_none k l hk hl h

/-- a cause with a number -/
def numberN (t v : Nat) : GNode × Bool :=
  if t = 1 then rightN (.mk t (putB 2 v ++ putB 2 0) []) (decide (v ≤ 65535))
  else if t = 3 ∨ t = 9 then rightN (.mk t (putB 4 v) []) true else rightN .zero false

theorem rightN_sz (n : GNode) (ok : Bool) : (rightN n ok).1.sz ≤ n.sz := by
  have := n.sz_eq
  unfold rightN
  cases ok && (checkN 2 1 n == 0) with
  | true => exact Nat.le_refl _
  | false => simp only [cond_false, GNode.zero, GNode.sz, szs, List.length_nil]; omega
theorem numberN_sz (t v : Nat) : (numberN t v).1.sz ≤ 5 := by
  unfold numberN
  split
  · refine Nat.le_trans (rightN_sz _ _) ?_; simp [GNode.sz, szs, putB_len]
  · split
    · refine Nat.le_trans (rightN_sz _ _) ?_; simp [GNode.sz, szs, putB_len]
    · refine Nat.le_trans (rightN_sz _ _) ?_; simp [GNode.zero, GNode.sz, szs]

theorem number_cc (t v : Nat) (hv : v < 2 ^ 32) : PC Try.prog 9 [u16 t, u32 v] (.tup [nodeA false (numberN t v).1, bool (numberN t v).2]) := by
  have hp2 : PC Try.prog 27 [nat 2, .sl false 1 [u32 v, u32 0]] (.sl true 1 (bys (putB 2 v ++ putB 2 0))) := by
    have := wire_put 2 [v, 0] (by omega) (by intro x hx; simp at hx; omega) (by simp)
    simpa [u32s, List.flatMap_cons, List.flatMap_nil] using this
  have hp4 : PC Try.prog 27 [nat 4, .sl false 1 [u32 v]] (.sl true 1 (bys (putB 4 v))) := by
    have := wire_put 4 [v] (by omega) (by intro x hx; simp at hx; omega) (by simp)
    simpa [u32s, List.flatMap_cons, List.flatMap_nil] using this
  have hz : ∀ k : Nat, k ≤ 4 → ∀ x : Nat, (GNode.mk t (putB k x) []).sz ≤ 2 ^ 26 := by intro k hk x; simp only [GNode.sz, szs, putB_len]; omega
  refine PC.of_bodyW (by simp only [push_cast]) Try.func9 rfl (by rw [Try.ntmps9]; simp) ?_
  refine AWp.regionW ?_
  refine AWp.seqK fun K1 hK1 => ?_
  refine AWp.regionW ?_
  refine AWp.block ?_
  refine AWp.regionW ?_
  refine AWp.condLM (fun c0 => ?_) (fun c0 => ?_)
  · skip
    have h0 : t = 1 := by simpa using c0
    refine AWp.regionM fun K2 hK2 => ?_
    refine ARun2.callM (hp2) ?_
    refine ARun2.callM (right_c (.mk t (putB 2 v ++ putB 2 0) []) (decide (v ≤ 65535)) (by simp [GNode.sz, szs, putB_len])) ?_
    refine ARun2.endm (hK2 _ ?_)
    refine AWp.ret ?_
    try simp only [thenQ, blockQ]
    refine bodyQ.m ?_
    clear hK2 K2 hK1 K1
    rw [numberN, if_pos h0]
    first | done | exact Hand.go
  · skip
    have h0 : ¬ t = 1 := by simpa using c0
    refine AWp.seqK fun K3 hK3 => ?_
    refine AWp.regionW ?_
    refine AWp.condLM (fun c1 => ?_) (fun c1 => ?_)
    · skip
      refine AWp.skip ?_
      refine hK3 _ ?_
      refine AWp.condT ?_
      refine AWp.regionM fun K4 hK4 => ?_
      refine ARun2.callM (hp4) ?_
      refine ARun2.callM (right_c (.mk t (putB 4 v) []) true (hz 4 (by omega) v)) ?_
      refine ARun2.endm (hK4 _ ?_)
      refine AWp.ret ?_
      try simp only [thenQ, blockQ]
      refine bodyQ.m ?_
      clear hK4 K4 hK3 K3 hK1 K1
      simp_all [numberN]
      first | done | exact Hand.go
    · skip
      refine AWp.regionV ?_
      refine hK3 _ ?_
      refine AWp.condLM (fun c2 => ?_) (fun c2 => ?_)
      · skip
        refine AWp.regionM fun K5 hK5 => ?_
        refine ARun2.callM (hp4) ?_
        refine ARun2.callM (right_c (.mk t (putB 4 v) []) true (hz 4 (by omega) v)) ?_
        refine ARun2.endm (hK5 _ ?_)
        refine AWp.ret ?_
        try simp only [thenQ, blockQ]
        refine bodyQ.m ?_
        clear hK5 K5 hK3 K3 hK1 K1
        simp_all [numberN]
        first | done | exact Hand.go
      · skip
        refine AWp.skip ?_
        refine hK1 _ ?_
        refine AWp.regionM fun K6 hK6 => ?_
        refine ARun2.callM (right_c .zero false (by simp [GNode.zero, GNode.sz, szs])) ?_
        refine ARun2.endm (hK6 _ ?_)
        refine AWp.ret ?_
        try simp only [thenQ, blockQ]
        refine bodyQ.m ?_
        clear hK6 K6 hK3 K3 hK1 K1
        simp_all [numberN]
        first | done | exact Hand.go
end Go.Proofs.Ytmcedkcehcacpaa.C
