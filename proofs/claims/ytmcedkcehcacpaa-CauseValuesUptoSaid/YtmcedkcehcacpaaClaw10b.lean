/- wharflaw10: CauseValues. -/
import Derived.Test.YtmcedkcehcacpaaCref6
import Derived.Test.YtmcedkcehcacpaaClaw10a
set_option linter.unusedVariables false
set_option linter.unusedSimpArgs false
namespace Go.Proofs.Ytmcedkcehcacpaa.C
open Go.Abs

theorem types_len (n : GNode) : (typesN n).1.length ≤ n.data.length := by
  unfold typesN
  split
  · have := numsA_len 2 (n.data.drop 4)
    rw [List.length_drop] at this
    simp only; omega
  · simp

theorem causeValues_c (n : GNode) (hs : n.sz ≤ 2 ^ 26) : PC Try.prog 4 [nodeA false n] (bool true) := by
  have hsz := n.sz_eq
  have h1 := value_c n hs
  have h2 := refValue_c n (by omega)
  have h3 := types_c n hs
  have h4 := refTypes_c n hs
  have htl := types_len n
  rw [value_eq] at h1
  generalize (typesN n).1 = ts at h3 h4 htl
  generalize (typesN n).2 = tk at h3 h4
  generalize (refValueN n).1 = w at h1 h2
  generalize (refValueN n).2 = ok at h1 h2
  have h5 := equal16_c ts ts (by omega)
  rw [decide_eq_true rfl] at h5
  obtain ⟨v, hv⟩ : ∃ v, v = if ok = true then w else 0 := ⟨_, rfl⟩
  simp only [← hv] at h1
  refine PC.of_bodyW (by simp only [push_cast]) Try.func4 rfl (by rw [Try.ntmps4]; simp) ?_
  refine AWp.regionW ?_
  refine AWp.seqK fun K1 hK1 => ?_
  refine AWp.regionM fun K2 hK2 => ?_
  refine ARun2.callM (awake_c) ?_
  refine ARun2.callM (few_c [n] (by simp only [szs]; omega)) ?_
  refine ARun2.endm (hK2 _ ?_)
  refine AWp.condLM (fun c0 => ?_) (fun c0 => ?_)
  · skip
    refine AWp.regionM fun K3 hK3 => ?_
    refine ARun2.callM (awake_c) ?_
    refine ARun2.endm (hK3 _ ?_)
    refine AWp.ret ?_
    try simp only [thenQ, blockQ]
    refine bodyQ.m ?_
    clear hK3 K3 hK2 K2 hK1 K1
    first | done | exact Hand.go
  · skip
    refine AWp.skip ?_
    refine hK1 _ ?_
    refine AWp.regionM fun K4 hK4 => ?_
    refine ARun2.callM (h1) ?_
    refine ARun2.endm (hK4 _ ?_)
    refine AWp.regionM fun K5 hK5 => ?_
    refine ARun2.callM (h2) ?_
    refine ARun2.endm (hK5 _ ?_)
    refine AWp.seqK fun K6 hK6 => ?_
    refine AWp.regionW ?_
    refine AWp.condLM (fun c1 => ?_) (fun c1 => ?_)
    · skip
      have hok : ok = false := by simpa using c1
      subst hok
      have hv0 : v = 0 := by simpa using hv
      subst hv0
      refine AWp.regionV ?_
      refine hK6 _ ?_
      refine AWp.regionM fun K7 hK7 => ?_
      refine ARun2.callM (h3) ?_
      refine ARun2.endm (hK7 _ ?_)
      refine AWp.regionM fun K8 hK8 => ?_
      refine ARun2.callM (h4) ?_
      refine ARun2.endm (hK8 _ ?_)
      refine AWp.regionA fun K9 hK9 => ?_
      refine ARun.segm 4 fun KS hKS => ?_
      refine ARun2.endm (hKS _ ?_); clear hKS KS
      apply ARun.grpM 3 3 true 48 [7, 8, 9, 10, 45]
      · intro g3 KG hKG
        refine ARun2.gom ?_
        refine ARun2.boolEqM ?_
        exact ARun2.endm (hKG _ Le.grpM)
      refine ARun.segm 2 fun KS hKS => ?_
      refine ARun2.endm (hKS _ ?_); clear hKS KS
      apply ARun.grpM 3 8 true 53 [8, 10, 50]
      · intro g8 KG hKG
        refine ARun2.gom ?_
        refine ARun2.callM (h5) ?_
        exact ARun2.endm (hKG _ Le.grpM)
      refine ARun.segm 2 fun KS hKS => ?_
      refine ARun2.endm (hKS _ ?_); clear hKS KS
      apply ARun.grpM 3 13 true 58 [55]
      · intro g13 KG hKG
        refine ARun2.gom ?_
        refine ARun2.boolEqM ?_
        exact ARun2.endm (hKG _ Le.grpM)
      refine ARun2.gom ?_
      refine ARun2.endm (hK9 _ ?_)
      refine AWp.ret ?_
      try simp only [thenQ, blockQ]
      refine bodyQ.m ?_
      clear hK9 K9 hK8 K8 hK7 K7 hK6 K6 hK5 K5 hK4 K4 hK2 K2 hK1 K1
      first | done | exact Hand.go
    · skip
      have hok : ok = true := by simpa using c1
      subst hok
      have hv0 : v = w := by simpa using hv
      subst hv0
      refine AWp.skip ?_
      refine hK6 _ ?_
      refine AWp.regionM fun K10 hK10 => ?_
      refine ARun2.callM (h3) ?_
      refine ARun2.endm (hK10 _ ?_)
      refine AWp.regionM fun K11 hK11 => ?_
      refine ARun2.callM (h4) ?_
      refine ARun2.endm (hK11 _ ?_)
      refine AWp.regionA fun K12 hK12 => ?_
      refine ARun.segm 4 fun KS hKS => ?_
      refine ARun2.endm (hKS _ ?_); clear hKS KS
      apply ARun.grpM 3 3 true 48 [7, 8, 9, 10, 45]
      · intro g3 KG hKG
        refine ARun2.gom ?_
        refine ARun2.boolEqM ?_
        exact ARun2.endm (hKG _ Le.grpM)
      refine ARun.segm 2 fun KS hKS => ?_
      refine ARun2.endm (hKS _ ?_); clear hKS KS
      apply ARun.grpM 3 8 true 53 [8, 10, 50]
      · intro g8 KG hKG
        refine ARun2.gom ?_
        refine ARun2.callM (h5) ?_
        exact ARun2.endm (hKG _ Le.grpM)
      refine ARun.segm 2 fun KS hKS => ?_
      refine ARun2.endm (hKS _ ?_); clear hKS KS
      apply ARun.grpM 3 13 true 58 [55]
      · intro g13 KG hKG
        refine ARun2.gom ?_
        refine ARun2.boolEqM ?_
        exact ARun2.endm (hKG _ Le.grpM)
      refine ARun2.gom ?_
      refine ARun2.endm (hK12 _ ?_)
      refine AWp.ret ?_
      try simp only [thenQ, blockQ]
      refine bodyQ.m ?_
      clear hK12 K12 hK11 K11 hK10 K10 hK6 K6 hK5 K5 hK4 K4 hK2 K2 hK1 K1
      first | done | exact Hand.go
end Go.Proofs.Ytmcedkcehcacpaa.C
