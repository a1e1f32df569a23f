/- shape: contracts. -/
import Derived.Test.YtmcedkcehcacpaaCbase
set_option linter.unusedVariables false
set_option linter.unusedSimpArgs false
namespace Go.Proofs.Ytmcedkcehcacpaa.C
open Go.Abs

/-- the class, the least and the greatest number of nodes inside -/
def insideN (k : Nat) : Nat × Nat × Nat :=
  if k = 1 ∨ k = 4 then (1, 1, 1) else if k = 2 then (1, 1, 16384) else if k = 3 then (2, 1, 16384) else (0, 0, 0)

theorem inside_c (k : Nat) (hk : k < 2 ^ 60) : PC Try.prog 59 [nat k] (.tup [nat (insideN k).1, nat (insideN k).2.1, nat (insideN k).2.2]) := by
  refine PC.of_bodyW (by simp only [push_cast]) Try.func59 rfl (by rw [Try.ntmps59]; simp) ?_
  refine AWp.regionW ?_
  refine AWp.seqK fun K1 hK1 => ?_
  refine AWp.regionW ?_
  refine AWp.block ?_
  refine AWp.seqK fun K2 hK2 => ?_
  refine AWp.regionW ?_
  refine AWp.condLM (fun c0 => ?_) (fun c0 => ?_)
  · skip
    refine AWp.skip ?_
    refine hK2 _ ?_
    refine AWp.condT ?_
    refine AWp.regionW ?_
    refine AWp.ret ?_
    try simp only [thenQ, blockQ]
    refine bodyQ.m ?_
    clear hK2 K2 hK1 K1
    simp_all [insideN]
    first | done | exact Hand.go
  · skip
    refine AWp.regionV ?_
    refine hK2 _ ?_
    refine AWp.condLM (fun c1 => ?_) (fun c1 => ?_)
    · skip
      refine AWp.regionW ?_
      refine AWp.ret ?_
      try simp only [thenQ, blockQ]
      refine bodyQ.m ?_
      clear hK2 K2 hK1 K1
      simp_all [insideN]
      first | done | exact Hand.go
    · skip
      refine AWp.regionW ?_
      refine AWp.condLM (fun c2 => ?_) (fun c2 => ?_)
      · skip
        refine AWp.regionW ?_
        refine AWp.ret ?_
        try simp only [thenQ, blockQ]
        refine bodyQ.m ?_
        clear hK2 K2 hK1 K1
        simp_all [insideN]
        first | done | exact Hand.go
      · skip
        refine AWp.regionW ?_
        refine AWp.condLM (fun c3 => ?_) (fun c3 => ?_)
        · skip
          refine AWp.regionW ?_
          refine AWp.ret ?_
          try simp only [thenQ, blockQ]
          refine bodyQ.m ?_
          clear hK2 K2 hK1 K1
          simp_all [insideN]
          first | done | exact Hand.go
        · skip
          refine AWp.skip ?_
          refine hK1 _ ?_
          refine AWp.regionW ?_
          refine AWp.ret ?_
          try simp only [thenQ, blockQ]
          refine bodyQ.m ?_
          clear hK2 K2 hK1 K1
          simp_all [insideN]
          first | done | exact Hand.go

/-- does a number of bytes fit? -/
def fitsN (f : ShForm) (n : Nat) : Bool := decide (f.least ≤ n) && decide (n ≤ f.most) && ((n - f.least) % f.unit == 0)

theorem fits_c (f : ShForm) (n : Nat) (hn : n < 2 ^ 60) (hl : f.least < 2 ^ 60) (hu : 0 < f.unit) (hu2 : f.unit < 2 ^ 60) : PC Try.prog 56 [formA f, nat n] (bool (fitsN f n)) := by
  refine PC.of_bodyW (by simp only [push_cast]) Try.func56 rfl (by rw [Try.ntmps56]; simp) ?_
  refine AWp.regionW ?_
  refine AWp.regionA fun K1 hK1 => ?_
  refine ARun.segm 5 fun KS hKS => ?_
  refine ARun2.endm (hKS _ ?_); clear hKS KS
  apply ARun.grpM 4 4 true 13 [1, 2, 9]
  · intro g4 KG hKG
    refine ARun2.gom ?_
    exact ARun2.endm (hKG _ Le.grpM)
  refine ARun.segm 2 fun KS hKS => ?_
  refine ARun2.endm (hKS _ ?_); clear hKS KS
  apply ARun.grpM 8 10 true 23 [15]
  · intro g10 KG hKG
    have hle : f.least ≤ n := by simp at g10; omega
    refine ARun2.gom ?_
    exact ARun2.endm (hKG _ Le.grpM)
  refine ARun2.gom ?_
  refine ARun2.endm (hK1 _ ?_)
  refine AWp.ret ?_
  try simp only [thenQ, blockQ]
  refine bodyQ.m ?_
  clear hK1 K1
  simp only [fitsN]
  first | done | exact Hand.go

/-- are the nodes inside as a form wants them? -/
def kidsOk (f : ShForm) (l : List GNode) : Bool :=
  decide ((insideN f.kids).2.1 ≤ l.length) && decide (l.length ≤ (insideN f.kids).2.2) && (f.kids != 4 || (l.headD default).ty == 5 || (l.headD default).ty == 6)

theorem kids_c (f : ShForm) (l : List GNode) (hl : l.length < 2 ^ 60) (hf : f.kids < 2 ^ 60) : PC Try.prog 57 [formA f, .sl false 3 (nodesA false l)] (bool (kidsOk f l)) := by
  refine PC.of_bodyW (by simp only [push_cast]) Try.func57 rfl (by rw [Try.ntmps57]; simp) ?_
  refine AWp.regionW ?_
  refine AWp.regionM fun K1 hK1 => ?_
  refine ARun2.callM (inside_c f.kids hf) ?_
  refine ARun2.endm (hK1 _ ?_)
  refine AWp.regionA fun K2 hK2 => ?_
  refine ARun.segm 5 fun KS hKS => ?_
  refine ARun2.endm (hKS _ ?_); clear hKS KS
  apply ARun.grpM 4 4 true 23 [1, 2, 19]
  · intro g4 KG hKG
    refine ARun2.gom ?_
    exact ARun2.endm (hKG _ Le.grpM)
  refine ARun.segm 2 fun KS hKS => ?_
  refine ARun2.endm (hKS _ ?_); clear hKS KS
  apply ARun.grpM 17 10 true 42 [25]
  · intro g10 KG hKG
    refine ARun.segm 4 fun KS hKS => ?_
    refine ARun2.endm (hKS _ ?_); clear hKS KS
    apply ARun.grpM 5 14 false 34 [1, 25, 29]
    · intro g14 KG hKG
      have hne : 0 < l.length := by
        have hk : f.kids = 4 := by simpa using g14
        simp [insideN, hk] at g10
        omega
      refine ARun2.gom ?_
      refine ARun2.indexM (0) (nodeA false (l.headD default)) ?_ ?_
      · exact nodesA_head false l hne
      exact ARun2.endm (hKG _ Le.grpM)
    refine ARun.segm 2 fun KS hKS => ?_
    refine ARun2.endm (hKS _ ?_); clear hKS KS
    apply ARun.grpM 5 21 false 41 [25, 36]
    · intro g21 KG hKG
      have hne : 0 < l.length := by
        have hk : f.kids = 4 := by simp at g21; exact g21.1
        simp [insideN, hk] at g10
        omega
      refine ARun2.gom ?_
      refine ARun2.indexM (0) (nodeA false (l.headD default)) ?_ ?_
      · exact nodesA_head false l hne
      exact ARun2.endm (hKG _ Le.grpM)
    refine ARun2.gom ?_
    exact ARun2.endm (hKG _ Le.grpM)
  refine ARun2.gom ?_
  refine ARun2.endm (hK2 _ ?_)
  refine AWp.ret ?_
  try simp only [thenQ, blockQ]
  refine bodyQ.m ?_
  clear hK2 K2 hK1 K1
  simp only [kidsOk, Bool.or_assoc]
  first | done | exact Hand.go
end Go.Proofs.Ytmcedkcehcacpaa.C
