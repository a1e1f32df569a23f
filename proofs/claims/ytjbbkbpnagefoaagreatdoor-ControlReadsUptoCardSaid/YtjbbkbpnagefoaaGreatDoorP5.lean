/- Nodes written and read again: the plain law. -/
import Derived.Test.YtjbbkbpnagefoaaGreatDoorP4
import Derived.WalkKit
import Derived.ProofKit
import Derived.OpenShut
import Derived.JoinedCond
import Derived.Carry
import Derived.ChangeSlices
import Derived.Test.YtjbbkbpnagefoaaGreatDoorRows
import Derived.Deep.Strs
import Derived.LaidLaws
import Derived.LaidHandle
import Derived.Stop.Joined
import Derived.Test.YtjbbkbpnagefoaaGreatDoorCards
import Derived.Test.YtjbbkbpnagefoaaGreatDoorTie
import Derived.Deep.DeepHandedRow
set_option linter.unusedVariables false
set_option linter.unusedSimpArgs false
namespace Go.Proofs.YtjbbkbpnagefoaaGreatDoor.C
open Go.Abs
/-! ### frames, one after the other -/
theorem checkL_mem {c dp : Nat} : ∀ {l : List GNode}, checkL c dp l = 0 → ∀ n ∈ l, checkN c dp n = 0
  | [], h, n, hn => by simp at hn
  | m :: l, h, n, hn => by
    rw [checkL] at h
    split at h
    · rename_i hm; exact absurd h hm
    · rename_i hm
      rcases List.mem_cons.1 hn with rfl | hn
      · simpa using hm
      · exact checkL_mem h n hn
theorem checkN_zero {c dp : Nat} {n : GNode} (h : checkN c dp n = 0) : dp ≤ 4 ∧ badN c n.ty n.data.length n.kids = false ∧ countedN c n.ty n.data = false ∧ checkL (insideN (shapeOf c n.ty).kids).1 (dp + 1) n.kids = 0 ∧ nSize [n] ≤ 65535 := by
  rw [checkN_eq] at h
  split at h
  · cases h
  · rename_i h1
    split at h
    · cases h
    · rename_i h2
      split at h
      · cases h
      · rename_i h3
        split at h
        · rename_i h4; exact absurd h h4
        · rename_i h4
          split at h
          · cases h
          · rename_i h5
            exact ⟨by omega, by simpa using h2, by simpa using h3, by simpa using h4, by omega⟩
end Go.Proofs.YtjbbkbpnagefoaaGreatDoor.C
/- wharflaw20: made, awake; ControlMatchesReference, ControlReads, ControlCauses. -/
set_option linter.unusedVariables false
set_option linter.unusedSimpArgs false
namespace Go.Proofs.YtjbbkbpnagefoaaGreatDoor.C
open Go.Abs
theorem beat_form {c : GChunk} (hf : c.flags < 256) (h : checkC c = 0) (ht : c.ty = 4 ∨ c.ty = 5) : c = beatC (c.ty == 5) (c.kids.headD default).data := by
  have hk : kindHas c.ty = true ∧ (kindOf c.ty).mask = 0 ∧ (kindOf c.ty).least = 0 ∧ (kindOf c.ty).most = 0 ∧ (kindOf c.ty).kids = 1 ∧ classOf c.ty = 1 := by
    rcases ht with e | e <;> rw [e] <;> exact ⟨rfl, rfl, rfl, rfl, rfl, rfl⟩
  obtain ⟨k1, k2, k3, k4, k5, k6⟩ := hk
  have hl := beat_kids h ht
  obtain ⟨h1, h2, h3, h4⟩ := check_zero h k1
  rw [k2] at h1
  have e1 := mask0 hf h1
  have e2 : c.data = [] := by unfold kfitsN at h2; rw [k3, k4] at h2; simp at h2; exact h2.1
  obtain ⟨n, hq⟩ := List.length_eq_one_iff.1 hl
  have hty : n.ty = 1 := by
    unfold kkidsOk at h3; rw [k5, hq] at h3; simpa [kinsideN] using h3
  rw [hq, k6] at h4
  have h5 := (checkN_zero (checkL_mem h4 n (by simp))).2.1
  rw [hty] at h5
  have hnk : n.kids = [] := by
    have hs : shapeHas 1 1 = true := rfl
    have hs2 : (shapeOf 1 1).kids = 0 := rfl
    unfold badN kidsOk at h5
    rw [hs, hs2] at h5
    simp [insideN] at h5
    exact h5.2
  cases c with
  | mk t f d k =>
    cases n with
    | mk nt nd nk =>
      simp only [GNode.ty, GNode.kids] at hty hnk
      subst hty; subst hnk
      simp only at hq e1 e2 ht
      subst hq; subst e1; subst e2
      simp only [beatC, List.headD_cons, GNode.data]
      rcases ht with rfl | rfl <;> rfl
theorem made_yes (want : GChunk) (h : Small want) (h0 : checkC want = 0) : PC Tryz.prog 15 [chunkA false want, bool true, chunkA false want, bool true] (bool true) := by
  have hs : PC Tryz.prog 22 [chunkA false want, chunkA false want] (bool true) := sameC_self want ▸ h.same
  have h12 := h.check12
  rw [h0] at h12
  refine PC.of_bodyW (by simp only [push_cast]) Tryz.func15 rfl (by rw [Tryz.ntmps15]; simp) ?_
  refine AWp.regionW ?_
  refine AWp.seqK fun K1 hK1 => ?_
  refine AWp.regionM fun K2 hK2 => ?_
  refine ARun2.callM (h12) ?_
  refine ARun2.endm (hK2 _ ?_)
  refine AWp.condF ?_
  refine AWp.skip ?_
  refine hK1 _ ?_
  refine AWp.regionM fun K3 hK3 => ?_
  refine ARun2.callM (hs) ?_
  refine ARun2.endm (hK3 _ ?_)
  refine AWp.ret ?_
  try simp only [thenQ, blockQ, noGo]
  refine bodyQ.m ?_
  clear hK3 K3 hK2 K2 hK1 K1
  first | done | exact Hand.go
theorem made_no (want : GChunk) (wanted : Bool) (h : Small want) (h0 : (wanted && (checkC want == 0)) = false) : PC Tryz.prog 15 [chunkA false .zero, bool false, chunkA false want, bool wanted] (bool true) := by
  have hs : PC Tryz.prog 22 [chunkA false .zero, chunkA false .zero] (bool true) := sameC_self .zero ▸ small_zero.same
  refine PC.of_bodyW (by simp only [push_cast]) Tryz.func15 rfl (by rw [Tryz.ntmps15]; simp) ?_
  refine AWp.regionW ?_
  refine AWp.seqK fun K1 hK1 => ?_
  refine AWp.regionA fun K2 hK2 => ?_
  refine ARun.segm 3 fun KS hKS => ?_
  refine ARun2.endm (hKS _ ?_); clear hKS KS
  apply ARun.grpM 3 2 false 14 [1, 4, 6, 11]
  · intro g2 KG hKG
    refine ARun2.gom ?_
    refine ARun2.callM (h.check12) ?_
    exact ARun2.endm (hKG _ Le.grpM)
  refine ARun2.gom ?_
  refine ARun2.endm (hK2 _ ?_)
  refine AWp.condLM (fun c0 => ?_) (fun c0 => ?_)
  · skip
    refine AWp.regionM fun K3 hK3 => ?_
    refine ARun2.callM (hs) ?_
    refine ARun2.endm (hK3 _ ?_)
    refine AWp.ret ?_
    try simp only [thenQ, blockQ, noGo]
    refine bodyQ.m ?_
    clear hK3 K3 hK2 K2 hK1 K1
    first | done | exact Hand.go
  · skip
    cases wanted <;> simp_all
theorem made_c (want : GChunk) (wanted : Bool) (h : Small want) : PC Tryz.prog 15 [chunkA false (rightC want wanted).1, bool (rightC want wanted).2, chunkA false want, bool wanted] (bool true) := by
  cases hx : wanted && (checkC want == 0) with
  | true =>
    have hr : rightC want wanted = (want, true) := by unfold rightC; rw [hx]; rfl
    simp only [Bool.and_eq_true, beq_iff_eq] at hx
    rw [hr, hx.1]
    exact made_yes want h hx.2
  | false =>
    have hr : rightC want wanted = (.zero, false) := by unfold rightC; rw [hx]; rfl
    rw [hr]
    exact made_no want wanted h hx
theorem awake20_c : PC Tryz.prog 11 [] (bool true) := by
  have w1 : rightC (numC 12 9) (numT 12) = (⟨12, 0, [0, 0, 0, 9], []⟩, true) := by kernel_rfl
  have k1 := cnumber_c 12 9 (by decide) (by decide)
  rw [w1] at k1
  have w2 : answerC ⟨12, 0, [0, 0, 0, 9], []⟩ = (⟨13, 0, [0, 0, 0, 9], []⟩, true) := by kernel_rfl
  have k2 := canswer_c ⟨12, 0, [0, 0, 0, 9], []⟩ ⟨by decide, by decide, by decide, by decide⟩
  rw [w2] at k2
  have w3 : valueC ⟨13, 0, [0, 0, 0, 9], []⟩ = (9, true) := by kernel_rfl
  have k3 := cval_c ⟨13, 0, [0, 0, 0, 9], []⟩ ⟨by decide, by decide, by decide, by decide⟩
  rw [w3] at k3
  have w4 : rightC (beatC false [7]) true = (⟨4, 0, [], [.mk 1 [7] []]⟩, true) := by kernel_rfl
  have k4 := cbeat_c false [7] (by decide)
  rw [w4] at k4
  have w5 : infoC ⟨4, 0, [], [.mk 1 [7] []]⟩ = ([7], true) := by kernel_rfl
  have k5 := cinfo_c ⟨4, 0, [], [.mk 1 [7] []]⟩ ⟨by decide, by decide, by decide, by decide⟩
  rw [w5] at k5
  have w6 : rightC (plainC 7) (plainT 7) = (.zero, false) := by kernel_rfl
  have k6 := cplain_c 7 (by decide)
  rw [w6] at k6
  have w7 : rightC (plainC 8) (plainT 8) = (⟨8, 0, [], []⟩, true) := by kernel_rfl
  have k7 := cplain_c 8 (by decide)
  rw [w7] at k7
  have w8 : rightC (reportC []) true = (.zero, false) := by kernel_rfl
  have k8 := creport_c [] (by decide)
  rw [w8] at k8
  have k9 : PC Tryz.prog 21 [.sl false 1 (bys [7]), .sl false 1 (bys [7])] (bool true) := same01_c [7] [7] (by decide)
  simp only [GChunk.zero] at k6 k8
  refine PC.of_bodyW (by simp only [push_cast]) Tryz.func11 rfl (by rw [Tryz.ntmps11]; simp) ?_
  refine AWp.regionW ?_
  refine AWp.regionM fun K1 hK1 => ?_
  refine ARun2.callM (k1) ?_
  refine ARun2.endm (hK1 _ ?_)
  refine AWp.regionM fun K2 hK2 => ?_
  refine ARun2.callM (k2) ?_
  refine ARun2.endm (hK2 _ ?_)
  refine AWp.regionM fun K3 hK3 => ?_
  refine ARun2.callM (k3) ?_
  refine ARun2.endm (hK3 _ ?_)
  refine AWp.regionM fun K4 hK4 => ?_
  refine ARun2.callM (k4) ?_
  refine ARun2.endm (hK4 _ ?_)
  refine AWp.regionM fun K5 hK5 => ?_
  refine ARun2.callM (k5) ?_
  refine ARun2.endm (hK5 _ ?_)
  refine AWp.regionM fun K6 hK6 => ?_
  refine ARun2.callM (k6) ?_
  refine ARun2.endm (hK6 _ ?_)
  refine AWp.regionM fun K7 hK7 => ?_
  refine ARun2.callM (k7) ?_
  refine ARun2.endm (hK7 _ ?_)
  refine AWp.regionM fun K8 hK8 => ?_
  refine ARun2.callM (k8) ?_
  refine ARun2.endm (hK8 _ ?_)
  refine AWp.regionM fun K9 hK9 => ?_
  refine ARun2.callM (k9) ?_
  refine ARun2.endm (hK9 _ ?_)
  refine AWp.ret ?_
  try simp only [thenQ, blockQ, noGo]
  refine bodyQ.m ?_
  clear hK9 K9 hK8 K8 hK7 K7 hK6 K6 hK5 K5 hK4 K4 hK3 K3 hK2 K2 hK1 K1
  first | done | exact Hand.go
theorem u8_shx (x k : Nat) (hk : k ≤ 32) : IntKind.u8.wrap ((N x).fdiv (2 ^ min k IntKind.u32.bits)) = N (UInt8.ofNat (x / 2 ^ k)).toNat := by
  have h2 : IntKind.u32.bits = 32 := rfl
  rw [h2, Nat.min_eq_left hk, ← u8_low]
  congr 1
  have h3 : (2 : Int) ^ k = ((2 ^ k : Nat) : Int) := by simp
  rw [h3]
  show (x : Int).fdiv ((2 ^ k : Nat) : Int) = ((x / 2 ^ k : Nat) : Int)
  rw [Int.fdiv_eq_ediv_of_nonneg _ (Int.natCast_nonneg _)]; rfl
@[push_cast] theorem u8_shr24 (x : Nat) : IntKind.u8.wrap ((N x).fdiv (2 ^ min 24 IntKind.u32.bits)) = N (UInt8.ofNat (x / 256 ^ 3)).toNat := u8_shx x 24 (by decide)
@[push_cast] theorem u8_shr16 (x : Nat) : IntKind.u8.wrap ((N x).fdiv (2 ^ min 16 IntKind.u32.bits)) = N (UInt8.ofNat (x / 256 ^ 2)).toNat := u8_shx x 16 (by decide)
@[push_cast] theorem u8_shr8 (x : Nat) : IntKind.u8.wrap ((N x).fdiv (2 ^ min 8 IntKind.u32.bits)) = N (UInt8.ofNat (x / 256 ^ 1)).toNat := u8_shx x 8 (by decide)
theorem u8_shr0 (x : Nat) : IntKind.u8.wrap (N x) = N (UInt8.ofNat (x / 256 ^ 0)).toNat := by rw [Nat.pow_zero, Nat.div_one, IntKind.wrap_u8]; simp [N, UInt8.toNat_ofNat']
set_option maxHeartbeats 1000000 in
theorem ctrlMatches_c (t x : Nat) (b : List UInt8) (a : Bool) (ht : t < 256) (hx : x < 2 ^ 32) : PC Tryz.prog 3 [u8 t, u32 x, .sl false 1 (bys b), bool a] (bool true) := by
  refine PC.of_bodyW (by simp only [push_cast]) Tryz.func3 rfl (by rw [Tryz.ntmps3]; simp) ?_
  refine AWp.regionW ?_
  refine AWp.seqK fun K1 hK1 => ?_
  refine AWp.regionM fun K2 hK2 => ?_
  refine ARun2.callM (awake20_c) ?_
  refine ARun2.endm (hK2 _ ?_)
  refine AWp.condLM (fun c0 => ?_) (fun c0 => ?_)
  · skip
    refine AWp.regionM fun K3 hK3 => ?_
    refine ARun2.callM (awake20_c) ?_
    refine ARun2.endm (hK3 _ ?_)
    refine AWp.ret ?_
    try simp only [thenQ, blockQ, noGo]
    refine bodyQ.m ?_
    clear hK3 K3 hK2 K2 hK1 K1
    first | done | exact Hand.go
  · skip
    have hb : b.length ≤ 2 ^ 25 := by simp at c0; omega
    have k1 := cnumber_c t x ht hx
    have k2 := cplain_c t ht
    have k3 := cbeat_c a b hb
    have m1 := made_c (numC t x) (numT t) (small_num x ht)
    have m2 := made_c (plainC t) (plainT t) (small_plain ht)
    have m3 := made_c (beatC a b) true (small_beat a hb)
    generalize rightC (numC t x) (numT t) = r1 at k1 m1
    generalize rightC (plainC t) (plainT t) = r2 at k2 m2
    generalize rightC (beatC a b) true = r3 at k3 m3
    refine AWp.skip ?_
    refine hK1 _ ?_
    refine AWp.regionW ?_
    rw [u8_shr0 x]
    refine AWp.regionW ?_
    refine AWp.seqK fun K4 hK4 => ?_
    refine AWp.regionW ?_
    refine AWp.condLM (fun c1 => ?_) (fun c1 => ?_)
    · skip
      subst c1
      refine AWp.regionV ?_
      refine hK4 _ ?_
      refine AWp.regionM fun K5 hK5 => ?_
      refine ARun2.callM (k1) ?_
      refine ARun2.endm (hK5 _ ?_)
      refine AWp.regionM fun K6 hK6 => ?_
      refine ARun2.callM (k2) ?_
      refine ARun2.endm (hK6 _ ?_)
      refine AWp.regionM fun K7 hK7 => ?_
      refine ARun2.callM (k3) ?_
      refine ARun2.endm (hK7 _ ?_)
      refine AWp.regionA fun K8 hK8 => ?_
      refine ARun.segm 8 fun KS hKS => ?_
      refine ARun2.endm (hKS _ ?_); clear hKS KS
      apply ARun.grpM 2 7 false 64 [0, 2, 10, 13, 14, 15, 16, 55, 56, 59, 62]
      · intro g7 KG hKG
        refine ARun2.gom ?_
        exact ARun2.endm (hKG _ Le.grpM)
      refine ARun.segm 2 fun KS hKS => ?_
      refine ARun2.endm (hKS _ ?_); clear hKS KS
      apply ARun.grpM 2 11 false 68 [0, 2, 10, 13, 14, 15, 16, 55, 56, 59, 66]
      · intro g11 KG hKG
        refine ARun2.gom ?_
        exact ARun2.endm (hKG _ Le.grpM)
      refine ARun.segm 10 fun KS hKS => ?_
      refine ARun2.callM (m1) ?_
      refine ARun2.endm (hKS _ ?_); clear hKS KS
      apply ARun.grpM 2 23 false 80 [0, 2, 10, 15, 16, 71, 72, 73, 75, 78]
      · intro g23 KG hKG
        refine ARun2.gom ?_
        exact ARun2.endm (hKG _ Le.grpM)
      refine ARun.segm 2 fun KS hKS => ?_
      refine ARun2.endm (hKS _ ?_); clear hKS KS
      apply ARun.grpM 2 27 false 84 [2, 10, 15, 16, 71, 72, 73, 75, 82]
      · intro g27 KG hKG
        refine ARun2.gom ?_
        exact ARun2.endm (hKG _ Le.grpM)
      refine ARun2.gom ?_
      refine ARun2.callM (m2) ?_
      refine ARun2.callM (m3) ?_
      refine ARun2.endm (hK8 _ ?_)
      refine AWp.ret ?_
      try simp only [thenQ, blockQ, noGo]
      refine bodyQ.m ?_
      clear hK8 K8 hK7 K7 hK6 K6 hK5 K5 hK4 K4 hK2 K2 hK1 K1
      first | done | exact Hand.go
    · skip
      subst c1
      refine AWp.skip ?_
      refine hK4 _ ?_
      refine AWp.regionM fun K9 hK9 => ?_
      refine ARun2.callM (k1) ?_
      refine ARun2.endm (hK9 _ ?_)
      refine AWp.regionM fun K10 hK10 => ?_
      refine ARun2.callM (k2) ?_
      refine ARun2.endm (hK10 _ ?_)
      refine AWp.regionM fun K11 hK11 => ?_
      refine ARun2.callM (k3) ?_
      refine ARun2.endm (hK11 _ ?_)
      refine AWp.regionA fun K12 hK12 => ?_
      refine ARun.segm 8 fun KS hKS => ?_
      refine ARun2.endm (hKS _ ?_); clear hKS KS
      apply ARun.grpM 2 7 false 64 [0, 2, 10, 13, 14, 15, 16, 55, 56, 59, 62]
      · intro g7 KG hKG
        refine ARun2.gom ?_
        exact ARun2.endm (hKG _ Le.grpM)
      refine ARun.segm 2 fun KS hKS => ?_
      refine ARun2.endm (hKS _ ?_); clear hKS KS
      apply ARun.grpM 2 11 false 68 [0, 2, 10, 13, 14, 15, 16, 55, 56, 59, 66]
      · intro g11 KG hKG
        refine ARun2.gom ?_
        exact ARun2.endm (hKG _ Le.grpM)
      refine ARun.segm 10 fun KS hKS => ?_
      refine ARun2.callM (m1) ?_
      refine ARun2.endm (hKS _ ?_); clear hKS KS
      apply ARun.grpM 2 23 false 80 [0, 2, 10, 15, 16, 71, 72, 73, 75, 78]
      · intro g23 KG hKG
        refine ARun2.gom ?_
        exact ARun2.endm (hKG _ Le.grpM)
      refine ARun.segm 2 fun KS hKS => ?_
      refine ARun2.endm (hKS _ ?_); clear hKS KS
      apply ARun.grpM 2 27 false 84 [2, 10, 15, 16, 71, 72, 73, 75, 82]
      · intro g27 KG hKG
        refine ARun2.gom ?_
        exact ARun2.endm (hKG _ Le.grpM)
      refine ARun2.gom ?_
      refine ARun2.callM (m2) ?_
      refine ARun2.callM (m3) ?_
      refine ARun2.endm (hK12 _ ?_)
      refine AWp.ret ?_
      try simp only [thenQ, blockQ, noGo]
      refine bodyQ.m ?_
      clear hK12 K12 hK11 K11 hK10 K10 hK9 K9 hK4 K4 hK2 K2 hK1 K1
      first | done | exact Hand.go
theorem valueC_back {c : GChunk} (hf : c.flags < 256) (h : (valueC c).2 = true) : rightC (numC c.ty (valueC c).1) (numT c.ty) = (c, true) ∧ (valueC c).1 < 2 ^ 32 := by
  unfold valueC at h ⊢
  by_cases hx : (numT c.ty && checkC c == 0) = true
  · rw [if_pos hx]
    simp only [Bool.and_eq_true, beq_iff_eq] at hx
    obtain ⟨h1, h2⟩ := num_form hf hx.2 hx.1
    refine ⟨?_, ?_⟩
    · unfold rightC
      rw [← h2, hx.1, hx.2]; rfl
    · exact peekN_lt 4 _ _ (by decide)
  · rw [if_neg hx] at h; cases h
theorem infoC_back {c : GChunk} (hf : c.flags < 256) (h : (infoC c).2 = true) : rightC (beatC (c.ty == 5) (infoC c).1) true = (c, true) ∧ (infoC c).1 = (c.kids.headD default).data := by
  unfold infoC at h ⊢
  by_cases hx : ((c.ty == 4 || c.ty == 5) && checkC c == 0) = true
  · rw [if_pos hx]
    simp only [Bool.and_eq_true, Bool.or_eq_true, beq_iff_eq] at hx
    have h2 := beat_form hf hx.2 hx.1
    refine ⟨?_, rfl⟩
    unfold rightC
    rw [← h2, hx.2]; rfl
  · rw [if_neg hx] at h; cases h
set_option maxHeartbeats 1000000 in
theorem ctrlReads_c (c : GChunk) (h : Small c) (hd : szs c.kids ≤ 2 ^ 24) : PC Tryz.prog 4 [chunkA false c] (bool true) := by
  have k1 := cval_c c h
  have k2 := rval_c c h
  have k3 := cinfo_c c h
  have k4 := rinfo_c c h
  have hlen : (infoC c).1.length ≤ 2 ^ 25 := by
    unfold infoC; split
    · cases hk : c.kids with
      | nil => exact Nat.zero_le _
      | cons n l => rw [hk] at hd; simp only [szs, n.sz_eq] at hd; simp only [List.headD_cons]; omega
    · exact Nat.zero_le _
  have k5 := same01_c (infoC c).1 (infoC c).1 (by omega)
  rw [decide_eq_true rfl] at k5
  have hs : PC Tryz.prog 22 [chunkA false c, chunkA false c] (bool true) := sameC_self c ▸ h.same
  have k6 : (valueC c).2 = true → PC Tryz.prog 12 [u8 c.ty, u32 (valueC c).1] (.tup [chunkA true c, bool true]) := fun hv => by
    obtain ⟨e1, e2⟩ := valueC_back h.flags hv
    have := cnumber_c c.ty (valueC c).1 h.ty e2
    rwa [e1] at this
  have k7 : (infoC c).2 = true → PC Tryz.prog 14 [bool (c.ty == 5), .sl false 1 (bys (infoC c).1)] (.tup [chunkA true c, bool true]) := fun hv => by
    have := cbeat_c (c.ty == 5) (infoC c).1 hlen
    rwa [(infoC_back h.flags hv).1] at this
  generalize valueC c = v at k1 k2 k6
  generalize infoC c = w at k3 k4 k5 k7
  refine PC.of_bodyW (by simp only [push_cast]) Tryz.func4 rfl (by rw [Tryz.ntmps4]; simp) ?_
  refine AWp.regionW ?_
  refine AWp.seqK fun K1 hK1 => ?_
  refine AWp.regionM fun K2 hK2 => ?_
  refine ARun2.callM (awake20_c) ?_
  refine ARun2.callM (few12_c c h) ?_
  refine ARun2.endm (hK2 _ ?_)
  refine AWp.condLM (fun c0 => ?_) (fun c0 => ?_)
  · skip
    refine AWp.regionM fun K3 hK3 => ?_
    refine ARun2.callM (awake20_c) ?_
    refine ARun2.endm (hK3 _ ?_)
    refine AWp.ret ?_
    try simp only [thenQ, blockQ, noGo]
    refine bodyQ.m ?_
    clear hK3 K3 hK2 K2 hK1 K1
    first | done | exact Hand.go
  · skip
    refine AWp.skip ?_
    refine hK1 _ ?_
    refine AWp.regionM fun K4 hK4 => ?_
    refine ARun2.callM (k1) ?_
    refine ARun2.endm (hK4 _ ?_)
    refine AWp.regionM fun K5 hK5 => ?_
    refine ARun2.callM (k2) ?_
    refine ARun2.endm (hK5 _ ?_)
    refine AWp.regionM fun K6 hK6 => ?_
    refine ARun2.callM (k3) ?_
    refine ARun2.endm (hK6 _ ?_)
    refine AWp.regionM fun K7 hK7 => ?_
    refine ARun2.callM (k4) ?_
    refine ARun2.endm (hK7 _ ?_)
    refine AWp.seqK fun K8 hK8 => ?_
    refine AWp.regionM fun K9 hK9 => ?_
    refine ARun2.boolEqM ?_
    refine ARun2.callM (k5) ?_
    refine ARun2.boolEqM ?_
    refine ARun2.endm (hK9 _ ?_)
    refine AWp.condF ?_
    refine AWp.skip ?_
    refine hK8 _ ?_
    refine AWp.seqK fun K10 hK10 => ?_
    refine AWp.regionW ?_
    refine AWp.condLM (fun c2 => ?_) (fun c2 => ?_)
    · skip
      refine AWp.regionM fun K11 hK11 => ?_
      refine ARun2.callM (k6 c2) ?_
      refine ARun2.endm (hK11 _ ?_)
      refine AWp.regionM fun K12 hK12 => ?_
      refine ARun2.callM (hs) ?_
      refine ARun2.endm (hK12 _ ?_)
      refine AWp.ret ?_
      try simp only [thenQ, blockQ, noGo]
      refine bodyQ.m ?_
      clear hK12 K12 hK11 K11 hK10 K10 hK9 K9 hK8 K8 hK7 K7 hK6 K6 hK5 K5 hK4 K4 hK2 K2 hK1 K1
      first | done | exact Hand.go
    · skip
      refine AWp.skip ?_
      refine hK10 _ ?_
      refine AWp.seqK fun K13 hK13 => ?_
      refine AWp.regionW ?_
      refine AWp.condLM (fun c3 => ?_) (fun c3 => ?_)
      · skip
        refine AWp.regionM fun K14 hK14 => ?_
        refine ARun2.callM (k7 c3) ?_
        refine ARun2.endm (hK14 _ ?_)
        refine AWp.regionM fun K15 hK15 => ?_
        refine ARun2.callM (hs) ?_
        refine ARun2.endm (hK15 _ ?_)
        refine AWp.ret ?_
        try simp only [thenQ, blockQ, noGo]
        refine bodyQ.m ?_
        clear hK15 K15 hK14 K14 hK13 K13 hK10 K10 hK9 K9 hK8 K8 hK7 K7 hK6 K6 hK5 K5 hK4 K4 hK2 K2 hK1 K1
        first | done | exact Hand.go
      · skip
        refine AWp.skip ?_
        refine hK13 _ ?_
        refine AWp.regionW ?_
        refine AWp.ret ?_
        try simp only [thenQ, blockQ, noGo]
        refine bodyQ.m ?_
        clear hK13 K13 hK10 K10 hK9 K9 hK8 K8 hK7 K7 hK6 K6 hK5 K5 hK4 K4 hK2 K2 hK1 K1
        first | done | exact Hand.go
set_option maxHeartbeats 1000000 in
theorem ctrlCauses_c (r : Bool) (l : List GNode) (hl : szs l ≤ 2 ^ 26) : PC Tryz.prog 6 [bool r, .sl false 3 (nodesA false l)] (bool true) := by
  have k1 := cabort_c r l hl
  have k2 := creport_c l hl
  have m1 := made_c (abortC r l) true (small_abort r hl)
  have m2 := made_c (reportC l) true (small_report hl)
  generalize rightC (abortC r l) true = r1 at k1 m1
  generalize rightC (reportC l) true = r2 at k2 m2
  refine PC.of_bodyW (by simp only [push_cast]) Tryz.func6 rfl (by rw [Tryz.ntmps6]; simp) ?_
  refine AWp.regionW ?_
  refine AWp.seqK fun K1 hK1 => ?_
  refine AWp.regionM fun K2 hK2 => ?_
  refine ARun2.callM (awake20_c) ?_
  refine ARun2.callM (few_c l (by omega)) ?_
  refine ARun2.endm (hK2 _ ?_)
  refine AWp.condLM (fun c0 => ?_) (fun c0 => ?_)
  · skip
    refine AWp.regionM fun K3 hK3 => ?_
    refine ARun2.callM (awake20_c) ?_
    refine ARun2.endm (hK3 _ ?_)
    refine AWp.ret ?_
    try simp only [thenQ, blockQ, noGo]
    refine bodyQ.m ?_
    clear hK3 K3 hK2 K2 hK1 K1
    first | done | exact Hand.go
  · skip
    refine AWp.skip ?_
    refine hK1 _ ?_
    refine AWp.regionW ?_
    refine AWp.seqK fun K4 hK4 => ?_
    refine AWp.regionW ?_
    refine AWp.condLM (fun c1 => ?_) (fun c1 => ?_)
    · skip
      subst c1
      refine AWp.regionV ?_
      refine hK4 _ ?_
      refine AWp.regionM fun K5 hK5 => ?_
      refine ARun2.callM (k1) ?_
      refine ARun2.endm (hK5 _ ?_)
      refine AWp.regionM fun K6 hK6 => ?_
      refine ARun2.callM (k2) ?_
      refine ARun2.endm (hK6 _ ?_)
      refine AWp.regionM fun K7 hK7 => ?_
      refine ARun2.callM (m1) ?_
      refine ARun2.callM (m2) ?_
      refine ARun2.endm (hK7 _ ?_)
      refine AWp.ret ?_
      try simp only [thenQ, blockQ, noGo]
      refine bodyQ.m ?_
      clear hK7 K7 hK6 K6 hK5 K5 hK4 K4 hK2 K2 hK1 K1
      first | done | exact Hand.go
    · skip
      subst c1
      refine AWp.skip ?_
      refine hK4 _ ?_
      refine AWp.regionM fun K8 hK8 => ?_
      refine ARun2.callM (k1) ?_
      refine ARun2.endm (hK8 _ ?_)
      refine AWp.regionM fun K9 hK9 => ?_
      refine ARun2.callM (k2) ?_
      refine ARun2.endm (hK9 _ ?_)
      refine AWp.regionM fun K10 hK10 => ?_
      refine ARun2.callM (m1) ?_
      refine ARun2.callM (m2) ?_
      refine ARun2.endm (hK10 _ ?_)
      refine AWp.ret ?_
      try simp only [thenQ, blockQ, noGo]
      refine bodyQ.m ?_
      clear hK10 K10 hK9 K9 hK8 K8 hK4 K4 hK2 K2 hK1 K1
      first | done | exact Hand.go
end Go.Proofs.YtjbbkbpnagefoaaGreatDoor.C
/- From the statement's reading to abstract values, and back. No condition. -/
namespace Go.Abs
open Go.ChangeShapes Go.WideShapes Go.RowKit
set_option linter.unusedVariables false
set_option linter.unusedSectionVars false
set_option linter.unusedSimpArgs false
/-- all that is there when the call begins -/
abbrev Old (W : World) : Nat → Prop := fun b => b < W.heap.size
theorem RW.start (W : World) : RW (E0 W.heap.size W (Old W) []) [] [] (Old W) W :=
  { ep := Nat.le_refl _, os := rfl, tape := rfl, output := rfl, size := Nat.le_refl _, block := fun _ _ _ => rfl, pre := fun k v h => by simp at h, bsub := fun _ h => h, bnew := fun _ h => .inl h,
    blt := fun _ h => h, len := rfl, obs := fun k o h => by simp at h, dis := fun i j o o' u v b _ h => by simp at h, prv := fun k o v b h => by simp at h }
theorem PC.answers {P : Program} {f : FuncId} {ys : List AV} {v : Value} (h : PC P f ys (.val v)) {W : World} (hg : Globs W (Old W) []) {args : Array Value} (ha : RelL W (Old W) W.heap.size [] ys args.toList) :
    Calls P f args W fun e W' => e = .returned v ∧ Below W.heap.size W W' := by
  have := h.2 W.heap.size W [] (Old W) args.toList hg (RW.start W) ha (fun e W' => e = .returned v ∧ Below W.heap.size W W') (by
    rintro r' v' τ' ρ' B' w' ⟨rfl, rfl⟩ hw hr
    cases hr
    exact ⟨rfl, ⟨hw.os, hw.tape, hw.output, hw.size, fun k hk => hw.block k hk ⟨fun ⟨u, hu, _⟩ => by simp at hu, fun h => by cases h⟩⟩⟩)
  simpa using this
section
variable {H : Type} {enc : TypeId × Value → H} {P : Program} {W W' : World}
theorem trodAll_stays (hl : laidOutB P = true) (hb : Below W.heap.size W W') {sp' : Nat → Bool} : ∀ {ts : List TypeId} {vs : List Value} {ds : List (DataW H)} {ps : List MemPlace}, (∀ t ∈ ts, P.readableRec t = true ∧ t < P.types.size) →
    DataW.TrodAll enc P W 0 (fun _ => true) true ts vs ds ps → (∀ p ∈ ps, p.block < W.heap.size) → (∀ p ∈ ps, sp' p.block = true) → DataW.TrodAll enc P W' 0 sp' true ts vs ds ps
  | [], _, _, _, _, h, _, _ => by
    obtain ⟨rfl, rfl, rfl⟩ := trodAll_nil h
    rfl
  | t :: ts, _, _, _, ht, h, hlt, hs => by
    obtain ⟨v, vs1, d, ds1, a, b, rfl, rfl, rfl, h1, h2⟩ := trodAll_cons h
    have := ht t (by simp)
    exact ⟨a, b, WideElems.Trod_stays hl this.1 this.2 h1 (fun x hx => hb.same (hlt x (by simp [hx]))) (fun x hx => hs x (by simp [hx])),
      trodAll_stays hl hb (fun u hu => ht u (by simp [hu])) h2 (fun x hx => hlt x (by simp [hx])) (fun x hx => hs x (by simp [hx])), rfl⟩
/-- a law holds: it answers true, and all that was there is as it was -/
theorem post_true {f : Func} {s : ChangeSpec} {fresh : Bool} {args : Array Value} {ds gs : List (DataW H)} {before : List MemPlace} {tb : TypeId}
    (hW : DataW.Whole enc P f.params.toList s.vars false W args.toList ds gs before) (hv : s.vars = []) (hs : s.fn H (ds ++ gs) = { results := [.lit (.bool true)], args := ds }) (hr : f.resultTypes = #[tb]) (hb : P.underlying tb = some .bool)
    (hl : laidOutB P = true) (ht : (f.params.toList.all fun t => P.readableRec t && decide (t < P.types.size)) = true) (hB : Below W.heap.size W W') :
    s.post enc P f false fresh false false W args (.bool true) W' := by
  have hW0 := hW
  obtain ⟨p, q, hA, hV, rfl, hfz, _⟩ := hW
  rw [hv] at hV
  have hg : gs = [] ∧ q = [] := by
    cases gs with
    | nil => exact ⟨rfl, hV⟩
    | cons g gs => exact hV.elim
  obtain ⟨rfl, rfl⟩ := hg
  have hlt : ∀ x ∈ p ++ [], x.block < W.heap.size := fun x hx => by simpa using hW0.lt x hx
  refine ⟨ds, [], p ++ [], [], p, [], hW0, ?_, ?_, ?_, ?_, fun h => by cases h⟩
  · rw [hs, hr]
    exact trodAll_cons_mk (p := []) (p' := []) (shut_bool hb _) trodAll_mk0
  · rw [hs]
    refine trodAll_stays hl hB (fun t h => ?_) hA (fun x hx => hlt x (by simp [hx])) (fun x hx => by simpa using hlt x (by simp [hx]))
    have := List.all_eq_true.1 ht t h
    simpa using this
  · rw [hs, hv]; exact rfl
  · refine ⟨hB.os, hB.output, fun i hi => ?_⟩
    rw [hB.block i hi]
    cases W.heap[i]? with
    | none => rfl
    | some o => cases o <;> simp
theorem addr_of_cell {w : World} {a : Addr} {v : Value} (h : w.cell? a = some v) : a.spot = none := by
  unfold World.cell? at h
  split at h
  · split at h
    · cases h
    · rename_i hs; cases hh : a.spot <;> simp_all
  · cases h
/-- a slice of numbers, read -/
theorem rel_ints0 {t e : TypeId} {k : IntKind} {v : Value} {d : DataW H} {ps : List MemPlace} {fuel : Nat} (ht : P.underlying t = some (.slice e)) (he : P.underlying e = some (.int k)) (hc : P.cellsOf e = 1)
    (hf : DataW.trod enc P W 0 (fun _ => true) true fuel t [v] = some (d, ps)) :
    ∃ (zs : List Int), Rel W (Old W) W.heap.size [] (.sl false 1 (zs.map fun n => .val (.int k n))) v ∧ (∀ n ∈ zs, (Lit.int k n).wf = true) ∧ ((d = .nil ∧ zs = []) ∨ ∃ rest, d = .slice (lits k zs) rest) := by
  rcases open_ints ht he hc hf with ⟨h1, h2⟩ | ⟨a, len, cap, zs, h1, h2, h3, h4, h5, h6, h7, h8⟩
  · simp only [List.cons.injEq, and_true] at h1
    subst h1
    exact ⟨[], .slE _ _ _ _, by simp, .inl ⟨congrArg Prod.fst h2, rfl⟩⟩
  · simp only [List.cons.injEq, and_true] at h1
    subst h1
    simp only [if_true] at h5
    refine ⟨zs.take len, ?_, fun n hn => h8 n (List.mem_of_mem_take hn), .inr ⟨_, congrArg Prod.fst h6⟩⟩
    have hlen : (zs.take len).length = len := by rw [List.length_take]; omega
    cases hq : zs.take len with
    | nil =>
      rw [hq] at hlen
      simp at hlen
      subst hlen
      exact .slE _ _ _ _
    | cons z l =>
      have hpos : 0 < zs.length := by rw [hq] at hlen; simp at hlen; omega
      have h0 := h7 0 hpos
      have hsp : a.spot = none := addr_of_cell (show W.cell? a = _ from h0)
      obtain ⟨b, o, sp⟩ := a
      simp only at hsp
      subst hsp
      have hblk : b < W.heap.size := by
        have := World.block_lt_of_cell? W _ h0
        simpa [Addr.add] using this
      rw [hq] at hlen
      simp only [List.length_cons] at hlen
      subst hlen
      have hrow := RelRow.mk (w := W) (B := Old W) (bs := W.heap.size) (ρ := []) (nw := false) (b := b) (sz := 1) (o := o) (xs := (z :: l).map fun n => AV.val (.int k n)) (vs := (z :: l).map fun n => Value.int k n) hblk (fun h => by cases h) ?_ ?_ ?_
      · have := Rel.sl (cap := cap) (by simpa using hrow) (by simpa using h3)
        simpa using this
      · have : (((z :: l).map fun n => AV.val (.int k n)).flatMap AV.cells) = ((z :: l).map fun n => Value.int k n).map AV.val := by
          generalize z :: l = m
          induction m with
          | nil => rfl
          | cons x m ih => simp only [List.map_cons, List.flatMap_cons, ih]; rfl
        rw [this]
        have key : ∀ l : List Value, RelL W (Old W) W.heap.size [] (l.map AV.val) l := fun l => by induction l with
          | nil => exact .nil
          | cons x l ih => exact .cons (.val x) ih
        exact key _
      · intro x hx
        simp only [List.mem_map] at hx
        obtain ⟨n, _, rfl⟩ := hx
        exact ⟨rfl, fun c hc => by simp [AV.cells] at hc; subst hc; rfl⟩
      · intro j v hj
        rw [← hq, List.getElem?_map, List.getElem?_take] at hj
        split at hj
        · rename_i hjl
          simp only [Option.map_eq_some_iff] at hj
          obtain ⟨n, hn, rfl⟩ := hj
          have hlt : j < zs.length := by have := List.getElem?_eq_some_iff.1 hn; exact this.1
          have := h7 j hlt
          rw [addr_add] at this
          rw [this, List.getD_eq_getElem?_getD, hn]; rfl
        · simp at hj
end
end Go.Abs
/- Nodes, read. -/
set_option linter.unusedVariables false
set_option linter.unusedSimpArgs false
namespace Go.Proofs.YtjbbkbpnagefoaaGreatDoor.C
open Go.Abs Go.ChangeShapes Go.WideShapes Go.ChangeAt Go.RowKit
theorem own : ownKnob Tryz.prog.godebug = none := by kernel_rfl
theorem laidOut : laidOutB Tryz.prog = true := by kernel_rfl
theorem nat_of {n : Int} {m : Nat} (h : 0 ≤ n ∧ n ≤ m) : ∃ x : Nat, n = N x ∧ x < m + 1 := ⟨n.toNat, by unfold N; omega, by omega⟩
theorem u8_of {n : Int} (h : (Lit.int .u8 n).wf = true) : ∃ m : Nat, n = N m ∧ m < 2 ^ 8 := nat_of (m := 255) (by simpa [Lit.wf, IntKind.min, IntKind.max, IntKind.signed, IntKind.bits] using h)
theorem u32_of {n : Int} (h : (Lit.int .u32 n).wf = true) : ∃ m : Nat, n = N m ∧ m < 2 ^ 32 := nat_of (m := 4294967295) (by simpa [Lit.wf, IntKind.min, IntKind.max, IntKind.signed, IntKind.bits] using h)
theorem int_bounds {k : IntKind} {n : Int} (h : (Lit.int k n).wf = true) : k.min ≤ n ∧ n ≤ k.max := by simpa [Lit.wf] using h
theorem bys_of {zs : List Int} (h : ∀ n ∈ zs, (Lit.int .u8 n).wf = true) : (zs.map fun n => AV.val (.int .u8 n)) = bys (zs.map fun n => UInt8.ofNat n.toNat) := by
  unfold bys
  rw [List.map_map]
  refine List.map_congr_left fun n hn => ?_
  have h2 : 0 ≤ n ∧ n ≤ 255 := by simpa [Lit.wf, IntKind.min, IntKind.max, IntKind.signed, IntKind.bits] using h n hn
  have h3 : N (UInt8.ofNat n.toNat).toNat = n := by
    rw [UInt8.toNat_ofNat']; unfold N; omega
  show AV.val (.int .u8 n) = .val (.int .u8 (N (UInt8.ofNat n.toNat).toNat))
  rw [h3]
theorem bulk_one {H : Type} (d : DataW H) : 1 ≤ Rows.uptoBulk d := by
  cases d with
  | lit l => cases l <;> simp [Rows.uptoBulk]
  | _ => simp [Rows.uptoBulk]
theorem bulk_len {H : Type} : ∀ l : List (DataW H), l.length ≤ Rows.uptoBulkAll l
  | [] => by simp [Rows.uptoBulkAll]
  | x :: r => by
    have h1 := bulk_one x
    have h2 := bulk_len r
    simp only [Rows.uptoBulkAll, List.length_cons]; omega
theorem bulk_lits' {H : Type} (k : IntKind) (zs : List Int) (rest : List (DataW H)) : zs.length + 1 ≤ Rows.uptoBulk (.slice (lits k zs) rest : DataW H) := by
  have := bulk_len (lits k zs : List (DataW H))
  simp only [lits, List.length_map] at this
  simp only [Rows.uptoBulk, lits]
  omega
section
variable {H : Type} {enc : TypeId × Value → H} {W : World}
/-- bytes -/
theorem rel_bytes0 {v : Value} {d : DataW H} {ps : List MemPlace} {fuel : Nat} (hf : DataW.trod enc Tryz.prog W 0 (fun _ => true) true fuel 23 [v] = some (d, ps)) :
    ∃ l : List UInt8, Rel W (Old W) W.heap.size [] (.sl false 1 (bys l)) v ∧ l.length ≤ Rows.uptoBulk d := by
  have hc : Tryz.prog.cellsOf 5 = 1 := by kernel_rfl
  obtain ⟨zs, k0, k1, k2⟩ := rel_ints0 Tryz.underlying23 Tryz.underlying5 hc hf
  rw [bys_of k1] at k0
  refine ⟨_, k0, ?_⟩
  rw [List.length_map]
  rcases k2 with ⟨_, rfl⟩ | ⟨rest, rfl⟩
  · simp
  · have := bulk_lits' .u8 zs rest; omega
theorem nodeA_one (n : GNode) : ∀ c ∈ (nodeA false n).cells, c.one = true := by
  rw [nodeA_eq]; simp [AV.cells, AV.one, Value.oneCell']
theorem node_fields : ∃ f0 f1 f2 : Field, Tryz.prog.underlying 36 = some (.struct #[f0, f1, f2]) ∧ f0.type = 34 ∧ f0.offset = 0 ∧ f1.type = 23 ∧ f1.offset = 1 ∧ f2.type = 26 ∧ f2.offset = 2 :=
  ⟨_, _, _, Tryz.underlying36, rfl, rfl, rfl, rfl, rfl, rfl⟩
set_option maxRecDepth 100000 in
theorem rel_node0 : ∀ (fuel : Nat),
    (∀ (cs : List Value) (d : DataW H) (ps : List MemPlace), DataW.trod enc Tryz.prog W 0 (fun _ => true) true fuel 36 cs = some (d, ps) → ∃ n : GNode, RelL W (Old W) W.heap.size [] (nodeA false n).cells cs ∧ n.sz ≤ Rows.uptoBulk d ∧ n.tyOk = true) ∧
    (∀ (v : Value) (d : DataW H) (ps : List MemPlace), DataW.trod enc Tryz.prog W 0 (fun _ => true) true fuel 26 [v] = some (d, ps) → ∃ l : List GNode, Rel W (Old W) W.heap.size [] (.sl false 3 (nodesA false l)) v ∧ szs l ≤ Rows.uptoBulk d ∧ tysOk l = true) := by
  have c16 : Tryz.prog.cellsOf 34 = 1 := by kernel_rfl
  have c8 : Tryz.prog.cellsOf 23 = 1 := by kernel_rfl
  have cn : Tryz.prog.cellsOf 26 = 1 := by kernel_rfl
  have c3 : Tryz.prog.cellsOf 36 = 3 := by kernel_rfl
  intro fuel
  induction fuel with
  | zero => exact ⟨fun cs d ps h => by simp [DataW.trod] at h, fun v d ps h => by simp [DataW.trod] at h⟩
  | succ fuel ih =>
    refine ⟨?_, ?_⟩
    · intro cs d ps h
      obtain ⟨f0, f1, f2, hs, a0, b0, a1, b1, a2, b2⟩ := node_fields
      obtain ⟨xs, m, hm, hx, hl, hlen, hall⟩ := DataW.trod_struct hs h
      have hm' : m = fuel := by omega
      subst hm'
      have e0 := hall 0 f0 rfl
      have e1 := hall 1 f1 rfl
      have e2 := hall 2 f2 rfl
      rw [a0, b0, c16] at e0
      rw [a1, b1, c8] at e1
      rw [a2, b2, cn] at e2
      rw [c3] at hl
      match xs, hlen, cs, hl with
      | [y0, y1, y2], _, [v0, v1, v2], _ =>
        simp only [List.drop_zero, List.take_succ_cons, List.take_zero, List.drop_succ_cons, List.getElem?_cons_zero, List.getElem?_cons_succ] at e0 e1 e2
        obtain ⟨n0, h0, hy0, hw0⟩ := DataW.trod_int Tryz.underlying34 e0
        obtain ⟨l1, r1, s1⟩ := rel_bytes0 (d := y1.1) (ps := y1.2) e1
        obtain ⟨l2, r2, s2, t2⟩ := ih.2 v2 y2.1 y2.2 e2
        have hb := int_bounds hw0
        have hn : N n0.toNat = n0 := by
          have : (0 : Int) ≤ n0 := hb.1
          unfold N; omega
        have hle : n0 ≤ 65535 := hb.2
        refine ⟨.mk n0.toNat l1 l2, ?_, ?_, by rw [GNode.tyOk, t2]; simp; omega⟩
        · rw [nodeA_eq]
          simp only [List.cons.injEq, and_true] at h0
          subst h0
          have := Rel.val (w := W) (B := Old W) (bs := W.heap.size) (ρ := []) (.int .u16 (N n0.toNat))
          rw [hn] at this
          exact .cons (by show Rel _ _ _ _ (.val (.int .u16 (N n0.toNat))) _; rw [hn]; exact this) (.cons r1 (.cons r2 .nil))
        · have hd : d = .agg [y0.1, y1.1, y2.1] := congrArg Prod.fst hx
          rw [hd]
          have := bulk_one y0.1
          simp only [GNode.sz, Rows.uptoBulk, Rows.uptoBulkAll]
          omega
    · intro v d ps h
      rcases DataW.trod_slice Tryz.underlying26 h with ⟨h1, h2⟩ | ⟨a, len, cap, elems, rest, m, hm, h1, h2, _, hlc, hcm, hlen, hel, _, _⟩
      · simp only [List.cons.injEq, and_true] at h1
        subst h1
        refine ⟨[], by simpa [nodesA] using Rel.slE false 3 none 0, by simp [szs], rfl⟩
      · have hm' : m = fuel := by omega
        subst hm'
        simp only [List.cons.injEq, and_true] at h1
        subst h1
        rw [c3] at hel
        -- every element is a node
        have each : ∀ i (hi : i < elems.length), ∃ (n : GNode) (cs : List Value), cs.length = 3 ∧ (∀ j, j < 3 → W.cell? ((a.add (i * 3)).add j) = cs[j]?) ∧ RelL W (Old W) W.heap.size [] (nodeA false n).cells cs ∧ n.sz ≤ Rows.uptoBulk elems[i].1 ∧ n.tyOk = true := by
          intro i hi
          have hk := hel i (by omega)
          rw [List.getElem?_eq_getElem hi] at hk
          obtain ⟨cs, hcs, hy⟩ := Option.bind_eq_some_iff.1 hk
          obtain ⟨_, hl3, hcell⟩ := World.cells?_some hcs
          obtain ⟨n, r, s, tt⟩ := ih.1 cs elems[i].1 elems[i].2 hy
          exact ⟨n, cs, hl3, hcell, r, s, tt⟩
        cases hq : elems with
        | nil =>
          rw [hq] at hlen
          simp at hlen
          subst hlen
          exact ⟨[], by simpa [nodesA] using Rel.slE false 3 (some a) cap, by simp [szs], rfl⟩
        | cons x r =>
          have hpos : 0 < elems.length := by rw [hq]; simp
          obtain ⟨n0, cs0, hl0, hc0, _, _, _⟩ := each 0 hpos
          have hcell0 := hc0 0 (by omega)
          simp only [Nat.zero_mul] at hcell0
          rw [List.getElem?_eq_getElem (by omega)] at hcell0
          have hsp : a.spot = none := addr_of_cell (show W.cell? a = _ from hcell0)
          obtain ⟨b, o, sp⟩ := a
          simp only at hsp
          subst hsp
          have hblk : b < W.heap.size := by
            have := World.block_lt_of_cell? W _ hcell0
            simpa [Addr.add] using this
          have rows : ∀ k, k ≤ elems.length → ∃ l : List GNode, l.length = k ∧ RelRow W (Old W) W.heap.size [] false b 3 (o + (elems.length - k) * 3) (nodesA false l) ∧ szs l ≤ Rows.uptoBulkAll ((elems.drop (elems.length - k)).map (·.1)) ∧ tysOk l = true := by
            intro k
            induction k with
            | zero => exact fun _ => ⟨[], rfl, by simpa [nodesA] using RelRow.nil, by simp [szs], rfl⟩
            | succ k ihk =>
              intro hk
              obtain ⟨l, p1, p2, p3, p4⟩ := ihk (by omega)
              have hi : elems.length - (k + 1) < elems.length := by omega
              obtain ⟨n, cs, q1, q2, q3, q4, q5⟩ := each _ hi
              have hd : elems.drop (elems.length - (k + 1)) = elems[elems.length - (k + 1)] :: elems.drop (elems.length - k) := by
                rw [List.drop_eq_getElem_cons hi, show elems.length - (k + 1) + 1 = elems.length - k by omega]
              refine ⟨n :: l, by simp [p1], ?_, ?_, by rw [tysOk, q5, p4]; rfl⟩
              · rw [nodesA_cons]
                refine .cons (RelCells.mk (B := Old W) (bs := W.heap.size) (nw := false) hblk (fun h => by cases h) q3 (nodeA_one n) ?_) (by rw [nodeA_eq]; rfl) ?_
                · intro j v hj
                  have hj3 : j < 3 := by rw [← q1]; exact (List.getElem?_eq_some_iff.1 hj).1
                  have := q2 j hj3
                  rw [addr_add, addr_add] at this
                  rw [this, hj]
                · have e : o + (elems.length - (k + 1)) * 3 + 3 = o + (elems.length - k) * 3 := by omega
                  rw [e]; exact p2
              · rw [hd]
                simp only [szs, List.map_cons, Rows.uptoBulkAll]
                omega
          obtain ⟨l, p1, p2, p3, p4⟩ := rows elems.length (Nat.le_refl _)
          rw [Nat.sub_self] at p2 p3
          have hd : d = .slice (elems.map (·.1)) (rest.map (·.1)) := congrArg Prod.fst h2
          refine ⟨l, ?_, ?_, p4⟩
          · match l, p1 with
            | n :: l, p1 =>
              rw [nodesA_cons] at p2 ⊢
              have := Rel.sl (cap := cap) (by simpa using p2) (by rw [nodesA_len]; simp at p1; omega)
              rw [nodesA_len] at this
              have e : l.length + 1 = len := by simp at p1; omega
              rw [e] at this
              exact this
            | [], p1 => simp at p1; omega
          · rw [hd]
            simp only [Rows.uptoBulk, List.drop_zero] at *
            omega
set_option maxRecDepth 100000 in
/-- nodes, read -/
theorem rel_nodesT {r : Reach} {b0 : Nat} {v : Value} {d : DataW H} {ps : List MemPlace} (hval : Value.okWide Tryz.prog W r b0 26 v) (hd : DataW.Trod enc Tryz.prog W 0 (fun _ => true) true 26 v d ps) :
    ∃ l : List GNode, Rel W (Old W) W.heap.size [] (.sl false 3 (nodesA false l)) v ∧ szs l ≤ Rows.uptoBulk d ∧ tysOk l = true := by
  obtain ⟨A, len0, cap0, rfl⟩ := okWide_slice Tryz.underlying26 hval
  obtain ⟨fuel, hf⟩ := hd
  exact (rel_node0 fuel).2 _ d ps hf
set_option maxRecDepth 100000 in
theorem rel_nodes {r : Reach} {b0 : Nat} {v : Value} {d : DataW H} {ps : List MemPlace} (hval : Value.okWide Tryz.prog W r b0 26 v) (hd : DataW.Trod enc Tryz.prog W 0 (fun _ => true) true 26 v d ps) :
    ∃ l : List GNode, Rel W (Old W) W.heap.size [] (.sl false 3 (nodesA false l)) v ∧ szs l ≤ Rows.uptoBulk d := by
  obtain ⟨l, h1, h2, _⟩ := rel_nodesT hval hd; exact ⟨l, h1, h2⟩
set_option maxRecDepth 100000 in
/-- bytes, read -/
theorem rel_bytes {r : Reach} {b0 : Nat} {v : Value} {d : DataW H} {ps : List MemPlace} (hval : Value.okWide Tryz.prog W r b0 23 v) (hd : DataW.Trod enc Tryz.prog W 0 (fun _ => true) true 23 v d ps) :
    ∃ l : List UInt8, Rel W (Old W) W.heap.size [] (.sl false 1 (bys l)) v ∧ l.length ≤ Rows.uptoBulk d := by
  obtain ⟨A, len0, cap0, rfl⟩ := okWide_slice Tryz.underlying23 hval
  obtain ⟨fuel, hf⟩ := hd
  exact rel_bytes0 hf
end
end Go.Proofs.YtjbbkbpnagefoaaGreatDoor.C
/- What a datum of numbers and texts says of the cells that read as it. -/
set_option linter.unusedVariables false
set_option linter.unusedSimpArgs false
namespace Go.Proofs.YtjbbkbpnagefoaaGreatDoor.C
mutual
def flatD : DataW Unit → List Value
  | .lit (.int k n) => [.int k n]
  | .lit (.string s) => [.string ⟨s.toArray⟩]
  | .agg ps => flatDs ps
  | _ => []
def flatDs : List (DataW Unit) → List Value
  | [] => []
  | d :: r => flatD d ++ flatDs r
end
theorem flatDs_flatMap : ∀ l : List (DataW Unit), flatDs l = l.flatMap flatD
  | [] => rfl
  | d :: r => by rw [flatDs, flatDs_flatMap r, List.flatMap_cons]
section
variable {P : Program} {W : World}
/-- what reads as a datum is its cells -/
def Flat (P : Program) (W : World) (t : TypeId) : Prop := ∀ (fuel : Nat) (cs : List Value) (x : DataW Unit × List MemPlace), DataW.trod (fun _ => ()) P W 0 (fun _ => true) false fuel t cs = some x → cs = flatD x.1
theorem flat_int {t : TypeId} {k : IntKind} (h : P.underlying t = some (.int k)) : Flat P W t := by
  intro fuel cs x hx
  obtain ⟨n, rfl, rfl, _⟩ := DataW.trod_int h hx
  rfl
theorem flat_string {t : TypeId} (h : P.underlying t = some .string) : Flat P W t := by
  intro fuel cs x hx
  obtain ⟨s, rfl, rfl, _⟩ := DataW.trod_string h hx
  simp [flatD]
theorem blocks_flat (f : DataW Unit × List MemPlace → List Value) (m : Nat) : ∀ (xs : List (DataW Unit × List MemPlace)) (cs : List Value), cs.length = xs.length * m → (∀ i x, xs[i]? = some x → (cs.drop (i * m)).take m = f x) → cs = xs.flatMap f
  | [], cs, h, _ => by simpa using h
  | x :: r, cs, h, hk => by
    have h0 := hk 0 x rfl
    rw [Nat.zero_mul, List.drop_zero] at h0
    have ih := blocks_flat f m r (cs.drop m) (by rw [List.length_drop, h, List.length_cons, Nat.succ_mul]; omega) fun i y hy => by
      have := hk (i + 1) y hy
      rwa [Nat.succ_mul, Nat.add_comm, ← List.drop_drop] at this
    rw [List.flatMap_cons, ← h0, ← ih, List.take_append_drop]
theorem flat_of_parts {xs : List (DataW Unit × List MemPlace)} : flatD (.agg (xs.map (·.1))) = xs.flatMap fun x => flatD x.1 := by
  rw [flatD, flatDs_flatMap, List.flatMap_map]
theorem flat_array {t e : TypeId} {n : Nat} (ht : P.underlying t = some (.array n e)) (hc : P.cellsOf t = n * P.cellsOf e) (he : Flat P W e) : Flat P W t := by
  intro fuel cs x hx
  obtain ⟨xs, m, rfl, rfl, hl, hn, hk⟩ := DataW.trod_array ht hx
  show cs = flatD (.agg (xs.map (·.1)))
  rw [flat_of_parts]
  refine blocks_flat _ (P.cellsOf e) xs cs (by rw [hl, hc, hn]) fun i y hy => ?_
  have hi : i < n := by rw [← hn]; exact (List.getElem?_eq_some_iff.1 hy).1
  have := hk i hi
  rw [hy] at this
  exact he _ _ _ this
theorem flat_struct {t : TypeId} {fs : Array Field} (ht : P.underlying t = some (.struct fs)) (hc : P.cellsOf t = fs.size) (hf : ∀ (i : Nat) (f : Field), fs[i]? = some f → f.offset = i ∧ P.cellsOf f.type = 1 ∧ Flat P W f.type) : Flat P W t := by
  intro fuel cs x hx
  obtain ⟨xs, m, rfl, rfl, hl, hn, hk⟩ := DataW.trod_struct ht hx
  show cs = flatD (.agg (xs.map (·.1)))
  rw [flat_of_parts]
  refine blocks_flat _ 1 xs cs (by rw [hl, hc, hn, Nat.mul_one]) fun i y hy => ?_
  have hi : i < fs.size := by rw [← hn]; exact (List.getElem?_eq_some_iff.1 hy).1
  obtain ⟨h1, h2, h3⟩ := hf i fs[i] (Array.getElem?_eq_getElem hi)
  have := hk i fs[i] (Array.getElem?_eq_getElem hi)
  rw [hy, h1, h2] at this
  rw [Nat.mul_one]
  exact h3 _ _ _ this
/-- a listed variable's cells -/
theorem laid_cells {l : List (String × DataW Unit)} (h : laidMet P l W) {n : String} {d : DataW Unit} {g : Nat} {t : TypeId} {L : List Value} (hm : (n, d) ∈ l) (hg : P.globalNamed n = some g) (ht : (P.globals[g]?).map (·.type) = some t) (hf : Flat P W t) (hd : flatD d = L) :
    ∀ (i : Nat) (v : Value), L[i]? = some v → W.cell? ⟨g, i, none⟩ = some v := by
  obtain ⟨ps, hv, _⟩ := h
  have key : ∀ {l : List (String × DataW Unit)} {ps : List MemPlace}, DataW.LaidVars P W l ps → (n, d) ∈ l → ∃ cs fuel p, W.var? P n = some cs ∧ DataW.trod (fun _ => ()) P W 0 (fun _ => true) false fuel t cs.toList = some (d, p) := by
    intro l
    induction l with
    | nil => intro ps _ hm; cases hm
    | cons y r ih =>
      intro ps hv hm
      obtain ⟨g', t', cs, fuel, p, q, h1, h2, h3, h4, h5, _⟩ := hv
      rcases List.mem_cons.1 hm with e | e
      · cases e
        obtain rfl := Option.some.inj (hg.symm.trans h1)
        obtain rfl := Option.some.inj (ht.symm.trans h2)
        exact ⟨cs, fuel, p, h3, h4⟩
      · exact ih h5 e
  obtain ⟨cs, fuel, p, h1, h2⟩ := key hv hm
  have h3 : cs.toList = L := (hf _ _ _ h2).trans hd
  intro i v hi
  rw [World.var?_cell hg h1 i, ← Array.getElem?_toList, h3]
  exact hi
end
end Go.Proofs.YtjbbkbpnagefoaaGreatDoor.C
/- What the rows' list of package-level variables gives: the tables of kinds, the cell of errors.errorType; a world that meets the list. -/
set_option linter.unusedVariables false
set_option linter.unusedSimpArgs false
namespace Go.Proofs.YtjbbkbpnagefoaaGreatDoor.C
open Go.Abs Go.ChangeShapes Go.WideShapes Go.ChangeAt Go.RowKit
def laidL : List (String × DataW Unit) := [("errors.errorType", Rows.laid_errors_errorType), ("wharf/kind.table", Rows.laid_wharf_kind_table), ("wharf/kind.inside", Rows.laid_wharf_kind_inside)]
def etCells : List Value := [.iface 186 (.agg #[.pointer (some ⟨3, 92, none⟩)])]
theorem etG : Tryz.prog.globalNamed "errors.errorType" = some 2 := by kernel_rfl
theorem etRt : (Tryz.prog.cutTypes.find? (·.1 == "internal/reflectlite.rtype")).map (·.2) = some 186 := by kernel_rfl
theorem etRow : ((List.range Tryz.prog.types.size).filter fun t => Tryz.prog.rowNamed t [101, 114, 114, 111, 114]) = [92] := by kernel_rfl
theorem etHandle : typeHandle Tryz.prog 92 = .pointer (some ⟨3, 92, none⟩) := by kernel_rfl
theorem laid_parts {W : World} (h : laidMetH Tryz.prog laidL W) : laidMet Tryz.prog [("wharf/kind.table", Rows.laid_wharf_kind_table), ("wharf/kind.inside", Rows.laid_wharf_kind_inside)] W ∧ handlesMet Tryz.prog [("errors.errorType", Rows.laid_errors_errorType)] W := h
theorem handle_of_laid {W : World} (h : laidMetH Tryz.prog laidL W) : W.cell? ⟨2, 0, none⟩ = some (.iface 186 (.agg #[.pointer (some ⟨3, 92, none⟩)])) := by
  have h' := laid_parts h
  obtain ⟨name, u, ty, e1, e2, e3, e4, e5⟩ := h'.2 _ (List.mem_singleton.2 rfl)
  have en : name = [101, 114, 114, 111, 114] := (Option.some.inj e1).symm
  subst en
  obtain rfl := Option.some.inj (etRt.symm.trans e2)
  have hm : ty ∈ (List.range Tryz.prog.types.size).filter fun t => Tryz.prog.rowNamed t [101, 114, 114, 111, 114] := List.mem_filter.2 ⟨List.mem_range.2 e3, e4⟩
  rw [etRow] at hm
  obtain rfl := List.mem_singleton.1 hm
  rw [etHandle] at e5
  simpa using World.var?_cell etG e5 0
theorem cell_lt {W : World} {b i : Nat} {v : Value} (h : W.cell? ⟨b, i, none⟩ = some v) : b < W.heap.size := by
  rcases Nat.lt_or_ge b W.heap.size with h' | h'
  · exact h'
  · simp [World.cell?, Array.getElem?_eq_none h'] at h
theorem flat_kinds (W : World) : Flat Tryz.prog W 137 := by
  have h1 : Flat Tryz.prog W 5 := flat_int Tryz.underlying5
  have h2 : Flat Tryz.prog W 3 := flat_int Tryz.underlying3
  have h3 : Flat Tryz.prog W 9 := flat_string Tryz.underlying9
  refine flat_array Tryz.underlying137 (by kernel_rfl) (flat_struct Tryz.underlying110 (by kernel_rfl) fun i f hf => ?_)
  match i, hf with
  | 0, hf => simp at hf; subst hf; exact ⟨rfl, by kernel_rfl, h1⟩
  | 1, hf => simp at hf; subst hf; exact ⟨rfl, by kernel_rfl, h3⟩
  | 2, hf => simp at hf; subst hf; exact ⟨rfl, by kernel_rfl, h1⟩
  | 3, hf => simp at hf; subst hf; exact ⟨rfl, by kernel_rfl, h2⟩
  | 4, hf => simp at hf; subst hf; exact ⟨rfl, by kernel_rfl, h2⟩
  | 5, hf => simp at hf; subst hf; exact ⟨rfl, by kernel_rfl, h2⟩
  | 6, hf => simp at hf; subst hf; exact ⟨rfl, by kernel_rfl, h2⟩
  | i + 7, hf => simp at hf
theorem flat_inside (W : World) : Flat Tryz.prog W 140 :=
  flat_array Tryz.underlying140 (by kernel_rfl) (flat_array Tryz.underlying139 (by kernel_rfl) (flat_int Tryz.underlying3))
theorem cells_table {W : World} (h : laidMetH Tryz.prog laidL W) : GlobC W 0 kcells :=
  laid_cells (laid_parts h).1 (.head _) (by kernel_rfl) (by kernel_rfl) (flat_kinds W) (by kernel_rfl)
theorem cells_inside {W : World} (h : laidMetH Tryz.prog laidL W) : GlobC W 1 icells :=
  laid_cells (laid_parts h).1 (.tail _ (.head _)) (by kernel_rfl) (by kernel_rfl) (flat_inside W) (by kernel_rfl)
theorem cells_et {W : World} (h : laidMetH Tryz.prog laidL W) : GlobC W 2 etCells := by
  intro i v hi
  match i with
  | 0 => simp [etCells] at hi; subst hi; exact handle_of_laid h
  | i + 1 => simp [etCells] at hi
theorem glb_eq : glb = [(0, kcells), (1, icells), (2, etCells)] := by kernel_rfl
theorem globs_of_laid {W : World} (h : laidMetH Tryz.prog laidL W) : Globs W (Old W) [] := by
  intro p hp
  rw [glb_eq] at hp
  simp only [List.mem_cons, List.not_mem_nil, or_false] at hp
  rcases hp with rfl | rfl | rfl
  · exact ⟨cell_lt (cells_table h 0 _ rfl), fun v hv => (by cases hv), cells_table h⟩
  · exact ⟨cell_lt (cells_inside h 0 _ rfl), fun v hv => (by cases hv), cells_inside h⟩
  · exact ⟨cell_lt (handle_of_laid h), fun v hv => (by cases hv), cells_et h⟩
def setCells (cs : List Value) : Obj → Obj
  | .cells _ t frozen => .cells cs.toArray t frozen
  | o => o
noncomputable def laidWorld (os : Os) : World :=
  let w0 := World.holding Tryz.prog os ⟨#[], #[], []⟩
  { w0 with heap := ((w0.heap.modify 0 (setCells kcells)).modify 1 (setCells icells)).modify 2 (setCells etCells) }
theorem laid_met (os : Os) (args : Array Value) : laidMetH Tryz.prog laidL ((laidWorld os).forCall (fun _ _ => 0) ⟨#[], args, []⟩).memory :=
  laidMetH_of_parts (laidMet_of_run' 8 (by kernel_rfl) (by kernel_rfl)) (by kernel_rfl)
end Go.Proofs.YtjbbkbpnagefoaaGreatDoor.C
/- Chunks, read. -/
set_option linter.unusedVariables false
set_option linter.unusedSimpArgs false
namespace Go.Proofs.YtjbbkbpnagefoaaGreatDoor.C
open Go.Abs Go.ChangeShapes Go.WideShapes Go.ChangeAt Go.RowKit
section
variable {H : Type} {enc : TypeId × Value → H} {W : World}
theorem chunk_fields : ∃ f0 f1 f2 f3 : Field, Tryz.prog.underlying 28 = some (.struct #[f0, f1, f2, f3]) ∧ f0.type = 5 ∧ f0.offset = 0 ∧ f1.type = 5 ∧ f1.offset = 1 ∧ f2.type = 23 ∧ f2.offset = 2 ∧ f3.type = 26 ∧ f3.offset = 3 :=
  ⟨_, _, _, _, Tryz.underlying28, rfl, rfl, rfl, rfl, rfl, rfl, rfl, rfl⟩
theorem val_u8 {n : Int} (h : (Lit.int .u8 n).wf = true) : ∃ m : Nat, m < 256 ∧ Rel W (Old W) W.heap.size [] (u8 m) (.int .u8 n) := by
  obtain ⟨m, rfl, hm⟩ := u8_of h
  exact ⟨m, hm, .val _⟩
set_option maxRecDepth 100000 in
/-- a chunk, read -/
theorem rel_chunk {r : Reach} {b0 : Nat} {v : Value} {d : DataW H} {ps : List MemPlace} (hval : Value.okWide Tryz.prog W r b0 28 v) (hd : DataW.Trod enc Tryz.prog W 0 (fun _ => true) true 28 v d ps) :
    ∃ c : GChunk, Rel W (Old W) W.heap.size [] (chunkA false c) v ∧ (c.ty < 256 ∧ c.flags < 256 ∧ tysOk c.kids = true) ∧ c.data.length + szs c.kids ≤ Rows.uptoBulk d := by
  have c8 : Tryz.prog.cellsOf 5 = 1 := by kernel_rfl
  have cb : Tryz.prog.cellsOf 23 = 1 := by kernel_rfl
  have cn : Tryz.prog.cellsOf 26 = 1 := by kernel_rfl
  have c4 : Tryz.prog.cellsOf 28 = 4 := by kernel_rfl
  obtain ⟨f0, f1, f2, f3, hs, a0, b0, a1, b1, a2, b2, a3, b3⟩ := chunk_fields
  obtain ⟨cs, rfl, _⟩ := okWide_struct hs hval
  obtain ⟨fuel, hf⟩ := hd
  obtain ⟨xs, m, rfl, hx, hl, hlen, hall⟩ := DataW.trod_struct hs hf
  have e0 := hall 0 f0 rfl
  have e1 := hall 1 f1 rfl
  have e2 := hall 2 f2 rfl
  have e3 := hall 3 f3 rfl
  rw [a0, b0, c8] at e0
  rw [a1, b1, c8] at e1
  rw [a2, b2, cb] at e2
  rw [a3, b3, cn] at e3
  rw [c4] at hl
  obtain ⟨cs⟩ := cs
  match xs, hlen, cs, hl with
  | [y0, y1, y2, y3], _, [v0, v1, v2, v3], _ =>
    simp only [Value.cells, List.drop_zero, List.take_succ_cons, List.take_zero, List.drop_succ_cons, List.getElem?_cons_zero, List.getElem?_cons_succ] at e0 e1 e2 e3
    obtain ⟨n0, h0, hy0, hw0⟩ := DataW.trod_int Tryz.underlying5 e0
    obtain ⟨n1, h1, hy1, hw1⟩ := DataW.trod_int Tryz.underlying5 e1
    obtain ⟨l2, r2, s2⟩ := rel_bytes0 (d := y2.1) (ps := y2.2) e2
    obtain ⟨l3, r3, s3, t3⟩ := (rel_node0 m).2 v3 y3.1 y3.2 e3
    obtain ⟨m0, z0, q0⟩ := val_u8 (W := W) hw0
    obtain ⟨m1, z1, q1⟩ := val_u8 (W := W) hw1
    simp only [List.cons.injEq, and_true] at h0 h1
    subst h0; subst h1
    refine ⟨⟨m0, m1, l2, l3⟩, ?_, ⟨z0, z1, t3⟩, ?_⟩
    · exact Rel.agg (l := [u8 m0, u8 m1, .sl false 1 (bys l2), .sl false 3 (nodesA false l3)]) (.cons q0 (.cons q1 (.cons r2 (.cons r3 .nil))))
    · have hd : d = .agg [y0.1, y1.1, y2.1, y3.1] := congrArg Prod.fst hx
      rw [hd]
      simp only [Rows.uptoBulk, Rows.uptoBulkAll]
      omega
end
end Go.Proofs.YtjbbkbpnagefoaaGreatDoor.C
