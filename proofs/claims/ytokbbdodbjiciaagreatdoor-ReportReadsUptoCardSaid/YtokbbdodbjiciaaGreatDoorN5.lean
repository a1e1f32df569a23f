/- report.Chunk, report.Param and those of the reference; packet.Check of an answer. -/
import Derived.Test.YtokbbdodbjiciaaGreatDoorN4
import Derived.WalkKit
import Derived.ProofKit
import Derived.OpenShut
import Derived.JoinedCond
import Derived.Carry
import Derived.ChangeSlices
import Derived.Test.YtokbbdodbjiciaaGreatDoorRows
import Derived.Deep.Strs
import Derived.LaidLaws
import Derived.LaidHandle
import Derived.Stop.Joined
import Derived.Test.YtokbbdodbjiciaaGreatDoorCards
import Derived.Test.YtokbbdodbjiciaaGreatDoorTie
import Derived.Deep.DeepHandedRow
set_option linter.unusedVariables false
set_option linter.unusedSimpArgs false
namespace Go.Proofs.YtokbbdodbjiciaaGreatDoor.C
open Go.Abs
theorem sz_data (n : GNode) : n.data.length ≤ n.sz := by rw [n.sz_eq]; omega
theorem chunk25_no {n : GNode} (h : (n.ty == 6 && checkN 2 1 n == 0) = false) : chunk25 n = (.zero, false) := by unfold chunk25; rw [h]; rfl
theorem chunk25_yes {n : GNode} (h : (n.ty == 6 && checkN 2 1 n == 0) = true) : chunk25 n = ((parseC n.data).1, (parseC n.data).2.isOk) := by unfold chunk25; rw [h]; rfl
theorem param25_no {n : GNode} (h : (n.ty == 8 && checkN 1 1 n == 0) = false) : param25 n = (.zero, false) := by unfold param25; rw [h]; rfl
theorem param25_ok {n : GNode} (h : (n.ty == 8 && checkN 1 1 n == 0) = true) : param25 n = (n.kids.headD default, true) := by unfold param25; rw [h]; rfl
theorem odd_cond (t k z : Nat) : (t != k || z != 0) = !(t == k && z == 0) := by
  rw [Bool.eq_iff_iff]; simp
theorem odd_no {t k z : Nat} (h : (t != k || z != 0) = true) : (t == k && z == 0) = false := by rw [odd_cond] at h; revert h; cases (t == k && z == 0) <;> simp
theorem odd_yes {t k z : Nat} (h : (t != k || z != 0) = false) : (t == k && z == 0) = true := by rw [odd_cond] at h; revert h; cases (t == k && z == 0) <;> simp
theorem rchunk25_c (n : GNode) (hs : n.sz ≤ 2 ^ 26) : PC Tryz.prog 12 [nodeA false n] (.tup [chunkA true (chunk25 n).1, bool (chunk25 n).2]) := by
  have hz := nSize_sz n
  have hd := sz_data n
  have kc := check_c 2 n (.inr rfl) (by omega)
  have kp := cparse_c n.data (by omega)
  have hno := chunk25_no (n := n)
  have hyes := chunk25_yes (n := n)
  generalize chunk25 n = R at hno hyes
  obtain ⟨e, he⟩ : ∃ e, checkN 2 1 n = e := ⟨_, rfl⟩
  rw [he] at kc hno hyes
  generalize parseC n.data = X at kp hyes
  obtain ⟨X1, X2⟩ := X
  simp only at kp hyes
  refine PC.of_bodyK (by simp only [push_cast]) Tryz.func12 rfl (by rw [Tryz.ntmps12]; simp) ?_
  refine AWp.regionW ?_
  refine AWp.seqK fun K1 hK1 => ?_
  refine AWp.regionA fun K2 hK2 => ?_
  refine ARun.segm 4 fun KS hKS => ?_
  refine ARun2.endm (hKS _ ?_); clear hKS KS
  apply ARun.grpM 3 3 false 12 [1, 2, 9]
  · intro g3 KG hKG
    refine ARun2.gom ?_
    refine ARun2.callM (kc) ?_
    exact ARun2.endm (hKG _ Le.grpM)
  refine ARun2.gom ?_
  refine ARun2.endm (hK2 _ ?_)
  refine AWp.condLM (fun c0 => ?_) (fun c0 => ?_)
  · skip
    have h : R = (.zero, false) := hno (odd_no c0)
    refine AWp.regionW ?_
    refine AWp.ret ?_
    try simp only [thenQ, blockQ, noGo]
    refine bodyQ.m ?_
    clear hK2 K2 hK1 K1
    rw [h]
    try simp only [GChunk.zero]
    first | done | exact Wk.go
  have h : R = (X1, X2.isOk) := hyes (odd_yes c0)
  refine AWp.skip ?_
  refine hK1 _ ?_
  refine AWp.regionM fun K3 hK3 => ?_
  refine ARun2.callM (kp) ?_
  refine ARun2.endm (hK3 _ ?_)
  refine AWp.drS [] fun G hG => ?_
  refine Dr.finZM 5 [2, 4, 5] hG Facts.mixed fun KD hKD => ?_
  clear hG G
  refine AAny.first 1 ?_
  refine ARun.opM ?_
  refine ARun2.endm ?_
  refine AAny.two 0 2 ?_ ?_
  ·
    refine ARun.opM ?_
    refine ARun2.endm ?_
    refine AAny.two 2 3 ?_ ?_
    ·
      refine ARun.opM ?_
      refine ARun2.endm ?_
      refine AAny.one 3 ?_
      refine ARun.opM ?_
      refine ARun2.endm ?_
      refine AAny.one 4 ?_
      refine ARun.opM ?_
      refine ARun2.endm ?_
      refine AAny.fin (hKD _ ?_); clear hKD KD
      refine AWp.ret ?_
      try simp only [thenQ, blockQ, noGo]
      refine bodyQ.m ?_
      clear hK3 K3 hK2 K2 hK1 K1
      rw [h]
      try simp only [GChunk.zero]
      first | done | exact Wk.go
    ·
      refine ARun.opM ?_
      refine ARun2.endm ?_
      refine AAny.one 2 ?_
      refine ARun.opM ?_
      refine ARun2.endm ?_
      refine AAny.one 4 ?_
      refine ARun.opM ?_
      refine ARun2.endm ?_
      refine AAny.fin (hKD _ ?_); clear hKD KD
      refine AWp.ret ?_
      try simp only [thenQ, blockQ, noGo]
      refine bodyQ.m ?_
      clear hK3 K3 hK2 K2 hK1 K1
      rw [h]
      try simp only [GChunk.zero]
      first | done | exact Wk.go
  ·
    refine ARun.opM ?_
    refine ARun2.endm ?_
    refine AAny.one 0 ?_
    refine ARun.opM ?_
    refine ARun2.endm ?_
    refine AAny.one 3 ?_
    refine ARun.opM ?_
    refine ARun2.endm ?_
    refine AAny.one 4 ?_
    refine ARun.opM ?_
    refine ARun2.endm ?_
    refine AAny.fin (hKD _ ?_); clear hKD KD
    refine AWp.ret ?_
    try simp only [thenQ, blockQ, noGo]
    refine bodyQ.m ?_
    clear hK3 K3 hK2 K2 hK1 K1
    rw [h]
    try simp only [GChunk.zero]
    first | done | exact Wk.go
theorem rrchunk25_c (n : GNode) (hs : n.sz ≤ 2 ^ 26) : PC Tryz.prog 13 [nodeA false n] (.tup [chunkA false (chunk25 n).1, bool (chunk25 n).2]) := by
  have hz := nSize_sz n
  have hd := sz_data n
  have kc := check08_c 2 1 n (.inr rfl) (by decide) (by omega)
  have kp := rparse12_c n.data (by omega)
  have hno := chunk25_no (n := n)
  have hyes := chunk25_yes (n := n)
  have hok := parse_isOk n.data
  generalize chunk25 n = R at hno hyes
  obtain ⟨e, he⟩ : ∃ e, checkN 2 1 n = e := ⟨_, rfl⟩
  rw [he] at kc hno hyes
  generalize parseC n.data = X at kp hyes hok
  obtain ⟨X1, X2⟩ := X
  simp only at kp hyes hok
  generalize X2.codeOf.1 = z at kp hok
  rw [← hok] at hyes
  refine PC.of_bodyW (by simp only [push_cast]) Tryz.func13 rfl (by rw [Tryz.ntmps13]; simp) ?_
  refine AWp.regionW ?_
  refine AWp.seqK fun K1 hK1 => ?_
  refine AWp.regionA fun K2 hK2 => ?_
  refine ARun.segm 4 fun KS hKS => ?_
  refine ARun2.endm (hKS _ ?_); clear hKS KS
  apply ARun.grpM 3 3 false 13 [1, 2, 10]
  · intro g3 KG hKG
    refine ARun2.gom ?_
    refine ARun2.callM (kc) ?_
    exact ARun2.endm (hKG _ Le.grpM)
  refine ARun2.gom ?_
  refine ARun2.endm (hK2 _ ?_)
  refine AWp.condLM (fun c0 => ?_) (fun c0 => ?_)
  · skip
    have h : R = (.zero, false) := hno (odd_no c0)
    refine AWp.regionW ?_
    refine AWp.ret ?_
    try simp only [thenQ, blockQ, noGo]
    refine bodyQ.m ?_
    clear hK2 K2 hK1 K1
    rw [h]
    try simp only [GChunk.zero]
    first | done | exact Hand.go
  have h : R = (X1, z == 0) := hyes (odd_yes c0)
  refine AWp.skip ?_
  refine hK1 _ ?_
  refine AWp.regionM fun K3 hK3 => ?_
  refine ARun2.callM (kp) ?_
  refine ARun2.endm (hK3 _ ?_)
  refine AWp.regionW ?_
  refine AWp.ret ?_
  try simp only [thenQ, blockQ, noGo]
  refine bodyQ.m ?_
  clear hK3 K3 hK2 K2 hK1 K1
  rw [h]
  try simp only [GChunk.zero]
  first | done | exact Hand.go
theorem rparam25_c (n : GNode) (hs : n.sz ≤ 2 ^ 26) : PC Tryz.prog 14 [nodeA false n] (.tup [nodeA true (param25 n).1, bool (param25 n).2]) := by
  have hz := nSize_sz n
  have kc := check_c 1 n (.inl rfl) (by omega)
  have hno := param25_no (n := n)
  have hyes := param25_ok (n := n)
  have hk : (n.ty == 8 && checkN 1 1 n == 0) = true → 0 < n.kids.length ∧ (n.kids.headD default).sz ≤ 2 ^ 26 := by
    intro h
    simp only [Bool.and_eq_true, beq_iff_eq] at h
    have h1 := (wrap_ok h.2 h.1).1
    obtain ⟨k, hk⟩ := List.length_eq_one_iff.1 h1
    have : k ∈ n.kids := by rw [hk]; simp
    have := szs_lt this
    refine ⟨by omega, ?_⟩
    rw [hk]; show k.sz ≤ _; omega
  generalize param25 n = R at hno hyes
  obtain ⟨e, he⟩ : ∃ e, checkN 1 1 n = e := ⟨_, rfl⟩
  rw [he] at kc hno hyes hk
  refine PC.of_bodyK (by simp only [push_cast]) Tryz.func14 rfl (by rw [Tryz.ntmps14]; simp) ?_
  refine AWp.regionW ?_
  refine AWp.seqK fun K1 hK1 => ?_
  refine AWp.regionA fun K2 hK2 => ?_
  refine ARun.segm 4 fun KS hKS => ?_
  refine ARun2.endm (hKS _ ?_); clear hKS KS
  apply ARun.grpM 3 3 false 10 [1, 2, 7]
  · intro g3 KG hKG
    refine ARun2.gom ?_
    refine ARun2.callM (kc) ?_
    exact ARun2.endm (hKG _ Le.grpM)
  refine ARun2.gom ?_
  refine ARun2.endm (hK2 _ ?_)
  refine AWp.condLM (fun c0 => ?_) (fun c0 => ?_)
  · skip
    have h : R = (.zero, false) := hno (odd_no c0)
    refine AWp.regionW ?_
    refine AWp.ret ?_
    try simp only [thenQ, blockQ, noGo]
    refine bodyQ.m ?_
    clear hK2 K2 hK1 K1
    rw [h]
    try simp only [GNode.zero]
    first | done | exact Wk.go
  have hb : (n.ty == 8 && e == 0) = true := odd_yes c0
  have h := hyes hb
  obtain ⟨hk1, hk2⟩ := hk hb
  refine AWp.skip ?_
  refine hK1 _ ?_
  refine AWp.regionM fun K3 hK3 => ?_
  refine ARun2.indexM (0) (nodeA false (n.kids.headD default)) ?_ ?_
  · exact nodesA_head false _ hk1
  refine ARun2.callM (nclone_f (n.kids.headD default) (by omega)) ?_
  refine ARun2.endm (hK3 _ ?_)
  refine AWp.ret ?_
  try simp only [thenQ, blockQ, noGo]
  refine bodyQ.m ?_
  clear hK3 K3 hK2 K2 hK1 K1
  rw [h]
  try simp only [GNode.zero]
  first | done | exact Wk.go
theorem ltypes_c (l : List GChunk) (hl : l.length ≤ 2 ^ 30) : PC Tryz.prog 151 [.sl false 4 (chunksA false l)] (.sl true 1 (u8s (l.map GChunk.ty))) := by
  refine PC.of_bodyK (by simp only [push_cast]) Tryz.func151 rfl (by rw [Tryz.ntmps151]; simp) ?_
  refine AWp.regionW ?_
  refine AWp.regionW ?_
  refine AWp.seqK fun K1 hK1 => ?_
  refine AWp.regionW ?_
  refine AWp.block ?_
  -- SLOTS THAT TURN AND ARE NOT TOLD: [3]
  refine AWp.nilOwn 3 5 1 (by simp only [push_cast, ↓reduceIte, Nat.reduceEqDiff, Nat.reduceLT, Nat.reduceAdd, Nat.reduceSub, Nat.reduceMul, Nat.reduceLeDiff, Nat.reducePow, Int.reduceLT, Int.reduceToNat, reduceCtorEq, Int.reduceNeg, Int.reduceEq, Nat.reduceBEq, Nat.reduceBNe, Int.reduceBEq, Int.reduceBNe, String.reduceEq]) ?_
  refine Go.Abs.evS2 ?_
  refine AWp.loopK [3, 6, 7] (fun (i : Nat) => [(8, nat i)]) (fun i => [.row 5 1 (u8s ((l.take i).map GChunk.ty))]) (fun i => i ≤ l.length) (fun i => l.length - i) (0) ?_ (Nat.zero_le _) ?_
  · skip
    refine Le.m 1 ?_ ?_
    · first | exact Go.Abs.evM | (refine Go.Abs.evS ?_; rfl)
    · exact Go.Abs.evN
  · intro i hi K2 hK2
    refine AWp.regionW ?_
    refine AWp.seqK fun K3 hK3 => ?_
    refine AWp.condLM (fun c0 => ?_) (fun c0 => ?_)
    · skip
      have hil : i < l.length := by simpa using c0
      have hat := chunksA_at false l i hil
      refine AWp.skip ?_
      refine hK3 _ ?_
      refine AWp.seqK fun K4 hK4 => ?_
      refine AWp.block ?_
      refine AWp.regionM fun K5 hK5 => ?_
      refine ARun2.indexM (i) (chunkA false l[i]) ?_ ?_
      · exact hat
      refine ARun2.endm (hK5 _ ?_)
      refine AWp.regionN fun K6 hK6 => ?_
      refine ARun2.appendM ?_ ?_ ?_
      · rw [Facts.eb23]; simp [u8s]; omega
      · simp [u8s]; omega
      refine ARun2.endm (hK6 _ ?_)
      refine hK4 _ ?_
      refine AWp.regionV ?_
      refine hK2 _ (i + 1) (hil) (by omega) ?_
      refine Le.m 1 ?_ ?_
      · first | exact Go.Abs.evM | (refine Go.Abs.evS ?_; simp [u8s]; rw [List.take_succ_eq_append_getElem (by simpa using hil)]; simp)
      · exact Go.Abs.evN
    have hil : i = l.length := by simp at c0; omega
    subst hil
    rw [List.take_length]
    refine AWp.exit ?_
    try simp only [thenQ, blockQ, noGo, reduceIte, Nat.reduceEqDiff]
    refine hK1 _ ?_
    refine AWp.pubD 0 ?_
    refine AWp.regionW ?_
    refine AWp.ret ?_
    try simp only [thenQ, blockQ, noGo]
    refine bodyQ.m ?_
    clear hK3 K3 hK2 K2 hK1 K1
    first | done | exact Wk.go
theorem lmay_c (t : Nat) : PC Tryz.prog 189 [u8 t, .sl false 1 []] (bool true) := by
  refine PC.of_bodyW (by simp only [push_cast]) Tryz.func189 rfl (by rw [Tryz.ntmps189]; simp) ?_
  refine AWp.regionW ?_
  refine AWp.regionW ?_
  refine AWp.regionW ?_
  refine AWp.seqK fun K1 hK1 => ?_
  refine AWp.block ?_
  refine AWp.regionW ?_
  refine AWp.condT ?_
  refine AWp.regionW ?_
  refine AWp.ret ?_
  try simp only [thenQ, blockQ, noGo]
  refine bodyQ.m ?_
  clear hK1 K1
  first | done | exact Hand.go
@[push_cast] theorem u8s_take25 (l : List Nat) (k : Nat) : (u8s l).take k = u8s (l.take k) := by simp [u8s]
theorem lfirst_c (t : Nat) (l : List Nat) (hl : l = [t]) : PC Tryz.prog 173 [.sl false 1 (u8s l)] (.val (.int .i64 (-1))) := by
  have hl1 : l.length = 1 := by rw [hl]; rfl
  refine PC.of_bodyW (by simp only [push_cast]) Tryz.func173 rfl (by rw [Tryz.ntmps173]; simp) ?_
  refine AWp.regionW ?_
  refine AWp.scope ?_
  refine AWp.regionW ?_
  refine AWp.seq (AWp.label ?_)
  refine AWp.seqK fun K1 hK1 => ?_
  refine AWp.regionW ?_
  refine AWp.block ?_
  -- SLOTS THAT TURN AND ARE NOT TOLD: [3]
  refine AWp.loopK0 [0, 3, 6, 7] (fun (i : Nat) => [(8, nat i)]) (fun i => i ≤ 1) (fun i => 1 - i) (0) ?_ (Nat.zero_le _) ?_
  · skip
    refine Le.m 0 ?_ ?_
    · exact Go.Abs.evM
    · exact Go.Abs.evN
  · intro i hi K2 hK2
    refine AWp.regionW ?_
    refine AWp.seqK fun K3 hK3 => ?_
    refine AWp.condLM (fun c0 => ?_) (fun c0 => ?_)
    · skip
      have hil : i = 0 := by have := hl1; simp at c0; omega
      have hm : PC Tryz.prog 189 [u8 t, .sl false 1 (u8s (l.take i))] (bool true) := by rw [hil]; exact lmay_c t
      refine AWp.skip ?_
      refine hK3 _ ?_
      refine AWp.seqK fun K4 hK4 => ?_
      refine AWp.block ?_
      refine AWp.regionM fun K5 hK5 => ?_
      refine ARun2.indexM (i) (u8 t) ?_ ?_
      · rw [hil, hl]; rfl
      refine ARun2.endm (hK5 _ ?_)
      refine AWp.block ?_
      refine AWp.regionM fun K6 hK6 => ?_
      refine ARun2.sliceHiM (i) ?_ ?_
      · simp [u8s]; omega
      refine ARun2.callM (hm) ?_
      refine ARun2.endm (hK6 _ ?_)
      refine AWp.condF ?_
      refine AWp.skip ?_
      refine hK4 _ ?_
      refine AWp.regionV ?_
      refine hK2 _ (i + 1) (by omega) (by omega) ?_
      refine Le.m 0 ?_ ?_
      · exact Go.Abs.evM
      · exact Go.Abs.evN
    refine AWp.exit ?_
    try simp only [thenQ, blockQ, noGo, reduceIte, Nat.reduceEqDiff]
    refine hK1 _ ?_
    refine AWp.regionW ?_
    refine AWp.ret ?_
    try simp only [thenQ, blockQ, noGo]
    refine bodyQ.m ?_
    clear hK3 K3 hK2 K2 hK1 K1
    first | done | exact Hand.go
theorem llegal_c (t : Nat) : PC Tryz.prog 150 [.sl false 1 [u8 t]] (bool true) := by
  refine PC.of_bodyW (by simp only [push_cast]) Tryz.func150 rfl (by rw [Tryz.ntmps150]; simp) ?_
  refine AWp.regionW ?_
  refine AWp.regionA fun K1 hK1 => ?_
  refine ARun.segm 4 fun KS hKS => ?_
  refine ARun2.endm (hKS _ ?_); clear hKS KS
  apply ARun.grpM 3 3 true 9 [6]
  · intro g3 KG hKG
    refine ARun2.gom ?_
    refine ARun2.callM (lfirst_c t [t] rfl) ?_
    exact ARun2.endm (hKG _ Le.grpM)
  refine ARun2.gom ?_
  refine ARun2.endm (hK1 _ ?_)
  refine AWp.ret ?_
  try simp only [thenQ, blockQ, noGo]
  refine bodyQ.m ?_
  clear hK1 K1
  first | done | exact Hand.go
theorem tagged_c (p : GPkt) (c : GChunk) (h : p.l = [c]) (ht : c.ty = 9) : PC Tryz.prog 152 [pktA false p] (bool false) := by
  obtain ⟨src, dst, tag, l⟩ := p
  obtain rfl : l = [c] := h
  obtain ⟨ty, fl, d, k⟩ := c
  obtain rfl : ty = 9 := ht
  refine PC.of_bodyW (by simp only [push_cast]) Tryz.func152 rfl (by rw [Tryz.ntmps152]; simp) ?_
  refine AWp.regionW ?_
  refine AWp.regionA fun K1 hK1 => ?_
  refine ARun.segm 5 fun KS hKS => ?_
  refine ARun2.endm (hKS _ ?_); clear hKS KS
  apply ARun.grpM 6 4 true 13 [1, 7]
  · intro g4 KG hKG
    refine ARun2.gom ?_
    refine ARun2.indexM (0) (chunkA false ⟨9, fl, d, k⟩) ?_ ?_
    · rfl
    exact ARun2.endm (hKG _ Le.grpM)
  refine ARun.segm 2 fun KS hKS => ?_
  refine ARun2.endm (hKS _ ?_); clear hKS KS
  apply ARun.grpM 4 12 true 19 [15]
  · intro g12 KG hKG
    refine ARun2.gom ?_
    exact ARun2.endm (hKG _ Le.grpM)
  refine ARun2.gom ?_
  refine ARun2.endm (hK1 _ ?_)
  refine AWp.ret ?_
  try simp only [thenQ, blockQ, noGo]
  refine bodyQ.m ?_
  clear hK1 K1
  first | done | exact Hand.go
theorem pcheck_c (p : GPkt) (c : GChunk) (h : p.l = [c]) (ht : c.ty = 9) (hc : checkC c = 0) (hs : Small c) : PC Tryz.prog 116 [pktA false p] (.val .nilIface) := by
  have k3 := tagged_c p c h ht
  have k1 := hs.check
  rw [hc] at k1
  have k2 := ltypes_c [c] (by simp)
  rw [show u8s ([c].map GChunk.ty) = [u8 9] by simp [u8s, ht]] at k2
  have k4 := llegal_c 9
  obtain ⟨src, dst, tag, l⟩ := p
  obtain rfl : l = [c] := h
  refine PC.of_bodyW (by simp only [push_cast]) Tryz.func116 rfl (by rw [Tryz.ntmps116]; simp) ?_
  refine AWp.regionW ?_
  refine AWp.seqK fun K1 hK1 => ?_
  refine AWp.regionW ?_
  refine AWp.condF ?_
  refine AWp.skip ?_
  refine hK1 _ ?_
  refine AWp.seqK fun K2 hK2 => ?_
  refine AWp.regionW ?_
  refine AWp.block ?_
  refine AWp.loopK [1, 12, 13] (fun (i : Nat) => [(14, nat i)]) (fun i => [.box 43 [u16 src, u16 dst, u32 tag, .sl false 4 (chunksA false [c])]]) (fun i => i ≤ 1) (fun i => 1 - i) (0) ?_ (Nat.zero_le _) ?_
  · skip
    refine Le.m 1 ?_ ?_
    · first | exact Go.Abs.evM | (refine Go.Abs.evS ?_; try rfl)
    · exact Go.Abs.evN
  · intro i hi K3 hK3
    refine AWp.regionW ?_
    refine AWp.seqK fun K4 hK4 => ?_
    refine AWp.condLM (fun c1 => ?_) (fun c1 => ?_)
    · skip
      have hil : i = 0 := by simp at c1; omega
      refine AWp.skip ?_
      refine hK4 _ ?_
      refine AWp.seqK fun K5 hK5 => ?_
      refine AWp.block ?_
      refine AWp.regionM fun K6 hK6 => ?_
      refine ARun2.indexM (i) (chunkA false c) ?_ ?_
      · rw [hil]; rfl
      refine ARun2.endm (hK6 _ ?_)
      refine AWp.regionM fun K7 hK7 => ?_
      refine ARun2.callM (k1) ?_
      refine ARun2.endm (hK7 _ ?_)
      refine AWp.regionW ?_
      refine AWp.condF ?_
      refine AWp.skip ?_
      refine hK5 _ ?_
      refine AWp.regionV ?_
      refine hK3 _ (i + 1) (by omega) (by omega) ?_
      refine Le.m 1 ?_ ?_
      · exact Go.Abs.evM
      · exact Go.Abs.evN
    refine AWp.exit ?_
    try simp only [thenQ, blockQ, noGo, reduceIte, Nat.reduceEqDiff]
    refine hK2 _ ?_
    refine AWp.seqK fun K8 hK8 => ?_
    refine AWp.block ?_
    refine AWp.regionM fun K9 hK9 => ?_
    refine ARun2.callM (k2) ?_
    refine ARun2.callM (k4) ?_
    refine ARun2.endm (hK9 _ ?_)
    refine AWp.condF ?_
    refine AWp.regionM fun K10 hK10 => ?_
    refine ARun2.callM (k3) ?_
    refine ARun2.endm (hK10 _ ?_)
    refine AWp.condF ?_
    refine AWp.skip ?_
    refine hK8 _ ?_
    refine AWp.regionW ?_
    refine AWp.ret ?_
    try simp only [thenQ, blockQ, noGo]
    refine bodyQ.m ?_
    clear hK10 K10 hK9 K9 hK8 K8 hK4 K4 hK3 K3 hK2 K2 hK1 K1
    first | done | exact Hand.go
theorem rparam25_p (n : GNode) (hs : n.sz ≤ 2 ^ 26) : PC Tryz.prog 14 [nodeA false n] (.tup [nodeA false (param25 n).1, bool (param25 n).2]) := by
  have hz := nSize_sz n
  have kc := check_c 1 n (.inl rfl) (by omega)
  have hno := param25_no (n := n)
  have hyes := param25_ok (n := n)
  have hk : (n.ty == 8 && checkN 1 1 n == 0) = true → 0 < n.kids.length ∧ (n.kids.headD default).sz ≤ 2 ^ 26 := by
    intro h
    simp only [Bool.and_eq_true, beq_iff_eq] at h
    have h1 := (wrap_ok h.2 h.1).1
    obtain ⟨k, hk⟩ := List.length_eq_one_iff.1 h1
    have : k ∈ n.kids := by rw [hk]; simp
    have := szs_lt this
    refine ⟨by omega, ?_⟩
    rw [hk]; show k.sz ≤ _; omega
  generalize param25 n = R at hno hyes
  obtain ⟨e, he⟩ : ∃ e, checkN 1 1 n = e := ⟨_, rfl⟩
  rw [he] at kc hno hyes hk
  refine PC.of_bodyW (by simp only [push_cast]) Tryz.func14 rfl (by rw [Tryz.ntmps14]; simp) ?_
  refine AWp.regionW ?_
  refine AWp.seqK fun K1 hK1 => ?_
  refine AWp.regionA fun K2 hK2 => ?_
  refine ARun.segm 4 fun KS hKS => ?_
  refine ARun2.endm (hKS _ ?_); clear hKS KS
  apply ARun.grpM 3 3 false 10 [1, 2, 7]
  · intro g3 KG hKG
    refine ARun2.gom ?_
    refine ARun2.callM (kc) ?_
    exact ARun2.endm (hKG _ Le.grpM)
  refine ARun2.gom ?_
  refine ARun2.endm (hK2 _ ?_)
  refine AWp.condLM (fun c0 => ?_) (fun c0 => ?_)
  · skip
    have h : R = (.zero, false) := hno (odd_no c0)
    refine AWp.regionW ?_
    refine AWp.ret ?_
    try simp only [thenQ, blockQ, noGo]
    refine bodyQ.m ?_
    clear hK2 K2 hK1 K1
    rw [h]
    try simp only [GNode.zero]
    first | done | exact Hand.go
  have hb : (n.ty == 8 && e == 0) = true := odd_yes c0
  have h := hyes hb
  obtain ⟨hk1, hk2⟩ := hk hb
  refine AWp.skip ?_
  refine hK1 _ ?_
  refine AWp.regionM fun K3 hK3 => ?_
  refine ARun2.indexM (0) (nodeA false (n.kids.headD default)) ?_ ?_
  · exact nodesA_head false _ hk1
  refine ARun2.callM (nclone_c (n.kids.headD default) (by omega)) ?_
  refine ARun2.endm (hK3 _ ?_)
  refine AWp.ret ?_
  try simp only [thenQ, blockQ, noGo]
  refine bodyQ.m ?_
  clear hK3 K3 hK2 K2 hK1 K1
  rw [h]
  try simp only [GNode.zero]
  first | done | exact Hand.go
theorem add25_c (n : GNode) (l : List GNode) (hs : n.sz ≤ 2 ^ 26) (hl : l.length ≤ 2 ^ 30) : OC Tryz.prog 148 [nodeA false n, .ptr 0 0] [.box 24 [.own 1], .row 26 3 (nodesA false l)]
    (.tup []) [.box 24 [.own 1], .row 26 3 (nodesA false (l ++ bif (param25 n).2 then [(param25 n).1] else []))] := by
  have kp := rparam25_p n hs
  generalize param25 n = R at kp
  obtain ⟨R1, R2⟩ := R
  simp only at kp
  refine OC.of_body [0, 1] ids2 Tryz.func148 rfl (by rw [Tryz.ntmps148]; simp) ?_
  refine AWp.regionW ?_
  refine AWp.regionM fun K1 hK1 => ?_
  refine ARun2.callM (kp) ?_
  refine ARun2.endm (hK1 _ ?_)
  refine AWp.regionW ?_
  refine AWp.condLM (fun c0 => ?_) (fun c0 => ?_)
  · skip
    subst c0
    refine AWp.drE [[(1, none)], [(3, none)], [(11, some 0)], []] fun G hG => ?_
    refine Dr.sim ?_
    try simp only [lca, lna]
    refine Dr.sim ?_
    try simp only [lca, lna]
    refine Dr.sim ?_
    try simp only [lca, lna]
    refine Dr.build ?_
    try simp only [lca, lna]
    refine Dr.finTN (n := 4) 4 [(11, 0), (12, 1), (13, 2), (14, 3)] [1] hG Facts.mixed fun KD hKD => ?_
    clear hG G
    refine AAny.one 4 ?_
    refine ARun.opM ?_
    refine ARun2.appendM ?_ ?_ ?_
    · rw [Facts.eb24, nodesA_len, List.length_cons, List.length_nil]; omega
    · rw [nodesA_len, List.length_cons, List.length_nil]; omega
    refine ARun2.endm ?_
    refine AAny.two 5 7 ?_ ?_
    ·
      refine ARun.opM ?_
      refine ARun2.indexZM (xs := nodesA false l ++ [.agg [.val (.int .u16 0), .val (.slice none 0 0), .val (.slice none 0 0)]]) l.length (by rw [List.length_append, nodesA_len]; simp) ?_
      refine ARun2.endm ?_
      refine AAny.two 6 7 ?_ ?_
      ·
        refine ARun.opM ?_
        refine ARun2.storeZM (nodesA false l ++ [.agg [.val (.int .u16 0), .val (.slice none 0 0), .val (.slice none 0 0)]]) l.length (nodeA false R1) (nodesA false l ++ [nodeA false R1]) (by rw [List.length_append, nodesA_len]; simp) (by rw [List.set_append_right _ _ (by rw [nodesA_len]; exact Nat.le_refl _), nodesA_len, Nat.sub_self, List.set_cons_zero]) ?_
        refine ARun2.endm ?_
        refine AAny.one 7 ?_
        refine ARun.opM ?_
        refine ARun2.endm ?_
        refine AAny.fin (hKD _ ?_); clear hKD KD
        try simp only [thenQ, blockQ, noGo]
        refine bodyQ.n ?_
        clear hK1 K1
        refine endO.m ?_ ?_
        · simp only [cond_true, nodesA_snoc, nodeA_eq]
        first | done | exact Hand.go
      ·
        refine ARun.opM ?_
        refine ARun2.endm ?_
        refine AAny.one 6 ?_
        refine ARun.opM ?_
        refine ARun2.storeZM (nodesA false l ++ [.agg [.val (.int .u16 0), .val (.slice none 0 0), .val (.slice none 0 0)]]) l.length (nodeA false R1) (nodesA false l ++ [nodeA false R1]) (by rw [List.length_append, nodesA_len]; simp) (by rw [List.set_append_right _ _ (by rw [nodesA_len]; exact Nat.le_refl _), nodesA_len, Nat.sub_self, List.set_cons_zero]) ?_
        refine ARun2.endm ?_
        refine AAny.fin (hKD _ ?_); clear hKD KD
        try simp only [thenQ, blockQ, noGo]
        refine bodyQ.n ?_
        clear hK1 K1
        refine endO.m ?_ ?_
        · simp only [cond_true, nodesA_snoc, nodeA_eq]
        first | done | exact Hand.go
    ·
      refine ARun.opM ?_
      refine ARun2.endm ?_
      refine AAny.one 5 ?_
      refine ARun.opM ?_
      refine ARun2.indexZM (xs := nodesA false l ++ [.agg [.val (.int .u16 0), .val (.slice none 0 0), .val (.slice none 0 0)]]) l.length (by rw [List.length_append, nodesA_len]; simp) ?_
      refine ARun2.endm ?_
      refine AAny.one 6 ?_
      refine ARun.opM ?_
      refine ARun2.storeZM (nodesA false l ++ [.agg [.val (.int .u16 0), .val (.slice none 0 0), .val (.slice none 0 0)]]) l.length (nodeA false R1) (nodesA false l ++ [nodeA false R1]) (by rw [List.length_append, nodesA_len]; simp) (by rw [List.set_append_right _ _ (by rw [nodesA_len]; exact Nat.le_refl _), nodesA_len, Nat.sub_self, List.set_cons_zero]) ?_
      refine ARun2.endm ?_
      refine AAny.fin (hKD _ ?_); clear hKD KD
      try simp only [thenQ, blockQ, noGo]
      refine bodyQ.n ?_
      clear hK1 K1
      refine endO.m ?_ ?_
      · simp only [cond_true, nodesA_snoc, nodeA_eq]
      first | done | exact Hand.go
  subst c0
  simp only [cond_false, List.append_nil]
  refine AWp.skip ?_
  try simp only [thenQ, blockQ, noGo]
  refine bodyQ.n ?_
  clear hK1 K1
  refine endO.m ?_ ?_
  · rfl
  first | done | exact Hand.go
theorem params_f (t : Nat) (l : List GNode) (hs : szs l ≤ 2 ^ 25) : PC Tryz.prog 149 [u16 t, .sl false 3 (nodesA false l)] (.tup [nodeA true (rightN (.mk t [] l) true).1, bool (rightN (.mk t [] l) true).2]) := by
  have h := right_f (.mk t [] l) true (by simp only [GNode.sz, List.length_nil]; omega)
  generalize rightN (.mk t [] l) true = R at h
  refine PC.of_bodyK (by simp only [push_cast]) Tryz.func149 rfl (by rw [Tryz.ntmps149]; simp) ?_
  refine AWp.regionW ?_
  refine AWp.regionM fun K1 hK1 => ?_
  refine ARun2.callM (h) ?_
  refine ARun2.endm (hK1 _ ?_)
  refine AWp.ret ?_
  try simp only [thenQ, blockQ, noGo]
  refine bodyQ.m ?_
  clear hK1 K1
  first | done | exact Wk.go
theorem params_mem (Q : List GNode) (i : Nat) : szs (params25 (Q.take i)) ≤ szs Q := Nat.le_trans (params_szs _) (szs_take_le Q i)
set_option maxHeartbeats 1000000 in
theorem causes_c (r : GRes) (hb : B25 r.chunks r.params) : PC Tryz.prog 115 [resA false r] (.sl true 3 (nodesA true (causes25 r.chunks r.params))) := by
  obtain ⟨D, C, Q, st⟩ := r
  obtain ⟨h1, h2⟩ := hb
  simp only at h1 h2
  have hq := params_szs Q
  have kp := params_f 8 (params25 Q) (by omega)
  have hC := szs_len C
  have hQ := szs_len Q
  have hcs : causes25 C Q = bif (rightN (.mk 8 [] (params25 Q)) true).2 then C ++ [around25 Q] else C := rfl
  have hR : (rightN (.mk 8 [] (params25 Q)) true).2 = true → (rightN (.mk 8 [] (params25 Q)) true).1 = around25 Q := by
    intro h
    unfold rightN at h ⊢
    cases hb : (true && (checkN 2 1 (.mk 8 [] (params25 Q)) == 0)) with
    | true => rfl
    | false => rw [hb] at h; cases h
  generalize rightN (.mk 8 [] (params25 Q)) true = R at kp hcs hR
  obtain ⟨R1, R2⟩ := R
  simp only at kp hcs hR
  refine PC.of_bodyK (by simp only [push_cast]) Tryz.func115 rfl (by rw [Tryz.ntmps115]; simp) ?_
  refine AWp.regionW ?_
  refine AWp.regionW ?_
  refine AWp.seqK fun K1 hK1 => ?_
  refine AWp.regionW ?_
  refine AWp.block ?_
  -- SLOTS THAT TURN AND ARE NOT TOLD: [3]
  refine AWp.nilOwn 3 26 3 (by simp only [push_cast, ↓reduceIte, Nat.reduceEqDiff, Nat.reduceLT, Nat.reduceAdd, Nat.reduceSub, Nat.reduceMul, Nat.reduceLeDiff, Nat.reducePow, Int.reduceLT, Int.reduceToNat, reduceCtorEq, Int.reduceNeg, Int.reduceEq, Nat.reduceBEq, Nat.reduceBNe, Int.reduceBEq, Int.reduceBNe, String.reduceEq]) ?_
  refine Go.Abs.evS2 ?_
  refine AWp.loopK [1, 3, 4, 13, 14] (fun (i : Nat) => [(15, nat i)]) (fun i => [.box 85 [.sl false 4 (chunksA false D), .sl false 3 (nodesA false C), .sl false 3 (nodesA false Q), bool st], .box 24 [.val (.slice none 0 0)], .row 26 3 (nodesA true (C.take i))]) (fun i => i ≤ C.length) (fun i => C.length - i) (0) ?_ (Nat.zero_le _) ?_
  · skip
    refine Le.m 3 ?_ ?_
    · first | exact Go.Abs.evM | (refine Go.Abs.evS ?_; try rfl)
    · exact Go.Abs.evN
  · intro i hi K2 hK2
    refine AWp.regionW ?_
    refine AWp.seqK fun K3 hK3 => ?_
    refine AWp.condLM (fun c0 => ?_) (fun c0 => ?_)
    · skip
      have hil : i < C.length := by simpa using c0
      have hsz := szs_mem (List.getElem_mem hil)
      refine AWp.skip ?_
      refine hK3 _ ?_
      refine AWp.seqK fun K4 hK4 => ?_
      refine AWp.block ?_
      refine AWp.regionM fun K5 hK5 => ?_
      refine ARun2.indexM (i) (nodeA false C[i]) ?_ ?_
      · exact nodesA_at _ _ _ hil
      refine ARun2.endm (hK5 _ ?_)
      refine AWp.regionN fun K6 hK6 => ?_
      refine ARun2.callM (nclone_f C[i] (by omega)) ?_
      refine ARun2.appendM ?_ ?_ ?_
      · rw [Facts.eb24, nodesA_len, List.length_take, List.length_cons, List.length_nil]; omega
      · rw [nodesA_len, List.length_take, List.length_cons, List.length_nil]; omega
      refine ARun2.endm (hK6 _ ?_)
      refine hK4 _ ?_
      refine AWp.regionV ?_
      refine hK2 _ (i + 1) (hil) (by omega) ?_
      refine Le.m 3 ?_ ?_
      · first | exact Go.Abs.evM | (refine Go.Abs.evS ?_; rw [List.take_succ_eq_append_getElem hil, nodesA_snoc, nodeA_eq])
      · exact Go.Abs.evN
    have hil : i = C.length := by simp at c0; omega
    subst hil
    rw [List.take_length]
    refine AWp.exit ?_
    try simp only [thenQ, blockQ, noGo, reduceIte, Nat.reduceEqDiff]
    refine hK1 _ ?_
    refine AWp.regionW ?_
    refine AWp.seqK fun K7 hK7 => ?_
    refine AWp.regionW ?_
    refine AWp.block ?_
    refine AWp.nilBox 1 0 26 3 rfl rfl ?_
    refine Go.Abs.evS2 ?_
    refine AWp.loopK [3, 4, 7, 27, 28] (fun (i : Nat) => [(29, nat i)]) (fun i => [.box 85 [.sl false 4 (chunksA false D), .sl false 3 (nodesA false C), .sl false 3 (nodesA false Q), bool st], .box 24 [.own 3], .row 26 3 (nodesA true C), .row 26 3 (nodesA false (params25 (Q.take i)))]) (fun i => i ≤ Q.length) (fun i => Q.length - i) (0) ?_ (Nat.zero_le _) ?_
    · skip
      refine Le.m 4 ?_ ?_
      · first | exact Go.Abs.evM | (refine Go.Abs.evS ?_; try rfl)
      · exact Go.Abs.evN
    · intro i hi K8 hK8
      refine AWp.regionW ?_
      refine AWp.seqK fun K9 hK9 => ?_
      refine AWp.condLM (fun c1 => ?_) (fun c1 => ?_)
      · skip
        have hkl : i < Q.length := by simpa using c1
        have hsz := szs_mem (List.getElem_mem hkl)
        have hpl := szs_len (params25 (Q.take i))
        have hpm := params_mem Q i
        refine AWp.skip ?_
        refine hK9 _ ?_
        refine AWp.seqK fun K10 hK10 => ?_
        refine AWp.block ?_
        refine AWp.regionM fun K11 hK11 => ?_
        refine ARun2.indexM (i) (nodeA false Q[i]) ?_ ?_
        · exact nodesA_at _ _ _ hkl
        refine ARun2.endm (hK11 _ ?_)
        refine AWp.regionN fun K12 hK12 => ?_
        refine ARun2.callOM [1, 3] (add25_c Q[i] (params25 (Q.take i)) (by omega) (by omega)) ?_
        refine ARun2.endm (hK12 _ ?_)
        refine hK10 _ ?_
        refine AWp.regionV ?_
        refine hK8 _ (i + 1) (hkl) (by omega) ?_
        refine Le.m 4 ?_ ?_
        · first | exact Go.Abs.evM | (refine Go.Abs.evS ?_; rw [params25_take _ _ hkl])
        · exact Go.Abs.evN
      have hkl : i = Q.length := by simp at c1; omega
      subst hkl
      rw [List.take_length]
      refine AWp.exit ?_
      try simp only [thenQ, blockQ, noGo, reduceIte, Nat.reduceEqDiff]
      refine hK7 _ ?_
      refine AWp.seqK fun K13 hK13 => ?_
      refine AWp.pubD 3 ?_
      refine AWp.regionM fun K14 hK14 => ?_
      refine ARun2.callM (kp) ?_
      refine ARun2.endm (hK14 _ ?_)
      refine AWp.regionW ?_
      refine AWp.condLM (fun c2 => ?_) (fun c2 => ?_)
      · skip
        subst c2
        have hR1 := hR rfl
        refine AWp.regionN fun K15 hK15 => ?_
        refine ARun2.appendM ?_ ?_ ?_
        · rw [Facts.eb24, nodesA_len, List.length_cons, List.length_nil]; omega
        · rw [nodesA_len, List.length_cons, List.length_nil]; omega
        refine ARun2.endm (hK15 _ ?_)
        refine hK13 _ ?_
        refine AWp.pubD 2 ?_
        refine AWp.regionW ?_
        refine AWp.ret ?_
        try simp only [thenQ, blockQ, noGo]
        refine bodyQ.m ?_
        clear hK15 K15 hK14 K14 hK13 K13 hK9 K9 hK8 K8 hK7 K7 hK3 K3 hK2 K2 hK1 K1
        rw [hcs, ← hR1]
        simp only [cond_true, nodesA_snoc, nodeA_eq]
        first | done | exact Wk.go
      subst c2
      refine AWp.skip ?_
      refine hK13 _ ?_
      refine AWp.pubD 2 ?_
      refine AWp.regionW ?_
      refine AWp.ret ?_
      try simp only [thenQ, blockQ, noGo]
      refine bodyQ.m ?_
      clear hK14 K14 hK13 K13 hK9 K9 hK8 K8 hK7 K7 hK3 K3 hK2 K2 hK1 K1
      rw [hcs]
      simp only [cond_false]
      first | done | exact Wk.go
def packP (src dst tag : Nat) (A : GChunk × Bool) : GPkt × Bool := bif A.2 then (⟨dst, src, tag, [A.1]⟩, true) else (⟨0, 0, 0, []⟩, false)
theorem answer_facts (C Q : List GNode) (hb : B25 C Q) : ((answer25 C Q).2 = true → (answer25 C Q).1.ty = 9 ∧ checkC (answer25 C Q).1 = 0 ∧ Small (answer25 C Q).1) ∧ ((answer25 C Q).2 = false → (answer25 C Q).1 = .zero) := by
  have hz := (causes_szs hb).1
  unfold answer25 rightC
  cases hc : (true && (checkC (reportC (causes25 C Q)) == 0)) with
  | true =>
    refine ⟨fun _ => ⟨rfl, by simpa using hc, small_report (by omega)⟩, fun h => by cases h⟩
  | false => exact ⟨fun h => (by cases h), fun _ => rfl⟩
set_option maxHeartbeats 1000000 in
theorem ranswer_c (src dst tag : Nat) (r : GRes) (hb : B25 r.chunks r.params) : PC Tryz.prog 54 [.agg [u16 src, u16 dst, u32 tag], resA false r] (.tup [pktA true (packP src dst tag (answer25 r.chunks r.params)).1, bool (packP src dst tag (answer25 r.chunks r.params)).2]) := by
  have k1 := causes_c r hb
  have k2 := creport_c (causes25 r.chunks r.params) (by have := (causes_szs hb).1; omega)
  rw [show rightC (reportC (causes25 r.chunks r.params)) true = answer25 r.chunks r.params from rfl] at k2
  obtain ⟨f1, f2⟩ := answer_facts _ _ hb
  generalize answer25 r.chunks r.params = A at k2 f1 f2
  generalize causes25 r.chunks r.params = cs at k1 k2
  obtain ⟨A1, A2⟩ := A
  simp only at k2 f1 f2
  have f3 : A1.ty = 9 → A2 = true := by
    intro h
    cases A2 with
    | true => rfl
    | false => rw [f2 rfl] at h; cases h
  obtain ⟨D, C, Q, st⟩ := r
  refine PC.of_bodyK (by simp only [push_cast]) Tryz.func54 rfl (by rw [Tryz.ntmps54]; simp) ?_
  refine AWp.regionW ?_
  refine AWp.regionM fun K1 hK1 => ?_
  refine ARun2.callM (k1) ?_
  refine ARun2.callM (k2) ?_
  refine ARun2.endm (hK1 _ ?_)
  refine AWp.regionW ?_
  refine AWp.seqK fun K2 hK2 => ?_
  refine AWp.regionA fun K3 hK3 => ?_
  refine ARun.segm 4 fun KS hKS => ?_
  refine ARun2.endm (hKS _ ?_); clear hKS KS
  apply ARun.grpM 3 3 false 31 [4, 8, 28]
  · intro g3 KG hKG
    have h9 : A1.ty = 9 := by simpa using g3
    have h9b := f1 (f3 h9)
    refine ARun2.gom ?_
    refine ARun2.callM (pcheck_c ⟨dst, src, tag, [A1]⟩ A1 rfl h9 h9b.2.1 h9b.2.2) ?_
    exact ARun2.endm (hKG _ Le.grpM)
  refine ARun2.gom ?_
  refine ARun2.endm (hK3 _ ?_)
  refine AWp.condLM (fun c0 => ?_) (fun c0 => ?_)
  · skip
    have h9 : ¬ A1.ty = 9 := by simpa using c0
    have ha : A2 = false := by
      cases h : A2 with
      | false => rfl
      | true => exact absurd (f1 h).1 h9
    have hp : packP src dst tag (A1, A2) = (⟨0, 0, 0, []⟩, false) := by rw [ha]; rfl
    refine AWp.regionW ?_
    refine AWp.ret ?_
    try simp only [thenQ, blockQ, noGo]
    refine bodyQ.m ?_
    clear hK3 K3 hK2 K2 hK1 K1
    rw [hp]
    first | done | exact Wk.go
  have h9 : A1.ty = 9 := by simpa using c0
  have hp : packP src dst tag (A1, A2) = (⟨dst, src, tag, [A1]⟩, true) := by rw [f3 h9]; rfl
  refine AWp.skip ?_
  refine hK2 _ ?_
  refine AWp.regionW ?_
  refine AWp.ret ?_
  try simp only [thenQ, blockQ, noGo]
  refine bodyQ.m ?_
  clear hK3 K3 hK2 K2 hK1 K1
  rw [hp]
  first | done | exact Wk.go
def forP (p : GPkt) : GPkt × Bool := packP p.src p.dst p.tag (answer25 (disO p.l).chunks (disO p.l).params)
theorem rfor_c (p : GPkt) (h : Chs p.l) (h20 : p.l.length ≤ 20) : PC Tryz.prog 23 [pktA false p] (.tup [pktA true (forP p).1, bool (forP p).2]) := by
  have k1 := dof24_c p h
  have k2 := ranswer_c p.src p.dst p.tag (disO p.l) (disO_b25 h h20)
  rw [show packP p.src p.dst p.tag (answer25 (disO p.l).chunks (disO p.l).params) = forP p from rfl] at k2
  generalize forP p = R at k2
  generalize disO p.l = r at k1 k2
  obtain ⟨src, dst, tag, l⟩ := p
  obtain ⟨D, C, Q, st⟩ := r
  simp only at k2
  refine PC.of_bodyK (by simp only [push_cast]) Tryz.func23 rfl (by rw [Tryz.ntmps23]; simp) ?_
  refine AWp.regionW ?_
  refine AWp.drS [[(1, none)], [(4, some 0)], [(1, none)], [(6, some 2)], [(5, some 1), (7, some 3)], [(8, some 4)], [(8, some 4)]] fun G hG => ?_
  refine Dr.sim ?_
  try simp only [lca, lna]
  refine Dr.sim ?_
  try simp only [lca, lna]
  refine Dr.sim ?_
  try simp only [lca, lna]
  refine Dr.call (k1) ?_
  try simp only [lca, lna]
  refine Dr.call (k2) ?_
  try simp only [lca, lna]
  refine Dr.sim ?_
  try simp only [lca, lna]
  refine Dr.sim ?_
  try simp only [lca, lna]
  refine Dr.finM (n := 7) [(9, 5), (10, 6)] [2] hG Facts.mixed fun KD hKD => ?_
  refine ARun2.endm (hKD _ ?_); clear hKD KD hG G
  refine AWp.ret ?_
  try simp only [thenQ, blockQ, noGo]
  refine bodyQ.m ?_
  first | done | exact Wk.go
theorem catC (b : Bool) (A B : List GChunk) (c : GChunk) : chunksA b (A ++ (B ++ [c])) = chunksA b (A ++ B) ++ [chunkA b c] := by rw [← List.append_assoc, chunksA_snoc]
theorem catN (b : Bool) (A B K : List GNode) : nodesA b (A ++ (B ++ K)) = nodesA b (A ++ B) ++ nodesA b K := by rw [← List.append_assoc, nodesA_app]
theorem read_bd {l : List GChunk} (hl : l.length ≤ 2 ^ 10) (hs : ∀ c ∈ l, Small c) (i : Nat) : (readC (l.take i)).length ≤ 2 ^ 36 ∧ szs (readP (l.take i)) ≤ 2 ^ 36 := by
  have hs' : ∀ c ∈ l.take i, Small c := fun c hc => hs c (List.mem_of_mem_take hc)
  have h1 := readC_len hs'
  have h2 := readP_szs hs'
  have h3 : (l.take i).length * 2 ^ 26 ≤ 2 ^ 10 * 2 ^ 26 := Nat.mul_le_mul_right _ (by rw [List.length_take]; omega)
  omega
theorem kids_bd {c : GChunk} (h : Small c) (j : Nat) : (chunks25 (c.kids.take j)).length ≤ 2 ^ 26 ∧ szs (kids25 (c.kids.take j)) ≤ 2 ^ 26 := by
  have h1 := szs_take_le c.kids j
  have h2 := h.kids
  exact ⟨(chunks25_mem (Nat.le_refl _) (by omega)).2, by have := kids25_szs (c.kids.take j); omega⟩
set_option maxHeartbeats 4000000 in
theorem rread_c (p : GPkt) (hl : p.l.length ≤ 2 ^ 10) (hs : ∀ c ∈ p.l, Small c) : PC Tryz.prog 19 [pktA false p] (.tup [.sl true 4 (chunksA true (readC p.l)), .sl true 3 (nodesA true (readP p.l))]) := by
  obtain ⟨src, dst, tag, l⟩ := p
  simp only at hl hs
  refine PC.of_bodyK (by simp only [push_cast]) Tryz.func19 rfl (by rw [Tryz.ntmps19]; simp) ?_
  refine AWp.regionW ?_
  refine AWp.seqK fun K1 hK1 => ?_
  refine AWp.regionW ?_
  refine AWp.block ?_
  -- SLOTS THAT TURN AND ARE NOT TOLD: [2, 3]
  refine AWp.nilOwn 2 30 4 (by simp only [push_cast, ↓reduceIte, Nat.reduceEqDiff, Nat.reduceLT, Nat.reduceAdd, Nat.reduceSub, Nat.reduceMul, Nat.reduceLeDiff, Nat.reducePow, Int.reduceLT, Int.reduceToNat, reduceCtorEq, Int.reduceNeg, Int.reduceEq, Nat.reduceBEq, Nat.reduceBNe, Int.reduceBEq, Int.reduceBNe, String.reduceEq]) ?_
  refine Go.Abs.evS2 ?_
  refine AWp.nilOwn 3 26 3 (by simp only [push_cast, ↓reduceIte, Nat.reduceEqDiff, Nat.reduceLT, Nat.reduceAdd, Nat.reduceSub, Nat.reduceMul, Nat.reduceLeDiff, Nat.reducePow, Int.reduceLT, Int.reduceToNat, reduceCtorEq, Int.reduceNeg, Int.reduceEq, Nat.reduceBEq, Nat.reduceBNe, Int.reduceBEq, Int.reduceBNe, String.reduceEq]) ?_
  refine Go.Abs.evS2 ?_
  refine AWp.loopK [2, 3, 11, 12] (fun (i : Nat) => [(13, nat i)]) (fun i => [.box 43 [u16 src, u16 dst, u32 tag, .sl false 4 (chunksA false l)], .row 30 4 (chunksA true (readC (l.take i))), .row 26 3 (nodesA true (readP (l.take i)))]) (fun i => i ≤ l.length) (fun i => l.length - i) (0) ?_ (Nat.zero_le _) ?_
  · skip
    refine Le.m 3 ?_ ?_
    · first | exact Go.Abs.evM | (refine Go.Abs.evS ?_; try rfl)
    · exact Go.Abs.evN
  · intro i hi K2 hK2
    refine AWp.regionW ?_
    refine AWp.seqK fun K3 hK3 => ?_
    refine AWp.condLM (fun c0 => ?_) (fun c0 => ?_)
    · skip
      have hil : i < l.length := by simpa using c0
      have hat := chunksA_at false l i hil
      have hsc := hs l[i] (List.getElem_mem hil)
      have hrc := readC_take l i hil
      have hrp := readP_take l i hil
      obtain ⟨bd1, bd2⟩ := read_bd hl hs i
      obtain ⟨c, hcd⟩ : ∃ c, c = l[i] := ⟨_, rfl⟩
      rw [← hcd] at hat hsc hrc hrp
      refine AWp.skip ?_
      refine hK3 _ ?_
      refine AWp.seqK fun K4 hK4 => ?_
      refine AWp.block ?_
      refine AWp.regionM fun K5 hK5 => ?_
      refine ARun2.indexM (i) (chunkA false c) ?_ ?_
      · exact hat
      refine ARun2.endm (hK5 _ ?_)
      refine AWp.seqK fun K6 hK6 => ?_
      refine AWp.regionW ?_
      refine AWp.condLM (fun c1 => ?_) (fun c1 => ?_)
      · skip
        have h9 : (c.ty == 9) = false := by simpa using c1
        rw [h9, cond_false, List.append_nil] at hrc hrp
        refine AWp.exit ?_
        try simp only [thenQ, blockQ, noGo, reduceIte, Nat.reduceEqDiff]
        refine hK4 _ ?_
        refine AWp.regionV ?_
        refine hK2 _ (i + 1) (hil) (by omega) ?_
        refine Le.m 3 ?_ ?_
        · first | exact Go.Abs.evM | (refine Go.Abs.evS ?_; rw [hrc, hrp])
        · exact Go.Abs.evN
      have h9 : (c.ty == 9) = true := by simpa using c1
      rw [h9, cond_true] at hrc hrp
      refine AWp.skip ?_
      refine hK6 _ ?_
      refine AWp.regionM fun K7 hK7 => ?_
      refine ARun2.callM (cclone_f c (Nat.le_trans hsc.data (by decide)) (Nat.le_trans hsc.kids (by decide))) ?_
      refine ARun2.endm (hK7 _ ?_)
      refine AWp.block ?_
      -- SLOTS THAT TURN AND ARE NOT TOLD: [2, 3]
      refine AWp.loopK [2, 3, 11, 12, 13, 22, 23] (fun (j : Nat) => [(24, nat j)]) (fun j => [.box 43 [u16 src, u16 dst, u32 tag, .sl false 4 (chunksA false l)], .row 30 4 (chunksA true (readC (l.take i) ++ chunks25 (c.kids.take j))), .row 26 3 (nodesA true (readP (l.take i) ++ kids25 (c.kids.take j))), .box 30 [u8 c.ty, u8 c.flags, .sl false 1 (bys c.data), .sl false 3 (nodesA false c.kids)]]) (fun j => j ≤ c.kids.length) (fun j => c.kids.length - j) (0) ?_ (Nat.zero_le _) ?_
      · skip
        refine Le.m 4 ?_ ?_
        · first | exact Go.Abs.evM | (refine Go.Abs.evS ?_; rw [show chunks25 [] = [] from rfl, show kids25 [] = [] from rfl, List.append_nil, List.append_nil])
        · exact Go.Abs.evN
      · intro j hj K8 hK8
        refine AWp.regionW ?_
        refine AWp.seqK fun K9 hK9 => ?_
        refine AWp.condLM (fun c2 => ?_) (fun c2 => ?_)
        · skip
          have hjl : j < c.kids.length := by simpa using c2
          have hnz := szs_mem (List.getElem_mem hjl)
          have hkz := hsc.kids
          have hkl2 := szs_len c.kids
          have hct := chunks25_take c.kids j hjl
          have hkt := kids25_take c.kids j hjl
          obtain ⟨kb1, kb2⟩ := kids_bd hsc j
          have hna := nodesA_at true c.kids j hjl
          obtain ⟨n, hn⟩ : ∃ n, n = c.kids[j] := ⟨_, rfl⟩
          rw [← hn] at hct hkt hna hnz
          have kr := rchunk25_c n (by omega)
          have hkl := szs_len n.kids
          have hnk := n.sz_eq
          have hpl := szs_len (readP (l.take i) ++ kids25 (c.kids.take j))
          rw [szs_app'] at hpl
          obtain ⟨R, hRd⟩ : ∃ R, R = chunk25 n := ⟨_, rfl⟩
          rw [← hRd] at kr hct
          obtain ⟨R1, R2⟩ := R
          simp only at kr hct
          refine AWp.skip ?_
          refine hK9 _ ?_
          refine AWp.seqK fun K10 hK10 => ?_
          refine AWp.block ?_
          refine AWp.regionM fun K11 hK11 => ?_
          refine ARun2.indexM (j) (nodeA true n) ?_ ?_
          · exact hna
          refine ARun2.endm (hK11 _ ?_)
          refine AWp.seqK fun K12 hK12 => ?_
          refine AWp.regionM fun K13 hK13 => ?_
          refine ARun2.callM (kr) ?_
          refine ARun2.endm (hK13 _ ?_)
          refine AWp.regionW ?_
          refine AWp.condLM (fun c3 => ?_) (fun c3 => ?_)
          · skip
            subst c3
            rw [cond_true] at hct
            refine AWp.regionN fun K14 hK14 => ?_
            refine ARun2.appendM ?_ ?_ ?_
            · rw [Facts.eb41, chunksA_len, List.length_append, List.length_cons, List.length_nil]; omega
            · rw [chunksA_len, List.length_append, List.length_cons, List.length_nil]; omega
            refine ARun2.endm (hK14 _ ?_)
            refine hK12 _ ?_
            refine AWp.regionW ?_
            refine AWp.condLM (fun c4 => ?_) (fun c4 => ?_)
            · skip
              have h8 : (n.ty == 8) = true := by simpa using c4
              rw [h8, cond_true] at hkt
              refine AWp.regionN fun K15 hK15 => ?_
              refine ARun2.appendM ?_ ?_ ?_
              · rw [Facts.eb24, nodesA_len, nodesA_len]; omega
              · rw [nodesA_len, nodesA_len]; omega
              refine ARun2.endm (hK15 _ ?_)
              refine hK10 _ ?_
              refine AWp.regionV ?_
              refine hK8 _ (j + 1) (hjl) (by omega) ?_
              refine Le.m 4 ?_ ?_
              · first | exact Go.Abs.evM | (refine Go.Abs.evS ?_; rw [hct, hkt] <;> (try rw [catC]) <;> (try rw [catN]) <;> (try rfl))
              · exact Go.Abs.evN
            have h8 : (n.ty == 8) = false := by simpa using c4
            rw [h8, cond_false, List.append_nil] at hkt
            refine AWp.skip ?_
            refine hK10 _ ?_
            refine AWp.regionV ?_
            refine hK8 _ (j + 1) (hjl) (by omega) ?_
            refine Le.m 4 ?_ ?_
            · first | exact Go.Abs.evM | (refine Go.Abs.evS ?_; rw [hct, hkt] <;> (try rw [catC]) <;> (try rw [catN]) <;> (try rfl))
            · exact Go.Abs.evN
          subst c3
          rw [cond_false, List.append_nil] at hct
          refine AWp.skip ?_
          refine hK12 _ ?_
          refine AWp.regionW ?_
          refine AWp.condLM (fun c4 => ?_) (fun c4 => ?_)
          · skip
            have h8 : (n.ty == 8) = true := by simpa using c4
            rw [h8, cond_true] at hkt
            refine AWp.regionN fun K16 hK16 => ?_
            refine ARun2.appendM ?_ ?_ ?_
            · rw [Facts.eb24, nodesA_len, nodesA_len]; omega
            · rw [nodesA_len, nodesA_len]; omega
            refine ARun2.endm (hK16 _ ?_)
            refine hK10 _ ?_
            refine AWp.regionV ?_
            refine hK8 _ (j + 1) (hjl) (by omega) ?_
            refine Le.m 4 ?_ ?_
            · first | exact Go.Abs.evM | (refine Go.Abs.evS ?_; rw [hct, hkt] <;> (try rw [catC]) <;> (try rw [catN]) <;> (try rfl))
            · exact Go.Abs.evN
          have h8 : (n.ty == 8) = false := by simpa using c4
          rw [h8, cond_false, List.append_nil] at hkt
          refine AWp.skip ?_
          refine hK10 _ ?_
          refine AWp.regionV ?_
          refine hK8 _ (j + 1) (hjl) (by omega) ?_
          refine Le.m 4 ?_ ?_
          · first | exact Go.Abs.evM | (refine Go.Abs.evS ?_; rw [hct, hkt] <;> (try rw [catC]) <;> (try rw [catN]) <;> (try rfl))
          · exact Go.Abs.evN
        have hjl : j = c.kids.length := by simp at c2; omega
        subst hjl
        rw [List.take_length]
        refine AWp.exit ?_
        try simp only [thenQ, blockQ, noGo, reduceIte, Nat.reduceEqDiff]
        refine hK4 _ ?_
        refine AWp.regionV ?_
        refine hK2 _ (i + 1) (hil) (by omega) ?_
        refine Le.m 3 ?_ ?_
        · first | exact Go.Abs.evM | (refine Go.Abs.evS ?_; rw [hrc, hrp])
        · exact Go.Abs.evN
    have hil : i = l.length := by simp at c0; omega
    subst hil
    rw [List.take_length]
    refine AWp.exit ?_
    try simp only [thenQ, blockQ, noGo, reduceIte, Nat.reduceEqDiff]
    refine hK1 _ ?_
    refine AWp.pubD 1 ?_
    refine AWp.pubD 2 ?_
    refine AWp.regionW ?_
    refine AWp.ret ?_
    try simp only [thenQ, blockQ, noGo]
    refine bodyQ.m ?_
    clear hK3 K3 hK2 K2 hK1 K1
    first | done | exact Wk.go
set_option maxHeartbeats 4000000 in
theorem rrread_c (p : GPkt) (hl : p.l.length ≤ 2 ^ 10) (hs : ∀ c ∈ p.l, Small c) : PC Tryz.prog 20 [pktA false p] (.tup [.sl false 4 (chunksA false (readC p.l)), .sl false 3 (nodesA false (readP p.l))]) := by
  obtain ⟨src, dst, tag, l⟩ := p
  simp only at hl hs
  refine PC.of_bodyW (by simp only [push_cast]) Tryz.func20 rfl (by rw [Tryz.ntmps20]; simp) ?_
  refine AWp.regionW ?_
  refine AWp.regionW ?_
  refine AWp.regionW ?_
  refine AWp.seqK fun K1 hK1 => ?_
  refine AWp.regionW ?_
  refine AWp.block ?_
  -- SLOTS THAT TURN AND ARE NOT TOLD: [4, 5]
  refine AWp.nilOwn 4 30 4 (by simp only [push_cast, ↓reduceIte, Nat.reduceEqDiff, Nat.reduceLT, Nat.reduceAdd, Nat.reduceSub, Nat.reduceMul, Nat.reduceLeDiff, Nat.reducePow, Int.reduceLT, Int.reduceToNat, reduceCtorEq, Int.reduceNeg, Int.reduceEq, Nat.reduceBEq, Nat.reduceBNe, Int.reduceBEq, Int.reduceBNe, String.reduceEq]) ?_
  refine Go.Abs.evS2 ?_
  refine AWp.nilOwn 5 26 3 (by simp only [push_cast, ↓reduceIte, Nat.reduceEqDiff, Nat.reduceLT, Nat.reduceAdd, Nat.reduceSub, Nat.reduceMul, Nat.reduceLeDiff, Nat.reducePow, Int.reduceLT, Int.reduceToNat, reduceCtorEq, Int.reduceNeg, Int.reduceEq, Nat.reduceBEq, Nat.reduceBNe, Int.reduceBEq, Int.reduceBNe, String.reduceEq]) ?_
  refine Go.Abs.evS2 ?_
  refine AWp.loopK [1, 4, 5] (fun (i : Nat) => [(6, nat i)]) (fun i => [.box 43 [u16 src, u16 dst, u32 tag, .sl false 4 (chunksA false l)], .row 30 4 (chunksA false (readC (l.take i))), .row 26 3 (nodesA false (readP (l.take i)))]) (fun i => i ≤ l.length) (fun i => l.length - i) (0) ?_ (Nat.zero_le _) ?_
  · skip
    refine Le.m 3 ?_ ?_
    · first | exact Go.Abs.evM | (refine Go.Abs.evS ?_; try rfl)
    · exact Go.Abs.evN
  · intro i hi K2 hK2
    refine AWp.seqK fun K3 hK3 => ?_
    refine AWp.regionW ?_
    refine AWp.condLM (fun c0 => ?_) (fun c0 => ?_)
    · skip
      have hil : i < l.length := by simpa using c0
      have hat := chunksA_at false l i hil
      have hsc := hs l[i] (List.getElem_mem hil)
      have hrc := readC_take l i hil
      have hrp := readP_take l i hil
      obtain ⟨bd1, bd2⟩ := read_bd hl hs i
      obtain ⟨c, hcd⟩ : ∃ c, c = l[i] := ⟨_, rfl⟩
      rw [← hcd] at hat hsc hrc hrp
      have hkz := hsc.kids
      have hkl2 := szs_len c.kids
      refine AWp.skip ?_
      refine hK3 _ ?_
      refine AWp.seqK fun K4 hK4 => ?_
      refine AWp.block ?_
      refine AWp.regionW ?_
      refine AWp.block ?_
      -- SLOTS THAT TURN AND ARE NOT TOLD: [4, 5]
      refine AWp.loopK [1, 4, 5, 6] (fun (j : Nat) => [(7, nat j)]) (fun j => [.box 43 [u16 src, u16 dst, u32 tag, .sl false 4 (chunksA false l)], .row 30 4 (chunksA false (readC (l.take i) ++ chunks25 (c.kids.take j))), .row 26 3 (nodesA false (readP (l.take i) ++ kids25 (c.kids.take j)))]) (fun j => j ≤ c.kids.length ∧ (0 < j → c.ty = 9)) (fun j => c.kids.length - j) (0) ?_ ⟨Nat.zero_le _, fun h => absurd h (Nat.lt_irrefl 0)⟩ ?_
      · skip
        refine Le.m 3 ?_ ?_
        · first | exact Go.Abs.evM | (refine Go.Abs.evS ?_; rw [show chunks25 [] = [] from rfl, show kids25 [] = [] from rfl, List.append_nil, List.append_nil])
        · exact Go.Abs.evN
      · intro j hj K5 hK5
        refine AWp.seqK fun K6 hK6 => ?_
        refine AWp.regionA fun K7 hK7 => ?_
        refine ARun.segm 10 fun KS hKS => ?_
        refine ARun2.indexM (i) (chunkA false c) ?_ ?_
        · exact hat
        refine ARun2.endm (hKS _ ?_); clear hKS KS
        apply ARun.grpM 7 9 true 34 [1, 4, 5, 6, 7, 27]
        · intro g9 KG hKG
          refine ARun2.gom ?_
          refine ARun2.indexM (i) (chunkA false c) ?_ ?_
          · exact hat
          exact ARun2.endm (hKG _ Le.grpM)
        refine ARun2.gom ?_
        refine ARun2.endm (hK7 _ ?_)
        refine AWp.condLM (fun c1 => ?_) (fun c1 => ?_)
        · skip
          obtain ⟨hjl, h9⟩ : j < c.kids.length ∧ c.ty = 9 := by simpa using c1
          have hnz := szs_mem (List.getElem_mem hjl)
          have hct := chunks25_take c.kids j hjl
          have hkt := kids25_take c.kids j hjl
          obtain ⟨kb1, kb2⟩ := kids_bd hsc j
          have hna := nodesA_at false c.kids j hjl
          obtain ⟨n, hn⟩ : ∃ n, n = c.kids[j] := ⟨_, rfl⟩
          rw [← hn] at hct hkt hna hnz
          have kr := rrchunk25_c n (by omega)
          have hkl := szs_len n.kids
          have hnk := n.sz_eq
          have hpl := szs_len (readP (l.take i) ++ kids25 (c.kids.take j))
          rw [szs_app'] at hpl
          obtain ⟨R, hRd⟩ : ∃ R, R = chunk25 n := ⟨_, rfl⟩
          rw [← hRd] at kr hct
          obtain ⟨R1, R2⟩ := R
          simp only at kr hct
          refine AWp.skip ?_
          refine hK6 _ ?_
          refine AWp.seqK fun K8 hK8 => ?_
          refine AWp.block ?_
          refine AWp.regionM fun K9 hK9 => ?_
          refine ARun2.indexM (i) (chunkA false c) ?_ ?_
          · exact hat
          refine ARun2.indexM (j) (nodeA false n) ?_ ?_
          · exact hna
          refine ARun2.endm (hK9 _ ?_)
          refine AWp.regionM fun K10 hK10 => ?_
          refine ARun2.callM (kr) ?_
          refine ARun2.endm (hK10 _ ?_)
          refine AWp.seqK fun K11 hK11 => ?_
          refine AWp.regionW ?_
          refine AWp.condLM (fun c2 => ?_) (fun c2 => ?_)
          · skip
            subst c2
            rw [cond_true] at hct
            refine AWp.regionN fun K12 hK12 => ?_
            refine ARun2.appendM ?_ ?_ ?_
            · rw [Facts.eb41, chunksA_len, List.length_append, List.length_cons, List.length_nil]; omega
            · rw [chunksA_len, List.length_append, List.length_cons, List.length_nil]; omega
            refine ARun2.endm (hK12 _ ?_)
            refine hK11 _ ?_
            refine AWp.regionW ?_
            refine AWp.condLM (fun c3 => ?_) (fun c3 => ?_)
            · skip
              have h8 : (n.ty == 8) = true := by simpa using c3
              rw [h8, cond_true] at hkt
              refine AWp.regionN fun K13 hK13 => ?_
              refine ARun2.appendM ?_ ?_ ?_
              · rw [Facts.eb24, nodesA_len, nodesA_len]; omega
              · rw [nodesA_len, nodesA_len]; omega
              refine ARun2.endm (hK13 _ ?_)
              refine hK8 _ ?_
              refine AWp.regionV ?_
              refine hK5 _ (j + 1) (⟨hjl, fun _ => h9⟩) (by omega) ?_
              refine Le.m 3 ?_ ?_
              · first | exact Go.Abs.evM | (refine Go.Abs.evS ?_; rw [hct, hkt] <;> (try rw [catC]) <;> (try rw [catN]) <;> (try rfl))
              · exact Go.Abs.evN
            have h8 : (n.ty == 8) = false := by simpa using c3
            rw [h8, cond_false, List.append_nil] at hkt
            refine AWp.skip ?_
            refine hK8 _ ?_
            refine AWp.regionV ?_
            refine hK5 _ (j + 1) (⟨hjl, fun _ => h9⟩) (by omega) ?_
            refine Le.m 3 ?_ ?_
            · first | exact Go.Abs.evM | (refine Go.Abs.evS ?_; rw [hct, hkt] <;> (try rw [catC]) <;> (try rw [catN]) <;> (try rfl))
            · exact Go.Abs.evN
          subst c2
          rw [cond_false, List.append_nil] at hct
          refine AWp.skip ?_
          refine hK11 _ ?_
          refine AWp.regionW ?_
          refine AWp.condLM (fun c3 => ?_) (fun c3 => ?_)
          · skip
            have h8 : (n.ty == 8) = true := by simpa using c3
            rw [h8, cond_true] at hkt
            refine AWp.regionN fun K14 hK14 => ?_
            refine ARun2.appendM ?_ ?_ ?_
            · rw [Facts.eb24, nodesA_len, nodesA_len]; omega
            · rw [nodesA_len, nodesA_len]; omega
            refine ARun2.endm (hK14 _ ?_)
            refine hK8 _ ?_
            refine AWp.regionV ?_
            refine hK5 _ (j + 1) (⟨hjl, fun _ => h9⟩) (by omega) ?_
            refine Le.m 3 ?_ ?_
            · first | exact Go.Abs.evM | (refine Go.Abs.evS ?_; rw [hct, hkt] <;> (try rw [catC]) <;> (try rw [catN]) <;> (try rfl))
            · exact Go.Abs.evN
          have h8 : (n.ty == 8) = false := by simpa using c3
          rw [h8, cond_false, List.append_nil] at hkt
          refine AWp.skip ?_
          refine hK8 _ ?_
          refine AWp.regionV ?_
          refine hK5 _ (j + 1) (⟨hjl, fun _ => h9⟩) (by omega) ?_
          refine Le.m 3 ?_ ?_
          · first | exact Go.Abs.evM | (refine Go.Abs.evS ?_; rw [hct, hkt] <;> (try rw [catC]) <;> (try rw [catN]) <;> (try rfl))
          · exact Go.Abs.evN
        have hend : readC (l.take (i + 1)) = readC (l.take i) ++ chunks25 (c.kids.take j) ∧ readP (l.take (i + 1)) = readP (l.take i) ++ kids25 (c.kids.take j) := by
          by_cases h9 : c.ty = 9
          · have hjl : j = c.kids.length := by have := hj.1; simp [h9] at c1; omega
            rw [hjl, List.take_length, hrc, hrp, show (c.ty == 9) = true by simpa using h9]; exact ⟨rfl, rfl⟩
          · have hj0 : j = 0 := by rcases Nat.eq_zero_or_pos j with h | h; exact h; exact absurd (hj.2 h) h9
            rw [hj0, hrc, hrp, show (c.ty == 9) = false by simpa using h9]; exact ⟨rfl, rfl⟩
        refine AWp.exit ?_
        try simp only [thenQ, blockQ, noGo, reduceIte, Nat.reduceEqDiff]
        refine hK4 _ ?_
        refine AWp.regionV ?_
        refine hK2 _ (i + 1) (hil) (by omega) ?_
        refine Le.m 3 ?_ ?_
        · first | exact Go.Abs.evM | (refine Go.Abs.evS ?_; rw [hend.1, hend.2])
        · exact Go.Abs.evN
    have hil : i = l.length := by simp at c0; omega
    subst hil
    rw [List.take_length]
    refine AWp.exit ?_
    try simp only [thenQ, blockQ, noGo, reduceIte, Nat.reduceEqDiff]
    refine hK1 _ ?_
    refine AWp.pubD 1 ?_
    refine AWp.pubD 2 ?_
    refine AWp.regionW ?_
    refine AWp.ret ?_
    try simp only [thenQ, blockQ, noGo]
    refine bodyQ.m ?_
    clear hK3 K3 hK2 K2 hK1 K1
    first | done | exact Hand.go
theorem ask25_c (l : List GChunk) (hl : l.length ≤ 2 ^ 30) (hs : ∀ c ∈ l, Small c) : PC Tryz.prog 18 [.sl false 4 (chunksA false l)] (bool (askC l)) := by
  have k1 := few22_c l hl hs
  have k2 := right24_c l hl hs
  refine PC.of_bodyW (by simp only [push_cast]) Tryz.func18 rfl (by rw [Tryz.ntmps18]; simp) ?_
  refine AWp.regionW ?_
  refine AWp.regionA fun K1 hK1 => ?_
  refine ARun.segm 3 fun KS hKS => ?_
  refine ARun2.callM (k1) ?_
  refine ARun2.endm (hKS _ ?_); clear hKS KS
  apply ARun.grpM 2 2 true 7 [5]
  · intro g2 KG hKG
    refine ARun2.gom ?_
    refine ARun2.callM (k2) ?_
    exact ARun2.endm (hKG _ Le.grpM)
  refine ARun2.gom ?_
  refine ARun2.endm (hK1 _ ?_)
  refine AWp.ret ?_
  try simp only [thenQ, blockQ, noGo]
  refine bodyQ.m ?_
  clear hK1 K1
  simp only [askC]
  first | done | exact Hand.go
theorem ask_20b {l : List GChunk} (h : askC l = true) : l.length ≤ 20 := by
  unfold askC few22 at h
  simp only [Bool.and_eq_true, decide_eq_true_eq] at h
  exact h.1.2.1
def exK (t : Nat) : GChunk := ⟨t, 0, [], []⟩
theorem exK_small (t : Nat) (h : t < 256) : Small (exK t) := ⟨h, by show 0 < 256; decide, Nat.zero_le _, by show szs [] ≤ _; simp [szs]⟩
theorem chs_one {c : GChunk} (h1 : Small c) (h2 : tysOk c.kids = true) (h3 : checkC c = 0) (h4 : c.data.length ≤ 65527) : Chs [c] := ⟨by simp, fun x hx => by
  simp only [List.mem_cons, List.not_mem_nil, or_false] at hx
  subst hx; exact ⟨h1, h2⟩, fun x hx => by
  simp only [List.mem_cons, List.not_mem_nil, or_false] at hx
  subst hx; exact ⟨h3, h4⟩⟩
set_option maxRecDepth 100000 in
theorem awake25_c : PC Tryz.prog 10 [] (bool true) := by
  have k1 := rfor_c ⟨1, 2, 0, [exK 99]⟩ (chs_one (exK_small 99 (by decide)) rfl (by kernel_rfl) (by decide)) (by decide)
  rw [show forP ⟨1, 2, 0, [exK 99]⟩ = (⟨2, 1, 0, [⟨9, 0, [], [.mk 6 [99, 0, 0, 4] []]⟩]⟩, true) by kernel_rfl] at k1
  have k2 := rfor_c ⟨0, 0, 0, [exK 11]⟩ (chs_one (exK_small 11 (by decide)) rfl (by kernel_rfl) (by decide)) (by decide)
  rw [show forP ⟨0, 0, 0, [exK 11]⟩ = (⟨0, 0, 0, []⟩, false) by kernel_rfl] at k2
  have k3 := rread_c ⟨2, 1, 0, [⟨9, 0, [], [.mk 6 [99, 0, 0, 4] []]⟩]⟩ (by decide) (fun c hc => by
    simp only [List.mem_cons, List.not_mem_nil, or_false] at hc
    subst hc; exact ⟨by decide, by decide, by decide, by simp [szs, GNode.sz]⟩)
  rw [show readC (GPkt.l ⟨2, 1, 0, [⟨9, 0, [], [.mk 6 [99, 0, 0, 4] []]⟩]⟩) = [exK 99] by kernel_rfl, show readP (GPkt.l ⟨2, 1, 0, [⟨9, 0, [], [.mk 6 [99, 0, 0, 4] []]⟩]⟩) = [] by kernel_rfl] at k3
  have k4 := rparam25_c (.mk 8 [] [.mk 16387 [] []]) (by simp [GNode.sz, szs])
  rw [show param25 (.mk 8 [] [.mk 16387 [] []]) = (.mk 16387 [] [], true) by kernel_rfl] at k4
  unfold exK at k1 k2 k3
  refine PC.of_bodyW (by simp only [push_cast]) Tryz.func10 rfl (by rw [Tryz.ntmps10]; simp) ?_
  refine AWp.regionW ?_
  refine AWp.regionW ?_
  refine AWp.regionM fun K1 hK1 => ?_
  refine ARun2.callM (k1) ?_
  refine ARun2.endm (hK1 _ ?_)
  refine AWp.seqK fun K2 hK2 => ?_
  refine AWp.regionW ?_
  refine AWp.condF ?_
  refine AWp.skip ?_
  refine hK2 _ ?_
  refine AWp.regionM fun K3 hK3 => ?_
  refine ARun2.callM (k3) ?_
  refine ARun2.endm (hK3 _ ?_)
  refine AWp.regionM fun K4 hK4 => ?_
  refine ARun2.callM (k2) ?_
  refine ARun2.endm (hK4 _ ?_)
  refine AWp.regionM fun K5 hK5 => ?_
  refine ARun2.callM (k4) ?_
  refine ARun2.endm (hK5 _ ?_)
  refine AWp.regionM fun K6 hK6 => ?_
  refine ARun2.indexM (0) (chunkA true ⟨9, 0, [], [.mk 6 [99, 0, 0, 4] []]⟩) ?_ ?_
  · exact rfl
  refine ARun2.indexM (0) (chunkA true ⟨9, 0, [], [.mk 6 [99, 0, 0, 4] []]⟩) ?_ ?_
  · exact rfl
  refine ARun2.indexM (0) (chunkA true ⟨99, 0, [], []⟩) ?_ ?_
  · exact rfl
  refine ARun2.endm (hK6 _ ?_)
  refine AWp.ret ?_
  try simp only [thenQ, blockQ, noGo]
  refine bodyQ.m ?_
  clear hK6 K6 hK5 K5 hK4 K4 hK3 K3 hK2 K2 hK1 K1
  first | done | exact Hand.go
theorem readC_len2 : ∀ {l : List GChunk}, (∀ c ∈ l, checkC c = 0) → (readC l).length ≤ l.length * 2 ^ 14
  | [], _ => Nat.le_refl _
  | x :: l, h => by
    have ih := readC_len2 (l := l) (fun c hc => h c (by simp [hc]))
    have h1 := (check_size (h x (by simp))).1
    have h2 := nSize_len x.kids
    have h3 : (chunks25 x.kids).length ≤ x.kids.length := List.length_filterMap_le _ _
    unfold readC at ih ⊢
    rw [List.flatMap_cons, List.length_append, List.length_cons, Nat.add_mul, Nat.one_mul]
    cases x.ty == 9 with
    | true => simp only [cond_true]; omega
    | false => simp only [cond_false, List.length_nil]; omega
theorem sameL_same (l : List GNode) : sameL l l = true := (sameL_iff l l).2 rfl
theorem reads25_big (p : GPkt) (hl : p.l.length ≤ 2 ^ 30) (hs : ∀ c ∈ p.l, Small c) (ha : askC p.l = false) : PC Tryz.prog 4 [pktA false p] (bool true) := by
  have kf := ask25_c p.l hl hs
  rw [ha] at kf
  refine PC.of_bodyW (by simp only [push_cast]) Tryz.func4 rfl (by rw [Tryz.ntmps4]; simp) ?_
  refine AWp.regionW ?_
  refine AWp.seqK fun K1 hK1 => ?_
  refine AWp.regionM fun K2 hK2 => ?_
  refine ARun2.callM (awake25_c) ?_
  refine ARun2.callM (kf) ?_
  refine ARun2.endm (hK2 _ ?_)
  refine AWp.condT ?_
  refine AWp.regionM fun K3 hK3 => ?_
  refine ARun2.callM (awake25_c) ?_
  refine ARun2.endm (hK3 _ ?_)
  refine AWp.ret ?_
  try simp only [thenQ, blockQ, noGo]
  refine bodyQ.m ?_
  clear hK3 K3 hK2 K2 hK1 K1
  first | done | exact Hand.go
theorem reads25_yes (p : GPkt) (hs : ∀ c ∈ p.l, Small c ∧ tysOk c.kids = true) (ha : askC p.l = true) : PC Tryz.prog 4 [pktA false p] (bool true) := by
  have h20 := ask_20b ha
  have hsm : ∀ c ∈ p.l, Small c := fun c hc => (hs c hc).1
  have kf := ask25_c p.l (by omega) hsm
  rw [ha] at kf
  have hc := ask_chs ha hs
  have k1 := rread_c p (by omega) hsm
  have k2 := rrread_c p (by omega) hsm
  have b1 := readC_len2 (l := p.l) (fun c hx => (hc.ok c hx).1)
  have b2 := readP_szs hsm
  have b3 : p.l.length * 2 ^ 26 ≤ 20 * 2 ^ 26 := Nat.mul_le_mul_right _ h20
  have b4 : p.l.length * 2 ^ 14 ≤ 20 * 2 ^ 14 := Nat.mul_le_mul_right _ h20
  have k3 := rsamec_c (readC p.l) (readC p.l) (by omega) (readC_small hsm)
  rw [(sameLC_iff _ _).2 rfl] at k3
  have k4 := same08_c (readP p.l) (readP p.l) (by omega)
  rw [sameL_same] at k4
  generalize readC p.l = A at k1 k2 k3
  generalize readP p.l = B at k1 k2 k4
  refine PC.of_bodyW (by simp only [push_cast]) Tryz.func4 rfl (by rw [Tryz.ntmps4]; simp) ?_
  refine AWp.regionW ?_
  refine AWp.seqK fun K1 hK1 => ?_
  refine AWp.regionM fun K2 hK2 => ?_
  refine ARun2.callM (awake25_c) ?_
  refine ARun2.callM (kf) ?_
  refine ARun2.endm (hK2 _ ?_)
  refine AWp.condF ?_
  refine AWp.skip ?_
  refine hK1 _ ?_
  refine AWp.regionM fun K3 hK3 => ?_
  refine ARun2.callM (k1) ?_
  refine ARun2.endm (hK3 _ ?_)
  refine AWp.regionM fun K4 hK4 => ?_
  refine ARun2.callM (k2) ?_
  refine ARun2.endm (hK4 _ ?_)
  refine AWp.regionA fun K5 hK5 => ?_
  refine ARun.segm 4 fun KS hKS => ?_
  refine ARun2.callM (k3) ?_
  refine ARun2.endm (hKS _ ?_); clear hKS KS
  apply ARun.grpM 3 3 true 32 [29]
  · intro g3 KG hKG
    refine ARun2.gom ?_
    refine ARun2.callM (k4) ?_
    exact ARun2.endm (hKG _ Le.grpM)
  refine ARun2.gom ?_
  refine ARun2.endm (hK5 _ ?_)
  refine AWp.ret ?_
  try simp only [thenQ, blockQ, noGo]
  refine bodyQ.m ?_
  clear hK5 K5 hK4 K4 hK3 K3 hK2 K2 hK1 K1
  first | done | exact Hand.go
theorem reportReads_c (p : GPkt) (hl : p.l.length ≤ 2 ^ 30) (hs : ∀ c ∈ p.l, Small c ∧ tysOk c.kids = true) : PC Tryz.prog 4 [pktA false p] (bool true) := by
  cases ha : askC p.l with
  | false => exact reads25_big p hl (fun c hc => (hs c hc).1) ha
  | true => exact reads25_yes p hs ha
end Go.Proofs.YtokbbdodbjiciaaGreatDoor.C
namespace Go.Abs
open Go.ChangeShapes Go.WideShapes Go.RowKit
set_option linter.unusedSectionVars false
abbrev Old (W : World) : Nat → Prop := fun b => b < W.heap.size
theorem RW.start (W : World) : RW (E0 W.heap.size W (Old W) []) [] [] (Old W) W :=
  { ep := Nat.le_refl _, os := rfl, tape := rfl, output := rfl, size := Nat.le_refl _, block := fun _ _ _ => rfl, pre := fun k v h => by simp at h, bsub := fun _ h => h, bnew := fun _ h => .inl h,
    blt := fun _ h => h, len := rfl, obs := fun k o h => by simp at h, dis := fun i j o o' u v b _ h => by simp at h, prv := fun k o v b h => by simp at h }
theorem PC.answers {P : Program} {f : FuncId} {ys : List AV} {v : Value} (h : PC P f ys (.val v)) {W : World} (hg : Globs W (Old W) []) {args : Array Value} (ha : RelL W (Old W) W.heap.size [] ys args.toList) :
    Calls P f args W fun e W' => e = .returned v ∧ Below W.heap.size W W' := by
  have := h.2 W.heap.size W [] (Old W) args.toList hg (RW.start W) ha (fun e W' => e = .returned v ∧ Below W.heap.size W W') (by
    rintro r' v' τ' ρ' B' w' ⟨rfl, rfl⟩ hw hr
    cases hr
    exact ⟨rfl, ⟨hw.os, hw.tape, hw.output, hw.size, fun k hk => hw.block k hk ⟨fun ⟨u, hu, _⟩ => by simp at hu, fun h => by cases h⟩⟩⟩)
  simpa using this
section
variable {H : Type} {enc : TypeId × Value → H} {P : Program} {W W' : World}
theorem trodAll_stays (hl : laidOutB P = true) (hb : Below W.heap.size W W') {sp' : Nat → Bool} : ∀ {ts : List TypeId} {vs : List Value} {ds : List (DataW H)} {ps : List MemPlace}, (∀ t ∈ ts, P.readableRec t = true ∧ t < P.types.size) →
    DataW.TrodAll enc P W 0 (fun _ => true) true ts vs ds ps → (∀ p ∈ ps, p.block < W.heap.size) → (∀ p ∈ ps, sp' p.block = true) → DataW.TrodAll enc P W' 0 sp' true ts vs ds ps
  | [], _, _, _, _, h, _, _ => by
    obtain ⟨rfl, rfl, rfl⟩ := trodAll_nil h
    rfl
  | t :: ts, _, _, _, ht, h, hlt, hs => by
    obtain ⟨v, vs1, d, ds1, a, b, rfl, rfl, rfl, h1, h2⟩ := trodAll_cons h
    have := ht t (by simp)
    exact ⟨a, b, WideElems.Trod_stays hl this.1 this.2 h1 (fun x hx => hb.same (hlt x (by simp [hx]))) (fun x hx => hs x (by simp [hx])),
      trodAll_stays hl hb (fun u hu => ht u (by simp [hu])) h2 (fun x hx => hlt x (by simp [hx])) (fun x hx => hs x (by simp [hx])), rfl⟩
theorem post_true {f : Func} {s : ChangeSpec} {fresh : Bool} {args : Array Value} {ds gs : List (DataW H)} {before : List MemPlace} {tb : TypeId}
    (hW : DataW.Whole enc P f.params.toList s.vars false W args.toList ds gs before) (hv : s.vars = []) (hs : s.fn H (ds ++ gs) = { results := [.lit (.bool true)], args := ds }) (hr : f.resultTypes = #[tb]) (hb : P.underlying tb = some .bool)
    (hl : laidOutB P = true) (ht : (f.params.toList.all fun t => P.readableRec t && decide (t < P.types.size)) = true) (hB : Below W.heap.size W W') :
    s.post enc P f false fresh false false W args (.bool true) W' := by
  have hW0 := hW
  obtain ⟨p, q, hA, hV, rfl, hfz, _⟩ := hW
  rw [hv] at hV
  have hg : gs = [] ∧ q = [] := by
    cases gs with
    | nil => exact ⟨rfl, hV⟩
    | cons g gs => exact hV.elim
  obtain ⟨rfl, rfl⟩ := hg
  have hlt : ∀ x ∈ p ++ [], x.block < W.heap.size := fun x hx => by simpa using hW0.lt x hx
  refine ⟨ds, [], p ++ [], [], p, [], hW0, ?_, ?_, ?_, ?_, fun h => by cases h⟩
  · rw [hs, hr]
    exact trodAll_cons_mk (p := []) (p' := []) (shut_bool hb _) trodAll_mk0
  · rw [hs]
    refine trodAll_stays hl hB (fun t h => ?_) hA (fun x hx => hlt x (by simp [hx])) (fun x hx => by simpa using hlt x (by simp [hx]))
    have := List.all_eq_true.1 ht t h
    simpa using this
  · rw [hs, hv]; exact rfl
  · refine ⟨hB.os, hB.output, fun i hi => ?_⟩
    rw [hB.block i hi]
    cases W.heap[i]? with
    | none => rfl
    | some o => cases o <;> simp
theorem addr_of_cell {w : World} {a : Addr} {v : Value} (h : w.cell? a = some v) : a.spot = none := by
  unfold World.cell? at h
  split at h
  · split at h
    · cases h
    · rename_i hs; cases hh : a.spot <;> simp_all
  · cases h
theorem rel_ints0 {t e : TypeId} {k : IntKind} {v : Value} {d : DataW H} {ps : List MemPlace} {fuel : Nat} (ht : P.underlying t = some (.slice e)) (he : P.underlying e = some (.int k)) (hc : P.cellsOf e = 1)
    (hf : DataW.trod enc P W 0 (fun _ => true) true fuel t [v] = some (d, ps)) :
    ∃ (zs : List Int), Rel W (Old W) W.heap.size [] (.sl false 1 (zs.map fun n => .val (.int k n))) v ∧ (∀ n ∈ zs, (Lit.int k n).wf = true) ∧ ((d = .nil ∧ zs = []) ∨ ∃ rest, d = .slice (lits k zs) rest) := by
  rcases open_ints ht he hc hf with ⟨h1, h2⟩ | ⟨a, len, cap, zs, h1, h2, h3, h4, h5, h6, h7, h8⟩
  · simp only [List.cons.injEq, and_true] at h1
    subst h1
    exact ⟨[], .slE _ _ _ _, by simp, .inl ⟨congrArg Prod.fst h2, rfl⟩⟩
  · simp only [List.cons.injEq, and_true] at h1
    subst h1
    simp only [if_true] at h5
    refine ⟨zs.take len, ?_, fun n hn => h8 n (List.mem_of_mem_take hn), .inr ⟨_, congrArg Prod.fst h6⟩⟩
    have hlen : (zs.take len).length = len := by rw [List.length_take]; omega
    cases hq : zs.take len with
    | nil =>
      rw [hq] at hlen
      simp at hlen
      subst hlen
      exact .slE _ _ _ _
    | cons z l =>
      have hpos : 0 < zs.length := by rw [hq] at hlen; simp at hlen; omega
      have h0 := h7 0 hpos
      have hsp : a.spot = none := addr_of_cell (show W.cell? a = _ from h0)
      obtain ⟨b, o, sp⟩ := a
      simp only at hsp
      subst hsp
      have hblk : b < W.heap.size := by
        have := World.block_lt_of_cell? W _ h0
        simpa [Addr.add] using this
      rw [hq] at hlen
      simp only [List.length_cons] at hlen
      subst hlen
      have hrow := RelRow.mk (w := W) (B := Old W) (bs := W.heap.size) (ρ := []) (nw := false) (b := b) (sz := 1) (o := o) (xs := (z :: l).map fun n => AV.val (.int k n)) (vs := (z :: l).map fun n => Value.int k n) hblk (fun h => by cases h) ?_ ?_ ?_
      · have := Rel.sl (cap := cap) (by simpa using hrow) (by simpa using h3)
        simpa using this
      · have : (((z :: l).map fun n => AV.val (.int k n)).flatMap AV.cells) = ((z :: l).map fun n => Value.int k n).map AV.val := by
          generalize z :: l = m
          induction m with
          | nil => rfl
          | cons x m ih => simp only [List.map_cons, List.flatMap_cons, ih]; rfl
        rw [this]
        have key : ∀ l : List Value, RelL W (Old W) W.heap.size [] (l.map AV.val) l := fun l => by induction l with
          | nil => exact .nil
          | cons x l ih => exact .cons (.val x) ih
        exact key _
      · intro x hx
        simp only [List.mem_map] at hx
        obtain ⟨n, _, rfl⟩ := hx
        exact ⟨rfl, fun c hc => by simp [AV.cells] at hc; subst hc; rfl⟩
      · intro j v hj
        rw [← hq, List.getElem?_map, List.getElem?_take] at hj
        split at hj
        · rename_i hjl
          simp only [Option.map_eq_some_iff] at hj
          obtain ⟨n, hn, rfl⟩ := hj
          have hlt : j < zs.length := by have := List.getElem?_eq_some_iff.1 hn; exact this.1
          have := h7 j hlt
          rw [addr_add] at this
          rw [this, List.getD_eq_getElem?_getD, hn]; rfl
        · simp at hj
end
end Go.Abs
namespace Go.Proofs.YtokbbdodbjiciaaGreatDoor.C
open Go.Abs Go.ChangeShapes Go.WideShapes Go.ChangeAt Go.RowKit
theorem own : ownKnob Tryz.prog.godebug = none := by kernel_rfl
theorem laidOut : laidOutB Tryz.prog = true := by kernel_rfl
theorem nat_of {n : Int} {m : Nat} (h : 0 ≤ n ∧ n ≤ m) : ∃ x : Nat, n = N x ∧ x < m + 1 := ⟨n.toNat, by unfold N; omega, by omega⟩
theorem u8_of {n : Int} (h : (Lit.int .u8 n).wf = true) : ∃ m : Nat, n = N m ∧ m < 2 ^ 8 := nat_of (m := 255) (by simpa [Lit.wf, IntKind.min, IntKind.max, IntKind.signed, IntKind.bits] using h)
theorem u16_of {n : Int} (h : (Lit.int .u16 n).wf = true) : ∃ m : Nat, n = N m ∧ m < 2 ^ 16 := nat_of (m := 65535) (by simpa [Lit.wf, IntKind.min, IntKind.max, IntKind.signed, IntKind.bits] using h)
theorem u32_of {n : Int} (h : (Lit.int .u32 n).wf = true) : ∃ m : Nat, n = N m ∧ m < 2 ^ 32 := nat_of (m := 4294967295) (by simpa [Lit.wf, IntKind.min, IntKind.max, IntKind.signed, IntKind.bits] using h)
theorem int_bounds {k : IntKind} {n : Int} (h : (Lit.int k n).wf = true) : k.min ≤ n ∧ n ≤ k.max := by simpa [Lit.wf] using h
theorem bys_of {zs : List Int} (h : ∀ n ∈ zs, (Lit.int .u8 n).wf = true) : (zs.map fun n => AV.val (.int .u8 n)) = bys (zs.map fun n => UInt8.ofNat n.toNat) := by
  unfold bys
  rw [List.map_map]
  refine List.map_congr_left fun n hn => ?_
  have h2 : 0 ≤ n ∧ n ≤ 255 := by simpa [Lit.wf, IntKind.min, IntKind.max, IntKind.signed, IntKind.bits] using h n hn
  have h3 : N (UInt8.ofNat n.toNat).toNat = n := by
    rw [UInt8.toNat_ofNat']; unfold N; omega
  show AV.val (.int .u8 n) = .val (.int .u8 (N (UInt8.ofNat n.toNat).toNat))
  rw [h3]
theorem bulk_one {H : Type} (d : DataW H) : 1 ≤ Rows.uptoBulk d := by
  cases d with
  | lit l => cases l <;> simp [Rows.uptoBulk]
  | _ => simp [Rows.uptoBulk]
theorem bulk_len {H : Type} : ∀ l : List (DataW H), l.length ≤ Rows.uptoBulkAll l
  | [] => by simp [Rows.uptoBulkAll]
  | x :: r => by
    have h1 := bulk_one x
    have h2 := bulk_len r
    simp only [Rows.uptoBulkAll, List.length_cons]; omega
theorem bulk_lits' {H : Type} (k : IntKind) (zs : List Int) (rest : List (DataW H)) : zs.length + 1 ≤ Rows.uptoBulk (.slice (lits k zs) rest : DataW H) := by
  have := bulk_len (lits k zs : List (DataW H))
  simp only [lits, List.length_map] at this
  simp only [Rows.uptoBulk, lits]
  omega
section
variable {H : Type} {enc : TypeId × Value → H} {W : World}
theorem rel_bytes0 {v : Value} {d : DataW H} {ps : List MemPlace} {fuel : Nat} (hf : DataW.trod enc Tryz.prog W 0 (fun _ => true) true fuel 23 [v] = some (d, ps)) :
    ∃ l : List UInt8, Rel W (Old W) W.heap.size [] (.sl false 1 (bys l)) v ∧ l.length ≤ Rows.uptoBulk d := by
  have hc : Tryz.prog.cellsOf 5 = 1 := by kernel_rfl
  obtain ⟨zs, k0, k1, k2⟩ := rel_ints0 Tryz.underlying23 Tryz.underlying5 hc hf
  rw [bys_of k1] at k0
  refine ⟨_, k0, ?_⟩
  rw [List.length_map]
  rcases k2 with ⟨_, rfl⟩ | ⟨rest, rfl⟩
  · simp
  · have := bulk_lits' .u8 zs rest; omega
theorem nodeA_one (n : GNode) : ∀ c ∈ (nodeA false n).cells, c.one = true := by
  rw [nodeA_eq]; simp [AV.cells, AV.one, Value.oneCell']
theorem node_fields : ∃ f0 f1 f2 : Field, Tryz.prog.underlying 26 = some (.struct #[f0, f1, f2]) ∧ f0.type = 22 ∧ f0.offset = 0 ∧ f1.type = 23 ∧ f1.offset = 1 ∧ f2.type = 24 ∧ f2.offset = 2 :=
  ⟨_, _, _, Tryz.underlying26, rfl, rfl, rfl, rfl, rfl, rfl⟩
set_option maxRecDepth 100000 in
theorem rel_node0 : ∀ (fuel : Nat),
    (∀ (cs : List Value) (d : DataW H) (ps : List MemPlace), DataW.trod enc Tryz.prog W 0 (fun _ => true) true fuel 26 cs = some (d, ps) → ∃ n : GNode, RelL W (Old W) W.heap.size [] (nodeA false n).cells cs ∧ n.sz ≤ Rows.uptoBulk d ∧ n.tyOk = true) ∧
    (∀ (v : Value) (d : DataW H) (ps : List MemPlace), DataW.trod enc Tryz.prog W 0 (fun _ => true) true fuel 24 [v] = some (d, ps) → ∃ l : List GNode, Rel W (Old W) W.heap.size [] (.sl false 3 (nodesA false l)) v ∧ szs l ≤ Rows.uptoBulk d ∧ tysOk l = true) := by
  have c16 : Tryz.prog.cellsOf 22 = 1 := by kernel_rfl
  have c8 : Tryz.prog.cellsOf 23 = 1 := by kernel_rfl
  have cn : Tryz.prog.cellsOf 24 = 1 := by kernel_rfl
  have c3 : Tryz.prog.cellsOf 26 = 3 := by kernel_rfl
  intro fuel
  induction fuel with
  | zero => exact ⟨fun cs d ps h => by simp [DataW.trod] at h, fun v d ps h => by simp [DataW.trod] at h⟩
  | succ fuel ih =>
    refine ⟨?_, ?_⟩
    · intro cs d ps h
      obtain ⟨f0, f1, f2, hs, a0, b0, a1, b1, a2, b2⟩ := node_fields
      obtain ⟨xs, m, hm, hx, hl, hlen, hall⟩ := DataW.trod_struct hs h
      have hm' : m = fuel := by omega
      subst hm'
      have e0 := hall 0 f0 rfl
      have e1 := hall 1 f1 rfl
      have e2 := hall 2 f2 rfl
      rw [a0, b0, c16] at e0
      rw [a1, b1, c8] at e1
      rw [a2, b2, cn] at e2
      rw [c3] at hl
      match xs, hlen, cs, hl with
      | [y0, y1, y2], _, [v0, v1, v2], _ =>
        simp only [List.drop_zero, List.take_succ_cons, List.take_zero, List.drop_succ_cons, List.getElem?_cons_zero, List.getElem?_cons_succ] at e0 e1 e2
        obtain ⟨n0, h0, hy0, hw0⟩ := DataW.trod_int Tryz.underlying22 e0
        obtain ⟨l1, r1, s1⟩ := rel_bytes0 (d := y1.1) (ps := y1.2) e1
        obtain ⟨l2, r2, s2, t2⟩ := ih.2 v2 y2.1 y2.2 e2
        have hb := int_bounds hw0
        have hn : N n0.toNat = n0 := by
          have : (0 : Int) ≤ n0 := hb.1
          unfold N; omega
        have hle : n0 ≤ 65535 := hb.2
        refine ⟨.mk n0.toNat l1 l2, ?_, ?_, by rw [GNode.tyOk, t2]; simp; omega⟩
        · rw [nodeA_eq]
          simp only [List.cons.injEq, and_true] at h0
          subst h0
          have := Rel.val (w := W) (B := Old W) (bs := W.heap.size) (ρ := []) (.int .u16 (N n0.toNat))
          rw [hn] at this
          exact .cons (by show Rel _ _ _ _ (.val (.int .u16 (N n0.toNat))) _; rw [hn]; exact this) (.cons r1 (.cons r2 .nil))
        · have hd : d = .agg [y0.1, y1.1, y2.1] := congrArg Prod.fst hx
          rw [hd]
          have := bulk_one y0.1
          simp only [GNode.sz, Rows.uptoBulk, Rows.uptoBulkAll]
          omega
    · intro v d ps h
      rcases DataW.trod_slice Tryz.underlying24 h with ⟨h1, h2⟩ | ⟨a, len, cap, elems, rest, m, hm, h1, h2, _, hlc, hcm, hlen, hel, _, _⟩
      · simp only [List.cons.injEq, and_true] at h1
        subst h1
        refine ⟨[], by simpa [nodesA] using Rel.slE false 3 none 0, by simp [szs], rfl⟩
      · have hm' : m = fuel := by omega
        subst hm'
        simp only [List.cons.injEq, and_true] at h1
        subst h1
        rw [c3] at hel
        -- every element is a node
        have each : ∀ i (hi : i < elems.length), ∃ (n : GNode) (cs : List Value), cs.length = 3 ∧ (∀ j, j < 3 → W.cell? ((a.add (i * 3)).add j) = cs[j]?) ∧ RelL W (Old W) W.heap.size [] (nodeA false n).cells cs ∧ n.sz ≤ Rows.uptoBulk elems[i].1 ∧ n.tyOk = true := by
          intro i hi
          have hk := hel i (by omega)
          rw [List.getElem?_eq_getElem hi] at hk
          obtain ⟨cs, hcs, hy⟩ := Option.bind_eq_some_iff.1 hk
          obtain ⟨_, hl3, hcell⟩ := World.cells?_some hcs
          obtain ⟨n, r, s, tt⟩ := ih.1 cs elems[i].1 elems[i].2 hy
          exact ⟨n, cs, hl3, hcell, r, s, tt⟩
        cases hq : elems with
        | nil =>
          rw [hq] at hlen
          simp at hlen
          subst hlen
          exact ⟨[], by simpa [nodesA] using Rel.slE false 3 (some a) cap, by simp [szs], rfl⟩
        | cons x r =>
          have hpos : 0 < elems.length := by rw [hq]; simp
          obtain ⟨n0, cs0, hl0, hc0, _, _, _⟩ := each 0 hpos
          have hcell0 := hc0 0 (by omega)
          simp only [Nat.zero_mul] at hcell0
          rw [List.getElem?_eq_getElem (by omega)] at hcell0
          have hsp : a.spot = none := addr_of_cell (show W.cell? a = _ from hcell0)
          obtain ⟨b, o, sp⟩ := a
          simp only at hsp
          subst hsp
          have hblk : b < W.heap.size := by
            have := World.block_lt_of_cell? W _ hcell0
            simpa [Addr.add] using this
          have rows : ∀ k, k ≤ elems.length → ∃ l : List GNode, l.length = k ∧ RelRow W (Old W) W.heap.size [] false b 3 (o + (elems.length - k) * 3) (nodesA false l) ∧ szs l ≤ Rows.uptoBulkAll ((elems.drop (elems.length - k)).map (·.1)) ∧ tysOk l = true := by
            intro k
            induction k with
            | zero => exact fun _ => ⟨[], rfl, by simpa [nodesA] using RelRow.nil, by simp [szs], rfl⟩
            | succ k ihk =>
              intro hk
              obtain ⟨l, p1, p2, p3, p4⟩ := ihk (by omega)
              have hi : elems.length - (k + 1) < elems.length := by omega
              obtain ⟨n, cs, q1, q2, q3, q4, q5⟩ := each _ hi
              have hd : elems.drop (elems.length - (k + 1)) = elems[elems.length - (k + 1)] :: elems.drop (elems.length - k) := by
                rw [List.drop_eq_getElem_cons hi, show elems.length - (k + 1) + 1 = elems.length - k by omega]
              refine ⟨n :: l, by simp [p1], ?_, ?_, by rw [tysOk, q5, p4]; rfl⟩
              · rw [nodesA_cons]
                refine .cons (RelCells.mk (B := Old W) (bs := W.heap.size) (nw := false) hblk (fun h => by cases h) q3 (nodeA_one n) ?_) (by rw [nodeA_eq]; rfl) ?_
                · intro j v hj
                  have hj3 : j < 3 := by rw [← q1]; exact (List.getElem?_eq_some_iff.1 hj).1
                  have := q2 j hj3
                  rw [addr_add, addr_add] at this
                  rw [this, hj]
                · have e : o + (elems.length - (k + 1)) * 3 + 3 = o + (elems.length - k) * 3 := by omega
                  rw [e]; exact p2
              · rw [hd]
                simp only [szs, List.map_cons, Rows.uptoBulkAll]
                omega
          obtain ⟨l, p1, p2, p3, p4⟩ := rows elems.length (Nat.le_refl _)
          rw [Nat.sub_self] at p2 p3
          have hd : d = .slice (elems.map (·.1)) (rest.map (·.1)) := congrArg Prod.fst h2
          refine ⟨l, ?_, ?_, p4⟩
          · match l, p1 with
            | n :: l, p1 =>
              rw [nodesA_cons] at p2 ⊢
              have := Rel.sl (cap := cap) (by simpa using p2) (by rw [nodesA_len]; simp at p1; omega)
              rw [nodesA_len] at this
              have e : l.length + 1 = len := by simp at p1; omega
              rw [e] at this
              exact this
            | [], p1 => simp at p1; omega
          · rw [hd]
            simp only [Rows.uptoBulk, List.drop_zero] at *
            omega
end
end Go.Proofs.YtokbbdodbjiciaaGreatDoor.C
namespace Go.Proofs.YtokbbdodbjiciaaGreatDoor.C
mutual
def flatD : DataW Unit → List Value
  | .lit (.int k n) => [.int k n]
  | .lit (.string s) => [.string ⟨s.toArray⟩]
  | .agg ps => flatDs ps
  | _ => []
def flatDs : List (DataW Unit) → List Value
  | [] => []
  | d :: r => flatD d ++ flatDs r
end
theorem flatDs_flatMap : ∀ l : List (DataW Unit), flatDs l = l.flatMap flatD
  | [] => rfl
  | d :: r => by rw [flatDs, flatDs_flatMap r, List.flatMap_cons]
section
variable {P : Program} {W : World}
def Flat (P : Program) (W : World) (t : TypeId) : Prop := ∀ (fuel : Nat) (cs : List Value) (x : DataW Unit × List MemPlace), DataW.trod (fun _ => ()) P W 0 (fun _ => true) false fuel t cs = some x → cs = flatD x.1
theorem flat_int {t : TypeId} {k : IntKind} (h : P.underlying t = some (.int k)) : Flat P W t := by
  intro fuel cs x hx
  obtain ⟨n, rfl, rfl, _⟩ := DataW.trod_int h hx
  rfl
theorem flat_string {t : TypeId} (h : P.underlying t = some .string) : Flat P W t := by
  intro fuel cs x hx
  obtain ⟨s, rfl, rfl, _⟩ := DataW.trod_string h hx
  simp [flatD]
theorem blocks_flat (f : DataW Unit × List MemPlace → List Value) (m : Nat) : ∀ (xs : List (DataW Unit × List MemPlace)) (cs : List Value), cs.length = xs.length * m → (∀ i x, xs[i]? = some x → (cs.drop (i * m)).take m = f x) → cs = xs.flatMap f
  | [], cs, h, _ => by simpa using h
  | x :: r, cs, h, hk => by
    have h0 := hk 0 x rfl
    rw [Nat.zero_mul, List.drop_zero] at h0
    have ih := blocks_flat f m r (cs.drop m) (by rw [List.length_drop, h, List.length_cons, Nat.succ_mul]; omega) fun i y hy => by
      have := hk (i + 1) y hy
      rwa [Nat.succ_mul, Nat.add_comm, ← List.drop_drop] at this
    rw [List.flatMap_cons, ← h0, ← ih, List.take_append_drop]
theorem flat_of_parts {xs : List (DataW Unit × List MemPlace)} : flatD (.agg (xs.map (·.1))) = xs.flatMap fun x => flatD x.1 := by
  rw [flatD, flatDs_flatMap, List.flatMap_map]
theorem flat_array {t e : TypeId} {n : Nat} (ht : P.underlying t = some (.array n e)) (hc : P.cellsOf t = n * P.cellsOf e) (he : Flat P W e) : Flat P W t := by
  intro fuel cs x hx
  obtain ⟨xs, m, rfl, rfl, hl, hn, hk⟩ := DataW.trod_array ht hx
  show cs = flatD (.agg (xs.map (·.1)))
  rw [flat_of_parts]
  refine blocks_flat _ (P.cellsOf e) xs cs (by rw [hl, hc, hn]) fun i y hy => ?_
  have hi : i < n := by rw [← hn]; exact (List.getElem?_eq_some_iff.1 hy).1
  have := hk i hi
  rw [hy] at this
  exact he _ _ _ this
theorem flat_struct {t : TypeId} {fs : Array Field} (ht : P.underlying t = some (.struct fs)) (hc : P.cellsOf t = fs.size) (hf : ∀ (i : Nat) (f : Field), fs[i]? = some f → f.offset = i ∧ P.cellsOf f.type = 1 ∧ Flat P W f.type) : Flat P W t := by
  intro fuel cs x hx
  obtain ⟨xs, m, rfl, rfl, hl, hn, hk⟩ := DataW.trod_struct ht hx
  show cs = flatD (.agg (xs.map (·.1)))
  rw [flat_of_parts]
  refine blocks_flat _ 1 xs cs (by rw [hl, hc, hn, Nat.mul_one]) fun i y hy => ?_
  have hi : i < fs.size := by rw [← hn]; exact (List.getElem?_eq_some_iff.1 hy).1
  obtain ⟨h1, h2, h3⟩ := hf i fs[i] (Array.getElem?_eq_getElem hi)
  have := hk i fs[i] (Array.getElem?_eq_getElem hi)
  rw [hy, h1, h2] at this
  rw [Nat.mul_one]
  exact h3 _ _ _ this
theorem laid_cells {l : List (String × DataW Unit)} (h : laidMet P l W) {n : String} {d : DataW Unit} {g : Nat} {t : TypeId} {L : List Value} (hm : (n, d) ∈ l) (hg : P.globalNamed n = some g) (ht : (P.globals[g]?).map (·.type) = some t) (hf : Flat P W t) (hd : flatD d = L) :
    ∀ (i : Nat) (v : Value), L[i]? = some v → W.cell? ⟨g, i, none⟩ = some v := by
  obtain ⟨ps, hv, _⟩ := h
  have key : ∀ {l : List (String × DataW Unit)} {ps : List MemPlace}, DataW.LaidVars P W l ps → (n, d) ∈ l → ∃ cs fuel p, W.var? P n = some cs ∧ DataW.trod (fun _ => ()) P W 0 (fun _ => true) false fuel t cs.toList = some (d, p) := by
    intro l
    induction l with
    | nil => intro ps _ hm; cases hm
    | cons y r ih =>
      intro ps hv hm
      obtain ⟨g', t', cs, fuel, p, q, h1, h2, h3, h4, h5, _⟩ := hv
      rcases List.mem_cons.1 hm with e | e
      · cases e
        obtain rfl := Option.some.inj (hg.symm.trans h1)
        obtain rfl := Option.some.inj (ht.symm.trans h2)
        exact ⟨cs, fuel, p, h3, h4⟩
      · exact ih h5 e
  obtain ⟨cs, fuel, p, h1, h2⟩ := key hv hm
  have h3 : cs.toList = L := (hf _ _ _ h2).trans hd
  intro i v hi
  rw [World.var?_cell hg h1 i, ← Array.getElem?_toList, h3]
  exact hi
end
end Go.Proofs.YtokbbdodbjiciaaGreatDoor.C
namespace Go.Proofs.YtokbbdodbjiciaaGreatDoor.C
open Go.Abs Go.ChangeShapes Go.WideShapes Go.ChangeAt Go.RowKit
def laidL : List (String × DataW Unit) := [("errors.errorType", Rows.laid_errors_errorType), ("wharf/kind.table", Rows.laid_wharf_kind_table), ("wharf/kind.inside", Rows.laid_wharf_kind_inside), ("wharf/legal.alone", Rows.laid_wharf_legal_alone)]
def alCells : List Value := [.int .u8 1, .int .u8 2, .int .u8 14]
def etCells : List Value := [.iface 265 (.agg #[.pointer (some ⟨4, 76, none⟩)])]
theorem etG : Tryz.prog.globalNamed "errors.errorType" = some 2 := by kernel_rfl
theorem etRt : (Tryz.prog.cutTypes.find? (·.1 == "internal/reflectlite.rtype")).map (·.2) = some 265 := by kernel_rfl
theorem etRow : ((List.range Tryz.prog.types.size).filter fun t => Tryz.prog.rowNamed t [101, 114, 114, 111, 114]) = [76] := by kernel_rfl
theorem etHandle : typeHandle Tryz.prog 76 = .pointer (some ⟨4, 76, none⟩) := by kernel_rfl
theorem laid_parts {W : World} (h : laidMetH Tryz.prog laidL W) : laidMet Tryz.prog [("wharf/kind.table", Rows.laid_wharf_kind_table), ("wharf/kind.inside", Rows.laid_wharf_kind_inside), ("wharf/legal.alone", Rows.laid_wharf_legal_alone)] W ∧ handlesMet Tryz.prog [("errors.errorType", Rows.laid_errors_errorType)] W := h
theorem handle_of_laid {W : World} (h : laidMetH Tryz.prog laidL W) : W.cell? ⟨2, 0, none⟩ = some (.iface 265 (.agg #[.pointer (some ⟨4, 76, none⟩)])) := by
  have h' := laid_parts h
  obtain ⟨name, u, ty, e1, e2, e3, e4, e5⟩ := h'.2 _ (List.mem_singleton.2 rfl)
  have en : name = [101, 114, 114, 111, 114] := (Option.some.inj e1).symm
  subst en
  obtain rfl := Option.some.inj (etRt.symm.trans e2)
  have hm : ty ∈ (List.range Tryz.prog.types.size).filter fun t => Tryz.prog.rowNamed t [101, 114, 114, 111, 114] := List.mem_filter.2 ⟨List.mem_range.2 e3, e4⟩
  rw [etRow] at hm
  obtain rfl := List.mem_singleton.1 hm
  rw [etHandle] at e5
  simpa using World.var?_cell etG e5 0
theorem cell_lt {W : World} {b i : Nat} {v : Value} (h : W.cell? ⟨b, i, none⟩ = some v) : b < W.heap.size := by
  rcases Nat.lt_or_ge b W.heap.size with h' | h'
  · exact h'
  · simp [World.cell?, Array.getElem?_eq_none h'] at h
theorem flat_kinds (W : World) : Flat Tryz.prog W 174 := by
  have h1 : Flat Tryz.prog W 5 := flat_int Tryz.underlying5
  have h2 : Flat Tryz.prog W 3 := flat_int Tryz.underlying3
  have h3 : Flat Tryz.prog W 9 := flat_string Tryz.underlying9
  refine flat_array Tryz.underlying174 (by kernel_rfl) (flat_struct Tryz.underlying123 (by kernel_rfl) fun i f hf => ?_)
  match i, hf with
  | 0, hf => simp at hf; subst hf; exact ⟨rfl, by kernel_rfl, h1⟩
  | 1, hf => simp at hf; subst hf; exact ⟨rfl, by kernel_rfl, h3⟩
  | 2, hf => simp at hf; subst hf; exact ⟨rfl, by kernel_rfl, h1⟩
  | 3, hf => simp at hf; subst hf; exact ⟨rfl, by kernel_rfl, h2⟩
  | 4, hf => simp at hf; subst hf; exact ⟨rfl, by kernel_rfl, h2⟩
  | 5, hf => simp at hf; subst hf; exact ⟨rfl, by kernel_rfl, h2⟩
  | 6, hf => simp at hf; subst hf; exact ⟨rfl, by kernel_rfl, h2⟩
  | i + 7, hf => simp at hf
theorem flat_inside (W : World) : Flat Tryz.prog W 177 :=
  flat_array Tryz.underlying177 (by kernel_rfl) (flat_array Tryz.underlying176 (by kernel_rfl) (flat_int Tryz.underlying3))
theorem cells_table {W : World} (h : laidMetH Tryz.prog laidL W) : GlobC W 0 kcells :=
  laid_cells (laid_parts h).1 (.head _) (by kernel_rfl) (by kernel_rfl) (flat_kinds W) (by kernel_rfl)
theorem cells_inside {W : World} (h : laidMetH Tryz.prog laidL W) : GlobC W 1 icells :=
  laid_cells (laid_parts h).1 (.tail _ (.head _)) (by kernel_rfl) (by kernel_rfl) (flat_inside W) (by kernel_rfl)
theorem flat_alone (W : World) : Flat Tryz.prog W 280 := flat_array Tryz.underlying280 (by kernel_rfl) (flat_int Tryz.underlying5)
theorem cells_alone {W : World} (h : laidMetH Tryz.prog laidL W) : GlobC W 3 alCells :=
  laid_cells (laid_parts h).1 (.tail _ (.tail _ (.head _))) (by kernel_rfl) (by kernel_rfl) (flat_alone W) (by kernel_rfl)
theorem cells_et {W : World} (h : laidMetH Tryz.prog laidL W) : GlobC W 2 etCells := by
  intro i v hi
  match i with
  | 0 => simp [etCells] at hi; subst hi; exact handle_of_laid h
  | i + 1 => simp [etCells] at hi
theorem glb_eq : glb = [(0, kcells), (1, icells), (2, etCells), (3, alCells)] := by kernel_rfl
theorem globs_of_laid {W : World} (h : laidMetH Tryz.prog laidL W) : Globs W (Old W) [] := by
  intro p hp
  rw [glb_eq] at hp
  simp only [List.mem_cons, List.not_mem_nil, or_false] at hp
  rcases hp with rfl | rfl | rfl | rfl
  · exact ⟨cell_lt (cells_table h 0 _ rfl), fun v hv => (by cases hv), cells_table h⟩
  · exact ⟨cell_lt (cells_inside h 0 _ rfl), fun v hv => (by cases hv), cells_inside h⟩
  · exact ⟨cell_lt (handle_of_laid h), fun v hv => (by cases hv), cells_et h⟩
  · exact ⟨cell_lt (cells_alone h 0 _ rfl), fun v hv => (by cases hv), cells_alone h⟩
def setCells (cs : List Value) : Obj → Obj
  | .cells _ t frozen => .cells cs.toArray t frozen
  | o => o
noncomputable def laidWorld (os : Os) : World :=
  let w0 := World.holding Tryz.prog os ⟨#[], #[], []⟩
  { w0 with heap := (((w0.heap.modify 0 (setCells kcells)).modify 1 (setCells icells)).modify 2 (setCells etCells)).modify 3 (setCells alCells) }
theorem laid_met (os : Os) (args : Array Value) : laidMetH Tryz.prog laidL ((laidWorld os).forCall (fun _ _ => 0) ⟨#[], args, []⟩).memory :=
  laidMetH_of_parts (laidMet_of_run' 8 (by kernel_rfl) (by kernel_rfl)) (by kernel_rfl)
section
variable {H : Type} {enc : TypeId × Value → H} {W : World}
theorem chunk_fields : ∃ f0 f1 f2 f3 : Field, Tryz.prog.underlying 30 = some (.struct #[f0, f1, f2, f3]) ∧ f0.type = 5 ∧ f0.offset = 0 ∧ f1.type = 5 ∧ f1.offset = 1 ∧ f2.type = 23 ∧ f2.offset = 2 ∧ f3.type = 24 ∧ f3.offset = 3 :=
  ⟨_, _, _, _, Tryz.underlying30, rfl, rfl, rfl, rfl, rfl, rfl, rfl, rfl⟩
theorem val_u8 {n : Int} (h : (Lit.int .u8 n).wf = true) : ∃ m : Nat, m < 256 ∧ Rel W (Old W) W.heap.size [] (u8 m) (.int .u8 n) := by
  obtain ⟨m, rfl, hm⟩ := u8_of h
  exact ⟨m, hm, .val _⟩
end
section
variable {H : Type} {enc : TypeId × Value → H} {W : World}
end
section
variable {H : Type} {enc : TypeId × Value → H} {W : World}
set_option maxRecDepth 100000 in
theorem rel_list0 {α : Type} (A : α → AV) (size : α → Nat) (Pr : α → Prop) {T e : TypeId} {sz : Nat} (hT : Tryz.prog.underlying T = some (.slice e)) (hc : Tryz.prog.cellsOf e = sz) (h0 : 0 < sz) (hcells : ∀ x, (A x).cells.length = sz)
    (hone : ∀ x, ∀ c ∈ (A x).cells, c.one = true)
    (hel0 : ∀ (m : Nat) (cs : List Value) (d : DataW H) (ps : List MemPlace), DataW.trod enc Tryz.prog W 0 (fun _ => true) true m e cs = some (d, ps) → ∃ x : α, RelL W (Old W) W.heap.size [] (A x).cells cs ∧ size x ≤ Rows.uptoBulk d ∧ Pr x)
    {fuel : Nat} {v : Value} {d : DataW H} {ps : List MemPlace} (h : DataW.trod enc Tryz.prog W 0 (fun _ => true) true fuel T [v] = some (d, ps)) :
    ∃ l : List α, Rel W (Old W) W.heap.size [] (.sl false sz (l.map A)) v ∧ (l.map size).sum ≤ Rows.uptoBulk d ∧ ∀ x ∈ l, Pr x := by
  rcases DataW.trod_slice hT h with ⟨h1, h2⟩ | ⟨a, len, cap, elems, rest, m, hm, h1, h2, _, hlc, hcm, hlen, hel, _, _⟩
  · simp only [List.cons.injEq, and_true] at h1
    subst h1
    exact ⟨[], Rel.slE false sz none 0, by simp, by simp⟩
  · simp only [List.cons.injEq, and_true] at h1
    subst h1
    rw [hc] at hel
    have each : ∀ i (hi : i < elems.length), ∃ (x : α) (cs : List Value), cs.length = sz ∧ (∀ j, j < sz → W.cell? ((a.add (i * sz)).add j) = cs[j]?) ∧ RelL W (Old W) W.heap.size [] (A x).cells cs ∧ size x ≤ Rows.uptoBulk elems[i].1 ∧ Pr x := by
      intro i hi
      have hk := hel i (by omega)
      rw [List.getElem?_eq_getElem hi] at hk
      obtain ⟨cs, hcs, hy⟩ := Option.bind_eq_some_iff.1 hk
      obtain ⟨_, hl3, hcell⟩ := World.cells?_some hcs
      obtain ⟨x, r, s, tt⟩ := hel0 m cs elems[i].1 elems[i].2 hy
      exact ⟨x, cs, hl3, hcell, r, s, tt⟩
    cases hq : elems with
    | nil =>
      rw [hq] at hlen
      simp at hlen
      subst hlen
      exact ⟨[], Rel.slE false sz (some a) cap, by simp, by simp⟩
    | cons x r =>
      have hpos : 0 < elems.length := by rw [hq]; simp
      obtain ⟨n0, cs0, hl0, hc0, _, _, _⟩ := each 0 hpos
      have hcell0 := hc0 0 h0
      simp only [Nat.zero_mul] at hcell0
      rw [List.getElem?_eq_getElem (by omega)] at hcell0
      have hsp : a.spot = none := addr_of_cell (show W.cell? a = _ from hcell0)
      obtain ⟨b, o, sp⟩ := a
      simp only at hsp
      subst hsp
      have hblk : b < W.heap.size := by
        have := World.block_lt_of_cell? W _ hcell0
        simpa [Addr.add] using this
      have rows : ∀ k, k ≤ elems.length → ∃ l : List α, l.length = k ∧ RelRow W (Old W) W.heap.size [] false b sz (o + (elems.length - k) * sz) (l.map A) ∧ (l.map size).sum ≤ Rows.uptoBulkAll ((elems.drop (elems.length - k)).map (·.1)) ∧ ∀ x ∈ l, Pr x := by
        intro k
        induction k with
        | zero => exact fun _ => ⟨[], rfl, .nil, by simp, by simp⟩
        | succ k ihk =>
          intro hk
          obtain ⟨l, p1, p2, p3, p4⟩ := ihk (by omega)
          have hi : elems.length - (k + 1) < elems.length := by omega
          obtain ⟨n, cs, q1, q2, q3, q4, q5⟩ := each _ hi
          have hd : elems.drop (elems.length - (k + 1)) = elems[elems.length - (k + 1)] :: elems.drop (elems.length - k) := by
            rw [List.drop_eq_getElem_cons hi, show elems.length - (k + 1) + 1 = elems.length - k by omega]
          refine ⟨n :: l, by simp [p1], ?_, ?_, ?_⟩
          · rw [List.map_cons]
            refine .cons (RelCells.mk (B := Old W) (bs := W.heap.size) (nw := false) hblk (fun h => by cases h) q3 (hone n) ?_) (hcells n) ?_
            · intro j v hj
              have hj3 : j < sz := by rw [← q1]; exact (List.getElem?_eq_some_iff.1 hj).1
              have := q2 j hj3
              rw [addr_add, addr_add] at this
              rw [this, hj]
            · have e1 : (elems.length - (k + 1)) * sz + sz = (elems.length - k) * sz := by
                rw [← Nat.succ_mul]; congr 1; omega
              have e : o + (elems.length - (k + 1)) * sz + sz = o + (elems.length - k) * sz := by omega
              rw [e]; exact p2
          · rw [hd]
            simp only [List.map_cons, List.sum_cons, Rows.uptoBulkAll]
            omega
          · intro x hx
            rcases List.mem_cons.1 hx with rfl | hx
            · exact q5
            · exact p4 x hx
      obtain ⟨l, p1, p2, p3, p4⟩ := rows elems.length (Nat.le_refl _)
      rw [Nat.sub_self, Nat.zero_mul, Nat.add_zero] at p2
      rw [Nat.sub_self] at p3
      have hd : d = .slice (elems.map (·.1)) (rest.map (·.1)) := congrArg Prod.fst h2
      refine ⟨l, ?_, ?_, p4⟩
      · match l, p1 with
        | n :: l, p1 =>
          rw [List.map_cons] at p2 ⊢
          have := Rel.sl (cap := cap) p2 (by rw [List.length_map]; simp at p1; omega)
          rw [List.length_map] at this
          have e : l.length + 1 = len := by simp at p1; omega
          rw [e] at this
          exact this
        | [], p1 => simp at p1; omega
      · rw [hd]
        simp only [Rows.uptoBulk, List.drop_zero] at *
        omega
theorem chunkA_one (c : GChunk) : ∀ x ∈ (chunkA false c).cells, x.one = true := by
  simp [chunkA, AV.cells, AV.one, Value.oneCell']
set_option maxRecDepth 100000 in
theorem rel_chunk0 {fuel : Nat} (cs : List Value) (d : DataW H) (ps : List MemPlace) (hf : DataW.trod enc Tryz.prog W 0 (fun _ => true) true fuel 30 cs = some (d, ps)) :
    ∃ c : GChunk, RelL W (Old W) W.heap.size [] (chunkA false c).cells cs ∧ c.data.length + szs c.kids + 1 ≤ Rows.uptoBulk d ∧ (c.ty < 256 ∧ c.flags < 256 ∧ tysOk c.kids = true) := by
  have c8 : Tryz.prog.cellsOf 5 = 1 := by kernel_rfl
  have cb : Tryz.prog.cellsOf 23 = 1 := by kernel_rfl
  have cn : Tryz.prog.cellsOf 24 = 1 := by kernel_rfl
  have c4 : Tryz.prog.cellsOf 30 = 4 := by kernel_rfl
  obtain ⟨f0, f1, f2, f3, hs, a0, b0, a1, b1, a2, b2, a3, b3⟩ := chunk_fields
  obtain ⟨xs, m, hm, hx, hl, hlen, hall⟩ := DataW.trod_struct hs hf
  have e0 := hall 0 f0 rfl
  have e1 := hall 1 f1 rfl
  have e2 := hall 2 f2 rfl
  have e3 := hall 3 f3 rfl
  rw [a0, b0, c8] at e0
  rw [a1, b1, c8] at e1
  rw [a2, b2, cb] at e2
  rw [a3, b3, cn] at e3
  rw [c4] at hl
  match xs, hlen, cs, hl with
  | [y0, y1, y2, y3], _, [v0, v1, v2, v3], _ =>
    simp only [List.drop_zero, List.take_succ_cons, List.take_zero, List.drop_succ_cons, List.getElem?_cons_zero, List.getElem?_cons_succ] at e0 e1 e2 e3
    obtain ⟨n0, h0, hy0, hw0⟩ := DataW.trod_int Tryz.underlying5 e0
    obtain ⟨n1, h1, hy1, hw1⟩ := DataW.trod_int Tryz.underlying5 e1
    obtain ⟨l2, r2, s2⟩ := rel_bytes0 (d := y2.1) (ps := y2.2) e2
    obtain ⟨l3, r3, s3, t3⟩ := (rel_node0 m).2 v3 y3.1 y3.2 e3
    obtain ⟨m0, z0, q0⟩ := val_u8 (W := W) hw0
    obtain ⟨m1, z1, q1⟩ := val_u8 (W := W) hw1
    simp only [List.cons.injEq, and_true] at h0 h1
    subst h0; subst h1
    refine ⟨⟨m0, m1, l2, l3⟩, .cons q0 (.cons q1 (.cons r2 (.cons r3 .nil))), ?_, ⟨z0, z1, t3⟩⟩
    have hd : d = .agg [y0.1, y1.1, y2.1, y3.1] := congrArg Prod.fst hx
    have hb0 := bulk_one y0.1
    rw [hd]
    simp only [Rows.uptoBulk, Rows.uptoBulkAll]
    omega
def chunkSz (c : GChunk) : Nat := c.data.length + szs c.kids + 1
end
section
variable {H : Type} {enc : TypeId × Value → H} {W : World}
theorem pkt_fields : ∃ f0 f1 : Field, Tryz.prog.underlying 43 = some (.struct #[f0, f1]) ∧ f0.type = 40 ∧ f0.offset = 0 ∧ f1.type = 41 ∧ f1.offset = 3 :=
  ⟨_, _, Tryz.underlying43, rfl, rfl, rfl, rfl⟩
theorem hdr_fields : ∃ f0 f1 f2 : Field, Tryz.prog.underlying 40 = some (.struct #[f0, f1, f2]) ∧ f0.type = 22 ∧ f0.offset = 0 ∧ f1.type = 22 ∧ f1.offset = 1 ∧ f2.type = 38 ∧ f2.offset = 2 :=
  ⟨_, _, _, Tryz.underlying40, rfl, rfl, rfl, rfl, rfl, rfl⟩
theorem val_u16k {n : Int} (h : (Lit.int .u16 n).wf = true) : ∃ m : Nat, m < 2 ^ 16 ∧ Rel W (Old W) W.heap.size [] (u16 m) (.int .u16 n) := by
  obtain ⟨m, rfl, hm⟩ := u16_of h
  exact ⟨m, hm, .val _⟩
theorem val_u32k {n : Int} (h : (Lit.int .u32 n).wf = true) : ∃ m : Nat, m < 2 ^ 32 ∧ Rel W (Old W) W.heap.size [] (u32 m) (.int .u32 n) := by
  obtain ⟨m, rfl, hm⟩ := u32_of h
  exact ⟨m, hm, .val _⟩
set_option maxRecDepth 100000 in
theorem rel_pkt {r : Reach} {b0 : Nat} {v : Value} {d : DataW H} {ps : List MemPlace} (hval : Value.okWide Tryz.prog W r b0 43 v) (hd : DataW.Trod enc Tryz.prog W 0 (fun _ => true) true 43 v d ps) :
    ∃ p : GPkt, Rel W (Old W) W.heap.size [] (pktA false p) v ∧ (∀ c ∈ p.l, c.ty < 256 ∧ c.flags < 256 ∧ tysOk c.kids = true) ∧ (p.l.map chunkSz).sum ≤ Rows.uptoBulk d := by
  have c16 : Tryz.prog.cellsOf 22 = 1 := by kernel_rfl
  have c32 : Tryz.prog.cellsOf 38 = 1 := by kernel_rfl
  have ch : Tryz.prog.cellsOf 40 = 3 := by kernel_rfl
  have cc : Tryz.prog.cellsOf 41 = 1 := by kernel_rfl
  have cp : Tryz.prog.cellsOf 43 = 4 := by kernel_rfl
  obtain ⟨f0, f1, hs, a0, b0', a1, b1⟩ := pkt_fields
  obtain ⟨g0, g1, g2, hs2, d0, e0', d1, e1', d2, e2'⟩ := hdr_fields
  obtain ⟨cs, rfl, _⟩ := okWide_struct hs hval
  obtain ⟨fuel, hf⟩ := hd
  obtain ⟨xs, m, rfl, hx, hl, hlen, hall⟩ := DataW.trod_struct hs hf
  have e0 := hall 0 f0 rfl
  have e1 := hall 1 f1 rfl
  rw [a0, b0', ch] at e0
  rw [a1, b1, cc] at e1
  rw [cp] at hl
  obtain ⟨cs⟩ := cs
  match xs, hlen, cs, hl with
  | [y0, y1], _, [v0, v1, v2, v3], _ =>
    simp only [Value.cells, List.drop_zero, List.take_succ_cons, List.take_zero, List.drop_succ_cons, List.getElem?_cons_zero, List.getElem?_cons_succ] at e0 e1
    obtain ⟨zs, m2, rfl, hx2, hl2, hlen2, hall2⟩ := DataW.trod_struct hs2 e0
    have h0 := hall2 0 g0 rfl
    have h1 := hall2 1 g1 rfl
    have h2 := hall2 2 g2 rfl
    rw [d0, e0', c16] at h0
    rw [d1, e1', c16] at h1
    rw [d2, e2', c32] at h2
    match zs, hlen2 with
    | [w0, w1, w2], _ =>
      simp only [List.drop_zero, List.take_succ_cons, List.take_zero, List.drop_succ_cons, List.getElem?_cons_zero, List.getElem?_cons_succ] at h0 h1 h2
      obtain ⟨n0, q0, _, u0⟩ := DataW.trod_int Tryz.underlying22 h0
      obtain ⟨n1, q1, _, u1⟩ := DataW.trod_int Tryz.underlying22 h1
      obtain ⟨n2, q2, _, u2⟩ := DataW.trod_int Tryz.underlying38 h2
      obtain ⟨m0, _, r0⟩ := val_u16k (W := W) u0
      obtain ⟨m1, _, r1⟩ := val_u16k (W := W) u1
      obtain ⟨m3, _, r2⟩ := val_u32k (W := W) u2
      simp only [List.cons.injEq, and_true] at q0 q1 q2
      subst q0; subst q1; subst q2
      obtain ⟨l, k1, k2, k3⟩ := rel_list0 (sz := 4) (chunkA false) chunkSz (fun c => c.ty < 256 ∧ c.flags < 256 ∧ tysOk c.kids = true) Tryz.underlying41 (by kernel_rfl) (by decide) (fun x => by simp [chunkA, AV.cells]) chunkA_one (fun m cs d ps h => rel_chunk0 cs d ps h) e1
      refine ⟨⟨m0, m1, m3, l⟩, ?_, k3, ?_⟩
      · exact Rel.agg (l := [u16 m0, u16 m1, u32 m3, .sl false 4 (chunksA false l)]) (.cons r0 (.cons r1 (.cons r2 (.cons k1 .nil))))
      · have hd : d = .agg [y0.1, y1.1] := congrArg Prod.fst hx
        rw [hd]
        simp only [Rows.uptoBulk, Rows.uptoBulkAll]
        omega
end
theorem pkt_len {l : List GChunk} : l.length ≤ (l.map chunkSz).sum := by
  induction l with
  | nil => simp
  | cons c r ih =>
    simp only [List.map_cons, List.sum_cons, List.length_cons]
    have : 1 ≤ chunkSz c := by unfold chunkSz; omega
    omega
theorem pkt_mem {l : List GChunk} {c : GChunk} (h : c ∈ l) : chunkSz c ≤ (l.map chunkSz).sum := by
  induction l with
  | nil => cases h
  | cons x r ih =>
    simp only [List.map_cons, List.sum_cons]
    rcases List.mem_cons.1 h with rfl | h
    · omega
    · have := ih h; omega
theorem pkt_small {l : List GChunk} (h : ∀ c ∈ l, c.ty < 256 ∧ c.flags < 256 ∧ tysOk c.kids = true) (hB : (l.map chunkSz).sum ≤ 2 ^ 20) : ∀ c ∈ l, Small c ∧ tysOk c.kids = true := by
  intro c hc
  obtain ⟨h1, h2, h3⟩ := h c hc
  have := pkt_mem hc
  have he : chunkSz c = c.data.length + szs c.kids + 1 := rfl
  exact ⟨⟨h1, h2, by omega, by omega⟩, h3⟩
end Go.Proofs.YtokbbdodbjiciaaGreatDoor.C
