/- wharflaw17: awake, same, made; StreamReads, StreamAnswers, StreamMore, StreamMatchesReference, StreamMakes. -/
import Derived.Test.YtfghmfjbbjapgaaGreatDoorM4
import Derived.WalkKit
import Derived.ProofKit
import Derived.OpenShut
import Derived.JoinedCond
import Derived.Carry
import Derived.ChangeSlices
import Derived.Test.YtfghmfjbbjapgaaGreatDoorRows
import Derived.Deep.Strs
import Derived.LaidLaws
import Derived.LaidHandle
import Derived.Stop.Joined
import Derived.Test.YtfghmfjbbjapgaaGreatDoorCards
import Derived.Test.YtfghmfjbbjapgaaGreatDoorTie
import Derived.Deep.DeepHandedRow
set_option linter.unusedVariables false
set_option linter.unusedSimpArgs false
namespace Go.Proofs.YtfghmfjbbjapgaaGreatDoor.C
open Go.Abs
theorem same17_c (n m : GNode) (hs : n.sz ≤ 2 ^ 40) : PC Tryz.prog 23 [nodeA false n, nodeA false m] (bool (sameN n m)) := by
  refine PC.of_bodyW (by simp only [push_cast]) Tryz.func23 rfl (by rw [Tryz.ntmps23]; simp) ?_
  refine AWp.regionW ?_
  refine AWp.regionM fun K1 hK1 => ?_
  refine ARun2.callM (same08_c [n] [m] (by simp only [szs]; omega)) ?_
  refine ARun2.endm (hK1 _ ?_)
  refine AWp.ret ?_
  try simp only [thenQ, blockQ, noGo]
  refine bodyQ.m ?_
  clear hK1 K1
  simp only [sameL, Bool.and_true]
  first | done | exact Hand.go
theorem sameN_self (n : GNode) : sameN n n = true := by
  have h := (sameL_iff [n] [n]).2 rfl
  simpa [sameL] using h
theorem made17_yes (w : GNode) (hs : w.sz ≤ 2 ^ 26) (hc : checkN 1 1 w = 0) : PC Tryz.prog 28 [nodeA false w, bool true, nodeA false w] (bool true) := by
  have h1 := nSize_sz w
  have k1 := check08_c 1 1 w (by decide) (by decide) (by omega)
  rw [hc] at k1
  have k2 := same17_c w w (by omega)
  rw [sameN_self] at k2
  refine PC.of_bodyW (by simp only [push_cast]) Tryz.func28 rfl (by rw [Tryz.ntmps28]; simp) ?_
  refine AWp.regionW ?_
  refine AWp.seqK fun K1 hK1 => ?_
  refine AWp.regionM fun K2 hK2 => ?_
  refine ARun2.callM (k1) ?_
  refine ARun2.endm (hK2 _ ?_)
  refine AWp.condF ?_
  refine AWp.skip ?_
  refine hK1 _ ?_
  refine AWp.regionM fun K3 hK3 => ?_
  refine ARun2.callM (k2) ?_
  refine ARun2.endm (hK3 _ ?_)
  refine AWp.ret ?_
  try simp only [thenQ, blockQ, noGo]
  refine bodyQ.m ?_
  clear hK3 K3 hK2 K2 hK1 K1
  first | done | exact Hand.go
theorem made17_no (w : GNode) (hs : w.sz ≤ 2 ^ 26) (hc : ¬ checkN 1 1 w = 0) : PC Tryz.prog 28 [nodeA false .zero, bool false, nodeA false w] (bool true) := by
  have h1 := nSize_sz w
  have k1 := check08_c 1 1 w (by decide) (by decide) (by omega)
  have hc1 : (checkN 1 1 w != 0) = true := by simpa using hc
  have k2 := same17_c .zero .zero (by simp [GNode.zero, GNode.sz, szs])
  rw [sameN_self] at k2
  simp only [GNode.zero] at k2
  refine PC.of_bodyW (by simp only [push_cast]) Tryz.func28 rfl (by rw [Tryz.ntmps28]; simp) ?_
  refine AWp.regionW ?_
  refine AWp.seqK fun K1 hK1 => ?_
  refine AWp.regionM fun K2 hK2 => ?_
  refine ARun2.callM (k1) ?_
  refine ARun2.endm (hK2 _ ?_)
  refine AWp.condT ?_ (by rw [hc1]; rfl)
  refine AWp.regionM fun K3 hK3 => ?_
  refine ARun2.callM (k2) ?_
  refine ARun2.endm (hK3 _ ?_)
  refine AWp.ret ?_
  try simp only [thenQ, blockQ, noGo]
  refine bodyQ.m ?_
  clear hK3 K3 hK2 K2 hK1 K1
  first | done | exact Hand.go
theorem made17_c (w : GNode) (hs : w.sz ≤ 2 ^ 26) : PC Tryz.prog 28 [nodeA false (rightP w).1, bool (rightP w).2, nodeA false w] (bool true) := by
  by_cases hc : checkN 1 1 w = 0
  · rw [rightP_yes hc]; exact made17_yes w hs hc
  · rw [rightP_no hc]; exact made17_no w hs hc
def ex17 : GNode := .mk 13 [0, 0, 0, 7, 0, 0, 0, 8, 0, 0, 0, 9, 0, 1, 0, 2] []
def ex17a : GNode := .mk 16 [0, 0, 0, 7, 0, 0, 0, 0] []
set_option maxRecDepth 100000 in
theorem awake17_c : PC Tryz.prog 10 [] (bool true) := by
  have w1 : rightP (.mk 13 (outD 7 8 9 [1, 2]) []) = (ex17, true) := by kernel_rfl
  have k1 := sout_c 7 8 9 [1, 2] (by decide) (by decide) (by decide) (by decide) (by decide)
  rw [w1] at k1
  have w2 : seqN ex17 = (7, true) := by kernel_rfl
  have k2 := sseq_c ex17 (by decide)
  rw [w2] at k2
  have w3 : moreN 16 1 1 = (.zero, false) := by kernel_rfl
  have k3 := smore_c 16 1 1 (by decide) (by decide)
  rw [w3] at k3
  have w4 : rightP (.mk 16 (respD 7 0 []) []) = (ex17a, true) := by kernel_rfl
  have k4 := sresp_c 7 0 [] (by decide) (by decide) (by decide) (by decide)
  rw [w4] at k4
  have w5 : smakeN [ex17] = (reconC [ex17], true) := by kernel_rfl
  have k5 := smake_c [ex17] (by decide)
  rw [w5] at k5
  have w6 : putB 4 258 = [0, 0, 1, 2] := by kernel_rfl
  have k6 := sreset_c 258 (by decide)
  rw [w6] at k6
  have k7 : PC Tryz.prog 40 [.sl false 1 (bys [0, 0, 1, 2]), .sl false 1 (bys [0, 0, 1, 2])] (bool true) := same01_c [0, 0, 1, 2] [0, 0, 1, 2] (by decide)
  have w8 : streamsN ex17 = [1, 2] := by kernel_rfl
  have k8 := sstreams_c ex17 (by decide)
  rw [w8] at k8
  have k9 : PC Tryz.prog 14 [.sl false 1 (u16s [1, 2]), .sl false 1 (u16s [1, 2])] (bool true) := requal_c [1, 2] [1, 2] (by decide)
  have w10 : answersS ex17 ex17a = true := by kernel_rfl
  have k10 := sanswers_c ex17 ex17a (by decide) (by decide)
  rw [w10] at k10
  have w11 : answersS ex17a ex17 = false := by kernel_rfl
  have k11 := sanswers_c ex17a ex17 (by decide) (by decide)
  rw [w11] at k11
  unfold ex17 at k1 k2 k5 k8 k10 k11
  unfold ex17a at k4 k10 k11
  unfold reconC at k5
  refine PC.of_bodyW (by simp only [push_cast]) Tryz.func10 rfl (by rw [Tryz.ntmps10]; simp) ?_
  refine AWp.regionW ?_
  refine AWp.regionM fun K1 hK1 => ?_
  refine ARun2.callM (k1) ?_
  refine ARun2.endm (hK1 _ ?_)
  refine AWp.regionM fun K2 hK2 => ?_
  refine ARun2.callM (k2) ?_
  refine ARun2.endm (hK2 _ ?_)
  refine AWp.regionM fun K3 hK3 => ?_
  refine ARun2.callM (k3) ?_
  refine ARun2.endm (hK3 _ ?_)
  refine AWp.regionM fun K4 hK4 => ?_
  refine ARun2.callM (k4) ?_
  refine ARun2.endm (hK4 _ ?_)
  refine AWp.regionM fun K5 hK5 => ?_
  refine ARun2.callM (k5) ?_
  refine ARun2.endm (hK5 _ ?_)
  refine AWp.regionM fun K6 hK6 => ?_
  refine ARun2.callM (k6) ?_
  refine ARun2.callM (k7) ?_
  refine ARun2.callM (k8) ?_
  refine ARun2.callM (k9) ?_
  refine ARun2.callM (k10) ?_
  refine ARun2.callM (k11) ?_
  refine ARun2.endm (hK6 _ ?_)
  refine AWp.ret ?_
  try simp only [thenQ, blockQ, noGo]
  refine bodyQ.m ?_
  clear hK6 K6 hK5 K5 hK4 K4 hK3 K3 hK2 K2 hK1 K1
  first | done | exact Hand.go
theorem streamReads_c (n : GNode) (hs : n.sz ≤ 2 ^ 24) : PC Tryz.prog 3 [nodeA false n] (bool true) := by
  have k1 := sseq_c n (by omega)
  have k2 := rseq17_c n (by omega)
  have k3 := sstreams_c n (by omega)
  have k4 := rstreams_c n (by omega)
  have hl : (streamsN n).length ≤ 2 ^ 40 := by
    unfold streamsN
    split
    · have h1 := numsA_len 2 (n.data.drop (bif n.ty == 13 then 12 else 4))
      have := n.sz_eq
      rw [List.length_drop] at h1; omega
    · simp
  have k5 := requal_c (streamsN n) (streamsN n) hl
  rw [decide_eq_true rfl] at k5
  generalize seqN n = v at k1 k2
  generalize streamsN n = l at k3 k4 k5
  refine PC.of_bodyW (by simp only [push_cast]) Tryz.func3 rfl (by rw [Tryz.ntmps3]; simp) ?_
  refine AWp.regionW ?_
  refine AWp.seqK fun K1 hK1 => ?_
  refine AWp.regionM fun K2 hK2 => ?_
  refine ARun2.callM (awake17_c) ?_
  refine ARun2.callM (few_c [n] (by simp only [szs]; omega)) ?_
  refine ARun2.endm (hK2 _ ?_)
  refine AWp.condLM (fun c0 => ?_) (fun c0 => ?_)
  · skip
    refine AWp.regionM fun K3 hK3 => ?_
    refine ARun2.callM (awake17_c) ?_
    refine ARun2.endm (hK3 _ ?_)
    refine AWp.ret ?_
    try simp only [thenQ, blockQ, noGo]
    refine bodyQ.m ?_
    clear hK3 K3 hK2 K2 hK1 K1
    first | done | exact Hand.go
  · skip
    refine AWp.skip ?_
    refine hK1 _ ?_
    refine AWp.regionM fun K4 hK4 => ?_
    refine ARun2.callM (k1) ?_
    refine ARun2.endm (hK4 _ ?_)
    refine AWp.regionM fun K5 hK5 => ?_
    refine ARun2.callM (k2) ?_
    refine ARun2.endm (hK5 _ ?_)
    refine AWp.drS [[(3, none)], [(5, none)], [(26, some 0), (27, some 1)], [(28, some 2)], [(4, none), (29, some 3)], [(6, none), (29, some 3)], [(30, some 4), (31, some 5), (29, some 3)], [(29, some 3), (32, some 6)], [(33, some 7)], [(1, none), (34, some 8)], [(35, some 9), (34, some 8)], [(1, none), (34, some 8)], [(37, some 11), (34, some 8)], [(36, some 10), (38, some 12), (34, some 8)], [(34, some 8), (39, some 13)]] fun G hG => ?_
    refine Dr.sim ?_
    try simp only [List.cons_append, List.nil_append]
    refine Dr.sim ?_
    try simp only [List.cons_append, List.nil_append]
    refine Dr.sim ?_
    try simp only [List.cons_append, List.nil_append]
    refine Dr.sim ?_
    try simp only [List.cons_append, List.nil_append]
    refine Dr.sim ?_
    try simp only [List.cons_append, List.nil_append]
    refine Dr.sim ?_
    try simp only [List.cons_append, List.nil_append]
    refine Dr.boolEqM ?_
    simp only [↓reduceIte, beq_self_eq_true, List.cons_append, List.nil_append]
    refine Dr.sim ?_
    try simp only [List.cons_append, List.nil_append]
    refine Dr.sim ?_
    try simp only [List.cons_append, List.nil_append]
    refine Dr.sim ?_
    try simp only [List.cons_append, List.nil_append]
    refine Dr.call (k3) ?_
    try simp only [List.cons_append, List.nil_append]
    refine Dr.sim ?_
    try simp only [List.cons_append, List.nil_append]
    refine Dr.call (k4) ?_
    try simp only [List.cons_append, List.nil_append]
    refine Dr.call (k5) ?_
    try simp only [List.cons_append, List.nil_append]
    refine Dr.sim ?_
    try simp only [List.cons_append, List.nil_append]
    refine Dr.finM (n := 15) [(40, 14)] [] hG YtfghmfjbbjapgaaGreatDoor.Facts.mixed fun KD hKD => ?_
    refine ARun2.endm (hKD _ ?_); clear hKD KD hG G
    refine AWp.ret ?_
    try simp only [thenQ, blockQ, noGo]
    refine bodyQ.m ?_
    clear hK5 K5 hK4 K4 hK2 K2 hK1 K1
    first | done | exact Hand.go
theorem streamAnswers_c (q a : GNode) (hq : q.sz ≤ 2 ^ 24) (ha : a.sz ≤ 2 ^ 24) : PC Tryz.prog 5 [nodeA false q, nodeA false a] (bool true) := by
  have k1 := rseq17_c q (by omega)
  have k2 := rseq17_c a (by omega)
  have k3 := sanswers_c q a (by omega) (by omega)
  have ha3 : answersS q a = ((seqN q).2 && (seqN a).2 && ((seqN q).1 == (seqN a).1) && (q.ty != 16) && (a.ty == 16)) := by
    unfold answersS
    cases (seqN q).2 <;> cases (seqN a).2 <;> cases ((seqN q).1 == (seqN a).1) <;> cases (q.ty != 16) <;> cases (a.ty == 16) <;> rfl
  rw [ha3] at k3
  refine PC.of_bodyW (by simp only [push_cast]) Tryz.func5 rfl (by rw [Tryz.ntmps5]; simp) ?_
  refine AWp.regionW ?_
  refine AWp.seqK fun K1 hK1 => ?_
  refine AWp.regionA fun K2 hK2 => ?_
  refine ARun.segm 9 fun KS hKS => ?_
  refine ARun2.callM (awake17_c) ?_
  refine ARun2.callM (few_c [q] (by simp only [szs]; omega)) ?_
  refine ARun2.endm (hKS _ ?_); clear hKS KS
  apply ARun.grpM 4 8 false 21 [2, 3, 17]
  · intro g8 KG hKG
    refine ARun2.gom ?_
    refine ARun2.callM (few_c [a] (by simp only [szs]; omega)) ?_
    exact ARun2.endm (hKG _ Le.grpM)
  refine ARun2.gom ?_
  refine ARun2.endm (hK2 _ ?_)
  refine AWp.condLM (fun c0 => ?_) (fun c0 => ?_)
  · skip
    refine AWp.regionM fun K3 hK3 => ?_
    refine ARun2.callM (awake17_c) ?_
    refine ARun2.endm (hK3 _ ?_)
    refine AWp.ret ?_
    try simp only [thenQ, blockQ, noGo]
    refine bodyQ.m ?_
    clear hK3 K3 hK2 K2 hK1 K1
    first | done | exact Hand.go
  · skip
    refine AWp.skip ?_
    refine hK1 _ ?_
    refine AWp.regionM fun K4 hK4 => ?_
    refine ARun2.callM (k1) ?_
    refine ARun2.endm (hK4 _ ?_)
    refine AWp.regionM fun K5 hK5 => ?_
    refine ARun2.callM (k2) ?_
    refine ARun2.endm (hK5 _ ?_)
    refine AWp.regionA fun K6 hK6 => ?_
    refine ARun.segm 5 fun KS hKS => ?_
    refine ARun2.callM (k3) ?_
    refine ARun2.endm (hKS _ ?_); clear hKS KS
    apply ARun.grpM 1 4 true 39 [2, 3, 5, 7, 36, 38]
    · intro g4 KG hKG
      refine ARun2.gom ?_
      exact ARun2.endm (hKG _ Le.grpM)
    refine ARun.segm 2 fun KS hKS => ?_
    refine ARun2.endm (hKS _ ?_); clear hKS KS
    apply ARun.grpM 3 7 true 44 [2, 3, 36, 41]
    · intro g7 KG hKG
      refine ARun2.gom ?_
      exact ARun2.endm (hKG _ Le.grpM)
    refine ARun.segm 2 fun KS hKS => ?_
    refine ARun2.endm (hKS _ ?_); clear hKS KS
    apply ARun.grpM 3 12 true 49 [3, 36, 46]
    · intro g12 KG hKG
      refine ARun2.gom ?_
      exact ARun2.endm (hKG _ Le.grpM)
    refine ARun.segm 2 fun KS hKS => ?_
    refine ARun2.endm (hKS _ ?_); clear hKS KS
    apply ARun.grpM 3 17 true 54 [36, 51]
    · intro g17 KG hKG
      refine ARun2.gom ?_
      exact ARun2.endm (hKG _ Le.grpM)
    refine ARun2.gom ?_
    refine ARun2.boolEqM ?_
    refine ARun2.endm (hK6 _ ?_)
    refine AWp.ret ?_
    try simp only [thenQ, blockQ, noGo]
    refine bodyQ.m ?_
    clear hK6 K6 hK5 K5 hK4 K4 hK2 K2 hK1 K1
    first | done | exact Hand.go
theorem streamMore_c (t s n : Nat) (ht : t < 2 ^ 16) (hs : s < 2 ^ 32) (hn : n < 2 ^ 16) : PC Tryz.prog 6 [u16 t, u32 s, u16 n] (bool true) := by
  have k1 := smore_c t s n hs hn
  have kz := same17_c .zero .zero (by simp [GNode.zero, GNode.sz, szs])
  rw [sameN_self] at kz
  simp only [GNode.zero] at kz
  have hl : (moreD s n).length = 8 := by simp [moreD, putB_len]
  have hsz : (GNode.mk t (moreD s n) []).sz ≤ 2 ^ 20 := by simp only [GNode.sz, szs, hl]; decide
  have k2 := sseq_c (.mk t (moreD s n) []) (by omega)
  have k3 := rbuild_c t [s] [n, 0] (by simp) (by simp)
  have e3 : [s].flatMap (putB 4) ++ [n, 0].flatMap (putB 2) = moreD s n := by simp [moreD]
  rw [e3] at k3
  have k3' : PC Tryz.prog 24 [u16 t, .sl false 1 [u32 s], .sl false 1 [u16 n, u16 0]] (nodeA false (.mk t (moreD s n) [])) := k3
  have k4 := same17_c (.mk t (moreD s n) []) (.mk t (moreD s n) []) (by omega)
  rw [sameN_self] at k4
  have k5 := sstreams_c (.mk t (moreD s n) []) (by omega)
  refine PC.of_bodyW (by simp only [push_cast]) Tryz.func6 rfl (by rw [Tryz.ntmps6]; simp) ?_
  refine AWp.regionW ?_
  refine AWp.seqK fun K1 hK1 => ?_
  refine AWp.regionM fun K2 hK2 => ?_
  refine ARun2.callM (awake17_c) ?_
  refine ARun2.endm (hK2 _ ?_)
  refine AWp.condF ?_
  refine AWp.skip ?_
  refine hK1 _ ?_
  refine AWp.regionM fun K3 hK3 => ?_
  refine ARun2.callM (k1) ?_
  refine ARun2.endm (hK3 _ ?_)
  refine AWp.seqK fun K4 hK4 => ?_
  refine AWp.regionA fun K5 hK5 => ?_
  refine ARun.segm 3 fun KS hKS => ?_
  refine ARun2.endm (hKS _ ?_); clear hKS KS
  apply ARun.grpM 2 2 true 24 [0, 1, 2, 7, 8, 22]
  · intro g2 KG hKG
    refine ARun2.gom ?_
    exact ARun2.endm (hKG _ Le.grpM)
  refine ARun2.gom ?_
  refine ARun2.endm (hK5 _ ?_)
  refine AWp.condLM (fun c1 => ?_) (fun c1 => ?_)
  · skip
    have h0 : ¬ (t = 17 ∨ t = 18) := by simpa using c1
    have hm : moreN t s n = (.zero, false) := if_neg h0
    rw [hm]
    simp only [GNode.zero]
    refine AWp.regionM fun K6 hK6 => ?_
    refine ARun2.callM (kz) ?_
    refine ARun2.endm (hK6 _ ?_)
    refine AWp.ret ?_
    try simp only [thenQ, blockQ, noGo]
    refine bodyQ.m ?_
    clear hK6 K6 hK5 K5 hK4 K4 hK3 K3 hK2 K2 hK1 K1
    first | done | exact Hand.go
  · skip
    have h0 : t = 17 ∨ t = 18 := by revert c1; by_cases h1 : t = 17 <;> simp [h1]
    have hm : moreN t s n = (.mk t (moreD s n) [], true) := if_pos h0
    have hr := rightP_yes (n := .mk t (moreD s n) []) (by
      by_cases hc : checkN 1 1 (.mk t (moreD s n) []) = 0
      · exact hc
      · have := more_right t s n h0; rw [rightP_no hc] at this; simp at this)
    have hz : checkN 1 1 (.mk t (moreD s n) []) = 0 := by
      by_cases hc : checkN 1 1 (.mk t (moreD s n) []) = 0
      · exact hc
      · have := more_right t s n h0; rw [rightP_no hc] at this; simp at this
    have hq : seqN (.mk t (moreD s n) []) = (s, true) := by
      have hp := peek_put 4 s 0 [] (putB 2 n ++ putB 2 0) rfl (beN_put4b s hs)
      have : seqN (.mk t (moreD s n) []) = (peekN 4 (moreD s n) 0, true) := if_pos (isS_iff.2 ⟨by simp only [GNode.ty]; omega, by simp only [GNode.ty]; omega, hz⟩)
      rw [this]; unfold moreD; rw [List.nil_append] at hp; rw [hp]
    have hst : streamsN (.mk t (moreD s n) []) = [] := if_neg (by rw [isS_iff]; simp only [GNode.ty]; omega)
    rw [hq] at k2
    rw [hst] at k5
    rw [hm]
    refine AWp.skip ?_
    refine hK4 _ ?_
    refine AWp.regionM fun K7 hK7 => ?_
    refine ARun2.callM (k2) ?_
    refine ARun2.endm (hK7 _ ?_)
    refine AWp.drS [[(8, none)], [(38, some 0)], [(7, none), (39, some 1)], [(0, none), (39, some 1)], [(1, none), (39, some 1)], [(42, some 4), (39, some 1)], [(2, none), (39, some 1)], [(44, some 6), (39, some 1)], [(41, some 3), (43, some 5), (45, some 7), (39, some 1)], [(40, some 2), (46, some 8), (39, some 1)], [(39, some 1), (47, some 9)], [(48, some 10)], [(9, none), (49, some 11)], [(1, none), (49, some 11)], [(50, some 12), (51, some 13), (49, some 11)], [(49, some 11), (52, some 14)], [(53, some 15)], [(10, none), (54, some 16)], [(54, some 16), (55, some 17)], [(56, some 18)], [(7, none), (57, some 19)], [(58, some 20), (57, some 19)], [(59, some 21), (57, some 19)], [(60, some 22), (57, some 19)], [(57, some 19), (61, some 23)], [(62, some 24)]] fun G hG => ?_
    refine Dr.sim ?_
    try simp only [List.cons_append, List.nil_append]
    refine Dr.sim ?_
    try simp only [List.cons_append, List.nil_append]
    refine Dr.sim ?_
    try simp only [List.cons_append, List.nil_append]
    refine Dr.sim ?_
    try simp only [List.cons_append, List.nil_append]
    refine Dr.sim ?_
    try simp only [List.cons_append, List.nil_append]
    refine Dr.build ?_
    try simp only [List.cons_append, List.nil_append]
    refine Dr.sim ?_
    try simp only [List.cons_append, List.nil_append]
    refine Dr.build ?_
    try simp only [List.cons_append, List.nil_append]
    refine Dr.call (k3') ?_
    try simp only [List.cons_append, List.nil_append]
    refine Dr.call (k4) ?_
    try simp only [List.cons_append, List.nil_append]
    refine Dr.sim ?_
    try simp only [List.cons_append, List.nil_append]
    refine Dr.sim ?_
    try simp only [List.cons_append, List.nil_append]
    refine Dr.sim ?_
    try simp only [List.cons_append, List.nil_append]
    refine Dr.sim ?_
    try simp only [List.cons_append, List.nil_append]
    refine Dr.sim ?_
    try simp only [List.cons_append, List.nil_append]
    refine Dr.sim ?_
    try simp only [List.cons_append, List.nil_append]
    refine Dr.sim ?_
    try simp only [List.cons_append, List.nil_append]
    refine Dr.sim ?_
    try simp only [List.cons_append, List.nil_append]
    refine Dr.sim ?_
    try simp only [List.cons_append, List.nil_append]
    refine Dr.sim ?_
    try simp only [List.cons_append, List.nil_append]
    refine Dr.sim ?_
    try simp only [List.cons_append, List.nil_append]
    refine Dr.call (k5) ?_
    try simp only [List.cons_append, List.nil_append]
    refine Dr.sim ?_
    try simp only [List.cons_append, List.nil_append]
    refine Dr.sim ?_
    try simp only [List.cons_append, List.nil_append]
    refine Dr.sim ?_
    try simp only [List.cons_append, List.nil_append]
    refine Dr.sim ?_
    try simp only [List.cons_append, List.nil_append]
    refine Dr.finM (n := 26) [(6, 25)] [] hG YtfghmfjbbjapgaaGreatDoor.Facts.mixed fun KD hKD => ?_
    refine ARun2.endm (hKD _ ?_); clear hKD KD hG G
    refine AWp.ret ?_
    try simp only [thenQ, blockQ, noGo]
    refine bodyQ.m ?_
    clear hK7 K7 hK5 K5 hK4 K4 hK3 K3 hK2 K2 hK1 K1
    first | done | exact Hand.go
theorem sz_flat (t : Nat) (d : List UInt8) (h : d.length ≤ 2 ^ 20) : (GNode.mk t d []).sz ≤ 2 ^ 24 := by simp only [GNode.sz, szs]; omega
theorem build_out (s a b : Nat) (ts : List Nat) : [s, a, b].flatMap (putB 4) ++ ts.flatMap (putB 2) = outD s a b ts := by simp [outD]
theorem build_in (s : Nat) (ts : List Nat) : [s].flatMap (putB 4) ++ ts.flatMap (putB 2) = inD s ts := by simp [inD]
theorem build_resp (s r : Nat) (l : List Nat) : (s :: r :: l).flatMap (putB 4) ++ ([] : List Nat).flatMap (putB 2) = respD s r l := by simp [respD]
theorem build_reset (s : Nat) : [s].flatMap (putB 4) ++ ([] : List Nat).flatMap (putB 2) = putB 4 s := by simp
theorem streamMatches_no (q : Nat) (l s : List Nat) (hb : ¬ (2 ≤ l.length ∧ l.length ≤ 50 ∧ s.length ≤ 300)) : PC Tryz.prog 7 [u32 q, .sl false 1 (u32s l), .sl false 1 (u16s s)] (bool true) := by
  refine PC.of_bodyW (by simp only [push_cast]) Tryz.func7 rfl (by rw [Tryz.ntmps7]; simp) ?_
  refine AWp.regionW ?_
  refine AWp.seqK fun K1 hK1 => ?_
  refine AWp.regionA fun K2 hK2 => ?_
  refine ARun.segm 8 fun KS hKS => ?_
  refine ARun2.callM (awake17_c) ?_
  refine ARun2.endm (hKS _ ?_); clear hKS KS
  apply ARun.grpM 3 7 false 25 [0, 1, 2, 22]
  · intro g7 KG hKG
    refine ARun2.gom ?_
    exact ARun2.endm (hKG _ Le.grpM)
  refine ARun.segm 2 fun KS hKS => ?_
  refine ARun2.endm (hKS _ ?_); clear hKS KS
  apply ARun.grpM 3 12 false 30 [0, 1, 2, 27]
  · intro g12 KG hKG
    refine ARun2.gom ?_
    exact ARun2.endm (hKG _ Le.grpM)
  refine ARun2.gom ?_
  refine ARun2.endm (hK2 _ ?_)
  refine AWp.condLM (fun c0 => ?_) (fun c0 => ?_)
  · skip
    refine AWp.regionM fun K3 hK3 => ?_
    refine ARun2.callM (awake17_c) ?_
    refine ARun2.endm (hK3 _ ?_)
    refine AWp.ret ?_
    try simp only [thenQ, blockQ, noGo]
    refine bodyQ.m ?_
    clear hK3 K3 hK2 K2 hK1 K1
    first | done | exact Hand.go
  · skip
    exfalso
    apply hb
    revert c0
    by_cases h1 : l.length < 2 <;> by_cases h2 : 50 < l.length <;> by_cases h3 : 300 < s.length <;> simp [h1, h2, h3] <;> omega
set_option maxHeartbeats 1000000 in
theorem streamMatches_run (q a b : Nat) (L s : List Nat) (z1 z2 z3 z4 : GNode × Bool) (w1 w2 w3 w4 w5 : GNode) (hb : 2 ≤ L.length ∧ L.length ≤ 50 ∧ s.length ≤ 300)
    (i0 : (u32s L)[0]? = some (u32 a)) (i1 : (u32s L)[1]? = some (u32 b))
    (k1 : PC Tryz.prog 25 [u32 q, u32 a, u32 b, .sl false 1 (u16s s)] (.tup [nodeA true z1.1, bool z1.2]))
    (k2 : PC Tryz.prog 26 [u32 q, .sl false 1 (u16s s)] (.tup [nodeA true z2.1, bool z2.2]))
    (k3 : PC Tryz.prog 27 [u32 q, u32 a, .sl false 1 (u32s (L.drop 1))] (.tup [nodeA true z3.1, bool z3.2]))
    (k4 : PC Tryz.prog 27 [u32 q, u32 a, .sl false 1 []] (.tup [nodeA true z4.1, bool z4.2]))
    (k5 : PC Tryz.prog 29 [u32 q] (nodeA true w5))
    (b1 : PC Tryz.prog 24 [u16 13, .sl false 1 [u32 q, u32 a, u32 b], .sl false 1 (u16s s)] (nodeA false w1))
    (b2 : PC Tryz.prog 24 [u16 14, .sl false 1 [u32 q], .sl false 1 (u16s s)] (nodeA false w2))
    (b3 : PC Tryz.prog 24 [u16 16, .sl false 1 (u32 q :: u32s L), .sl false 1 []] (nodeA false w3))
    (b4 : PC Tryz.prog 24 [u16 16, .sl false 1 [u32 q, u32 a], .sl false 1 []] (nodeA false w4))
    (b5 : PC Tryz.prog 24 [u16 15, .sl false 1 [u32 q], .sl false 1 []] (nodeA false w5))
    (m1 : PC Tryz.prog 28 [nodeA false z1.1, bool z1.2, nodeA false w1] (bool true))
    (m2 : PC Tryz.prog 28 [nodeA false z2.1, bool z2.2, nodeA false w2] (bool true))
    (m3 : PC Tryz.prog 28 [nodeA false z3.1, bool z3.2, nodeA false w3] (bool true))
    (m4 : PC Tryz.prog 28 [nodeA false z4.1, bool z4.2, nodeA false w4] (bool true))
    (m5 : PC Tryz.prog 23 [nodeA false w5, nodeA false w5] (bool true)) :
    PC Tryz.prog 7 [u32 q, .sl false 1 (u32s L), .sl false 1 (u16s s)] (bool true) := by
  obtain ⟨hb1, hb2, hb3⟩ := hb
  refine PC.of_bodyW (by simp only [push_cast]) Tryz.func7 rfl (by rw [Tryz.ntmps7]; simp) ?_
  refine AWp.regionW ?_
  refine AWp.seqK fun K1 hK1 => ?_
  refine AWp.regionA fun K2 hK2 => ?_
  refine ARun.segm 8 fun KS hKS => ?_
  refine ARun2.callM (awake17_c) ?_
  refine ARun2.endm (hKS _ ?_); clear hKS KS
  apply ARun.grpM 3 7 false 25 [0, 1, 2, 22]
  · intro g7 KG hKG
    refine ARun2.gom ?_
    exact ARun2.endm (hKG _ Le.grpM)
  refine ARun.segm 2 fun KS hKS => ?_
  refine ARun2.endm (hKS _ ?_); clear hKS KS
  apply ARun.grpM 3 12 false 30 [0, 1, 2, 27]
  · intro g12 KG hKG
    refine ARun2.gom ?_
    exact ARun2.endm (hKG _ Le.grpM)
  refine ARun2.gom ?_
  refine ARun2.endm (hK2 _ ?_)
  refine AWp.condLM (fun c0 => ?_) (fun c0 => ?_)
  · skip
    exfalso
    revert c0
    simp
    omega
  · skip
    refine AWp.skip ?_
    refine hK1 _ ?_
    refine AWp.join ({ n := 120, m := 0, fr := [(7, .ptr 0 0), (8, bool z1.2), (0, u32 q), (1, .sl false 1 (u32s L)), (2, .sl false 1 (u16s s))], ob := [.box 26 [u16 z1.1.ty, .sl true 1 (bys z1.1.data), .sl true 3 (nodesA true z1.1.kids)]] }) (fun K3 hK3 => ?_) ?_
    · skip
      refine AWp.drE [[(0, none)], [(1, none)], [(35, some 1)], [(36, some 2)], [(1, none)], [(38, some 4)], [(39, some 5)], [(2, none)], [(34, some 0), (37, some 3), (40, some 6), (41, some 7)], [(42, some 8)], [(33, some 9)], [(33, some 9)], []] fun G hG => ?_
      refine Dr.sim ?_
      try simp only [List.cons_append, List.nil_append]
      refine Dr.sim ?_
      try simp only [List.cons_append, List.nil_append]
      refine Dr.idx (0) (u32 a) ?_ ?_
      · exact i0
      try simp only [List.cons_append, List.nil_append]
      refine Dr.sim ?_
      try simp only [List.cons_append, List.nil_append]
      refine Dr.sim ?_
      try simp only [List.cons_append, List.nil_append]
      refine Dr.idx (1) (u32 b) ?_ ?_
      · exact i1
      try simp only [List.cons_append, List.nil_append]
      refine Dr.sim ?_
      try simp only [List.cons_append, List.nil_append]
      refine Dr.sim ?_
      try simp only [List.cons_append, List.nil_append]
      refine Dr.call (k1) ?_
      try simp only [List.cons_append, List.nil_append]
      refine Dr.sim ?_
      try simp only [List.cons_append, List.nil_append]
      refine Dr.sim ?_
      try simp only [List.cons_append, List.nil_append]
      refine Dr.sim ?_
      try simp only [List.cons_append, List.nil_append]
      refine Dr.al ?_
      try simp only [List.cons_append, List.nil_append]
      refine Dr.finAFN (n := 13) 11 12 2 [(43, 10), (44, 11), (7, 12)] [0, 1, 2] [(33, 9), (43, 10), (7, 12)] [0, 1, 2] hG YtfghmfjbbjapgaaGreatDoor.Facts.mixed (fun KD hKD => ?_) (fun KD hKD => ?_)
      · skip
        refine AAny.one 13 ?_
        refine ARun.opM ?_
        refine ARun2.endm ?_
        refine AAny.one 14 ?_
        refine ARun.opM ?_
        refine ARun2.endm ?_
        refine AAny.fin (hKD _ ?_); clear hKD KD hG G
        refine hK3 _ ?_
        refine Le.m 1 ?_ ?_
        · first | with_reducible rfl | (simp only [push_cast, ↓reduceIte, Nat.reduceEqDiff, Nat.reduceLT, Nat.reduceAdd, Nat.reduceSub, Nat.reduceMul, Nat.reduceLeDiff, Nat.reducePow, Int.reduceLT, Int.reduceToNat, reduceCtorEq, Int.reduceNeg, Int.reduceEq, Nat.reduceBEq, Nat.reduceBNe, Int.reduceBEq, Int.reduceBNe, String.reduceEq]; first | done | rfl | (simp (disch := omega) only [w_nat, w_add, w_addl, w_addr, w_sub, w_subl, w_mul, w_mull, w_mulr, w_u32, w_u16, w_u8, w_u32a, N_zero]; first | done | rfl))
        · first | with_reducible rfl | (simp only [push_cast, ↓reduceIte, Nat.reduceEqDiff, Nat.reduceLT, Nat.reduceAdd, Nat.reduceSub, Nat.reduceMul, Nat.reduceLeDiff, Nat.reducePow, Int.reduceLT, Int.reduceToNat, reduceCtorEq, Int.reduceNeg, Int.reduceEq, Nat.reduceBEq, Nat.reduceBNe, Int.reduceBEq, Int.reduceBNe, String.reduceEq]; first | done | rfl | (simp (disch := omega) only [w_nat, w_add, w_addl, w_addr, w_sub, w_subl, w_mul, w_mull, w_mulr, w_u32, w_u16, w_u8, w_u32a, N_zero]; first | done | rfl))
      · skip
        refine AAny.two 11 13 ?_ ?_
        ·
          refine ARun.opM ?_
          refine ARun2.endm ?_
          refine AAny.one 13 ?_
          refine ARun.opM ?_
          refine ARun2.endm ?_
          refine AAny.one 14 ?_
          refine ARun.opM ?_
          refine ARun2.endm ?_
          refine AAny.fin (hKD _ ?_); clear hKD KD hG G
          refine hK3 _ ?_
          refine Le.m 1 ?_ ?_
          · first | with_reducible rfl | (simp only [push_cast, ↓reduceIte, Nat.reduceEqDiff, Nat.reduceLT, Nat.reduceAdd, Nat.reduceSub, Nat.reduceMul, Nat.reduceLeDiff, Nat.reducePow, Int.reduceLT, Int.reduceToNat, reduceCtorEq, Int.reduceNeg, Int.reduceEq, Nat.reduceBEq, Nat.reduceBNe, Int.reduceBEq, Int.reduceBNe, String.reduceEq]; first | done | rfl | (simp (disch := omega) only [w_nat, w_add, w_addl, w_addr, w_sub, w_subl, w_mul, w_mull, w_mulr, w_u32, w_u16, w_u8, w_u32a, N_zero]; first | done | rfl))
          · first | with_reducible rfl | (simp only [push_cast, ↓reduceIte, Nat.reduceEqDiff, Nat.reduceLT, Nat.reduceAdd, Nat.reduceSub, Nat.reduceMul, Nat.reduceLeDiff, Nat.reducePow, Int.reduceLT, Int.reduceToNat, reduceCtorEq, Int.reduceNeg, Int.reduceEq, Nat.reduceBEq, Nat.reduceBNe, Int.reduceBEq, Int.reduceBNe, String.reduceEq]; first | done | rfl | (simp (disch := omega) only [w_nat, w_add, w_addl, w_addr, w_sub, w_subl, w_mul, w_mull, w_mulr, w_u32, w_u16, w_u8, w_u32a, N_zero]; first | done | rfl))
        ·
          refine ARun.opM ?_
          refine ARun2.endm ?_
          refine AAny.one 11 ?_
          refine ARun.opM ?_
          refine ARun2.endm ?_
          refine AAny.one 14 ?_
          refine ARun.opM ?_
          refine ARun2.endm ?_
          refine AAny.fin (hKD _ ?_); clear hKD KD hG G
          refine hK3 _ ?_
          refine Le.m 1 ?_ ?_
          · first | with_reducible rfl | (simp only [push_cast, ↓reduceIte, Nat.reduceEqDiff, Nat.reduceLT, Nat.reduceAdd, Nat.reduceSub, Nat.reduceMul, Nat.reduceLeDiff, Nat.reducePow, Int.reduceLT, Int.reduceToNat, reduceCtorEq, Int.reduceNeg, Int.reduceEq, Nat.reduceBEq, Nat.reduceBNe, Int.reduceBEq, Int.reduceBNe, String.reduceEq]; first | done | rfl | (simp (disch := omega) only [w_nat, w_add, w_addl, w_addr, w_sub, w_subl, w_mul, w_mull, w_mulr, w_u32, w_u16, w_u8, w_u32a, N_zero]; first | done | rfl))
          · first | with_reducible rfl | (simp only [push_cast, ↓reduceIte, Nat.reduceEqDiff, Nat.reduceLT, Nat.reduceAdd, Nat.reduceSub, Nat.reduceMul, Nat.reduceLeDiff, Nat.reducePow, Int.reduceLT, Int.reduceToNat, reduceCtorEq, Int.reduceNeg, Int.reduceEq, Nat.reduceBEq, Nat.reduceBNe, Int.reduceBEq, Int.reduceBNe, String.reduceEq]; first | done | rfl | (simp (disch := omega) only [w_nat, w_add, w_addl, w_addr, w_sub, w_subl, w_mul, w_mull, w_mulr, w_u32, w_u16, w_u8, w_u32a, N_zero]; first | done | rfl))
    refine AWp.regionM fun K4 hK4 => ?_
    refine ARun2.callM (k2) ?_
    refine ARun2.endm (hK4 _ ?_)
    refine AWp.join ({ n := 120, m := 0, fr := [(11, .ptr 2 0), (12, bool z3.2), (9, .ptr 1 0), (10, bool z2.2), (7, .ptr 0 0), (8, bool z1.2), (0, u32 q), (1, .sl false 1 (u32s L)), (2, .sl false 1 (u16s s))], ob := [.box 26 [u16 z1.1.ty, .sl true 1 (bys z1.1.data), .sl true 3 (nodesA true z1.1.kids)], .box 26 [u16 z2.1.ty, .sl true 1 (bys z2.1.data), .sl true 3 (nodesA true z2.1.kids)], .box 26 [u16 z3.1.ty, .sl true 1 (bys z3.1.data), .sl true 3 (nodesA true z3.1.kids)]] }) (fun K5 hK5 => ?_) ?_
    · skip
      refine AWp.drE [[(0, none)], [(1, none)], [(53, some 1)], [(54, some 2)], [(1, none)], [(56, some 4)], [(52, some 0), (55, some 3), (57, some 5)], [(58, some 6)], [(51, some 7)], [(51, some 7)], []] fun G hG => ?_
      refine Dr.sim ?_
      try simp only [List.cons_append, List.nil_append]
      refine Dr.sim ?_
      try simp only [List.cons_append, List.nil_append]
      refine Dr.idx (0) (u32 a) ?_ ?_
      · exact i0
      try simp only [List.cons_append, List.nil_append]
      refine Dr.sim ?_
      try simp only [List.cons_append, List.nil_append]
      refine Dr.sim ?_
      try simp only [List.cons_append, List.nil_append]
      refine Dr.sliceLo (1) ?_ ?_
      · rw [u32s_len]; omega
      try simp only [List.cons_append, List.nil_append]
      refine Dr.call (k3) ?_
      try simp only [List.cons_append, List.nil_append]
      refine Dr.sim ?_
      try simp only [List.cons_append, List.nil_append]
      refine Dr.sim ?_
      try simp only [List.cons_append, List.nil_append]
      refine Dr.sim ?_
      try simp only [List.cons_append, List.nil_append]
      refine Dr.al ?_
      try simp only [List.cons_append, List.nil_append]
      refine Dr.finAFN (n := 11) 9 10 2 [(59, 8), (60, 9), (11, 10)] [0, 1, 2, 7, 8, 9, 10] [(51, 7), (59, 8), (11, 10)] [0, 1, 2, 7, 8, 9, 10] hG YtfghmfjbbjapgaaGreatDoor.Facts.mixed (fun KD hKD => ?_) (fun KD hKD => ?_)
      · skip
        refine AAny.one 11 ?_
        refine ARun.opM ?_
        refine ARun2.endm ?_
        refine AAny.one 12 ?_
        refine ARun.opM ?_
        refine ARun2.endm ?_
        refine AAny.fin (hKD _ ?_); clear hKD KD hG G
        refine hK5 _ ?_
        refine Le.m 3 ?_ ?_
        · first | with_reducible rfl | (simp only [push_cast, ↓reduceIte, Nat.reduceEqDiff, Nat.reduceLT, Nat.reduceAdd, Nat.reduceSub, Nat.reduceMul, Nat.reduceLeDiff, Nat.reducePow, Int.reduceLT, Int.reduceToNat, reduceCtorEq, Int.reduceNeg, Int.reduceEq, Nat.reduceBEq, Nat.reduceBNe, Int.reduceBEq, Int.reduceBNe, String.reduceEq]; first | done | rfl | (simp (disch := omega) only [w_nat, w_add, w_addl, w_addr, w_sub, w_subl, w_mul, w_mull, w_mulr, w_u32, w_u16, w_u8, w_u32a, N_zero]; first | done | rfl))
        · first | with_reducible rfl | (simp only [push_cast, ↓reduceIte, Nat.reduceEqDiff, Nat.reduceLT, Nat.reduceAdd, Nat.reduceSub, Nat.reduceMul, Nat.reduceLeDiff, Nat.reducePow, Int.reduceLT, Int.reduceToNat, reduceCtorEq, Int.reduceNeg, Int.reduceEq, Nat.reduceBEq, Nat.reduceBNe, Int.reduceBEq, Int.reduceBNe, String.reduceEq]; first | done | rfl | (simp (disch := omega) only [w_nat, w_add, w_addl, w_addr, w_sub, w_subl, w_mul, w_mull, w_mulr, w_u32, w_u16, w_u8, w_u32a, N_zero]; first | done | rfl))
      · skip
        refine AAny.two 9 11 ?_ ?_
        ·
          refine ARun.opM ?_
          refine ARun2.endm ?_
          refine AAny.one 11 ?_
          refine ARun.opM ?_
          refine ARun2.endm ?_
          refine AAny.one 12 ?_
          refine ARun.opM ?_
          refine ARun2.endm ?_
          refine AAny.fin (hKD _ ?_); clear hKD KD hG G
          refine hK5 _ ?_
          refine Le.m 3 ?_ ?_
          · first | with_reducible rfl | (simp only [push_cast, ↓reduceIte, Nat.reduceEqDiff, Nat.reduceLT, Nat.reduceAdd, Nat.reduceSub, Nat.reduceMul, Nat.reduceLeDiff, Nat.reducePow, Int.reduceLT, Int.reduceToNat, reduceCtorEq, Int.reduceNeg, Int.reduceEq, Nat.reduceBEq, Nat.reduceBNe, Int.reduceBEq, Int.reduceBNe, String.reduceEq]; first | done | rfl | (simp (disch := omega) only [w_nat, w_add, w_addl, w_addr, w_sub, w_subl, w_mul, w_mull, w_mulr, w_u32, w_u16, w_u8, w_u32a, N_zero]; first | done | rfl))
          · first | with_reducible rfl | (simp only [push_cast, ↓reduceIte, Nat.reduceEqDiff, Nat.reduceLT, Nat.reduceAdd, Nat.reduceSub, Nat.reduceMul, Nat.reduceLeDiff, Nat.reducePow, Int.reduceLT, Int.reduceToNat, reduceCtorEq, Int.reduceNeg, Int.reduceEq, Nat.reduceBEq, Nat.reduceBNe, Int.reduceBEq, Int.reduceBNe, String.reduceEq]; first | done | rfl | (simp (disch := omega) only [w_nat, w_add, w_addl, w_addr, w_sub, w_subl, w_mul, w_mull, w_mulr, w_u32, w_u16, w_u8, w_u32a, N_zero]; first | done | rfl))
        ·
          refine ARun.opM ?_
          refine ARun2.endm ?_
          refine AAny.one 9 ?_
          refine ARun.opM ?_
          refine ARun2.endm ?_
          refine AAny.one 12 ?_
          refine ARun.opM ?_
          refine ARun2.endm ?_
          refine AAny.fin (hKD _ ?_); clear hKD KD hG G
          refine hK5 _ ?_
          refine Le.m 3 ?_ ?_
          · first | with_reducible rfl | (simp only [push_cast, ↓reduceIte, Nat.reduceEqDiff, Nat.reduceLT, Nat.reduceAdd, Nat.reduceSub, Nat.reduceMul, Nat.reduceLeDiff, Nat.reducePow, Int.reduceLT, Int.reduceToNat, reduceCtorEq, Int.reduceNeg, Int.reduceEq, Nat.reduceBEq, Nat.reduceBNe, Int.reduceBEq, Int.reduceBNe, String.reduceEq]; first | done | rfl | (simp (disch := omega) only [w_nat, w_add, w_addl, w_addr, w_sub, w_subl, w_mul, w_mull, w_mulr, w_u32, w_u16, w_u8, w_u32a, N_zero]; first | done | rfl))
          · first | with_reducible rfl | (simp only [push_cast, ↓reduceIte, Nat.reduceEqDiff, Nat.reduceLT, Nat.reduceAdd, Nat.reduceSub, Nat.reduceMul, Nat.reduceLeDiff, Nat.reducePow, Int.reduceLT, Int.reduceToNat, reduceCtorEq, Int.reduceNeg, Int.reduceEq, Nat.reduceBEq, Nat.reduceBNe, Int.reduceBEq, Int.reduceBNe, String.reduceEq]; first | done | rfl | (simp (disch := omega) only [w_nat, w_add, w_addl, w_addr, w_sub, w_subl, w_mul, w_mull, w_mulr, w_u32, w_u16, w_u8, w_u32a, N_zero]; first | done | rfl))
    refine AWp.regionM fun K6 hK6 => ?_
    refine ARun2.indexM (0) (u32 a) ?_ ?_
    · exact i0
    refine ARun2.callM (k4) ?_
    refine ARun2.endm (hK6 _ ?_)
    refine AWp.drS [[(7, none)], [(8, none)], [(0, none)], [(1, none)], [(72, some 3)], [(73, some 4)], [(1, none)], [(75, some 6)], [(76, some 7)], [(71, some 2), (74, some 5), (77, some 8)], [(2, none)], [(78, some 9), (79, some 10)], [(69, some 0), (70, some 1), (80, some 11)], [(81, some 12)], [(9, none), (82, some 13)], [(10, none), (82, some 13)], [(0, none), (82, some 13)], [(85, some 16), (82, some 13)], [(2, none), (82, some 13)], [(86, some 17), (87, some 18), (82, some 13)], [(83, some 14), (84, some 15), (88, some 19), (82, some 13)], [(82, some 13), (89, some 20)], [(90, some 21)], [(11, none), (91, some 22)], [(12, none), (91, some 22)], [(0, none), (91, some 22)], [(120, none)], [(1, none), (91, some 22)], [(120, none)], [(97, some 28), (91, some 22)], [(92, some 23), (93, some 24), (98, some 29), (91, some 22)], [(91, some 22), (99, some 30)], [(100, some 31)], [(13, none), (101, some 32)], [(14, none), (101, some 32)], [(0, none), (101, some 32)], [(1, none), (101, some 32)], [(105, some 36), (101, some 32)], [(106, some 37), (101, some 32)], [(104, some 35), (107, some 38), (101, some 32)], [(108, some 39), (101, some 32)], [(102, some 33), (103, some 34), (109, some 40), (101, some 32)], [(101, some 32), (110, some 41)], [(111, some 42)], [(0, none), (112, some 43)], [(113, some 44), (112, some 43)], [(0, none), (112, some 43)], [(115, some 46), (112, some 43)], [(116, some 47), (112, some 43)], [(114, some 45), (117, some 48), (112, some 43)], [(112, some 43), (118, some 49)]] fun G hG => ?_
    refine Dr.sim ?_
    try simp only [List.cons_append, List.nil_append]
    refine Dr.sim ?_
    try simp only [List.cons_append, List.nil_append]
    refine Dr.sim ?_
    try simp only [List.cons_append, List.nil_append]
    refine Dr.sim ?_
    try simp only [List.cons_append, List.nil_append]
    refine Dr.idx (0) (u32 a) ?_ ?_
    · exact i0
    try simp only [List.cons_append, List.nil_append]
    refine Dr.sim ?_
    try simp only [List.cons_append, List.nil_append]
    refine Dr.sim ?_
    try simp only [List.cons_append, List.nil_append]
    refine Dr.idx (1) (u32 b) ?_ ?_
    · exact i1
    try simp only [List.cons_append, List.nil_append]
    refine Dr.sim ?_
    try simp only [List.cons_append, List.nil_append]
    refine Dr.build ?_
    try simp only [List.cons_append, List.nil_append]
    refine Dr.sim ?_
    try simp only [List.cons_append, List.nil_append]
    refine Dr.call (b1) ?_
    try simp only [List.cons_append, List.nil_append]
    refine Dr.call (m1) ?_
    try simp only [List.cons_append, List.nil_append]
    refine Dr.sim ?_
    try simp only [List.cons_append, List.nil_append]
    refine Dr.sim ?_
    try simp only [List.cons_append, List.nil_append]
    refine Dr.sim ?_
    try simp only [List.cons_append, List.nil_append]
    refine Dr.sim ?_
    try simp only [List.cons_append, List.nil_append]
    refine Dr.build ?_
    try simp only [List.cons_append, List.nil_append]
    refine Dr.sim ?_
    try simp only [List.cons_append, List.nil_append]
    refine Dr.call (b2) ?_
    try simp only [List.cons_append, List.nil_append]
    refine Dr.call (m2) ?_
    try simp only [List.cons_append, List.nil_append]
    refine Dr.sim ?_
    try simp only [List.cons_append, List.nil_append]
    refine Dr.sim ?_
    try simp only [List.cons_append, List.nil_append]
    refine Dr.sim ?_
    try simp only [List.cons_append, List.nil_append]
    refine Dr.sim ?_
    try simp only [List.cons_append, List.nil_append]
    refine Dr.sim ?_
    try simp only [List.cons_append, List.nil_append]
    refine Dr.ownS ?_
    try simp only [List.cons_append, List.nil_append]
    refine Dr.sim ?_
    try simp only [List.cons_append, List.nil_append]
    refine Dr.pubS (1) (u32 q :: u32s L) ?_
    try simp only [List.cons_append, List.nil_append]
    refine Dr.call (b3) ?_
    try simp only [List.cons_append, List.nil_append]
    refine Dr.call (m3) ?_
    try simp only [List.cons_append, List.nil_append]
    refine Dr.sim ?_
    try simp only [List.cons_append, List.nil_append]
    refine Dr.sim ?_
    try simp only [List.cons_append, List.nil_append]
    refine Dr.sim ?_
    try simp only [List.cons_append, List.nil_append]
    refine Dr.sim ?_
    try simp only [List.cons_append, List.nil_append]
    refine Dr.sim ?_
    try simp only [List.cons_append, List.nil_append]
    refine Dr.sim ?_
    try simp only [List.cons_append, List.nil_append]
    refine Dr.idx (0) (u32 a) ?_ ?_
    · exact i0
    try simp only [List.cons_append, List.nil_append]
    refine Dr.sim ?_
    try simp only [List.cons_append, List.nil_append]
    refine Dr.build ?_
    try simp only [List.cons_append, List.nil_append]
    refine Dr.call (b4) ?_
    try simp only [List.cons_append, List.nil_append]
    refine Dr.call (m4) ?_
    try simp only [List.cons_append, List.nil_append]
    refine Dr.sim ?_
    try simp only [List.cons_append, List.nil_append]
    refine Dr.sim ?_
    try simp only [List.cons_append, List.nil_append]
    refine Dr.sim ?_
    try simp only [List.cons_append, List.nil_append]
    refine Dr.call (k5) ?_
    try simp only [List.cons_append, List.nil_append]
    refine Dr.sim ?_
    try simp only [List.cons_append, List.nil_append]
    refine Dr.build ?_
    try simp only [List.cons_append, List.nil_append]
    refine Dr.call (b5) ?_
    try simp only [List.cons_append, List.nil_append]
    refine Dr.call (m5) ?_
    try simp only [List.cons_append, List.nil_append]
    refine Dr.sim ?_
    try simp only [List.cons_append, List.nil_append]
    refine Dr.finCM (n := 51) [26, 28] 1 [[(7, none)], [(8, none)], [(0, none)], [(1, none)], [(72, some 3)], [(73, some 4)], [(1, none)], [(75, some 6)], [(76, some 7)], [(71, some 2), (74, some 5), (77, some 8)], [(2, none)], [(78, some 9), (79, some 10)], [(69, some 0), (70, some 1), (80, some 11)], [(81, some 12)], [(9, none), (82, some 13)], [(10, none), (82, some 13)], [(0, none), (82, some 13)], [(85, some 16), (82, some 13)], [(2, none), (82, some 13)], [(86, some 17), (87, some 18), (82, some 13)], [(83, some 14), (84, some 15), (88, some 19), (82, some 13)], [(82, some 13), (89, some 20)], [(90, some 21)], [(11, none), (91, some 22)], [(12, none), (91, some 22)], [(0, none), (91, some 22)], [(94, some 25), (91, some 22)], [(1, none), (91, some 22)], [(95, some 26), (96, some 27), (91, some 22)], [(97, some 28), (91, some 22)], [(92, some 23), (93, some 24), (98, some 29), (91, some 22)], [(91, some 22), (99, some 30)], [(100, some 31)], [(13, none), (101, some 32)], [(14, none), (101, some 32)], [(0, none), (101, some 32)], [(1, none), (101, some 32)], [(105, some 36), (101, some 32)], [(106, some 37), (101, some 32)], [(104, some 35), (107, some 38), (101, some 32)], [(108, some 39), (101, some 32)], [(102, some 33), (103, some 34), (109, some 40), (101, some 32)], [(101, some 32), (110, some 41)], [(111, some 42)], [(0, none), (112, some 43)], [(113, some 44), (112, some 43)], [(0, none), (112, some 43)], [(115, some 46), (112, some 43)], [(116, some 47), (112, some 43)], [(114, some 45), (117, some 48), (112, some 43)], [(112, some 43), (118, some 49)]] [(119, 50)] [] (CL.ownB (xs := [u32 q]) (CL.appP (hb := by rw [YtfghmfjbbjapgaaGreatDoor.Facts.eb46, u32s_len]; simp only [List.length_cons, List.length_nil]; omega) (hsm := by rw [u32s_len]; simp only [List.length_cons, List.length_nil]; omega) CL.nil)) hG YtfghmfjbbjapgaaGreatDoor.Facts.mixed fun KD hKD => ?_
    clear hG G
    refine AAny.one 51 ?_
    refine ARun.opM ?_
    refine ARun2.endm ?_
    refine AAny.fin (hKD _ ?_); clear hKD KD
    refine AWp.ret ?_
    try simp only [thenQ, blockQ, noGo]
    refine bodyQ.m ?_
    clear hK6 K6 hK4 K4 hK2 K2 hK1 K1
    first | done | exact Hand.go
theorem streamMatches_c (q : Nat) (l s : List Nat) (hq : q < 2 ^ 32) (hl : ∀ x ∈ l, x < 2 ^ 32) (hs : ∀ x ∈ s, x < 2 ^ 16) : PC Tryz.prog 7 [u32 q, .sl false 1 (u32s l), .sl false 1 (u16s s)] (bool true) := by
  by_cases hb : 2 ≤ l.length ∧ l.length ≤ 50 ∧ s.length ≤ 300
  case neg => exact streamMatches_no q l s hb
  obtain ⟨a, b, r, rfl⟩ : ∃ a b r, l = a :: b :: r := by
    match l, hb.1 with
    | a :: b :: r, _ => exact ⟨a, b, r, rfl⟩
  have ha := hl a (by simp)
  have hb2 := hl b (by simp)
  have hbr : ∀ x ∈ b :: r, x < 2 ^ 32 := fun x hx => hl x (List.mem_cons_of_mem _ hx)
  have hrl : r.length ≤ 48 := by have := hb.2.1; simp at this; omega
  have hsl : s.length ≤ 300 := hb.2.2
  have f2 := flat4_len 2 s
  have o1 : (outD q a b s).length ≤ 2 ^ 20 := by simp only [outD, List.length_append, putB_len]; omega
  have o2 : (inD q s).length ≤ 2 ^ 20 := by simp only [inD, List.length_append, putB_len]; omega
  have o3 : (respD q a (b :: r)).length ≤ 2 ^ 20 := by simp only [respD, List.length_append, putB_len, flat4_len, List.length_cons]; omega
  have o4 : (respD q a []).length ≤ 2 ^ 20 := by simp [respD, putB_len]
  have m5 := same17_c (.mk 15 (putB 4 q) []) (.mk 15 (putB 4 q) []) (Nat.le_trans (sz_flat _ _ (by rw [putB_len]; decide)) (by decide))
  rw [sameN_self] at m5
  exact streamMatches_run q a b (a :: b :: r) s _ _ _ _ _ _ _ _ _ hb rfl rfl
    (sout_c q a b s hq ha hb2 (by omega) hs) (sin_c q s hq (by omega) hs) (sresp_c q a (b :: r) hq ha (by simp; omega) hbr) (sresp_c q a [] hq ha (by simp) (by simp)) (sreset_c q hq)
    (by rw [← build_out]; exact rbuild_c 13 [q, a, b] s (by simp) (by omega)) (by rw [← build_in]; exact rbuild_c 14 [q] s (by simp) (by omega))
    (by rw [← build_resp]; exact rbuild_c 16 (q :: a :: b :: r) [] (by simp; omega) (by simp)) (by rw [← build_resp]; exact rbuild_c 16 [q, a] [] (by simp) (by simp))
    (by rw [← build_reset]; exact rbuild_c 15 [q] [] (by simp) (by simp))
    (made17_c _ (Nat.le_trans (sz_flat _ _ o1) (by decide))) (made17_c _ (Nat.le_trans (sz_flat _ _ o2) (by decide))) (made17_c _ (Nat.le_trans (sz_flat _ _ o3) (by decide))) (made17_c _ (Nat.le_trans (sz_flat _ _ o4) (by decide))) m5
/-- is it a parameter of this kind? -/
theorem allIs_snoc (l : List GNode) (n : GNode) : (l ++ [n]).all (fun n => isS n 13 18) = (l.all (fun n => isS n 13 18) && isS n 13 18) := by simp
theorem recon_len {l : List GNode} (h : checkC (reconC l) = 0) : (l.length = 1 ∨ l.length = 2) ∧ ∀ n ∈ l, checkN 1 1 n = 0 := by
  obtain ⟨h1, h2, h3, h4⟩ := check_zero h (show kindHas 130 = true from rfl)
  refine ⟨?_, ?_⟩
  · have e : kkidsOk (kindOf 130) l = true := h3
    unfold kkidsOk at e
    simp [kindOf, kindForms, kinsideN] at e
    omega
  · intro n hn
    exact checkL_mem (c := 1) (dp := 1) h4 n hn
theorem want_make (l : List GNode) : ((l.length == 1 || l.length == 2) && l.all (fun n => isS n 13 18) && (checkC (reconC l) == 0)) = (smakeN l).2 := by
  unfold smakeN
  by_cases hc : checkC (reconC l) = 0
  · obtain ⟨h1, h2⟩ := recon_len hc
    have e1 : (l.length == 1 || l.length == 2) = true := by simpa using h1
    have e2 : l.all (fun n => isS n 13 18) = !l.any oddS := by
      rw [Bool.eq_iff_iff]
      simp only [List.all_eq_true, Bool.not_eq_true', List.any_eq_false]
      constructor
      · intro h n hn
        have := isS_iff.1 (h n hn)
        unfold oddS; simp; omega
      · intro h n hn
        have h3 := h n hn
        unfold oddS at h3
        simp at h3
        exact isS_iff.2 ⟨by omega, by omega, h2 n hn⟩
    rw [e1, e2, hc]
    cases h : l.any oddS <;> simp
  · have e3 : (checkC (reconC l) == 0) = false := by simpa using hc
    rw [e3, if_neg (fun h => hc h.2), Bool.and_false]
theorem streamMakes_c (l : List GNode) (hs : szs l ≤ 2 ^ 24) : PC Tryz.prog 4 [.sl false 3 (nodesA false l)] (bool true) := by
  have hlen := szs_len l
  have k1 := smake_c l (by omega)
  have hsm := small_recon (l := l) (by omega)
  have k2 := hsm.check12
  have k3 : PC Tryz.prog 20 [chunkA false .zero, chunkA false .zero] (bool true) := sameC_self .zero ▸ small_zero.same
  have k4 : PC Tryz.prog 20 [chunkA false (reconC l), chunkA false (reconC l)] (bool true) := sameC_self _ ▸ hsm.same
  have hw := want_make l
  have hyes : (smakeN l).2 = true → smakeN l = (reconC l, true) := by unfold smakeN; split <;> simp
  have hno : (smakeN l).2 = false → smakeN l = (.zero, false) := by unfold smakeN; split <;> simp
  generalize checkC (reconC l) = C at k2 hw
  generalize smakeN l = M at k1 hw hyes hno
  simp only [GChunk.zero] at k3
  simp only [reconC] at k2 k4
  refine PC.of_bodyW (by simp only [push_cast]) Tryz.func4 rfl (by rw [Tryz.ntmps4]; simp) ?_
  refine AWp.regionW ?_
  refine AWp.seqK fun K1 hK1 => ?_
  refine AWp.regionM fun K2 hK2 => ?_
  refine ARun2.callM (awake17_c) ?_
  refine ARun2.callM (few_c l (by omega)) ?_
  refine ARun2.endm (hK2 _ ?_)
  refine AWp.condLM (fun c0 => ?_) (fun c0 => ?_)
  · skip
    refine AWp.regionM fun K3 hK3 => ?_
    refine ARun2.callM (awake17_c) ?_
    refine ARun2.endm (hK3 _ ?_)
    refine AWp.ret ?_
    try simp only [thenQ, blockQ, noGo]
    refine bodyQ.m ?_
    clear hK3 K3 hK2 K2 hK1 K1
    first | done | exact Hand.go
  · skip
    refine AWp.skip ?_
    refine hK1 _ ?_
    refine AWp.regionM fun K4 hK4 => ?_
    refine ARun2.callM (k1) ?_
    refine ARun2.endm (hK4 _ ?_)
    refine AWp.regionA fun K5 hK5 => ?_
    refine ARun.segm 4 fun KS hKS => ?_
    refine ARun2.endm (hKS _ ?_); clear hKS KS
    apply ARun.grpM 3 3 false 27 [0, 3, 4, 24]
    · intro g3 KG hKG
      refine ARun2.gom ?_
      exact ARun2.endm (hKG _ Le.grpM)
    refine ARun2.gom ?_
    refine ARun2.endm (hK5 _ ?_)
    refine AWp.seqK fun K6 hK6 => ?_
    refine AWp.regionW ?_
    refine AWp.block ?_
    refine AWp.loopK0 [0, 3, 4] (fun (i : Nat) => [(6, nat i), (5, bool ((l.length == 1 || l.length == 2) && (l.take i).all (fun n => isS n 13 18)))]) (fun i => i ≤ l.length) (fun i => l.length - i) (0) ?_ (Nat.zero_le _) ?_
    · skip
      refine Le.m 1 ?_ ?_
      · first | with_reducible rfl | (simp only [push_cast, ↓reduceIte, Nat.reduceEqDiff, Nat.reduceLT, Nat.reduceAdd, Nat.reduceSub, Nat.reduceMul, Nat.reduceLeDiff, Nat.reducePow, Int.reduceLT, Int.reduceToNat, reduceCtorEq, Int.reduceNeg, Int.reduceEq, Nat.reduceBEq, Nat.reduceBNe, Int.reduceBEq, Int.reduceBNe, String.reduceEq]; first | done | rfl | (simp (disch := omega) only [w_nat, w_add, w_addl, w_addr, w_sub, w_subl, w_mul, w_mull, w_mulr, w_u32, w_u16, w_u8, w_u32a, N_zero]; first | done | rfl))
      · simp only [push_cast, ↓reduceIte, Nat.reduceEqDiff, Nat.reduceLT, Nat.reduceAdd, Nat.reduceSub, Nat.reduceMul, Nat.reduceLeDiff, Nat.reducePow, Int.reduceLT, Int.reduceToNat, reduceCtorEq, Int.reduceNeg, Int.reduceEq, Nat.reduceBEq, Nat.reduceBNe, Int.reduceBEq, Int.reduceBNe, String.reduceEq]
        try simp (disch := omega) only [w_nat, w_add, w_addl, w_addr, w_sub, w_subl, w_mul, w_mull, w_mulr, w_u32, w_u16, w_u8, w_u32a, N_zero]
        first | done | simp
    · intro i hi K7 hK7
      refine AWp.seqK fun K8 hK8 => ?_
      refine AWp.regionW ?_
      refine AWp.condLM (fun c1 => ?_) (fun c1 => ?_)
      · skip
        have hil : i < l.length := by simpa using c1
        have hm := szs_mem (List.getElem_mem hil)
        refine AWp.skip ?_
        refine hK8 _ ?_
        refine AWp.seqK fun K9 hK9 => ?_
        refine AWp.block ?_
        refine AWp.regionB fun K10 hK10 => ?_
        refine ARun.segm 2 fun KS hKS => ?_
        refine ARun2.endm (hKS _ ?_); clear hKS KS
        apply ARun.grpM 5 1 true 41 [0, 3, 4, 6, 36]
        · intro g1 KG hKG
          refine ARun2.gom ?_
          refine ARun2.indexM (i) (nodeA false l[i]) ?_ ?_
          · exact nodesA_at _ _ _ hil
          refine ARun2.callM (ris17_c l[i] (by omega)) ?_
          exact ARun2.endm (hKG _ Le.grpM)
        refine ARun2.gom ?_
        refine ARun2.endm (hK10 _ ?_)
        refine hK9 _ ?_
        refine AWp.regionV ?_
        refine hK7 _ (i + 1) (by omega) (by omega) ?_
        refine Le.m 1 ?_ ?_
        · first | with_reducible rfl | (simp only [push_cast, ↓reduceIte, Nat.reduceEqDiff, Nat.reduceLT, Nat.reduceAdd, Nat.reduceSub, Nat.reduceMul, Nat.reduceLeDiff, Nat.reducePow, Int.reduceLT, Int.reduceToNat, reduceCtorEq, Int.reduceNeg, Int.reduceEq, Nat.reduceBEq, Nat.reduceBNe, Int.reduceBEq, Int.reduceBNe, String.reduceEq]; first | done | rfl | (simp (disch := omega) only [w_nat, w_add, w_addl, w_addr, w_sub, w_subl, w_mul, w_mull, w_mulr, w_u32, w_u16, w_u8, w_u32a, N_zero]; first | done | rfl))
        · simp only [push_cast, ↓reduceIte, Nat.reduceEqDiff, Nat.reduceLT, Nat.reduceAdd, Nat.reduceSub, Nat.reduceMul, Nat.reduceLeDiff, Nat.reducePow, Int.reduceLT, Int.reduceToNat, reduceCtorEq, Int.reduceNeg, Int.reduceEq, Nat.reduceBEq, Nat.reduceBNe, Int.reduceBEq, Int.reduceBNe, String.reduceEq]
          try simp (disch := omega) only [w_nat, w_add, w_addl, w_addr, w_sub, w_subl, w_mul, w_mull, w_mulr, w_u32, w_u16, w_u8, w_u32a, N_zero]
          rw [List.take_succ_eq_append_getElem hil, allIs_snoc]; simp [Bool.and_assoc]
      · skip
        have hil : i = l.length := by simp at c1; omega
        subst hil
        rw [List.take_length]
        refine AWp.exit ?_
        try simp only [thenQ, blockQ, noGo, reduceIte, Nat.reduceEqDiff]
        refine hK6 _ ?_
        refine AWp.regionW ?_
        refine AWp.regionA fun K11 hK11 => ?_
        refine ARun.segm 2 fun KS hKS => ?_
        refine ARun2.endm (hKS _ ?_); clear hKS KS
        apply ARun.grpM 3 1 true 49 [3, 4, 7, 46]
        · intro g1 KG hKG
          refine ARun2.gom ?_
          refine ARun2.callM (k2) ?_
          exact ARun2.endm (hKG _ Le.grpM)
        refine ARun2.gom ?_
        refine ARun2.endm (hK11 _ ?_)
        refine AWp.seqK fun K12 hK12 => ?_
        refine AWp.regionW ?_
        refine AWp.condLM (fun c2 => ?_) (fun c2 => ?_)
        · skip
          have hM : M.2 = false := by rw [← hw]; simpa only [Bool.not_eq_true'] using c2
          rw [hno hM]
          simp only [GChunk.zero]
          refine AWp.regionM fun K13 hK13 => ?_
          refine ARun2.callM (k3) ?_
          refine ARun2.endm (hK13 _ ?_)
          refine AWp.ret ?_
          try simp only [thenQ, blockQ, noGo]
          refine bodyQ.m ?_
          clear hK13 K13 hK12 K12 hK11 K11 hK8 K8 hK7 K7 hK6 K6 hK5 K5 hK4 K4 hK2 K2 hK1 K1
          first | done | exact Hand.go
        · skip
          have hM : M.2 = true := by rw [← hw]; simpa only [Bool.not_eq_false'] using c2
          rw [hyes hM]
          simp only [reconC]
          refine AWp.skip ?_
          refine hK12 _ ?_
          refine AWp.regionM fun K14 hK14 => ?_
          refine ARun2.callM (k4) ?_
          refine ARun2.endm (hK14 _ ?_)
          refine AWp.ret ?_
          try simp only [thenQ, blockQ, noGo]
          refine bodyQ.m ?_
          clear hK14 K14 hK12 K12 hK11 K11 hK8 K8 hK7 K7 hK6 K6 hK5 K5 hK4 K4 hK2 K2 hK1 K1
          first | done | exact Hand.go
end Go.Proofs.YtfghmfjbbjapgaaGreatDoor.C
/- From the statement's reading to abstract values, and back. No condition. -/
namespace Go.Abs
open Go.ChangeShapes Go.WideShapes Go.RowKit
set_option linter.unusedVariables false
set_option linter.unusedSectionVars false
set_option linter.unusedSimpArgs false
/-- all that is there when the call begins -/
abbrev Old (W : World) : Nat → Prop := fun b => b < W.heap.size
theorem RW.start (W : World) : RW (E0 W.heap.size W (Old W) []) [] [] (Old W) W :=
  { ep := Nat.le_refl _, os := rfl, tape := rfl, output := rfl, size := Nat.le_refl _, block := fun _ _ _ => rfl, pre := fun k v h => by simp at h, bsub := fun _ h => h, bnew := fun _ h => .inl h,
    blt := fun _ h => h, len := rfl, obs := fun k o h => by simp at h, dis := fun i j o o' u v b _ h => by simp at h, prv := fun k o v b h => by simp at h }
theorem PC.answers {P : Program} {f : FuncId} {ys : List AV} {v : Value} (h : PC P f ys (.val v)) {W : World} (hg : Globs W (Old W) []) {args : Array Value} (ha : RelL W (Old W) W.heap.size [] ys args.toList) :
    Calls P f args W fun e W' => e = .returned v ∧ Below W.heap.size W W' := by
  have := h.2 W.heap.size W [] (Old W) args.toList hg (RW.start W) ha (fun e W' => e = .returned v ∧ Below W.heap.size W W') (by
    rintro r' v' τ' ρ' B' w' ⟨rfl, rfl⟩ hw hr
    cases hr
    exact ⟨rfl, ⟨hw.os, hw.tape, hw.output, hw.size, fun k hk => hw.block k hk ⟨fun ⟨u, hu, _⟩ => by simp at hu, fun h => by cases h⟩⟩⟩)
  simpa using this
section
variable {H : Type} {enc : TypeId × Value → H} {P : Program} {W W' : World}
theorem trodAll_stays (hl : laidOutB P = true) (hb : Below W.heap.size W W') {sp' : Nat → Bool} : ∀ {ts : List TypeId} {vs : List Value} {ds : List (DataW H)} {ps : List MemPlace}, (∀ t ∈ ts, P.readableRec t = true ∧ t < P.types.size) →
    DataW.TrodAll enc P W 0 (fun _ => true) true ts vs ds ps → (∀ p ∈ ps, p.block < W.heap.size) → (∀ p ∈ ps, sp' p.block = true) → DataW.TrodAll enc P W' 0 sp' true ts vs ds ps
  | [], _, _, _, _, h, _, _ => by
    obtain ⟨rfl, rfl, rfl⟩ := trodAll_nil h
    rfl
  | t :: ts, _, _, _, ht, h, hlt, hs => by
    obtain ⟨v, vs1, d, ds1, a, b, rfl, rfl, rfl, h1, h2⟩ := trodAll_cons h
    have := ht t (by simp)
    exact ⟨a, b, WideElems.Trod_stays hl this.1 this.2 h1 (fun x hx => hb.same (hlt x (by simp [hx]))) (fun x hx => hs x (by simp [hx])),
      trodAll_stays hl hb (fun u hu => ht u (by simp [hu])) h2 (fun x hx => hlt x (by simp [hx])) (fun x hx => hs x (by simp [hx])), rfl⟩
/-- a law holds: it answers true, and all that was there is as it was -/
theorem post_true {f : Func} {s : ChangeSpec} {fresh : Bool} {args : Array Value} {ds gs : List (DataW H)} {before : List MemPlace} {tb : TypeId}
    (hW : DataW.Whole enc P f.params.toList s.vars false W args.toList ds gs before) (hv : s.vars = []) (hs : s.fn H (ds ++ gs) = { results := [.lit (.bool true)], args := ds }) (hr : f.resultTypes = #[tb]) (hb : P.underlying tb = some .bool)
    (hl : laidOutB P = true) (ht : (f.params.toList.all fun t => P.readableRec t && decide (t < P.types.size)) = true) (hB : Below W.heap.size W W') :
    s.post enc P f false fresh false false W args (.bool true) W' := by
  have hW0 := hW
  obtain ⟨p, q, hA, hV, rfl, hfz, _⟩ := hW
  rw [hv] at hV
  have hg : gs = [] ∧ q = [] := by
    cases gs with
    | nil => exact ⟨rfl, hV⟩
    | cons g gs => exact hV.elim
  obtain ⟨rfl, rfl⟩ := hg
  have hlt : ∀ x ∈ p ++ [], x.block < W.heap.size := fun x hx => by simpa using hW0.lt x hx
  refine ⟨ds, [], p ++ [], [], p, [], hW0, ?_, ?_, ?_, ?_, fun h => by cases h⟩
  · rw [hs, hr]
    exact trodAll_cons_mk (p := []) (p' := []) (shut_bool hb _) trodAll_mk0
  · rw [hs]
    refine trodAll_stays hl hB (fun t h => ?_) hA (fun x hx => hlt x (by simp [hx])) (fun x hx => by simpa using hlt x (by simp [hx]))
    have := List.all_eq_true.1 ht t h
    simpa using this
  · rw [hs, hv]; exact rfl
  · refine ⟨hB.os, hB.output, fun i hi => ?_⟩
    rw [hB.block i hi]
    cases W.heap[i]? with
    | none => rfl
    | some o => cases o <;> simp
theorem addr_of_cell {w : World} {a : Addr} {v : Value} (h : w.cell? a = some v) : a.spot = none := by
  unfold World.cell? at h
  split at h
  · split at h
    · cases h
    · rename_i hs; cases hh : a.spot <;> simp_all
  · cases h
/-- a slice of numbers, read -/
theorem rel_ints0 {t e : TypeId} {k : IntKind} {v : Value} {d : DataW H} {ps : List MemPlace} {fuel : Nat} (ht : P.underlying t = some (.slice e)) (he : P.underlying e = some (.int k)) (hc : P.cellsOf e = 1)
    (hf : DataW.trod enc P W 0 (fun _ => true) true fuel t [v] = some (d, ps)) :
    ∃ (zs : List Int), Rel W (Old W) W.heap.size [] (.sl false 1 (zs.map fun n => .val (.int k n))) v ∧ (∀ n ∈ zs, (Lit.int k n).wf = true) ∧ ((d = .nil ∧ zs = []) ∨ ∃ rest, d = .slice (lits k zs) rest) := by
  rcases open_ints ht he hc hf with ⟨h1, h2⟩ | ⟨a, len, cap, zs, h1, h2, h3, h4, h5, h6, h7, h8⟩
  · simp only [List.cons.injEq, and_true] at h1
    subst h1
    exact ⟨[], .slE _ _ _ _, by simp, .inl ⟨congrArg Prod.fst h2, rfl⟩⟩
  · simp only [List.cons.injEq, and_true] at h1
    subst h1
    simp only [if_true] at h5
    refine ⟨zs.take len, ?_, fun n hn => h8 n (List.mem_of_mem_take hn), .inr ⟨_, congrArg Prod.fst h6⟩⟩
    have hlen : (zs.take len).length = len := by rw [List.length_take]; omega
    cases hq : zs.take len with
    | nil =>
      rw [hq] at hlen
      simp at hlen
      subst hlen
      exact .slE _ _ _ _
    | cons z l =>
      have hpos : 0 < zs.length := by rw [hq] at hlen; simp at hlen; omega
      have h0 := h7 0 hpos
      have hsp : a.spot = none := addr_of_cell (show W.cell? a = _ from h0)
      obtain ⟨b, o, sp⟩ := a
      simp only at hsp
      subst hsp
      have hblk : b < W.heap.size := by
        have := World.block_lt_of_cell? W _ h0
        simpa [Addr.add] using this
      rw [hq] at hlen
      simp only [List.length_cons] at hlen
      subst hlen
      have hrow := RelRow.mk (w := W) (B := Old W) (bs := W.heap.size) (ρ := []) (nw := false) (b := b) (sz := 1) (o := o) (xs := (z :: l).map fun n => AV.val (.int k n)) (vs := (z :: l).map fun n => Value.int k n) hblk (fun h => by cases h) ?_ ?_ ?_
      · have := Rel.sl (cap := cap) (by simpa using hrow) (by simpa using h3)
        simpa using this
      · have : (((z :: l).map fun n => AV.val (.int k n)).flatMap AV.cells) = ((z :: l).map fun n => Value.int k n).map AV.val := by
          generalize z :: l = m
          induction m with
          | nil => rfl
          | cons x m ih => simp only [List.map_cons, List.flatMap_cons, ih]; rfl
        rw [this]
        have key : ∀ l : List Value, RelL W (Old W) W.heap.size [] (l.map AV.val) l := fun l => by induction l with
          | nil => exact .nil
          | cons x l ih => exact .cons (.val x) ih
        exact key _
      · intro x hx
        simp only [List.mem_map] at hx
        obtain ⟨n, _, rfl⟩ := hx
        exact ⟨rfl, fun c hc => by simp [AV.cells] at hc; subst hc; rfl⟩
      · intro j v hj
        rw [← hq, List.getElem?_map, List.getElem?_take] at hj
        split at hj
        · rename_i hjl
          simp only [Option.map_eq_some_iff] at hj
          obtain ⟨n, hn, rfl⟩ := hj
          have hlt : j < zs.length := by have := List.getElem?_eq_some_iff.1 hn; exact this.1
          have := h7 j hlt
          rw [addr_add] at this
          rw [this, List.getD_eq_getElem?_getD, hn]; rfl
        · simp at hj
/-- the same, of an argument -/
theorem rel_ints {r : Reach} {b0 : Nat} {t e : TypeId} {k : IntKind} {v : Value} {d : DataW H} {ps : List MemPlace} (ht : P.underlying t = some (.slice e)) (he : P.underlying e = some (.int k)) (hc : P.cellsOf e = 1)
    (hval : Value.okWide P W r b0 t v) (hd : DataW.Trod enc P W 0 (fun _ => true) true t v d ps) :
    ∃ (zs : List Int), Rel W (Old W) W.heap.size [] (.sl false 1 (zs.map fun n => .val (.int k n))) v ∧ (∀ n ∈ zs, (Lit.int k n).wf = true) ∧ ((d = .nil ∧ zs = []) ∨ ∃ rest, d = .slice (lits k zs) rest) := by
  obtain ⟨A, len0, cap0, rfl⟩ := okWide_slice ht hval
  obtain ⟨fuel, hf⟩ := hd
  exact rel_ints0 ht he hc hf
end
end Go.Abs
/- Nodes, read. -/
set_option linter.unusedVariables false
set_option linter.unusedSimpArgs false
namespace Go.Proofs.YtfghmfjbbjapgaaGreatDoor.C
open Go.Abs Go.ChangeShapes Go.WideShapes Go.ChangeAt Go.RowKit
theorem own : ownKnob Tryz.prog.godebug = none := by kernel_rfl
theorem laidOut : laidOutB Tryz.prog = true := by kernel_rfl
theorem nat_of {n : Int} {m : Nat} (h : 0 ≤ n ∧ n ≤ m) : ∃ x : Nat, n = N x ∧ x < m + 1 := ⟨n.toNat, by unfold N; omega, by omega⟩
theorem u16_of {n : Int} (h : (Lit.int .u16 n).wf = true) : ∃ m : Nat, n = N m ∧ m < 2 ^ 16 := nat_of (m := 65535) (by simpa [Lit.wf, IntKind.min, IntKind.max, IntKind.signed, IntKind.bits] using h)
theorem u32_of {n : Int} (h : (Lit.int .u32 n).wf = true) : ∃ m : Nat, n = N m ∧ m < 2 ^ 32 := nat_of (m := 4294967295) (by simpa [Lit.wf, IntKind.min, IntKind.max, IntKind.signed, IntKind.bits] using h)
theorem int_bounds {k : IntKind} {n : Int} (h : (Lit.int k n).wf = true) : k.min ≤ n ∧ n ≤ k.max := by simpa [Lit.wf] using h
theorem bys_of {zs : List Int} (h : ∀ n ∈ zs, (Lit.int .u8 n).wf = true) : (zs.map fun n => AV.val (.int .u8 n)) = bys (zs.map fun n => UInt8.ofNat n.toNat) := by
  unfold bys
  rw [List.map_map]
  refine List.map_congr_left fun n hn => ?_
  have h2 : 0 ≤ n ∧ n ≤ 255 := by simpa [Lit.wf, IntKind.min, IntKind.max, IntKind.signed, IntKind.bits] using h n hn
  have h3 : N (UInt8.ofNat n.toNat).toNat = n := by
    rw [UInt8.toNat_ofNat']; unfold N; omega
  show AV.val (.int .u8 n) = .val (.int .u8 (N (UInt8.ofNat n.toNat).toNat))
  rw [h3]
theorem bulk_one {H : Type} (d : DataW H) : 1 ≤ Rows.uptoBulk d := by
  cases d with
  | lit l => cases l <;> simp [Rows.uptoBulk]
  | _ => simp [Rows.uptoBulk]
theorem bulk_len {H : Type} : ∀ l : List (DataW H), l.length ≤ Rows.uptoBulkAll l
  | [] => by simp [Rows.uptoBulkAll]
  | x :: r => by
    have h1 := bulk_one x
    have h2 := bulk_len r
    simp only [Rows.uptoBulkAll, List.length_cons]; omega
theorem bulk_lits' {H : Type} (k : IntKind) (zs : List Int) (rest : List (DataW H)) : zs.length + 1 ≤ Rows.uptoBulk (.slice (lits k zs) rest : DataW H) := by
  have := bulk_len (lits k zs : List (DataW H))
  simp only [lits, List.length_map] at this
  simp only [Rows.uptoBulk, lits]
  omega
section
variable {H : Type} {enc : TypeId × Value → H} {W : World}
/-- bytes -/
theorem rel_bytes0 {v : Value} {d : DataW H} {ps : List MemPlace} {fuel : Nat} (hf : DataW.trod enc Tryz.prog W 0 (fun _ => true) true fuel 23 [v] = some (d, ps)) :
    ∃ l : List UInt8, Rel W (Old W) W.heap.size [] (.sl false 1 (bys l)) v ∧ l.length ≤ Rows.uptoBulk d := by
  have hc : Tryz.prog.cellsOf 5 = 1 := by kernel_rfl
  obtain ⟨zs, k0, k1, k2⟩ := rel_ints0 Tryz.underlying23 Tryz.underlying5 hc hf
  rw [bys_of k1] at k0
  refine ⟨_, k0, ?_⟩
  rw [List.length_map]
  rcases k2 with ⟨_, rfl⟩ | ⟨rest, rfl⟩
  · simp
  · have := bulk_lits' .u8 zs rest; omega
theorem nodeA_one (n : GNode) : ∀ c ∈ (nodeA false n).cells, c.one = true := by
  rw [nodeA_eq]; simp [AV.cells, AV.one, Value.oneCell']
theorem node_fields : ∃ f0 f1 f2 : Field, Tryz.prog.underlying 26 = some (.struct #[f0, f1, f2]) ∧ f0.type = 22 ∧ f0.offset = 0 ∧ f1.type = 23 ∧ f1.offset = 1 ∧ f2.type = 24 ∧ f2.offset = 2 :=
  ⟨_, _, _, Tryz.underlying26, rfl, rfl, rfl, rfl, rfl, rfl⟩
set_option maxRecDepth 100000 in
theorem rel_node0 : ∀ (fuel : Nat),
    (∀ (cs : List Value) (d : DataW H) (ps : List MemPlace), DataW.trod enc Tryz.prog W 0 (fun _ => true) true fuel 26 cs = some (d, ps) → ∃ n : GNode, RelL W (Old W) W.heap.size [] (nodeA false n).cells cs ∧ n.sz ≤ Rows.uptoBulk d ∧ n.tyOk = true) ∧
    (∀ (v : Value) (d : DataW H) (ps : List MemPlace), DataW.trod enc Tryz.prog W 0 (fun _ => true) true fuel 24 [v] = some (d, ps) → ∃ l : List GNode, Rel W (Old W) W.heap.size [] (.sl false 3 (nodesA false l)) v ∧ szs l ≤ Rows.uptoBulk d ∧ tysOk l = true) := by
  have c16 : Tryz.prog.cellsOf 22 = 1 := by kernel_rfl
  have c8 : Tryz.prog.cellsOf 23 = 1 := by kernel_rfl
  have cn : Tryz.prog.cellsOf 24 = 1 := by kernel_rfl
  have c3 : Tryz.prog.cellsOf 26 = 3 := by kernel_rfl
  intro fuel
  induction fuel with
  | zero => exact ⟨fun cs d ps h => by simp [DataW.trod] at h, fun v d ps h => by simp [DataW.trod] at h⟩
  | succ fuel ih =>
    refine ⟨?_, ?_⟩
    · intro cs d ps h
      obtain ⟨f0, f1, f2, hs, a0, b0, a1, b1, a2, b2⟩ := node_fields
      obtain ⟨xs, m, hm, hx, hl, hlen, hall⟩ := DataW.trod_struct hs h
      have hm' : m = fuel := by omega
      subst hm'
      have e0 := hall 0 f0 rfl
      have e1 := hall 1 f1 rfl
      have e2 := hall 2 f2 rfl
      rw [a0, b0, c16] at e0
      rw [a1, b1, c8] at e1
      rw [a2, b2, cn] at e2
      rw [c3] at hl
      match xs, hlen, cs, hl with
      | [y0, y1, y2], _, [v0, v1, v2], _ =>
        simp only [List.drop_zero, List.take_succ_cons, List.take_zero, List.drop_succ_cons, List.getElem?_cons_zero, List.getElem?_cons_succ] at e0 e1 e2
        obtain ⟨n0, h0, hy0, hw0⟩ := DataW.trod_int Tryz.underlying22 e0
        obtain ⟨l1, r1, s1⟩ := rel_bytes0 (d := y1.1) (ps := y1.2) e1
        obtain ⟨l2, r2, s2, t2⟩ := ih.2 v2 y2.1 y2.2 e2
        have hb := int_bounds hw0
        have hn : N n0.toNat = n0 := by
          have : (0 : Int) ≤ n0 := hb.1
          unfold N; omega
        have hle : n0 ≤ 65535 := hb.2
        refine ⟨.mk n0.toNat l1 l2, ?_, ?_, by rw [GNode.tyOk, t2]; simp; omega⟩
        · rw [nodeA_eq]
          simp only [List.cons.injEq, and_true] at h0
          subst h0
          have := Rel.val (w := W) (B := Old W) (bs := W.heap.size) (ρ := []) (.int .u16 (N n0.toNat))
          rw [hn] at this
          exact .cons (by show Rel _ _ _ _ (.val (.int .u16 (N n0.toNat))) _; rw [hn]; exact this) (.cons r1 (.cons r2 .nil))
        · have hd : d = .agg [y0.1, y1.1, y2.1] := congrArg Prod.fst hx
          rw [hd]
          have := bulk_one y0.1
          simp only [GNode.sz, Rows.uptoBulk, Rows.uptoBulkAll]
          omega
    · intro v d ps h
      rcases DataW.trod_slice Tryz.underlying24 h with ⟨h1, h2⟩ | ⟨a, len, cap, elems, rest, m, hm, h1, h2, _, hlc, hcm, hlen, hel, _, _⟩
      · simp only [List.cons.injEq, and_true] at h1
        subst h1
        refine ⟨[], by simpa [nodesA] using Rel.slE false 3 none 0, by simp [szs], rfl⟩
      · have hm' : m = fuel := by omega
        subst hm'
        simp only [List.cons.injEq, and_true] at h1
        subst h1
        rw [c3] at hel
        -- every element is a node
        have each : ∀ i (hi : i < elems.length), ∃ (n : GNode) (cs : List Value), cs.length = 3 ∧ (∀ j, j < 3 → W.cell? ((a.add (i * 3)).add j) = cs[j]?) ∧ RelL W (Old W) W.heap.size [] (nodeA false n).cells cs ∧ n.sz ≤ Rows.uptoBulk elems[i].1 ∧ n.tyOk = true := by
          intro i hi
          have hk := hel i (by omega)
          rw [List.getElem?_eq_getElem hi] at hk
          obtain ⟨cs, hcs, hy⟩ := Option.bind_eq_some_iff.1 hk
          obtain ⟨_, hl3, hcell⟩ := World.cells?_some hcs
          obtain ⟨n, r, s, tt⟩ := ih.1 cs elems[i].1 elems[i].2 hy
          exact ⟨n, cs, hl3, hcell, r, s, tt⟩
        cases hq : elems with
        | nil =>
          rw [hq] at hlen
          simp at hlen
          subst hlen
          exact ⟨[], by simpa [nodesA] using Rel.slE false 3 (some a) cap, by simp [szs], rfl⟩
        | cons x r =>
          have hpos : 0 < elems.length := by rw [hq]; simp
          obtain ⟨n0, cs0, hl0, hc0, _, _, _⟩ := each 0 hpos
          have hcell0 := hc0 0 (by omega)
          simp only [Nat.zero_mul] at hcell0
          rw [List.getElem?_eq_getElem (by omega)] at hcell0
          have hsp : a.spot = none := addr_of_cell (show W.cell? a = _ from hcell0)
          obtain ⟨b, o, sp⟩ := a
          simp only at hsp
          subst hsp
          have hblk : b < W.heap.size := by
            have := World.block_lt_of_cell? W _ hcell0
            simpa [Addr.add] using this
          have rows : ∀ k, k ≤ elems.length → ∃ l : List GNode, l.length = k ∧ RelRow W (Old W) W.heap.size [] false b 3 (o + (elems.length - k) * 3) (nodesA false l) ∧ szs l ≤ Rows.uptoBulkAll ((elems.drop (elems.length - k)).map (·.1)) ∧ tysOk l = true := by
            intro k
            induction k with
            | zero => exact fun _ => ⟨[], rfl, by simpa [nodesA] using RelRow.nil, by simp [szs], rfl⟩
            | succ k ihk =>
              intro hk
              obtain ⟨l, p1, p2, p3, p4⟩ := ihk (by omega)
              have hi : elems.length - (k + 1) < elems.length := by omega
              obtain ⟨n, cs, q1, q2, q3, q4, q5⟩ := each _ hi
              have hd : elems.drop (elems.length - (k + 1)) = elems[elems.length - (k + 1)] :: elems.drop (elems.length - k) := by
                rw [List.drop_eq_getElem_cons hi, show elems.length - (k + 1) + 1 = elems.length - k by omega]
              refine ⟨n :: l, by simp [p1], ?_, ?_, by rw [tysOk, q5, p4]; rfl⟩
              · rw [nodesA_cons]
                refine .cons (RelCells.mk (B := Old W) (bs := W.heap.size) (nw := false) hblk (fun h => by cases h) q3 (nodeA_one n) ?_) (by rw [nodeA_eq]; rfl) ?_
                · intro j v hj
                  have hj3 : j < 3 := by rw [← q1]; exact (List.getElem?_eq_some_iff.1 hj).1
                  have := q2 j hj3
                  rw [addr_add, addr_add] at this
                  rw [this, hj]
                · have e : o + (elems.length - (k + 1)) * 3 + 3 = o + (elems.length - k) * 3 := by omega
                  rw [e]; exact p2
              · rw [hd]
                simp only [szs, List.map_cons, Rows.uptoBulkAll]
                omega
          obtain ⟨l, p1, p2, p3, p4⟩ := rows elems.length (Nat.le_refl _)
          rw [Nat.sub_self] at p2 p3
          have hd : d = .slice (elems.map (·.1)) (rest.map (·.1)) := congrArg Prod.fst h2
          refine ⟨l, ?_, ?_, p4⟩
          · match l, p1 with
            | n :: l, p1 =>
              rw [nodesA_cons] at p2 ⊢
              have := Rel.sl (cap := cap) (by simpa using p2) (by rw [nodesA_len]; simp at p1; omega)
              rw [nodesA_len] at this
              have e : l.length + 1 = len := by simp at p1; omega
              rw [e] at this
              exact this
            | [], p1 => simp at p1; omega
          · rw [hd]
            simp only [Rows.uptoBulk, List.drop_zero] at *
            omega
set_option maxRecDepth 100000 in
/-- a node, read -/
theorem rel_nodeT {r : Reach} {b0 : Nat} {v : Value} {d : DataW H} {ps : List MemPlace} (hval : Value.okWide Tryz.prog W r b0 26 v) (hd : DataW.Trod enc Tryz.prog W 0 (fun _ => true) true 26 v d ps) :
    ∃ n : GNode, Rel W (Old W) W.heap.size [] (nodeA false n) v ∧ n.sz ≤ Rows.uptoBulk d ∧ n.tyOk = true := by
  obtain ⟨f0, f1, f2, hs, _⟩ := node_fields
  obtain ⟨cs, rfl, _⟩ := okWide_struct hs hval
  obtain ⟨fuel, hf⟩ := hd
  obtain ⟨n, h1, h2, h3⟩ := (rel_node0 fuel).1 _ d ps hf
  refine ⟨n, ?_, h2, h3⟩
  have := Rel.agg h1
  rw [nodeA_eq] at this ⊢
  simpa [AV.cells, Value.cells] using this
set_option maxRecDepth 100000 in
/-- nodes, read -/
theorem rel_nodesT {r : Reach} {b0 : Nat} {v : Value} {d : DataW H} {ps : List MemPlace} (hval : Value.okWide Tryz.prog W r b0 24 v) (hd : DataW.Trod enc Tryz.prog W 0 (fun _ => true) true 24 v d ps) :
    ∃ l : List GNode, Rel W (Old W) W.heap.size [] (.sl false 3 (nodesA false l)) v ∧ szs l ≤ Rows.uptoBulk d ∧ tysOk l = true := by
  obtain ⟨A, len0, cap0, rfl⟩ := okWide_slice Tryz.underlying24 hval
  obtain ⟨fuel, hf⟩ := hd
  exact (rel_node0 fuel).2 _ d ps hf
set_option maxRecDepth 100000 in
theorem rel_node {r : Reach} {b0 : Nat} {v : Value} {d : DataW H} {ps : List MemPlace} (hval : Value.okWide Tryz.prog W r b0 26 v) (hd : DataW.Trod enc Tryz.prog W 0 (fun _ => true) true 26 v d ps) :
    ∃ n : GNode, Rel W (Old W) W.heap.size [] (nodeA false n) v ∧ n.sz ≤ Rows.uptoBulk d := by
  obtain ⟨n, h1, h2, _⟩ := rel_nodeT hval hd; exact ⟨n, h1, h2⟩
set_option maxRecDepth 100000 in
theorem rel_nodes {r : Reach} {b0 : Nat} {v : Value} {d : DataW H} {ps : List MemPlace} (hval : Value.okWide Tryz.prog W r b0 24 v) (hd : DataW.Trod enc Tryz.prog W 0 (fun _ => true) true 24 v d ps) :
    ∃ l : List GNode, Rel W (Old W) W.heap.size [] (.sl false 3 (nodesA false l)) v ∧ szs l ≤ Rows.uptoBulk d := by
  obtain ⟨l, h1, h2, _⟩ := rel_nodesT hval hd; exact ⟨l, h1, h2⟩
end
end Go.Proofs.YtfghmfjbbjapgaaGreatDoor.C
/- What a datum of numbers and texts says of the cells that read as it. -/
set_option linter.unusedVariables false
set_option linter.unusedSimpArgs false
namespace Go.Proofs.YtfghmfjbbjapgaaGreatDoor.C
mutual
def flatD : DataW Unit → List Value
  | .lit (.int k n) => [.int k n]
  | .lit (.string s) => [.string ⟨s.toArray⟩]
  | .agg ps => flatDs ps
  | _ => []
def flatDs : List (DataW Unit) → List Value
  | [] => []
  | d :: r => flatD d ++ flatDs r
end
theorem flatDs_flatMap : ∀ l : List (DataW Unit), flatDs l = l.flatMap flatD
  | [] => rfl
  | d :: r => by rw [flatDs, flatDs_flatMap r, List.flatMap_cons]
section
variable {P : Program} {W : World}
/-- what reads as a datum is its cells -/
def Flat (P : Program) (W : World) (t : TypeId) : Prop := ∀ (fuel : Nat) (cs : List Value) (x : DataW Unit × List MemPlace), DataW.trod (fun _ => ()) P W 0 (fun _ => true) false fuel t cs = some x → cs = flatD x.1
theorem flat_int {t : TypeId} {k : IntKind} (h : P.underlying t = some (.int k)) : Flat P W t := by
  intro fuel cs x hx
  obtain ⟨n, rfl, rfl, _⟩ := DataW.trod_int h hx
  rfl
theorem flat_string {t : TypeId} (h : P.underlying t = some .string) : Flat P W t := by
  intro fuel cs x hx
  obtain ⟨s, rfl, rfl, _⟩ := DataW.trod_string h hx
  simp [flatD]
theorem blocks_flat (f : DataW Unit × List MemPlace → List Value) (m : Nat) : ∀ (xs : List (DataW Unit × List MemPlace)) (cs : List Value), cs.length = xs.length * m → (∀ i x, xs[i]? = some x → (cs.drop (i * m)).take m = f x) → cs = xs.flatMap f
  | [], cs, h, _ => by simpa using h
  | x :: r, cs, h, hk => by
    have h0 := hk 0 x rfl
    rw [Nat.zero_mul, List.drop_zero] at h0
    have ih := blocks_flat f m r (cs.drop m) (by rw [List.length_drop, h, List.length_cons, Nat.succ_mul]; omega) fun i y hy => by
      have := hk (i + 1) y hy
      rwa [Nat.succ_mul, Nat.add_comm, ← List.drop_drop] at this
    rw [List.flatMap_cons, ← h0, ← ih, List.take_append_drop]
theorem flat_of_parts {xs : List (DataW Unit × List MemPlace)} : flatD (.agg (xs.map (·.1))) = xs.flatMap fun x => flatD x.1 := by
  rw [flatD, flatDs_flatMap, List.flatMap_map]
theorem flat_array {t e : TypeId} {n : Nat} (ht : P.underlying t = some (.array n e)) (hc : P.cellsOf t = n * P.cellsOf e) (he : Flat P W e) : Flat P W t := by
  intro fuel cs x hx
  obtain ⟨xs, m, rfl, rfl, hl, hn, hk⟩ := DataW.trod_array ht hx
  show cs = flatD (.agg (xs.map (·.1)))
  rw [flat_of_parts]
  refine blocks_flat _ (P.cellsOf e) xs cs (by rw [hl, hc, hn]) fun i y hy => ?_
  have hi : i < n := by rw [← hn]; exact (List.getElem?_eq_some_iff.1 hy).1
  have := hk i hi
  rw [hy] at this
  exact he _ _ _ this
theorem flat_struct {t : TypeId} {fs : Array Field} (ht : P.underlying t = some (.struct fs)) (hc : P.cellsOf t = fs.size) (hf : ∀ (i : Nat) (f : Field), fs[i]? = some f → f.offset = i ∧ P.cellsOf f.type = 1 ∧ Flat P W f.type) : Flat P W t := by
  intro fuel cs x hx
  obtain ⟨xs, m, rfl, rfl, hl, hn, hk⟩ := DataW.trod_struct ht hx
  show cs = flatD (.agg (xs.map (·.1)))
  rw [flat_of_parts]
  refine blocks_flat _ 1 xs cs (by rw [hl, hc, hn, Nat.mul_one]) fun i y hy => ?_
  have hi : i < fs.size := by rw [← hn]; exact (List.getElem?_eq_some_iff.1 hy).1
  obtain ⟨h1, h2, h3⟩ := hf i fs[i] (Array.getElem?_eq_getElem hi)
  have := hk i fs[i] (Array.getElem?_eq_getElem hi)
  rw [hy, h1, h2] at this
  rw [Nat.mul_one]
  exact h3 _ _ _ this
/-- a listed variable's cells -/
theorem laid_cells {l : List (String × DataW Unit)} (h : laidMet P l W) {n : String} {d : DataW Unit} {g : Nat} {t : TypeId} {L : List Value} (hm : (n, d) ∈ l) (hg : P.globalNamed n = some g) (ht : (P.globals[g]?).map (·.type) = some t) (hf : Flat P W t) (hd : flatD d = L) :
    ∀ (i : Nat) (v : Value), L[i]? = some v → W.cell? ⟨g, i, none⟩ = some v := by
  obtain ⟨ps, hv, _⟩ := h
  have key : ∀ {l : List (String × DataW Unit)} {ps : List MemPlace}, DataW.LaidVars P W l ps → (n, d) ∈ l → ∃ cs fuel p, W.var? P n = some cs ∧ DataW.trod (fun _ => ()) P W 0 (fun _ => true) false fuel t cs.toList = some (d, p) := by
    intro l
    induction l with
    | nil => intro ps _ hm; cases hm
    | cons y r ih =>
      intro ps hv hm
      obtain ⟨g', t', cs, fuel, p, q, h1, h2, h3, h4, h5, _⟩ := hv
      rcases List.mem_cons.1 hm with e | e
      · cases e
        obtain rfl := Option.some.inj (hg.symm.trans h1)
        obtain rfl := Option.some.inj (ht.symm.trans h2)
        exact ⟨cs, fuel, p, h3, h4⟩
      · exact ih h5 e
  obtain ⟨cs, fuel, p, h1, h2⟩ := key hv hm
  have h3 : cs.toList = L := (hf _ _ _ h2).trans hd
  intro i v hi
  rw [World.var?_cell hg h1 i, ← Array.getElem?_toList, h3]
  exact hi
end
end Go.Proofs.YtfghmfjbbjapgaaGreatDoor.C
/- What the rows' list of package-level variables gives: the tables of kinds, the cell of errors.errorType; a world that meets the list. -/
set_option linter.unusedVariables false
set_option linter.unusedSimpArgs false
namespace Go.Proofs.YtfghmfjbbjapgaaGreatDoor.C
open Go.Abs Go.ChangeShapes Go.WideShapes Go.ChangeAt Go.RowKit
def laidL : List (String × DataW Unit) := [("errors.errorType", Rows.laid_errors_errorType), ("wharf/kind.table", Rows.laid_wharf_kind_table), ("wharf/kind.inside", Rows.laid_wharf_kind_inside)]
def etCells : List Value := [.iface 195 (.agg #[.pointer (some ⟨4, 77, none⟩)])]
theorem etG : Tryz.prog.globalNamed "errors.errorType" = some 2 := by kernel_rfl
theorem etRt : (Tryz.prog.cutTypes.find? (·.1 == "internal/reflectlite.rtype")).map (·.2) = some 195 := by kernel_rfl
theorem etRow : ((List.range Tryz.prog.types.size).filter fun t => Tryz.prog.rowNamed t [101, 114, 114, 111, 114]) = [77] := by kernel_rfl
theorem etHandle : typeHandle Tryz.prog 77 = .pointer (some ⟨4, 77, none⟩) := by kernel_rfl
theorem laid_parts {W : World} (h : laidMetH Tryz.prog laidL W) : laidMet Tryz.prog [("wharf/kind.table", Rows.laid_wharf_kind_table), ("wharf/kind.inside", Rows.laid_wharf_kind_inside)] W ∧ handlesMet Tryz.prog [("errors.errorType", Rows.laid_errors_errorType)] W := h
theorem handle_of_laid {W : World} (h : laidMetH Tryz.prog laidL W) : W.cell? ⟨2, 0, none⟩ = some (.iface 195 (.agg #[.pointer (some ⟨4, 77, none⟩)])) := by
  have h' := laid_parts h
  obtain ⟨name, u, ty, e1, e2, e3, e4, e5⟩ := h'.2 _ (List.mem_singleton.2 rfl)
  have en : name = [101, 114, 114, 111, 114] := (Option.some.inj e1).symm
  subst en
  obtain rfl := Option.some.inj (etRt.symm.trans e2)
  have hm : ty ∈ (List.range Tryz.prog.types.size).filter fun t => Tryz.prog.rowNamed t [101, 114, 114, 111, 114] := List.mem_filter.2 ⟨List.mem_range.2 e3, e4⟩
  rw [etRow] at hm
  obtain rfl := List.mem_singleton.1 hm
  rw [etHandle] at e5
  simpa using World.var?_cell etG e5 0
theorem cell_lt {W : World} {b i : Nat} {v : Value} (h : W.cell? ⟨b, i, none⟩ = some v) : b < W.heap.size := by
  rcases Nat.lt_or_ge b W.heap.size with h' | h'
  · exact h'
  · simp [World.cell?, Array.getElem?_eq_none h'] at h
theorem flat_kinds (W : World) : Flat Tryz.prog W 148 := by
  have h1 : Flat Tryz.prog W 5 := flat_int Tryz.underlying5
  have h2 : Flat Tryz.prog W 3 := flat_int Tryz.underlying3
  have h3 : Flat Tryz.prog W 9 := flat_string Tryz.underlying9
  refine flat_array Tryz.underlying148 (by kernel_rfl) (flat_struct Tryz.underlying111 (by kernel_rfl) fun i f hf => ?_)
  match i, hf with
  | 0, hf => simp at hf; subst hf; exact ⟨rfl, by kernel_rfl, h1⟩
  | 1, hf => simp at hf; subst hf; exact ⟨rfl, by kernel_rfl, h3⟩
  | 2, hf => simp at hf; subst hf; exact ⟨rfl, by kernel_rfl, h1⟩
  | 3, hf => simp at hf; subst hf; exact ⟨rfl, by kernel_rfl, h2⟩
  | 4, hf => simp at hf; subst hf; exact ⟨rfl, by kernel_rfl, h2⟩
  | 5, hf => simp at hf; subst hf; exact ⟨rfl, by kernel_rfl, h2⟩
  | 6, hf => simp at hf; subst hf; exact ⟨rfl, by kernel_rfl, h2⟩
  | i + 7, hf => simp at hf
theorem flat_inside (W : World) : Flat Tryz.prog W 151 :=
  flat_array Tryz.underlying151 (by kernel_rfl) (flat_array Tryz.underlying150 (by kernel_rfl) (flat_int Tryz.underlying3))
theorem cells_table {W : World} (h : laidMetH Tryz.prog laidL W) : GlobC W 0 kcells :=
  laid_cells (laid_parts h).1 (.head _) (by kernel_rfl) (by kernel_rfl) (flat_kinds W) (by kernel_rfl)
theorem cells_inside {W : World} (h : laidMetH Tryz.prog laidL W) : GlobC W 1 icells :=
  laid_cells (laid_parts h).1 (.tail _ (.head _)) (by kernel_rfl) (by kernel_rfl) (flat_inside W) (by kernel_rfl)
theorem cells_et {W : World} (h : laidMetH Tryz.prog laidL W) : GlobC W 2 etCells := by
  intro i v hi
  match i with
  | 0 => simp [etCells] at hi; subst hi; exact handle_of_laid h
  | i + 1 => simp [etCells] at hi
theorem glb_eq : glb = [(0, kcells), (1, icells), (2, etCells)] := by kernel_rfl
theorem globs_of_laid {W : World} (h : laidMetH Tryz.prog laidL W) : Globs W (Old W) [] := by
  intro p hp
  rw [glb_eq] at hp
  simp only [List.mem_cons, List.not_mem_nil, or_false] at hp
  rcases hp with rfl | rfl | rfl
  · exact ⟨cell_lt (cells_table h 0 _ rfl), fun v hv => (by cases hv), cells_table h⟩
  · exact ⟨cell_lt (cells_inside h 0 _ rfl), fun v hv => (by cases hv), cells_inside h⟩
  · exact ⟨cell_lt (handle_of_laid h), fun v hv => (by cases hv), cells_et h⟩
def setCells (cs : List Value) : Obj → Obj
  | .cells _ t frozen => .cells cs.toArray t frozen
  | o => o
noncomputable def laidWorld (os : Os) : World :=
  let w0 := World.holding Tryz.prog os ⟨#[], #[], []⟩
  { w0 with heap := ((w0.heap.modify 0 (setCells kcells)).modify 1 (setCells icells)).modify 2 (setCells etCells) }
theorem laid_met (os : Os) (args : Array Value) : laidMetH Tryz.prog laidL ((laidWorld os).forCall (fun _ _ => 0) ⟨#[], args, []⟩).memory :=
  laidMetH_of_parts (laidMet_of_run' 8 (by kernel_rfl) (by kernel_rfl)) (by kernel_rfl)
end Go.Proofs.YtfghmfjbbjapgaaGreatDoor.C
/- Lists of numbers, read. -/
set_option linter.unusedVariables false
set_option linter.unusedSimpArgs false
namespace Go.Proofs.YtfghmfjbbjapgaaGreatDoor.C
open Go.Abs Go.ChangeShapes Go.WideShapes Go.ChangeAt Go.RowKit
section
variable {H : Type} {enc : TypeId × Value → H} {W : World}
theorem bulk_lits2 (k : IntKind) (zs : List Int) (rest : List (DataW H)) : zs.length ≤ Rows.uptoBulk (.slice (lits k zs) rest : DataW H) := by
  have key : ∀ l : List (DataW H), l.length ≤ Rows.uptoBulkAll l := by
    intro l
    induction l with
    | nil => simp [Rows.uptoBulkAll]
    | cons x r ih =>
      have : 1 ≤ Rows.uptoBulk x := by
        cases x with
        | lit l => cases l <;> simp [Rows.uptoBulk]
        | _ => simp [Rows.uptoBulk]
      simp only [Rows.uptoBulkAll, List.length_cons]; omega
  have := key (lits k zs)
  simp only [lits, List.length_map] at this
  simp only [Rows.uptoBulk, lits]
  omega
theorem ints_nat {k : IntKind} {m : Nat} {zs : List Int} (h : ∀ n ∈ zs, (Lit.int k n).wf = true) (hk : ∀ n : Int, (Lit.int k n).wf = true → 0 ≤ n ∧ n < m) : (zs.map fun n => AV.val (.int k n)) = (zs.map Int.toNat).map (fun n => AV.val (.int k (N n))) ∧ ∀ t ∈ zs.map Int.toNat, t < m := by
  refine ⟨?_, ?_⟩
  · rw [List.map_map]
    refine List.map_congr_left fun n hn => ?_
    have := hk n (h n hn)
    show AV.val (.int k n) = .val (.int k (N n.toNat))
    rw [show N n.toNat = n from Int.toNat_of_nonneg this.1]
  · intro t ht
    obtain ⟨n, hn, rfl⟩ := List.mem_map.1 ht
    have := hk n (h n hn)
    omega
set_option maxRecDepth 100000 in
theorem rel_u16s {r : Reach} {b0 : Nat} {v : Value} {d : DataW H} {ps : List MemPlace} (hval : Value.okWide Tryz.prog W r b0 33 v) (hd : DataW.Trod enc Tryz.prog W 0 (fun _ => true) true 33 v d ps) :
    ∃ l : List Nat, Rel W (Old W) W.heap.size [] (.sl false 1 (u16s l)) v ∧ l.length ≤ Rows.uptoBulk d ∧ ∀ t ∈ l, t < 2 ^ 16 := by
  obtain ⟨zs, h1, h2, h3⟩ := rel_ints Tryz.underlying33 Tryz.underlying22 (by kernel_rfl) hval hd
  obtain ⟨e1, e2⟩ := ints_nat (m := 2 ^ 16) h2 (fun n hn => by
    have h : 0 ≤ n ∧ n ≤ 65535 := by simpa [Lit.wf, IntKind.min, IntKind.max, IntKind.signed, IntKind.bits] using hn
    omega)
  refine ⟨zs.map Int.toNat, by rw [e1] at h1; exact h1, ?_, e2⟩
  rw [List.length_map]
  rcases h3 with ⟨_, rfl⟩ | ⟨rest, rfl⟩
  · exact Nat.zero_le _
  · exact bulk_lits2 _ _ _
set_option maxRecDepth 100000 in
theorem rel_u32s {r : Reach} {b0 : Nat} {v : Value} {d : DataW H} {ps : List MemPlace} (hval : Value.okWide Tryz.prog W r b0 46 v) (hd : DataW.Trod enc Tryz.prog W 0 (fun _ => true) true 46 v d ps) :
    ∃ l : List Nat, Rel W (Old W) W.heap.size [] (.sl false 1 (u32s l)) v ∧ l.length ≤ Rows.uptoBulk d ∧ ∀ t ∈ l, t < 2 ^ 32 := by
  obtain ⟨zs, h1, h2, h3⟩ := rel_ints Tryz.underlying46 Tryz.underlying29 (by kernel_rfl) hval hd
  obtain ⟨e1, e2⟩ := ints_nat (m := 2 ^ 32) h2 (fun n hn => by
    have h : 0 ≤ n ∧ n ≤ 4294967295 := by simpa [Lit.wf, IntKind.min, IntKind.max, IntKind.signed, IntKind.bits] using hn
    omega)
  refine ⟨zs.map Int.toNat, by rw [e1] at h1; exact h1, ?_, e2⟩
  rw [List.length_map]
  rcases h3 with ⟨_, rfl⟩ | ⟨rest, rfl⟩
  · exact Nat.zero_le _
  · exact bulk_lits2 _ _ _
end
end Go.Proofs.YtfghmfjbbjapgaaGreatDoor.C
