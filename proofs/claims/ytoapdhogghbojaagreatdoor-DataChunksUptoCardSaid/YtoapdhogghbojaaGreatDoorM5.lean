/- data.Join; wharfref13: Split, Join. -/
import Derived.Test.YtoapdhogghbojaaGreatDoorM4
import Derived.WalkKit
import Derived.ProofKit
import Derived.OpenShut
import Derived.JoinedCond
import Derived.Carry
import Derived.ChangeSlices
import Derived.Test.YtoapdhogghbojaaGreatDoorRows
import Derived.Deep.Strs
import Derived.LaidLaws
import Derived.LaidHandle
import Derived.Stop.Joined
import Derived.Test.YtoapdhogghbojaaGreatDoorCards
import Derived.Test.YtoapdhogghbojaaGreatDoorTie
import Derived.Deep.DeepHandedRow
set_option linter.unusedVariables false
set_option linter.unusedSimpArgs false
namespace Go.Proofs.YtoapdhogghbojaaGreatDoor.C
open Go.Abs
def partIn (p : GPart) : Prop := p.tsn < 2 ^ 32 ∧ p.stream < 2 ^ 16 ∧ p.seq < 2 ^ 32 ∧ p.proto < 2 ^ 32
theorem catU_take (l : List GPart) (i : Nat) : (catU (l.take i)).length ≤ (catU l).length := by
  have h : catU l = catU (l.take i) ++ catU (l.drop i) := by
    unfold catU
    rw [← List.flatMap_append, List.take_append_drop]
  rw [h, List.length_append]; omega
/-- lists that data.Join is asked for -/
structure FewL (l : List GPart) : Prop where
  len : l.length ≤ 65536
  cat : (catU l).length ≤ 2 ^ 20
  mem : ∀ p ∈ l, partIn p ∧ p.user.length ≤ 2 ^ 20
/-- the pieces that data.Join compares with -/
def cutJ (l : List GPart) : List GPart := if (rightD (joinP l) && begL l && decide (1 ≤ lenU l)) = true then splitR (joinP l) (lenU l) else []
theorem cutJ_same {l : List GPart} (hl : 0 < l.length) : sameLP (cutJ l) l = joinOk l := by
  unfold cutJ joinOk
  cases h : (rightD (joinP l) && begL l && decide (1 ≤ lenU l)) with
  | true => rw [if_pos rfl, Bool.true_and]
  | false =>
    rw [if_neg (by simp), Bool.false_and]
    unfold sameLP
    rw [decide_eq_false (by rw [List.length_nil]; omega), Bool.false_and]
theorem pieceR_in {p : GPart} (hs : p.stream < 2 ^ 16) (n k : Nat) : (pieceR p n k).stream < 2 ^ 16 ∧ (pieceR p n k).user.length ≤ p.user.length := by
  refine ⟨hs, ?_⟩
  show ((p.user.drop (k * n)).take n).length ≤ _
  rw [List.length_take, List.length_drop]; omega
theorem splitR_mem {p x : GPart} {n : Nat} (hs : p.stream < 2 ^ 16) (hx : x ∈ splitR p n) : x.stream < 2 ^ 16 ∧ x.user.length ≤ p.user.length := by
  unfold splitR at hx
  obtain ⟨k, _, rfl⟩ := List.mem_map.1 hx
  exact pieceR_in hs n k
theorem cutJ_mem {l : List GPart} {x : GPart} (hs : (joinP l).stream < 2 ^ 16) (hx : x ∈ cutJ l) : x.stream < 2 ^ 16 ∧ x.user.length ≤ (joinP l).user.length := by
  unfold cutJ at hx
  split at hx
  · exact splitR_mem hs hx
  · cases hx
theorem cdiv_le (a n : Nat) (hn : 1 ≤ n) : cdiv a n ≤ a := by
  rcases Nat.lt_or_ge a (cdiv a n) with h | h
  · have := (cdiv_lt (n := a) (k := n) (i := a) hn).1 h
    have h2 := Nat.le_mul_of_pos_right a hn
    omega
  · exact h
theorem cutJ_len (l : List GPart) (hu : (joinP l).user.length ≤ 2 ^ 24) : (cutJ l).length ≤ 2 ^ 25 := by
  unfold cutJ
  split
  · rename_i h
    simp only [Bool.and_eq_true, decide_eq_true_eq] at h
    rw [splitR_len]
    refine Nat.le_trans (cdiv_le _ _ h.2) ?_
    omega
  · simp
theorem joinP_in {l : List GPart} (h : FewL l) : (joinP l).Ok ∧ (joinP l).user.length ≤ 2 ^ 20 := by
  cases l with
  | nil => exact ⟨⟨by decide, by decide, by decide, by decide, by decide⟩, by decide⟩
  | cons q r =>
    obtain ⟨⟨h1, h2, h3, h4⟩, _⟩ := h.mem q (by simp)
    have hc := h.cat
    exact ⟨⟨h1, h2, h3, h4, by show (catU (q :: r)).length ≤ _; omega⟩, hc⟩
theorem dcut_c (l : List GPart) (hf : FewL l) (h0 : 0 < l.length) :
    PC Tryz.prog 40 [partA false (joinP l), nat (lenU l)] (.sl true 10 (partsA true (cutJ l))) := by
  obtain ⟨ho, hu⟩ := joinP_in hf
  cases l with
  | nil => simp at h0
  | cons q r =>
    have hq := (hf.mem q (by simp)).2
    unfold cutJ
    by_cases h : (rightD (joinP (q :: r)) && begL (q :: r) && decide (1 ≤ lenU (q :: r))) = true
    · rw [if_pos h]
      simp only [Bool.and_eq_true, decide_eq_true_eq] at h
      exact dsplit_c _ _ ho h.1.1 h.1.2 rfl h.2 (by show q.user.length < _; omega)
    · rw [if_neg h]
      refine dsplit_no _ (N (lenU (q :: r))) ho ?_
      have e : (joinP (q :: r)).fin = true := rfl
      have e2 : decide (1 ≤ N (lenU (q :: r))) = decide (1 ≤ lenU (q :: r)) := by unfold N; rw [decide_eq_decide]; omega
      have e3 : (joinP (q :: r)).beg = begL (q :: r) := rfl
      rw [e, e2, e3, Bool.and_true]
      exact Bool.eq_false_iff.2 h
set_option maxRecDepth 100000 in
set_option maxHeartbeats 1000000 in
theorem djoin13_c (l : List GPart) (hf : FewL l) : PC Tryz.prog 41 [.sl false 10 (partsA false l)] (.tup [partA true (joinD l).1, bool (joinD l).2]) := by
  obtain ⟨hl, hcu, hin⟩ := hf
  obtain ⟨ho, hu⟩ := joinP_in ⟨hl, hcu, hin⟩
  refine PC.of_bodyK (by simp only [push_cast]) Tryz.func41 rfl (by rw [Tryz.ntmps41]; simp) ?_
  refine AWp.regionW ?_
  refine AWp.seqK fun K1 hK1 => ?_
  refine AWp.regionA fun K2 hK2 => ?_
  refine ARun.segm 4 fun KS hKS => ?_
  refine ARun2.endm (hKS _ ?_); clear hKS KS
  apply ARun.grpM 3 3 false 13 [0, 2, 10]
  · intro g3 KG hKG
    refine ARun2.gom ?_
    exact ARun2.endm (hKG _ Le.grpM)
  refine ARun2.gom ?_
  refine ARun2.endm (hK2 _ ?_)
  refine AWp.condLM (fun c0 => ?_) (fun c0 => ?_)
  · skip
    have h0 : l = [] := List.eq_nil_of_length_eq_zero (by simp only [Bool.or_eq_true, beq_iff_eq, decide_eq_true_eq] at c0; omega)
    have hr : joinD l = (.zero, false) := by subst h0; exact joinD_no (by kernel_rfl)
    refine AWp.regionW ?_
    refine AWp.ret ?_
    try simp only [thenQ, blockQ, noGo]
    refine bodyQ.m ?_
    clear hK2 K2 hK1 K1
    rw [hr]
    try simp only [GPart.zero]
    first | done | exact Wk.go
  · skip
    have h0 : 0 < l.length := by simp only [Bool.or_eq_false_iff, beq_eq_false_iff_ne, ne_eq, decide_eq_false_iff_not] at c0; omega
    obtain ⟨q, r, hq⟩ : ∃ q r, l = q :: r := by cases l with | nil => simp at h0 | cons q r => exact ⟨q, r, rfl⟩
    have hat : (partsA false l)[0]? = some (partA false q) := by rw [hq]; rfl
    have hcut := dcut_c l ⟨hl, hcu, hin⟩ h0
    have heq := eqf13_c (cutJ l) l (by have := cutJ_len l (by omega); omega) (fun p hp => ⟨(cutJ_mem ho.stream hp).1, by have := (cutJ_mem ho.stream hp).2; omega⟩) (fun p hp => (hin p hp).1.2.1)
    rw [cutJ_same h0] at heq
    have hlu : lenU l = q.user.length := by rw [hq]; rfl
    have hjp : joinP l = ⟨q.inter, q.tsn, q.stream, q.seq, q.proto, q.beg, true, q.unord, q.now, catU l⟩ := by rw [hq]; rfl
    rw [hlu, hjp] at hcut
    refine AWp.skip ?_
    refine hK1 _ ?_
    refine AWp.regionM fun K3 hK3 => ?_
    refine ARun2.indexM (0) (partA false q) ?_ ?_
    · exact hat
    refine ARun2.endm (hK3 _ ?_)
    refine AWp.regionW ?_
    refine AWp.seqK fun K4 hK4 => ?_
    refine AWp.regionW ?_
    refine AWp.block ?_
    refine AWp.nilBox 1 9 5 1 rfl rfl ?_
    simp only [push_cast, ↓reduceIte, Nat.reduceEqDiff, Nat.reduceLT, Nat.reduceAdd, Nat.reduceSub, Nat.reduceMul, Nat.reduceLeDiff, Nat.reducePow, Int.reduceLT, Int.reduceToNat, reduceCtorEq, Int.reduceNeg, Int.reduceEq, Nat.reduceBEq, Nat.reduceBNe, Int.reduceBEq, Int.reduceBNe, String.reduceEq]
    refine AWp.loopK [0, 2, 4, 21, 22] (fun (i : Nat) => [(23, nat i)]) (fun i => [.box 34 [bool false, u32 0, u16 0, u32 0, u32 0, bool false, bool false, bool false, bool false, .val (.slice none 0 0)], .box 34 [bool q.inter, u32 q.tsn, u16 q.stream, u32 q.seq, u32 q.proto, bool q.beg, bool true, bool q.unord, bool q.now, .own 2], .row 5 1 (bys (catU (l.take i)))]) (fun i => i ≤ l.length) (fun i => l.length - i) (0) ?_ (Nat.zero_le _) ?_
    · skip
      refine Le.m 3 ?_ ?_
      · try simp only [push_cast, ↓reduceIte, Nat.reduceEqDiff, Nat.reduceLT, Nat.reduceAdd, Nat.reduceSub, Nat.reduceMul, Nat.reduceLeDiff, Nat.reducePow, Int.reduceLT, Int.reduceToNat, reduceCtorEq, Int.reduceNeg, Int.reduceEq, Nat.reduceBEq, Nat.reduceBNe, Int.reduceBEq, Int.reduceBNe, String.reduceEq]
        try simp (disch := omega) only [w_nat, w_add, w_addl, w_addr, w_sub, w_subl, w_mul, w_mull, w_mulr, w_u32, w_u16, w_u8, w_u32a, N_zero]
        first | done | skip
        rfl
      · exact Go.Abs.evN
    · intro i hi K5 hK5
      refine AWp.regionW ?_
      refine AWp.seqK fun K6 hK6 => ?_
      refine AWp.condLM (fun c1 => ?_) (fun c1 => ?_)
      · skip
        have hil : i < l.length := by simpa using c1
        have hc1 := catU_take l i
        have hc2 := (hin l[i] (List.getElem_mem hil)).2
        refine AWp.skip ?_
        refine hK6 _ ?_
        refine AWp.seqK fun K7 hK7 => ?_
        refine AWp.block ?_
        refine AWp.regionM fun K8 hK8 => ?_
        refine ARun2.indexM (i) (partA false l[i]) ?_ ?_
        · exact partsA_at _ _ _ hil
        refine ARun2.endm (hK8 _ ?_)
        refine AWp.regionN fun K9 hK9 => ?_
        refine ARun2.appendM ?_ ?_ ?_
        · rw [YtoapdhogghbojaaGreatDoor.Facts.eb24, bys_len, bys_len]; omega
        · rw [bys_len, bys_len]; omega
        refine ARun2.endm (hK9 _ ?_)
        refine hK7 _ ?_
        refine AWp.regionV ?_
        refine hK5 _ (i + 1) (by omega) (by omega) ?_
        refine Le.m 3 ?_ ?_
        · try simp only [push_cast, ↓reduceIte, Nat.reduceEqDiff, Nat.reduceLT, Nat.reduceAdd, Nat.reduceSub, Nat.reduceMul, Nat.reduceLeDiff, Nat.reducePow, Int.reduceLT, Int.reduceToNat, reduceCtorEq, Int.reduceNeg, Int.reduceEq, Nat.reduceBEq, Nat.reduceBNe, Int.reduceBEq, Int.reduceBNe, String.reduceEq]
          try simp (disch := omega) only [w_nat, w_add, w_addl, w_addr, w_sub, w_subl, w_mul, w_mull, w_mulr, w_u32, w_u16, w_u8, w_u32a, N_zero]
          first | done | skip
          rw [List.take_succ_eq_append_getElem hil, catU_snoc, bys_append]
        · exact Go.Abs.evN
      · skip
        have hil : i = l.length := by simp at c1; omega
        subst hil
        rw [List.take_length]
        refine AWp.exit ?_
        try simp only [thenQ, blockQ, noGo, reduceIte, Nat.reduceEqDiff]
        refine hK4 _ ?_
        refine AWp.seqK fun K10 hK10 => ?_
        refine AWp.pubD 2 ?_
        refine AWp.drS [[(4, none)], [(0, none)], [(35, some 1)], [(36, some 2)], [(37, some 3)], [(38, some 4)], [(34, some 0), (39, some 5)], [(0, none)], [(40, some 6), (41, some 7)], [(42, some 8)]] fun G hG => ?_
        refine Dr.sim ?_
        try simp only [List.cons_append, List.nil_append]
        refine Dr.sim ?_
        try simp only [List.cons_append, List.nil_append]
        refine Dr.idx (0) (partA false q) ?_ ?_
        · exact hat
        try simp only [List.cons_append, List.nil_append]
        refine Dr.sim ?_
        try simp only [List.cons_append, List.nil_append]
        refine Dr.sim ?_
        try simp only [List.cons_append, List.nil_append]
        refine Dr.sim ?_
        try simp only [List.cons_append, List.nil_append]
        refine Dr.call (hcut) ?_
        try simp only [List.cons_append, List.nil_append]
        refine Dr.sim ?_
        try simp only [List.cons_append, List.nil_append]
        refine Dr.call (heq) ?_
        try simp only [List.cons_append, List.nil_append]
        refine Dr.sim ?_
        try simp only [List.cons_append, List.nil_append]
        refine Dr.finM (n := 10) [(43, 9)] [2, 4] hG YtoapdhogghbojaaGreatDoor.Facts.mixed fun KD hKD => ?_
        refine ARun2.endm (hKD _ ?_); clear hKD KD hG G
        refine AWp.condLM (fun c2 => ?_) (fun c2 => ?_)
        · skip
          have hr : joinD l = (.zero, false) := joinD_no (by simpa using c2)
          refine AWp.regionW ?_
          refine AWp.ret ?_
          try simp only [thenQ, blockQ, noGo]
          refine bodyQ.m ?_
          clear hK10 K10 hK6 K6 hK5 K5 hK4 K4 hK3 K3 hK2 K2 hK1 K1
          rw [hr]
          try simp only [GPart.zero]
          first | done | exact Wk.go
        · skip
          have hr : joinD l = (joinP l, true) := joinD_yes (by simpa using c2)
          rw [hjp] at hr
          refine AWp.skip ?_
          refine hK10 _ ?_
          refine AWp.regionW ?_
          refine AWp.ret ?_
          try simp only [thenQ, blockQ, noGo]
          refine bodyQ.m ?_
          clear hK10 K10 hK6 K6 hK5 K5 hK4 K4 hK3 K3 hK2 K2 hK1 K1
          rw [hr]
          try simp only [GPart.zero]
          first | done | exact Wk.go
end Go.Proofs.YtoapdhogghbojaaGreatDoor.C
/- wharflaw13: awake, few, DataMost. -/
set_option linter.unusedVariables false
set_option linter.unusedSimpArgs false
namespace Go.Proofs.YtoapdhogghbojaaGreatDoor.C
open Go.Abs
theorem few13_c (p : GPart) : PC Tryz.prog 11 [partA false p] (bool (decide (p.user.length ≤ 1000))) := by
  obtain ⟨inter, tsn, stream, seq, proto, beg, fin, unord, now, user⟩ := p
  refine PC.of_bodyW (by simp only [push_cast]) Tryz.func11 rfl (by rw [Tryz.ntmps11]; simp) ?_
  refine AWp.regionW ?_
  refine AWp.regionW ?_
  refine AWp.ret ?_
  try simp only [thenQ, blockQ, noGo]
  refine bodyQ.m ?_
  first | done | exact Hand.go
def exP : GPart := ⟨false, 7, 0, 0, 0, true, true, false, false, [1, 2, 3, 4, 5]⟩
def exL : List GPart := [⟨false, 7, 0, 0, 0, true, false, false, false, [1, 2]⟩, ⟨false, 8, 0, 0, 0, false, false, false, false, [3, 4]⟩, ⟨false, 9, 0, 0, 0, false, true, false, false, [5]⟩]
theorem exP_ok : exP.Ok := ⟨by decide, by decide, by decide, by decide, by decide⟩
theorem exL_ok : FewL exL := ⟨by decide, by decide, by
  intro p hp
  simp only [exL, List.mem_cons, List.not_mem_nil, or_false] at hp
  rcases hp with rfl | rfl | rfl <;> exact ⟨⟨by decide, by decide, by decide, by decide⟩, by decide⟩⟩
set_option maxRecDepth 100000 in
set_option maxHeartbeats 1000000 in
theorem awake13_c : PC Tryz.prog 10 [] (bool true) := by
  have w0 : rightD exP = true := by kernel_rfl
  have k1 := dsplit_c exP 2 exP_ok w0 rfl rfl (by decide) (by decide)
  have w1 : splitR exP 2 = exL := by kernel_rfl
  rw [w1] at k1
  have k2 := djoin13_c exL exL_ok
  have w2 : joinD exL = (exP, true) := by kernel_rfl
  rw [w2] at k2
  have k3 := dmake_c exP exP_ok
  rw [makePt_chunk w0] at k3
  have k4 := dof_c (dataC exP) (small_data exP_ok)
  rw [ofD_data exP_ok w0] at k4
  generalize dataC exP = c at k3 k4
  have k5 := dmake_c ⟨false, 0, 0, 65536, 0, false, false, false, false, [1]⟩ ⟨by decide, by decide, by decide, by decide, by decide⟩
  have w5 : rightD ⟨false, 0, 0, 65536, 0, false, false, false, false, [1]⟩ = false := by kernel_rfl
  rw [makePt_no w5] at k5
  have k6 := dsame_c exP exP (by decide) (by decide) (by decide)
  rw [sameP_self] at k6
  have k7 := dmost_c false 17 (by decide)
  unfold exP at k1 k2 k3 k4 k6
  unfold exL at k1 k2
  simp only [GChunk.zero] at k5
  refine PC.of_bodyW (by simp only [push_cast]) Tryz.func10 rfl (by rw [Tryz.ntmps10]; simp) ?_
  refine AWp.regionW ?_
  refine AWp.regionW ?_
  refine AWp.regionM fun K1 hK1 => ?_
  refine ARun2.callM (k1) ?_
  refine ARun2.endm (hK1 _ ?_)
  refine AWp.seqK fun K2 hK2 => ?_
  refine AWp.regionW ?_
  refine AWp.condF ?_
  refine AWp.skip ?_
  refine hK2 _ ?_
  refine AWp.regionM fun K3 hK3 => ?_
  refine ARun2.callM (k2) ?_
  refine ARun2.endm (hK3 _ ?_)
  refine AWp.regionM fun K4 hK4 => ?_
  refine ARun2.callM (k3) ?_
  refine ARun2.endm (hK4 _ ?_)
  refine AWp.regionM fun K5 hK5 => ?_
  refine ARun2.callM (k4) ?_
  refine ARun2.endm (hK5 _ ?_)
  refine AWp.regionM fun K6 hK6 => ?_
  refine ARun2.callM (k5) ?_
  refine ARun2.endm (hK6 _ ?_)
  refine AWp.regionM fun K7 hK7 => ?_
  refine ARun2.indexM (2) (partA true ⟨false, 9, 0, 0, 0, false, true, false, false, [5]⟩) ?_ ?_
  · exact rfl
  refine ARun2.indexM (2) (partA true ⟨false, 9, 0, 0, 0, false, true, false, false, [5]⟩) ?_ ?_
  · exact rfl
  refine ARun2.indexM (2) (partA true ⟨false, 9, 0, 0, 0, false, true, false, false, [5]⟩) ?_ ?_
  · exact rfl
  refine ARun2.indexM (2) (partA true ⟨false, 9, 0, 0, 0, false, true, false, false, [5]⟩) ?_ ?_
  · exact rfl
  refine ARun2.callM (k6) ?_
  refine ARun2.callM (k6) ?_
  refine ARun2.callM (k7) ?_
  refine ARun2.endm (hK7 _ ?_)
  refine AWp.ret ?_
  try simp only [thenQ, blockQ, noGo]
  refine bodyQ.m ?_
  clear hK7 K7 hK6 K6 hK5 K5 hK4 K4 hK3 K3 hK2 K2 hK1 K1
  first | done | exact Hand.go
end Go.Proofs.YtoapdhogghbojaaGreatDoor.C
/- wharfref13.Make. -/
set_option linter.unusedVariables false
set_option linter.unusedSimpArgs false
namespace Go.Proofs.YtoapdhogghbojaaGreatDoor.C
open Go.Abs
theorem rput1_c (k s : Nat) (hk : k = 1 ∨ k = 2 ∨ k = 4) : PC Tryz.prog 52 [nat k, .sl false 1 [u32 s]] (.sl true 1 (bys (putB k s))) := by
  have := PC.of_own (rput_o k [s] hk (by simp))
  simpa [u32s, List.flatMap_cons, List.flatMap_nil] using this
theorem rput1_o (k s : Nat) (hk : k = 1 ∨ k = 2 ∨ k = 4) : OC Tryz.prog 52 [nat k, .sl false 1 [u32 s]] [] (.own 0) [.row 5 1 (bys (putB k s))] := by
  have := rput_o k [s] hk (by simp)
  simpa [u32s, List.flatMap_cons, List.flatMap_nil] using this
def fA (f b : Nat) (on : Bool) : Nat := bif on then f + b else f
theorem flags_sum (fin beg unord now : Bool) : fA (fA (fA (fA 0 1 fin) 2 beg) 4 unord) 8 now = orF (orF (orF (orF 0 1 fin) 2 beg) 4 unord) 8 now := by
  cases fin <;> cases beg <;> cases unord <;> cases now <;> rfl
theorem dataC_T (tsn stream seq proto : Nat) (b f u n : Bool) (user : List UInt8) : chunkA true (dataC ⟨true, tsn, stream, seq, proto, b, f, u, n, user⟩) = .agg [.val (.int .u8 64), u8 (orF (orF (orF (orF 0 1 f) 2 b) 4 u) 8 n), .sl true 1 (bys (putB 4 tsn) ++ (bys (putB 2 stream) ++ .val (.int .u8 0) :: .val (.int .u8 0) :: (bys (putB 4 seq) ++ (bys (putB 4 proto) ++ bys user)))), .sl true 3 (nodesA true [])] := by
  show AV.agg [.val (.int .u8 64), u8 _, .sl true 1 (bys (dataP _)), .sl true 3 (nodesA true [])] = _
  rw [dataP_T, ← bys_append, ← bys_append, ← bys_append, ← bys_append, ← bys_append]
  rfl
theorem dataC_F (tsn stream seq proto : Nat) (b f u n : Bool) (user : List UInt8) : chunkA true (dataC ⟨false, tsn, stream, seq, proto, b, f, u, n, user⟩) = .agg [.val (.int .u8 0), u8 (orF (orF (orF (orF 0 1 f) 2 b) 4 u) 8 n), .sl true 1 (bys (putB 4 tsn) ++ (bys (putB 2 stream) ++ (bys (putB 2 seq) ++ (bys (putB 4 proto) ++ bys user)))), .sl true 3 (nodesA true [])] := by
  show AV.agg [.val (.int .u8 0), u8 _, .sl true 1 (bys (dataP _)), .sl true 3 (nodesA true [])] = _
  rw [dataP_F, ← bys_append, ← bys_append, ← bys_append, ← bys_append]
  rfl
set_option maxRecDepth 100000 in
set_option maxHeartbeats 1000000 in
theorem rmake13_c (p : GPart) (h : p.Ok) : PC Tryz.prog 17 [partA false p] (chunkA true (dataC p)) := by
  obtain ⟨ht, hst, hse, hpr, hus⟩ := h
  obtain ⟨inter, tsn, stream, seq, proto, beg, fin, unord, now, user⟩ := p
  simp only at ht hst hse hpr hus
  have o1 := rput1_o 4 tsn (by decide)
  have q2 := rput1_c 2 stream (by decide)
  have q3 := rput1_c 4 seq (by decide)
  have q4 := rput1_c 2 seq (by decide)
  have q5 := rput1_c 4 proto (by decide)
  refine PC.of_bodyK (by simp only [push_cast]) Tryz.func17 rfl (by rw [Tryz.ntmps17]; simp) ?_
  refine AWp.regionW ?_
  refine AWp.regionW ?_
  refine AWp.join ({ n := 79, m := 0, fr := [(1, .ptr 0 0), (2, .ptr 1 0), (3, .ptr 2 0)], ob := [.box 26 [bool inter, u32 tsn, u16 stream, u32 seq, u32 proto, bool beg, bool fin, bool unord, bool now, .sl false 1 (bys user)], .box 31 [.val (.int .u8 0), .val (.int .u8 0), .val (.slice none 0 0), .val (.slice none 0 0)], .box 31 [.val (.int .u8 0), u8 (fA 0 1 fin), .val (.slice none 0 0), .val (.slice none 0 0)]] }) (fun K1 hK1 => ?_) ?_
  · skip
    refine AWp.regionW ?_
    refine AWp.condLM (fun c0 => ?_) (fun c0 => ?_)
    · skip
      have hh : fin = true := by simpa using c0
      subst hh
      refine AWp.regionV ?_
      refine hK1 _ ?_
      refine Le.m 3 ?_ ?_
      · try simp only [push_cast, ↓reduceIte, Nat.reduceEqDiff, Nat.reduceLT, Nat.reduceAdd, Nat.reduceSub, Nat.reduceMul, Nat.reduceLeDiff, Nat.reducePow, Int.reduceLT, Int.reduceToNat, reduceCtorEq, Int.reduceNeg, Int.reduceEq, Nat.reduceBEq, Nat.reduceBNe, Int.reduceBEq, Int.reduceBNe, String.reduceEq]
        try simp (disch := omega) only [w_nat, w_add, w_addl, w_addr, w_sub, w_subl, w_mul, w_mull, w_mulr, w_u32, w_u16, w_u8, w_u32a, N_zero]
        first | done | skip
        try rfl
      · exact Go.Abs.evM
    · skip
      have hh : fin = false := by simpa using c0
      subst hh
      refine AWp.skip ?_
      refine hK1 _ ?_
      refine Le.m 3 ?_ ?_
      · try simp only [push_cast, ↓reduceIte, Nat.reduceEqDiff, Nat.reduceLT, Nat.reduceAdd, Nat.reduceSub, Nat.reduceMul, Nat.reduceLeDiff, Nat.reducePow, Int.reduceLT, Int.reduceToNat, reduceCtorEq, Int.reduceNeg, Int.reduceEq, Nat.reduceBEq, Nat.reduceBNe, Int.reduceBEq, Int.reduceBNe, String.reduceEq]
        try simp (disch := omega) only [w_nat, w_add, w_addl, w_addr, w_sub, w_subl, w_mul, w_mull, w_mulr, w_u32, w_u16, w_u8, w_u32a, N_zero]
        first | done | skip
        try rfl
      · exact Go.Abs.evM
  refine AWp.join ({ n := 79, m := 0, fr := [(1, .ptr 0 0), (2, .ptr 1 0), (3, .ptr 2 0)], ob := [.box 26 [bool inter, u32 tsn, u16 stream, u32 seq, u32 proto, bool beg, bool fin, bool unord, bool now, .sl false 1 (bys user)], .box 31 [.val (.int .u8 0), .val (.int .u8 0), .val (.slice none 0 0), .val (.slice none 0 0)], .box 31 [.val (.int .u8 0), u8 (fA (fA 0 1 fin) 2 beg), .val (.slice none 0 0), .val (.slice none 0 0)]] }) (fun K2 hK2 => ?_) ?_
  · skip
    refine AWp.regionW ?_
    refine AWp.condLM (fun c1 => ?_) (fun c1 => ?_)
    · skip
      have hh : beg = true := by simpa using c1
      subst hh
      refine AWp.regionV ?_
      refine hK2 _ ?_
      refine Le.m 3 ?_ ?_
      · try simp only [push_cast, ↓reduceIte, Nat.reduceEqDiff, Nat.reduceLT, Nat.reduceAdd, Nat.reduceSub, Nat.reduceMul, Nat.reduceLeDiff, Nat.reducePow, Int.reduceLT, Int.reduceToNat, reduceCtorEq, Int.reduceNeg, Int.reduceEq, Nat.reduceBEq, Nat.reduceBNe, Int.reduceBEq, Int.reduceBNe, String.reduceEq]
        try simp (disch := omega) only [w_nat, w_add, w_addl, w_addr, w_sub, w_subl, w_mul, w_mull, w_mulr, w_u32, w_u16, w_u8, w_u32a, N_zero]
        first | done | skip
        try (cases fin <;> rfl)
      · exact Go.Abs.evM
    · skip
      have hh : beg = false := by simpa using c1
      subst hh
      refine AWp.skip ?_
      refine hK2 _ ?_
      refine Le.m 3 ?_ ?_
      · try simp only [push_cast, ↓reduceIte, Nat.reduceEqDiff, Nat.reduceLT, Nat.reduceAdd, Nat.reduceSub, Nat.reduceMul, Nat.reduceLeDiff, Nat.reducePow, Int.reduceLT, Int.reduceToNat, reduceCtorEq, Int.reduceNeg, Int.reduceEq, Nat.reduceBEq, Nat.reduceBNe, Int.reduceBEq, Int.reduceBNe, String.reduceEq]
        try simp (disch := omega) only [w_nat, w_add, w_addl, w_addr, w_sub, w_subl, w_mul, w_mull, w_mulr, w_u32, w_u16, w_u8, w_u32a, N_zero]
        first | done | skip
        try (cases fin <;> rfl)
      · exact Go.Abs.evM
  refine AWp.join ({ n := 79, m := 0, fr := [(1, .ptr 0 0), (2, .ptr 1 0), (3, .ptr 2 0)], ob := [.box 26 [bool inter, u32 tsn, u16 stream, u32 seq, u32 proto, bool beg, bool fin, bool unord, bool now, .sl false 1 (bys user)], .box 31 [.val (.int .u8 0), .val (.int .u8 0), .val (.slice none 0 0), .val (.slice none 0 0)], .box 31 [.val (.int .u8 0), u8 (fA (fA (fA 0 1 fin) 2 beg) 4 unord), .val (.slice none 0 0), .val (.slice none 0 0)]] }) (fun K3 hK3 => ?_) ?_
  · skip
    refine AWp.regionW ?_
    refine AWp.condLM (fun c2 => ?_) (fun c2 => ?_)
    · skip
      have hh : unord = true := by simpa using c2
      subst hh
      refine AWp.regionV ?_
      refine hK3 _ ?_
      refine Le.m 3 ?_ ?_
      · try simp only [push_cast, ↓reduceIte, Nat.reduceEqDiff, Nat.reduceLT, Nat.reduceAdd, Nat.reduceSub, Nat.reduceMul, Nat.reduceLeDiff, Nat.reducePow, Int.reduceLT, Int.reduceToNat, reduceCtorEq, Int.reduceNeg, Int.reduceEq, Nat.reduceBEq, Nat.reduceBNe, Int.reduceBEq, Int.reduceBNe, String.reduceEq]
        try simp (disch := omega) only [w_nat, w_add, w_addl, w_addr, w_sub, w_subl, w_mul, w_mull, w_mulr, w_u32, w_u16, w_u8, w_u32a, N_zero]
        first | done | skip
        try (cases fin <;> cases beg <;> rfl)
      · exact Go.Abs.evM
    · skip
      have hh : unord = false := by simpa using c2
      subst hh
      refine AWp.skip ?_
      refine hK3 _ ?_
      refine Le.m 3 ?_ ?_
      · try simp only [push_cast, ↓reduceIte, Nat.reduceEqDiff, Nat.reduceLT, Nat.reduceAdd, Nat.reduceSub, Nat.reduceMul, Nat.reduceLeDiff, Nat.reducePow, Int.reduceLT, Int.reduceToNat, reduceCtorEq, Int.reduceNeg, Int.reduceEq, Nat.reduceBEq, Nat.reduceBNe, Int.reduceBEq, Int.reduceBNe, String.reduceEq]
        try simp (disch := omega) only [w_nat, w_add, w_addl, w_addr, w_sub, w_subl, w_mul, w_mull, w_mulr, w_u32, w_u16, w_u8, w_u32a, N_zero]
        first | done | skip
        try (cases fin <;> cases beg <;> rfl)
      · exact Go.Abs.evM
  refine AWp.join ({ n := 79, m := 0, fr := [(1, .ptr 0 0), (2, .ptr 1 0), (3, .ptr 2 0)], ob := [.box 26 [bool inter, u32 tsn, u16 stream, u32 seq, u32 proto, bool beg, bool fin, bool unord, bool now, .sl false 1 (bys user)], .box 31 [.val (.int .u8 0), .val (.int .u8 0), .val (.slice none 0 0), .val (.slice none 0 0)], .box 31 [.val (.int .u8 0), u8 (fA (fA (fA (fA 0 1 fin) 2 beg) 4 unord) 8 now), .val (.slice none 0 0), .val (.slice none 0 0)]] }) (fun K4 hK4 => ?_) ?_
  · skip
    refine AWp.regionW ?_
    refine AWp.condLM (fun c3 => ?_) (fun c3 => ?_)
    · skip
      have hh : now = true := by simpa using c3
      subst hh
      refine AWp.regionV ?_
      refine hK4 _ ?_
      refine Le.m 3 ?_ ?_
      · try simp only [push_cast, ↓reduceIte, Nat.reduceEqDiff, Nat.reduceLT, Nat.reduceAdd, Nat.reduceSub, Nat.reduceMul, Nat.reduceLeDiff, Nat.reducePow, Int.reduceLT, Int.reduceToNat, reduceCtorEq, Int.reduceNeg, Int.reduceEq, Nat.reduceBEq, Nat.reduceBNe, Int.reduceBEq, Int.reduceBNe, String.reduceEq]
        try simp (disch := omega) only [w_nat, w_add, w_addl, w_addr, w_sub, w_subl, w_mul, w_mull, w_mulr, w_u32, w_u16, w_u8, w_u32a, N_zero]
        first | done | skip
        try (cases fin <;> cases beg <;> cases unord <;> rfl)
      · exact Go.Abs.evM
    · skip
      have hh : now = false := by simpa using c3
      subst hh
      refine AWp.skip ?_
      refine hK4 _ ?_
      refine Le.m 3 ?_ ?_
      · try simp only [push_cast, ↓reduceIte, Nat.reduceEqDiff, Nat.reduceLT, Nat.reduceAdd, Nat.reduceSub, Nat.reduceMul, Nat.reduceLeDiff, Nat.reducePow, Int.reduceLT, Int.reduceToNat, reduceCtorEq, Int.reduceNeg, Int.reduceEq, Nat.reduceBEq, Nat.reduceBNe, Int.reduceBEq, Int.reduceBNe, String.reduceEq]
        try simp (disch := omega) only [w_nat, w_add, w_addl, w_addr, w_sub, w_subl, w_mul, w_mull, w_mulr, w_u32, w_u16, w_u8, w_u32a, N_zero]
        first | done | skip
        try (cases fin <;> cases beg <;> cases unord <;> rfl)
      · exact Go.Abs.evM
  rw [flags_sum]
  refine AWp.drS [[(1, none)], [(29, some 0)], [(30, some 1)], [(79, none)], [(1, none)], [(33, some 4)], [(34, some 5)], [(35, some 6)], [(36, some 7)]] fun G hG => ?_
  refine Dr.sim ?_
  try simp only [List.cons_append, List.nil_append]
  refine Dr.sim ?_
  try simp only [List.cons_append, List.nil_append]
  refine Dr.build ?_
  try simp only [List.cons_append, List.nil_append]
  refine Dr.ownS ?_
  try simp only [List.cons_append, List.nil_append]
  refine Dr.sim ?_
  try simp only [List.cons_append, List.nil_append]
  refine Dr.sim ?_
  try simp only [List.cons_append, List.nil_append]
  refine Dr.sim ?_
  try simp only [List.cons_append, List.nil_append]
  refine Dr.build ?_
  try simp only [List.cons_append, List.nil_append]
  refine Dr.call (q2) ?_
  try simp only [List.cons_append, List.nil_append]
  refine Dr.finCM (n := 9) [3] 3 [[(1, none)], [(29, some 0)], [(30, some 1)], [(31, some 2)], [(1, none)], [(33, some 4)], [(34, some 5)], [(35, some 6)], [(36, some 7)]] [(32, 3), (37, 8)] [1, 2, 3] (CL.callO o1 CL.nil) hG YtoapdhogghbojaaGreatDoor.Facts.mixed fun KD hKD => ?_
  clear hG G
  refine AAny.one 9 ?_
  refine ARun.opM ?_
  refine ARun2.appendM ?_ ?_ ?_
  · rw [YtoapdhogghbojaaGreatDoor.Facts.eb24, bys_len, bys_len, putB_len, putB_len]; omega
  · rw [bys_len, bys_len, putB_len, putB_len]; omega
  refine ARun2.endm ?_
  refine AAny.one 10 ?_
  refine ARun.opM ?_
  refine ARun2.endm ?_
  refine AAny.one 11 ?_
  refine ARun.opM ?_
  refine ARun2.endm ?_
  refine AAny.fin (hKD _ ?_); clear hKD KD
  refine AWp.seqK fun K5 hK5 => ?_
  refine AWp.regionW ?_
  refine AWp.condLM (fun c4 => ?_) (fun c4 => ?_)
  · skip
    have hin : inter = true := by simpa using c4
    subst hin
    refine AWp.regionW ?_
    refine AWp.regionM fun K6 hK6 => ?_
    refine ARun2.appendM ?_ ?_ ?_
    · rw [YtoapdhogghbojaaGreatDoor.Facts.eb24]; simp only [List.length_append, bys_len, putB_len, List.length_cons, List.length_nil]; omega
    · simp only [List.length_append, bys_len, putB_len, List.length_cons, List.length_nil]; omega
    refine ARun2.endm (hK6 _ ?_)
    refine AWp.drE [[(3, none)], [(48, some 0)], [(1, none)], [(50, some 2)], [(51, some 3)], [(52, some 4)]] fun G hG => ?_
    refine Dr.sim ?_
    try simp only [List.cons_append, List.nil_append]
    refine Dr.sim ?_
    try simp only [List.cons_append, List.nil_append]
    refine Dr.sim ?_
    try simp only [List.cons_append, List.nil_append]
    refine Dr.sim ?_
    try simp only [List.cons_append, List.nil_append]
    refine Dr.build ?_
    try simp only [List.cons_append, List.nil_append]
    refine Dr.call (q3) ?_
    try simp only [List.cons_append, List.nil_append]
    refine Dr.finN (n := 6) [(49, 1), (53, 5)] [1, 2, 3] hG YtoapdhogghbojaaGreatDoor.Facts.mixed fun KD hKD => ?_
    refine ARun2.appendM ?_ ?_ ?_
    · rw [YtoapdhogghbojaaGreatDoor.Facts.eb24]; simp only [List.length_append, bys_len, putB_len, List.length_cons, List.length_nil]; omega
    · simp only [List.length_append, bys_len, putB_len, List.length_cons, List.length_nil]; omega
    refine ARun2.endm (hKD _ ?_); clear hKD KD hG G
    refine hK5 _ ?_
    refine AWp.drS [[(3, none)], [(64, some 0)], [(1, none)], [(66, some 2)], [(67, some 3)], [(68, some 4)]] fun G hG => ?_
    refine Dr.sim ?_
    try simp only [List.cons_append, List.nil_append]
    refine Dr.sim ?_
    try simp only [List.cons_append, List.nil_append]
    refine Dr.sim ?_
    try simp only [List.cons_append, List.nil_append]
    refine Dr.sim ?_
    try simp only [List.cons_append, List.nil_append]
    refine Dr.build ?_
    try simp only [List.cons_append, List.nil_append]
    refine Dr.call (q5) ?_
    try simp only [List.cons_append, List.nil_append]
    refine Dr.finM (n := 6) [(65, 1), (69, 5)] [1, 2, 3] hG YtoapdhogghbojaaGreatDoor.Facts.mixed fun KD hKD => ?_
    refine ARun2.appendM ?_ ?_ ?_
    · rw [YtoapdhogghbojaaGreatDoor.Facts.eb24]; simp only [List.length_append, bys_len, putB_len, List.length_cons, List.length_nil]; omega
    · simp only [List.length_append, bys_len, putB_len, List.length_cons, List.length_nil]; omega
    refine ARun2.endm (hKD _ ?_); clear hKD KD hG G
    refine AWp.regionM fun K7 hK7 => ?_
    refine ARun2.appendM ?_ ?_ ?_
    · rw [YtoapdhogghbojaaGreatDoor.Facts.eb24]; simp only [List.length_append, bys_len, putB_len, List.length_cons, List.length_nil]; omega
    · simp only [List.length_append, bys_len, putB_len, List.length_cons, List.length_nil]; omega
    refine ARun2.endm (hK7 _ ?_)
    refine AWp.pubD 3 ?_
    refine AWp.regionW ?_
    refine AWp.ret ?_
    try simp only [thenQ, blockQ, noGo]
    refine bodyQ.m ?_
    clear hK7 K7 hK6 K6 hK5 K5
    first | rw [dataC_T] | rw [dataC_F]
    first | done | exact Wk.go
  · skip
    have hin : inter = false := by simpa using c4
    subst hin
    refine AWp.drE [[(3, none)], [(56, some 0)], [(1, none)], [(58, some 2)], [(59, some 3)], [(60, some 4)]] fun G hG => ?_
    refine Dr.sim ?_
    try simp only [List.cons_append, List.nil_append]
    refine Dr.sim ?_
    try simp only [List.cons_append, List.nil_append]
    refine Dr.sim ?_
    try simp only [List.cons_append, List.nil_append]
    refine Dr.sim ?_
    try simp only [List.cons_append, List.nil_append]
    refine Dr.build ?_
    try simp only [List.cons_append, List.nil_append]
    refine Dr.call (q4) ?_
    try simp only [List.cons_append, List.nil_append]
    refine Dr.finN (n := 6) [(57, 1), (61, 5)] [1, 2, 3] hG YtoapdhogghbojaaGreatDoor.Facts.mixed fun KD hKD => ?_
    refine ARun2.appendM ?_ ?_ ?_
    · rw [YtoapdhogghbojaaGreatDoor.Facts.eb24]; simp only [List.length_append, bys_len, putB_len, List.length_cons, List.length_nil]; omega
    · simp only [List.length_append, bys_len, putB_len, List.length_cons, List.length_nil]; omega
    refine ARun2.endm (hKD _ ?_); clear hKD KD hG G
    refine hK5 _ ?_
    refine AWp.drS [[(3, none)], [(64, some 0)], [(1, none)], [(66, some 2)], [(67, some 3)], [(68, some 4)]] fun G hG => ?_
    refine Dr.sim ?_
    try simp only [List.cons_append, List.nil_append]
    refine Dr.sim ?_
    try simp only [List.cons_append, List.nil_append]
    refine Dr.sim ?_
    try simp only [List.cons_append, List.nil_append]
    refine Dr.sim ?_
    try simp only [List.cons_append, List.nil_append]
    refine Dr.build ?_
    try simp only [List.cons_append, List.nil_append]
    refine Dr.call (q5) ?_
    try simp only [List.cons_append, List.nil_append]
    refine Dr.finM (n := 6) [(65, 1), (69, 5)] [1, 2, 3] hG YtoapdhogghbojaaGreatDoor.Facts.mixed fun KD hKD => ?_
    refine ARun2.appendM ?_ ?_ ?_
    · rw [YtoapdhogghbojaaGreatDoor.Facts.eb24]; simp only [List.length_append, bys_len, putB_len, List.length_cons, List.length_nil]; omega
    · simp only [List.length_append, bys_len, putB_len, List.length_cons, List.length_nil]; omega
    refine ARun2.endm (hKD _ ?_); clear hKD KD hG G
    refine AWp.regionM fun K8 hK8 => ?_
    refine ARun2.appendM ?_ ?_ ?_
    · rw [YtoapdhogghbojaaGreatDoor.Facts.eb24]; simp only [List.length_append, bys_len, putB_len, List.length_cons, List.length_nil]; omega
    · simp only [List.length_append, bys_len, putB_len, List.length_cons, List.length_nil]; omega
    refine ARun2.endm (hK8 _ ?_)
    refine AWp.pubD 3 ?_
    refine AWp.regionW ?_
    refine AWp.ret ?_
    try simp only [thenQ, blockQ, noGo]
    refine bodyQ.m ?_
    clear hK8 K8 hK5 K5
    first | rw [dataC_T] | rw [dataC_F]
    first | done | exact Wk.go
end Go.Proofs.YtoapdhogghbojaaGreatDoor.C
/- wharflaw13: DataMatchesReference, DataChunks. -/
set_option linter.unusedVariables false
set_option linter.unusedSimpArgs false
namespace Go.Proofs.YtoapdhogghbojaaGreatDoor.C
open Go.Abs
theorem same13_zero : PC Tryz.prog 16 [partA false .zero, partA false .zero] (bool true) := sameP_self .zero ▸ same13_c .zero .zero (by decide)
theorem dataMatches_big (p : GPart) (h : ¬ p.user.length ≤ 1000) : PC Tryz.prog 3 [partA false p] (bool true) := by
  have kf := few13_c p
  rw [decide_eq_false h] at kf
  refine PC.of_bodyW (by simp only [push_cast]) Tryz.func3 rfl (by rw [Tryz.ntmps3]; simp) ?_
  refine AWp.regionW ?_
  refine AWp.seqK fun K1 hK1 => ?_
  refine AWp.regionM fun K2 hK2 => ?_
  refine ARun2.callM (awake13_c) ?_
  refine ARun2.callM (kf) ?_
  refine ARun2.endm (hK2 _ ?_)
  refine AWp.condT ?_
  refine AWp.regionM fun K3 hK3 => ?_
  refine ARun2.callM (awake13_c) ?_
  refine ARun2.endm (hK3 _ ?_)
  refine AWp.ret ?_
  try simp only [thenQ, blockQ, noGo]
  refine bodyQ.m ?_
  clear hK3 K3 hK2 K2 hK1 K1
  first | done | exact Hand.go
theorem dataMatches_no (p : GPart) (hp : p.Ok) (h : p.user.length ≤ 1000) (hr : rightD p = false) : PC Tryz.prog 3 [partA false p] (bool true) := by
  have kf := few13_c p
  rw [decide_eq_true h] at kf
  have k1 := dmake_c p hp
  rw [makePt_no hr] at k1
  have k2 := rright13_c p
  rw [hr] at k2
  have k3 := dof_c .zero small_zero
  rw [ofD_zero] at k3
  have k4 : PC Tryz.prog 15 [chunkA false .zero, chunkA false .zero] (bool true) := sameC_self .zero ▸ small_zero.same
  have k5 := same13_zero
  simp only [GChunk.zero] at k1 k3 k4
  simp only [GPart.zero] at k3 k5
  refine PC.of_bodyW (by simp only [push_cast]) Tryz.func3 rfl (by rw [Tryz.ntmps3]; simp) ?_
  refine AWp.regionW ?_
  refine AWp.seqK fun K1 hK1 => ?_
  refine AWp.regionM fun K2 hK2 => ?_
  refine ARun2.callM (awake13_c) ?_
  refine ARun2.callM (kf) ?_
  refine ARun2.endm (hK2 _ ?_)
  refine AWp.condF ?_
  refine AWp.skip ?_
  refine hK1 _ ?_
  refine AWp.regionM fun K3 hK3 => ?_
  refine ARun2.callM (k1) ?_
  refine ARun2.endm (hK3 _ ?_)
  refine AWp.seqK fun K4 hK4 => ?_
  refine AWp.regionM fun K5 hK5 => ?_
  refine ARun2.callM (k2) ?_
  refine ARun2.boolEqM ?_
  refine ARun2.endm (hK5 _ ?_)
  refine AWp.condF ?_
  refine AWp.skip ?_
  refine hK4 _ ?_
  refine AWp.regionM fun K6 hK6 => ?_
  refine ARun2.callM (k3) ?_
  refine ARun2.endm (hK6 _ ?_)
  refine AWp.seqK fun K7 hK7 => ?_
  refine AWp.regionW ?_
  refine AWp.condT ?_
  refine AWp.regionM fun K8 hK8 => ?_
  refine ARun2.callM (k4) ?_
  refine ARun2.callM (k5) ?_
  refine ARun2.endm (hK8 _ ?_)
  refine AWp.ret ?_
  try simp only [thenQ, blockQ, noGo]
  refine bodyQ.m ?_
  clear hK8 K8 hK7 K7 hK6 K6 hK5 K5 hK4 K4 hK3 K3 hK2 K2 hK1 K1
  first | done | exact Hand.go
set_option maxHeartbeats 1000000 in
theorem dataMatches_yes (p : GPart) (hp : p.Ok) (h : p.user.length ≤ 1000) (hr : rightD p = true) : PC Tryz.prog 3 [partA false p] (bool true) := by
  have kf := few13_c p
  rw [decide_eq_true h] at kf
  have k1 := dmake_c p hp
  rw [makePt_chunk hr] at k1
  have k2 := rright13_c p
  rw [hr] at k2
  have hs := small_data hp
  have k3 := dof_c (dataC p) hs
  rw [ofD_data hp hr] at k3
  have k4 : PC Tryz.prog 15 [chunkA false (dataC p), chunkA false (dataC p)] (bool true) := sameC_self (dataC p) ▸ hs.same
  have k5 := same13_c p p (by omega)
  rw [sameP_self] at k5
  have k6 := rmake13_c p hp
  have k7 := hs.check
  rw [check_dataC hr] at k7
  generalize dataC p = c at k1 k3 k4 k6 k7
  refine PC.of_bodyW (by simp only [push_cast]) Tryz.func3 rfl (by rw [Tryz.ntmps3]; simp) ?_
  refine AWp.regionW ?_
  refine AWp.seqK fun K1 hK1 => ?_
  refine AWp.regionM fun K2 hK2 => ?_
  refine ARun2.callM (awake13_c) ?_
  refine ARun2.callM (kf) ?_
  refine ARun2.endm (hK2 _ ?_)
  refine AWp.condF ?_
  refine AWp.skip ?_
  refine hK1 _ ?_
  refine AWp.regionM fun K3 hK3 => ?_
  refine ARun2.callM (k1) ?_
  refine ARun2.endm (hK3 _ ?_)
  refine AWp.seqK fun K4 hK4 => ?_
  refine AWp.regionM fun K5 hK5 => ?_
  refine ARun2.callM (k2) ?_
  refine ARun2.boolEqM ?_
  refine ARun2.endm (hK5 _ ?_)
  refine AWp.condF ?_
  refine AWp.skip ?_
  refine hK4 _ ?_
  refine AWp.regionM fun K6 hK6 => ?_
  refine ARun2.callM (k3) ?_
  refine ARun2.endm (hK6 _ ?_)
  refine AWp.seqK fun K7 hK7 => ?_
  refine AWp.regionW ?_
  refine AWp.condF ?_
  refine AWp.skip ?_
  refine hK7 _ ?_
  refine AWp.drS [[(3, none)], [(1, none)], [(44, some 1)], [(43, some 0), (45, some 2)], [(46, some 3)], [(6, none), (47, some 4)], [(47, some 4), (48, some 5)], [(49, some 6)], [(5, none), (50, some 7)], [(1, none), (50, some 7)], [(51, some 8), (52, some 9), (50, some 7)], [(50, some 7), (53, some 10)], [(54, some 11)], [(3, none), (55, some 12)], [(56, some 13), (55, some 12)], [(57, some 14), (55, some 12)], [(55, some 12), (58, some 15)], [(59, some 16)]] fun G hG => ?_
  refine Dr.sim ?_
  try simp only [List.cons_append, List.nil_append]
  refine Dr.sim ?_
  try simp only [List.cons_append, List.nil_append]
  refine Dr.call (k6) ?_
  try simp only [List.cons_append, List.nil_append]
  refine Dr.call (k4) ?_
  try simp only [List.cons_append, List.nil_append]
  refine Dr.sim ?_
  try simp only [List.cons_append, List.nil_append]
  refine Dr.simg ?_
  try simp only [List.cons_append, List.nil_append]
  refine Dr.sim ?_
  try simp only [List.cons_append, List.nil_append]
  refine Dr.sim ?_
  try simp only [List.cons_append, List.nil_append]
  refine Dr.simg ?_
  try simp only [List.cons_append, List.nil_append]
  refine Dr.simg ?_
  try simp only [List.cons_append, List.nil_append]
  refine Dr.callg (fun g7 => k5) ?_
  try simp only [List.cons_append, List.nil_append]
  refine Dr.sim ?_
  try simp only [List.cons_append, List.nil_append]
  refine Dr.sim ?_
  try simp only [List.cons_append, List.nil_append]
  refine Dr.simg ?_
  try simp only [List.cons_append, List.nil_append]
  refine Dr.callg (fun g12 => k7) ?_
  try simp only [List.cons_append, List.nil_append]
  refine Dr.simg ?_
  try simp only [List.cons_append, List.nil_append]
  refine Dr.sim ?_
  try simp only [List.cons_append, List.nil_append]
  refine Dr.sim ?_
  try simp only [List.cons_append, List.nil_append]
  refine Dr.finM (n := 18) [(2, 17)] [] hG YtoapdhogghbojaaGreatDoor.Facts.mixed fun KD hKD => ?_
  refine ARun2.endm (hKD _ ?_); clear hKD KD hG G
  refine AWp.ret ?_
  try simp only [thenQ, blockQ, noGo]
  refine bodyQ.m ?_
  clear hK7 K7 hK6 K6 hK5 K5 hK4 K4 hK3 K3 hK2 K2 hK1 K1
  first | done | exact Hand.go
theorem dataMatches_c (p : GPart) (hp : p.Ok) : PC Tryz.prog 3 [partA false p] (bool true) := by
  by_cases h : p.user.length ≤ 1000
  · cases hr : rightD p with
    | false => exact dataMatches_no p hp h hr
    | true => exact dataMatches_yes p hp h hr
  · exact dataMatches_big p h
theorem dataChunks_big (c : GChunk) (h : Small c) (hf : fewC c = false) : PC Tryz.prog 4 [chunkA false c] (bool true) := by
  have kf := few12_c c h
  rw [hf] at kf
  refine PC.of_bodyW (by simp only [push_cast]) Tryz.func4 rfl (by rw [Tryz.ntmps4]; simp) ?_
  refine AWp.regionW ?_
  refine AWp.seqK fun K1 hK1 => ?_
  refine AWp.regionM fun K2 hK2 => ?_
  refine ARun2.callM (awake13_c) ?_
  refine ARun2.callM (kf) ?_
  refine ARun2.endm (hK2 _ ?_)
  refine AWp.condT ?_
  refine AWp.regionM fun K3 hK3 => ?_
  refine ARun2.callM (awake13_c) ?_
  refine ARun2.endm (hK3 _ ?_)
  refine AWp.ret ?_
  try simp only [thenQ, blockQ, noGo]
  refine bodyQ.m ?_
  clear hK3 K3 hK2 K2 hK1 K1
  first | done | exact Hand.go
set_option maxHeartbeats 1000000 in
theorem dataChunks_no (c : GChunk) (h : Small c) (hf : fewC c = true) (hi : isD c = false) : PC Tryz.prog 4 [chunkA false c] (bool true) := by
  have kf := few12_c c h
  rw [hf] at kf
  have k1 := dof_c c h
  rw [ofD_no hi] at k1
  have k2 := h.check12
  have k5 := same13_zero
  simp only [GPart.zero] at k1 k5
  unfold isD at hi
  refine PC.of_bodyW (by simp only [push_cast]) Tryz.func4 rfl (by rw [Tryz.ntmps4]; simp) ?_
  refine AWp.regionW ?_
  refine AWp.seqK fun K1 hK1 => ?_
  refine AWp.regionM fun K2 hK2 => ?_
  refine ARun2.callM (awake13_c) ?_
  refine ARun2.callM (kf) ?_
  refine ARun2.endm (hK2 _ ?_)
  refine AWp.condF ?_
  refine AWp.skip ?_
  refine hK1 _ ?_
  refine AWp.regionM fun K3 hK3 => ?_
  refine ARun2.callM (k1) ?_
  refine ARun2.endm (hK3 _ ?_)
  refine AWp.seqK fun K4 hK4 => ?_
  refine AWp.regionA fun K5 hK5 => ?_
  refine ARun.segm 5 fun KS hKS => ?_
  refine ARun2.endm (hKS _ ?_); clear hKS KS
  apply ARun.grpM 3 4 false 27 [1, 3, 4, 20, 24]
  · intro g4 KG hKG
    refine ARun2.gom ?_
    exact ARun2.endm (hKG _ Le.grpM)
  refine ARun.segm 2 fun KS hKS => ?_
  refine ARun2.endm (hKS _ ?_); clear hKS KS
  apply ARun.grpM 3 9 true 32 [1, 3, 4, 20, 29]
  · intro g9 KG hKG
    refine ARun2.gom ?_
    refine ARun2.callM (k2) ?_
    exact ARun2.endm (hKG _ Le.grpM)
  refine ARun2.gom ?_
  refine ARun2.boolEqM ?_
  refine ARun2.endm (hK5 _ ?_)
  refine AWp.condLM (fun c1 => ?_) (fun c1 => ?_)
  · skip
    exfalso
    revert c1 hi
    cases c.ty == 0 <;> cases c.ty == 64 <;> cases checkC c == 0 <;> simp
  · skip
    refine AWp.skip ?_
    refine hK4 _ ?_
    refine AWp.seqK fun K6 hK6 => ?_
    refine AWp.regionW ?_
    refine AWp.condT ?_
    refine AWp.regionM fun K7 hK7 => ?_
    refine ARun2.callM (k5) ?_
    refine ARun2.endm (hK7 _ ?_)
    refine AWp.ret ?_
    try simp only [thenQ, blockQ, noGo]
    refine bodyQ.m ?_
    clear hK7 K7 hK6 K6 hK5 K5 hK4 K4 hK3 K3 hK2 K2 hK1 K1
    first | done | exact Hand.go
set_option maxHeartbeats 1000000 in
theorem dataChunks_yes (c : GChunk) (h : Small c) (hf : fewC c = true) (hi : isD c = true) : PC Tryz.prog 4 [chunkA false c] (bool true) := by
  have kf := few12_c c h
  rw [hf] at kf
  have k1 := dof_c c h
  rw [ofD_yes hi] at k1
  have k2 := h.check12
  have hpk := partOf_ok hi
  obtain ⟨hb, hbr⟩ := data_back h.flags hi
  have hus := hpk.user
  have k3 := dmake_c (partOf c) hpk
  rw [makePt_chunk hbr, hb] at k3
  have k4 := rof13_c c h hi
  have k5 := same13_c (partOf c) (partOf c) (by omega)
  rw [sameP_self] at k5
  have k6 : PC Tryz.prog 15 [chunkA false c, chunkA false c] (bool true) := sameC_self c ▸ h.same
  obtain ⟨hkn, _⟩ := isD_kids hi
  generalize partOf c = p at k1 k3 k4 k5 hpk hb hbr hus
  clear hpk hb hbr hus
  unfold isD at hi
  obtain ⟨ty, fl, d, ks⟩ := c
  simp only at hkn
  subst hkn
  have k7 := rclone_c [] (by simp [szs])
  refine PC.of_bodyW (by simp only [push_cast]) Tryz.func4 rfl (by rw [Tryz.ntmps4]; simp) ?_
  refine AWp.regionW ?_
  refine AWp.seqK fun K1 hK1 => ?_
  refine AWp.regionM fun K2 hK2 => ?_
  refine ARun2.callM (awake13_c) ?_
  refine ARun2.callM (kf) ?_
  refine ARun2.endm (hK2 _ ?_)
  refine AWp.condF ?_
  refine AWp.skip ?_
  refine hK1 _ ?_
  refine AWp.regionM fun K3 hK3 => ?_
  refine ARun2.callM (k1) ?_
  refine ARun2.endm (hK3 _ ?_)
  refine AWp.seqK fun K4 hK4 => ?_
  refine AWp.regionA fun K5 hK5 => ?_
  refine ARun.segm 5 fun KS hKS => ?_
  refine ARun2.endm (hKS _ ?_); clear hKS KS
  apply ARun.grpM 3 4 false 27 [1, 3, 4, 20, 24]
  · intro g4 KG hKG
    refine ARun2.gom ?_
    exact ARun2.endm (hKG _ Le.grpM)
  refine ARun.segm 2 fun KS hKS => ?_
  refine ARun2.endm (hKS _ ?_); clear hKS KS
  apply ARun.grpM 3 9 true 32 [1, 3, 4, 20, 29]
  · intro g9 KG hKG
    refine ARun2.gom ?_
    refine ARun2.callM (k2) ?_
    exact ARun2.endm (hKG _ Le.grpM)
  refine ARun2.gom ?_
  refine ARun2.boolEqM ?_
  refine ARun2.endm (hK5 _ ?_)
  refine AWp.condLM (fun c1 => ?_) (fun c1 => ?_)
  · skip
    exfalso
    revert c1 hi
    generalize checkC _ = cc
    cases ty == 0 <;> cases ty == 64 <;> cases cc == 0 <;> simp
  · skip
    refine AWp.skip ?_
    refine hK4 _ ?_
    refine AWp.seqK fun K6 hK6 => ?_
    refine AWp.regionW ?_
    refine AWp.condF ?_
    refine AWp.skip ?_
    refine hK6 _ ?_
    refine AWp.regionM fun K7 hK7 => ?_
    refine ARun2.callM (k3) ?_
    refine ARun2.endm (hK7 _ ?_)
    refine AWp.drS [[(3, none)], [(1, none)], [(46, some 1)], [(45, some 0), (47, some 2)], [(48, some 3)], [(6, none), (49, some 4)], [(49, some 4), (50, some 5)], [(51, some 6)], [(5, none), (52, some 7)], [(1, none), (52, some 7)], [(53, some 8), (54, some 9), (52, some 7)], [(52, some 7), (55, some 10)], [(56, some 11)], [(1, none), (57, some 12)], [(58, some 13), (57, some 12)], [(59, some 14), (57, some 12)], [(60, some 15), (57, some 12)], [(61, some 16), (57, some 12)], [(57, some 12), (62, some 17)], [(63, some 18)]] fun G hG => ?_
    refine Dr.sim ?_
    try simp only [List.cons_append, List.nil_append]
    refine Dr.sim ?_
    try simp only [List.cons_append, List.nil_append]
    refine Dr.call (k4) ?_
    try simp only [List.cons_append, List.nil_append]
    refine Dr.call (k5) ?_
    try simp only [List.cons_append, List.nil_append]
    refine Dr.sim ?_
    try simp only [List.cons_append, List.nil_append]
    refine Dr.simg ?_
    try simp only [List.cons_append, List.nil_append]
    refine Dr.sim ?_
    try simp only [List.cons_append, List.nil_append]
    refine Dr.sim ?_
    try simp only [List.cons_append, List.nil_append]
    refine Dr.simg ?_
    try simp only [List.cons_append, List.nil_append]
    refine Dr.simg ?_
    try simp only [List.cons_append, List.nil_append]
    refine Dr.callg (fun g7 => k6) ?_
    try simp only [List.cons_append, List.nil_append]
    refine Dr.sim ?_
    try simp only [List.cons_append, List.nil_append]
    refine Dr.sim ?_
    try simp only [List.cons_append, List.nil_append]
    refine Dr.simg ?_
    try simp only [List.cons_append, List.nil_append]
    refine Dr.simg ?_
    try simp only [List.cons_append, List.nil_append]
    refine Dr.callg (fun g12 => k7) ?_
    try simp only [List.cons_append, List.nil_append]
    refine Dr.simg ?_
    try simp only [List.cons_append, List.nil_append]
    refine Dr.simg ?_
    try simp only [List.cons_append, List.nil_append]
    refine Dr.sim ?_
    try simp only [List.cons_append, List.nil_append]
    refine Dr.sim ?_
    try simp only [List.cons_append, List.nil_append]
    refine Dr.finM (n := 20) [(2, 19)] [] hG YtoapdhogghbojaaGreatDoor.Facts.mixed fun KD hKD => ?_
    refine ARun2.endm (hKD _ ?_); clear hKD KD hG G
    refine AWp.ret ?_
    try simp only [thenQ, blockQ, noGo]
    refine bodyQ.m ?_
    clear hK7 K7 hK6 K6 hK5 K5 hK4 K4 hK3 K3 hK2 K2 hK1 K1
    first | done | exact Hand.go
theorem dataChunks_c (c : GChunk) (h : Small c) : PC Tryz.prog 4 [chunkA false c] (bool true) := by
  cases hf : fewC c with
  | false => exact dataChunks_big c h hf
  | true =>
    cases hi : isD c with
    | false => exact dataChunks_no c h hf hi
    | true => exact dataChunks_yes c h hf hi
end Go.Proofs.YtoapdhogghbojaaGreatDoor.C
/- From the statement's reading to abstract values, and back. No condition. -/
namespace Go.Abs
open Go.ChangeShapes Go.WideShapes Go.RowKit
set_option linter.unusedVariables false
set_option linter.unusedSectionVars false
set_option linter.unusedSimpArgs false
/-- all that is there when the call begins -/
abbrev Old (W : World) : Nat → Prop := fun b => b < W.heap.size
theorem RW.start (W : World) : RW (E0 W.heap.size W (Old W) []) [] [] (Old W) W :=
  { ep := Nat.le_refl _, os := rfl, tape := rfl, output := rfl, size := Nat.le_refl _, block := fun _ _ _ => rfl, pre := fun k v h => by simp at h, bsub := fun _ h => h, bnew := fun _ h => .inl h,
    blt := fun _ h => h, len := rfl, obs := fun k o h => by simp at h, dis := fun i j o o' u v b _ h => by simp at h, prv := fun k o v b h => by simp at h }
theorem PC.answers {P : Program} {f : FuncId} {ys : List AV} {v : Value} (h : PC P f ys (.val v)) {W : World} (hg : Globs W (Old W) []) {args : Array Value} (ha : RelL W (Old W) W.heap.size [] ys args.toList) :
    Calls P f args W fun e W' => e = .returned v ∧ Below W.heap.size W W' := by
  have := h.2 W.heap.size W [] (Old W) args.toList hg (RW.start W) ha (fun e W' => e = .returned v ∧ Below W.heap.size W W') (by
    rintro r' v' τ' ρ' B' w' ⟨rfl, rfl⟩ hw hr
    cases hr
    exact ⟨rfl, ⟨hw.os, hw.tape, hw.output, hw.size, fun k hk => hw.block k hk ⟨fun ⟨u, hu, _⟩ => by simp at hu, fun h => by cases h⟩⟩⟩)
  simpa using this
section
variable {H : Type} {enc : TypeId × Value → H} {P : Program} {W W' : World}
theorem trodAll_stays (hl : laidOutB P = true) (hb : Below W.heap.size W W') {sp' : Nat → Bool} : ∀ {ts : List TypeId} {vs : List Value} {ds : List (DataW H)} {ps : List MemPlace}, (∀ t ∈ ts, P.readableRec t = true ∧ t < P.types.size) →
    DataW.TrodAll enc P W 0 (fun _ => true) true ts vs ds ps → (∀ p ∈ ps, p.block < W.heap.size) → (∀ p ∈ ps, sp' p.block = true) → DataW.TrodAll enc P W' 0 sp' true ts vs ds ps
  | [], _, _, _, _, h, _, _ => by
    obtain ⟨rfl, rfl, rfl⟩ := trodAll_nil h
    rfl
  | t :: ts, _, _, _, ht, h, hlt, hs => by
    obtain ⟨v, vs1, d, ds1, a, b, rfl, rfl, rfl, h1, h2⟩ := trodAll_cons h
    have := ht t (by simp)
    exact ⟨a, b, WideElems.Trod_stays hl this.1 this.2 h1 (fun x hx => hb.same (hlt x (by simp [hx]))) (fun x hx => hs x (by simp [hx])),
      trodAll_stays hl hb (fun u hu => ht u (by simp [hu])) h2 (fun x hx => hlt x (by simp [hx])) (fun x hx => hs x (by simp [hx])), rfl⟩
/-- a law holds: it answers true, and all that was there is as it was -/
theorem post_true {f : Func} {s : ChangeSpec} {fresh : Bool} {args : Array Value} {ds gs : List (DataW H)} {before : List MemPlace} {tb : TypeId}
    (hW : DataW.Whole enc P f.params.toList s.vars false W args.toList ds gs before) (hv : s.vars = []) (hs : s.fn H (ds ++ gs) = { results := [.lit (.bool true)], args := ds }) (hr : f.resultTypes = #[tb]) (hb : P.underlying tb = some .bool)
    (hl : laidOutB P = true) (ht : (f.params.toList.all fun t => P.readableRec t && decide (t < P.types.size)) = true) (hB : Below W.heap.size W W') :
    s.post enc P f false fresh false false W args (.bool true) W' := by
  have hW0 := hW
  obtain ⟨p, q, hA, hV, rfl, hfz, _⟩ := hW
  rw [hv] at hV
  have hg : gs = [] ∧ q = [] := by
    cases gs with
    | nil => exact ⟨rfl, hV⟩
    | cons g gs => exact hV.elim
  obtain ⟨rfl, rfl⟩ := hg
  have hlt : ∀ x ∈ p ++ [], x.block < W.heap.size := fun x hx => by simpa using hW0.lt x hx
  refine ⟨ds, [], p ++ [], [], p, [], hW0, ?_, ?_, ?_, ?_, fun h => by cases h⟩
  · rw [hs, hr]
    exact trodAll_cons_mk (p := []) (p' := []) (shut_bool hb _) trodAll_mk0
  · rw [hs]
    refine trodAll_stays hl hB (fun t h => ?_) hA (fun x hx => hlt x (by simp [hx])) (fun x hx => by simpa using hlt x (by simp [hx]))
    have := List.all_eq_true.1 ht t h
    simpa using this
  · rw [hs, hv]; exact rfl
  · refine ⟨hB.os, hB.output, fun i hi => ?_⟩
    rw [hB.block i hi]
    cases W.heap[i]? with
    | none => rfl
    | some o => cases o <;> simp
theorem addr_of_cell {w : World} {a : Addr} {v : Value} (h : w.cell? a = some v) : a.spot = none := by
  unfold World.cell? at h
  split at h
  · split at h
    · cases h
    · rename_i hs; cases hh : a.spot <;> simp_all
  · cases h
/-- a slice of numbers, read -/
theorem rel_ints0 {t e : TypeId} {k : IntKind} {v : Value} {d : DataW H} {ps : List MemPlace} {fuel : Nat} (ht : P.underlying t = some (.slice e)) (he : P.underlying e = some (.int k)) (hc : P.cellsOf e = 1)
    (hf : DataW.trod enc P W 0 (fun _ => true) true fuel t [v] = some (d, ps)) :
    ∃ (zs : List Int), Rel W (Old W) W.heap.size [] (.sl false 1 (zs.map fun n => .val (.int k n))) v ∧ (∀ n ∈ zs, (Lit.int k n).wf = true) ∧ ((d = .nil ∧ zs = []) ∨ ∃ rest, d = .slice (lits k zs) rest) := by
  rcases open_ints ht he hc hf with ⟨h1, h2⟩ | ⟨a, len, cap, zs, h1, h2, h3, h4, h5, h6, h7, h8⟩
  · simp only [List.cons.injEq, and_true] at h1
    subst h1
    exact ⟨[], .slE _ _ _ _, by simp, .inl ⟨congrArg Prod.fst h2, rfl⟩⟩
  · simp only [List.cons.injEq, and_true] at h1
    subst h1
    simp only [if_true] at h5
    refine ⟨zs.take len, ?_, fun n hn => h8 n (List.mem_of_mem_take hn), .inr ⟨_, congrArg Prod.fst h6⟩⟩
    have hlen : (zs.take len).length = len := by rw [List.length_take]; omega
    cases hq : zs.take len with
    | nil =>
      rw [hq] at hlen
      simp at hlen
      subst hlen
      exact .slE _ _ _ _
    | cons z l =>
      have hpos : 0 < zs.length := by rw [hq] at hlen; simp at hlen; omega
      have h0 := h7 0 hpos
      have hsp : a.spot = none := addr_of_cell (show W.cell? a = _ from h0)
      obtain ⟨b, o, sp⟩ := a
      simp only at hsp
      subst hsp
      have hblk : b < W.heap.size := by
        have := World.block_lt_of_cell? W _ h0
        simpa [Addr.add] using this
      rw [hq] at hlen
      simp only [List.length_cons] at hlen
      subst hlen
      have hrow := RelRow.mk (w := W) (B := Old W) (bs := W.heap.size) (ρ := []) (nw := false) (b := b) (sz := 1) (o := o) (xs := (z :: l).map fun n => AV.val (.int k n)) (vs := (z :: l).map fun n => Value.int k n) hblk (fun h => by cases h) ?_ ?_ ?_
      · have := Rel.sl (cap := cap) (by simpa using hrow) (by simpa using h3)
        simpa using this
      · have : (((z :: l).map fun n => AV.val (.int k n)).flatMap AV.cells) = ((z :: l).map fun n => Value.int k n).map AV.val := by
          generalize z :: l = m
          induction m with
          | nil => rfl
          | cons x m ih => simp only [List.map_cons, List.flatMap_cons, ih]; rfl
        rw [this]
        have key : ∀ l : List Value, RelL W (Old W) W.heap.size [] (l.map AV.val) l := fun l => by induction l with
          | nil => exact .nil
          | cons x l ih => exact .cons (.val x) ih
        exact key _
      · intro x hx
        simp only [List.mem_map] at hx
        obtain ⟨n, _, rfl⟩ := hx
        exact ⟨rfl, fun c hc => by simp [AV.cells] at hc; subst hc; rfl⟩
      · intro j v hj
        rw [← hq, List.getElem?_map, List.getElem?_take] at hj
        split at hj
        · rename_i hjl
          simp only [Option.map_eq_some_iff] at hj
          obtain ⟨n, hn, rfl⟩ := hj
          have hlt : j < zs.length := by have := List.getElem?_eq_some_iff.1 hn; exact this.1
          have := h7 j hlt
          rw [addr_add] at this
          rw [this, List.getD_eq_getElem?_getD, hn]; rfl
        · simp at hj
end
end Go.Abs
/- Nodes, read. -/
set_option linter.unusedVariables false
set_option linter.unusedSimpArgs false
namespace Go.Proofs.YtoapdhogghbojaaGreatDoor.C
open Go.Abs Go.ChangeShapes Go.WideShapes Go.ChangeAt Go.RowKit
theorem own : ownKnob Tryz.prog.godebug = none := by kernel_rfl
theorem laidOut : laidOutB Tryz.prog = true := by kernel_rfl
theorem nat_of {n : Int} {m : Nat} (h : 0 ≤ n ∧ n ≤ m) : ∃ x : Nat, n = N x ∧ x < m + 1 := ⟨n.toNat, by unfold N; omega, by omega⟩
theorem u8_of {n : Int} (h : (Lit.int .u8 n).wf = true) : ∃ m : Nat, n = N m ∧ m < 2 ^ 8 := nat_of (m := 255) (by simpa [Lit.wf, IntKind.min, IntKind.max, IntKind.signed, IntKind.bits] using h)
theorem u16_of {n : Int} (h : (Lit.int .u16 n).wf = true) : ∃ m : Nat, n = N m ∧ m < 2 ^ 16 := nat_of (m := 65535) (by simpa [Lit.wf, IntKind.min, IntKind.max, IntKind.signed, IntKind.bits] using h)
theorem u32_of {n : Int} (h : (Lit.int .u32 n).wf = true) : ∃ m : Nat, n = N m ∧ m < 2 ^ 32 := nat_of (m := 4294967295) (by simpa [Lit.wf, IntKind.min, IntKind.max, IntKind.signed, IntKind.bits] using h)
theorem int_bounds {k : IntKind} {n : Int} (h : (Lit.int k n).wf = true) : k.min ≤ n ∧ n ≤ k.max := by simpa [Lit.wf] using h
theorem bys_of {zs : List Int} (h : ∀ n ∈ zs, (Lit.int .u8 n).wf = true) : (zs.map fun n => AV.val (.int .u8 n)) = bys (zs.map fun n => UInt8.ofNat n.toNat) := by
  unfold bys
  rw [List.map_map]
  refine List.map_congr_left fun n hn => ?_
  have h2 : 0 ≤ n ∧ n ≤ 255 := by simpa [Lit.wf, IntKind.min, IntKind.max, IntKind.signed, IntKind.bits] using h n hn
  have h3 : N (UInt8.ofNat n.toNat).toNat = n := by
    rw [UInt8.toNat_ofNat']; unfold N; omega
  show AV.val (.int .u8 n) = .val (.int .u8 (N (UInt8.ofNat n.toNat).toNat))
  rw [h3]
theorem bulk_one {H : Type} (d : DataW H) : 1 ≤ Rows.uptoBulk d := by
  cases d with
  | lit l => cases l <;> simp [Rows.uptoBulk]
  | _ => simp [Rows.uptoBulk]
theorem bulk_len {H : Type} : ∀ l : List (DataW H), l.length ≤ Rows.uptoBulkAll l
  | [] => by simp [Rows.uptoBulkAll]
  | x :: r => by
    have h1 := bulk_one x
    have h2 := bulk_len r
    simp only [Rows.uptoBulkAll, List.length_cons]; omega
theorem bulk_lits' {H : Type} (k : IntKind) (zs : List Int) (rest : List (DataW H)) : zs.length + 1 ≤ Rows.uptoBulk (.slice (lits k zs) rest : DataW H) := by
  have := bulk_len (lits k zs : List (DataW H))
  simp only [lits, List.length_map] at this
  simp only [Rows.uptoBulk, lits]
  omega
section
variable {H : Type} {enc : TypeId × Value → H} {W : World}
/-- bytes -/
theorem rel_bytes0 {v : Value} {d : DataW H} {ps : List MemPlace} {fuel : Nat} (hf : DataW.trod enc Tryz.prog W 0 (fun _ => true) true fuel 24 [v] = some (d, ps)) :
    ∃ l : List UInt8, Rel W (Old W) W.heap.size [] (.sl false 1 (bys l)) v ∧ l.length ≤ Rows.uptoBulk d := by
  have hc : Tryz.prog.cellsOf 5 = 1 := by kernel_rfl
  obtain ⟨zs, k0, k1, k2⟩ := rel_ints0 Tryz.underlying24 Tryz.underlying5 hc hf
  rw [bys_of k1] at k0
  refine ⟨_, k0, ?_⟩
  rw [List.length_map]
  rcases k2 with ⟨_, rfl⟩ | ⟨rest, rfl⟩
  · simp
  · have := bulk_lits' .u8 zs rest; omega
theorem nodeA_one (n : GNode) : ∀ c ∈ (nodeA false n).cells, c.one = true := by
  rw [nodeA_eq]; simp [AV.cells, AV.one, Value.oneCell']
theorem node_fields : ∃ f0 f1 f2 : Field, Tryz.prog.underlying 63 = some (.struct #[f0, f1, f2]) ∧ f0.type = 23 ∧ f0.offset = 0 ∧ f1.type = 24 ∧ f1.offset = 1 ∧ f2.type = 29 ∧ f2.offset = 2 :=
  ⟨_, _, _, Tryz.underlying63, rfl, rfl, rfl, rfl, rfl, rfl⟩
set_option maxRecDepth 100000 in
theorem rel_node0 : ∀ (fuel : Nat),
    (∀ (cs : List Value) (d : DataW H) (ps : List MemPlace), DataW.trod enc Tryz.prog W 0 (fun _ => true) true fuel 63 cs = some (d, ps) → ∃ n : GNode, RelL W (Old W) W.heap.size [] (nodeA false n).cells cs ∧ n.sz ≤ Rows.uptoBulk d ∧ n.tyOk = true) ∧
    (∀ (v : Value) (d : DataW H) (ps : List MemPlace), DataW.trod enc Tryz.prog W 0 (fun _ => true) true fuel 29 [v] = some (d, ps) → ∃ l : List GNode, Rel W (Old W) W.heap.size [] (.sl false 3 (nodesA false l)) v ∧ szs l ≤ Rows.uptoBulk d ∧ tysOk l = true) := by
  have c16 : Tryz.prog.cellsOf 23 = 1 := by kernel_rfl
  have c8 : Tryz.prog.cellsOf 24 = 1 := by kernel_rfl
  have cn : Tryz.prog.cellsOf 29 = 1 := by kernel_rfl
  have c3 : Tryz.prog.cellsOf 63 = 3 := by kernel_rfl
  intro fuel
  induction fuel with
  | zero => exact ⟨fun cs d ps h => by simp [DataW.trod] at h, fun v d ps h => by simp [DataW.trod] at h⟩
  | succ fuel ih =>
    refine ⟨?_, ?_⟩
    · intro cs d ps h
      obtain ⟨f0, f1, f2, hs, a0, b0, a1, b1, a2, b2⟩ := node_fields
      obtain ⟨xs, m, hm, hx, hl, hlen, hall⟩ := DataW.trod_struct hs h
      have hm' : m = fuel := by omega
      subst hm'
      have e0 := hall 0 f0 rfl
      have e1 := hall 1 f1 rfl
      have e2 := hall 2 f2 rfl
      rw [a0, b0, c16] at e0
      rw [a1, b1, c8] at e1
      rw [a2, b2, cn] at e2
      rw [c3] at hl
      match xs, hlen, cs, hl with
      | [y0, y1, y2], _, [v0, v1, v2], _ =>
        simp only [List.drop_zero, List.take_succ_cons, List.take_zero, List.drop_succ_cons, List.getElem?_cons_zero, List.getElem?_cons_succ] at e0 e1 e2
        obtain ⟨n0, h0, hy0, hw0⟩ := DataW.trod_int Tryz.underlying23 e0
        obtain ⟨l1, r1, s1⟩ := rel_bytes0 (d := y1.1) (ps := y1.2) e1
        obtain ⟨l2, r2, s2, t2⟩ := ih.2 v2 y2.1 y2.2 e2
        have hb := int_bounds hw0
        have hn : N n0.toNat = n0 := by
          have : (0 : Int) ≤ n0 := hb.1
          unfold N; omega
        have hle : n0 ≤ 65535 := hb.2
        refine ⟨.mk n0.toNat l1 l2, ?_, ?_, by rw [GNode.tyOk, t2]; simp; omega⟩
        · rw [nodeA_eq]
          simp only [List.cons.injEq, and_true] at h0
          subst h0
          have := Rel.val (w := W) (B := Old W) (bs := W.heap.size) (ρ := []) (.int .u16 (N n0.toNat))
          rw [hn] at this
          exact .cons (by show Rel _ _ _ _ (.val (.int .u16 (N n0.toNat))) _; rw [hn]; exact this) (.cons r1 (.cons r2 .nil))
        · have hd : d = .agg [y0.1, y1.1, y2.1] := congrArg Prod.fst hx
          rw [hd]
          have := bulk_one y0.1
          simp only [GNode.sz, Rows.uptoBulk, Rows.uptoBulkAll]
          omega
    · intro v d ps h
      rcases DataW.trod_slice Tryz.underlying29 h with ⟨h1, h2⟩ | ⟨a, len, cap, elems, rest, m, hm, h1, h2, _, hlc, hcm, hlen, hel, _, _⟩
      · simp only [List.cons.injEq, and_true] at h1
        subst h1
        refine ⟨[], by simpa [nodesA] using Rel.slE false 3 none 0, by simp [szs], rfl⟩
      · have hm' : m = fuel := by omega
        subst hm'
        simp only [List.cons.injEq, and_true] at h1
        subst h1
        rw [c3] at hel
        -- every element is a node
        have each : ∀ i (hi : i < elems.length), ∃ (n : GNode) (cs : List Value), cs.length = 3 ∧ (∀ j, j < 3 → W.cell? ((a.add (i * 3)).add j) = cs[j]?) ∧ RelL W (Old W) W.heap.size [] (nodeA false n).cells cs ∧ n.sz ≤ Rows.uptoBulk elems[i].1 ∧ n.tyOk = true := by
          intro i hi
          have hk := hel i (by omega)
          rw [List.getElem?_eq_getElem hi] at hk
          obtain ⟨cs, hcs, hy⟩ := Option.bind_eq_some_iff.1 hk
          obtain ⟨_, hl3, hcell⟩ := World.cells?_some hcs
          obtain ⟨n, r, s, tt⟩ := ih.1 cs elems[i].1 elems[i].2 hy
          exact ⟨n, cs, hl3, hcell, r, s, tt⟩
        cases hq : elems with
        | nil =>
          rw [hq] at hlen
          simp at hlen
          subst hlen
          exact ⟨[], by simpa [nodesA] using Rel.slE false 3 (some a) cap, by simp [szs], rfl⟩
        | cons x r =>
          have hpos : 0 < elems.length := by rw [hq]; simp
          obtain ⟨n0, cs0, hl0, hc0, _, _, _⟩ := each 0 hpos
          have hcell0 := hc0 0 (by omega)
          simp only [Nat.zero_mul] at hcell0
          rw [List.getElem?_eq_getElem (by omega)] at hcell0
          have hsp : a.spot = none := addr_of_cell (show W.cell? a = _ from hcell0)
          obtain ⟨b, o, sp⟩ := a
          simp only at hsp
          subst hsp
          have hblk : b < W.heap.size := by
            have := World.block_lt_of_cell? W _ hcell0
            simpa [Addr.add] using this
          have rows : ∀ k, k ≤ elems.length → ∃ l : List GNode, l.length = k ∧ RelRow W (Old W) W.heap.size [] false b 3 (o + (elems.length - k) * 3) (nodesA false l) ∧ szs l ≤ Rows.uptoBulkAll ((elems.drop (elems.length - k)).map (·.1)) ∧ tysOk l = true := by
            intro k
            induction k with
            | zero => exact fun _ => ⟨[], rfl, by simpa [nodesA] using RelRow.nil, by simp [szs], rfl⟩
            | succ k ihk =>
              intro hk
              obtain ⟨l, p1, p2, p3, p4⟩ := ihk (by omega)
              have hi : elems.length - (k + 1) < elems.length := by omega
              obtain ⟨n, cs, q1, q2, q3, q4, q5⟩ := each _ hi
              have hd : elems.drop (elems.length - (k + 1)) = elems[elems.length - (k + 1)] :: elems.drop (elems.length - k) := by
                rw [List.drop_eq_getElem_cons hi, show elems.length - (k + 1) + 1 = elems.length - k by omega]
              refine ⟨n :: l, by simp [p1], ?_, ?_, by rw [tysOk, q5, p4]; rfl⟩
              · rw [nodesA_cons]
                refine .cons (RelCells.mk (B := Old W) (bs := W.heap.size) (nw := false) hblk (fun h => by cases h) q3 (nodeA_one n) ?_) (by rw [nodeA_eq]; rfl) ?_
                · intro j v hj
                  have hj3 : j < 3 := by rw [← q1]; exact (List.getElem?_eq_some_iff.1 hj).1
                  have := q2 j hj3
                  rw [addr_add, addr_add] at this
                  rw [this, hj]
                · have e : o + (elems.length - (k + 1)) * 3 + 3 = o + (elems.length - k) * 3 := by omega
                  rw [e]; exact p2
              · rw [hd]
                simp only [szs, List.map_cons, Rows.uptoBulkAll]
                omega
          obtain ⟨l, p1, p2, p3, p4⟩ := rows elems.length (Nat.le_refl _)
          rw [Nat.sub_self] at p2 p3
          have hd : d = .slice (elems.map (·.1)) (rest.map (·.1)) := congrArg Prod.fst h2
          refine ⟨l, ?_, ?_, p4⟩
          · match l, p1 with
            | n :: l, p1 =>
              rw [nodesA_cons] at p2 ⊢
              have := Rel.sl (cap := cap) (by simpa using p2) (by rw [nodesA_len]; simp at p1; omega)
              rw [nodesA_len] at this
              have e : l.length + 1 = len := by simp at p1; omega
              rw [e] at this
              exact this
            | [], p1 => simp at p1; omega
          · rw [hd]
            simp only [Rows.uptoBulk, List.drop_zero] at *
            omega
end
end Go.Proofs.YtoapdhogghbojaaGreatDoor.C
/- What a datum of numbers and texts says of the cells that read as it. -/
set_option linter.unusedVariables false
set_option linter.unusedSimpArgs false
namespace Go.Proofs.YtoapdhogghbojaaGreatDoor.C
mutual
def flatD : DataW Unit → List Value
  | .lit (.int k n) => [.int k n]
  | .lit (.string s) => [.string ⟨s.toArray⟩]
  | .agg ps => flatDs ps
  | _ => []
def flatDs : List (DataW Unit) → List Value
  | [] => []
  | d :: r => flatD d ++ flatDs r
end
theorem flatDs_flatMap : ∀ l : List (DataW Unit), flatDs l = l.flatMap flatD
  | [] => rfl
  | d :: r => by rw [flatDs, flatDs_flatMap r, List.flatMap_cons]
section
variable {P : Program} {W : World}
/-- what reads as a datum is its cells -/
def Flat (P : Program) (W : World) (t : TypeId) : Prop := ∀ (fuel : Nat) (cs : List Value) (x : DataW Unit × List MemPlace), DataW.trod (fun _ => ()) P W 0 (fun _ => true) false fuel t cs = some x → cs = flatD x.1
theorem flat_int {t : TypeId} {k : IntKind} (h : P.underlying t = some (.int k)) : Flat P W t := by
  intro fuel cs x hx
  obtain ⟨n, rfl, rfl, _⟩ := DataW.trod_int h hx
  rfl
theorem flat_string {t : TypeId} (h : P.underlying t = some .string) : Flat P W t := by
  intro fuel cs x hx
  obtain ⟨s, rfl, rfl, _⟩ := DataW.trod_string h hx
  simp [flatD]
theorem blocks_flat (f : DataW Unit × List MemPlace → List Value) (m : Nat) : ∀ (xs : List (DataW Unit × List MemPlace)) (cs : List Value), cs.length = xs.length * m → (∀ i x, xs[i]? = some x → (cs.drop (i * m)).take m = f x) → cs = xs.flatMap f
  | [], cs, h, _ => by simpa using h
  | x :: r, cs, h, hk => by
    have h0 := hk 0 x rfl
    rw [Nat.zero_mul, List.drop_zero] at h0
    have ih := blocks_flat f m r (cs.drop m) (by rw [List.length_drop, h, List.length_cons, Nat.succ_mul]; omega) fun i y hy => by
      have := hk (i + 1) y hy
      rwa [Nat.succ_mul, Nat.add_comm, ← List.drop_drop] at this
    rw [List.flatMap_cons, ← h0, ← ih, List.take_append_drop]
theorem flat_of_parts {xs : List (DataW Unit × List MemPlace)} : flatD (.agg (xs.map (·.1))) = xs.flatMap fun x => flatD x.1 := by
  rw [flatD, flatDs_flatMap, List.flatMap_map]
theorem flat_array {t e : TypeId} {n : Nat} (ht : P.underlying t = some (.array n e)) (hc : P.cellsOf t = n * P.cellsOf e) (he : Flat P W e) : Flat P W t := by
  intro fuel cs x hx
  obtain ⟨xs, m, rfl, rfl, hl, hn, hk⟩ := DataW.trod_array ht hx
  show cs = flatD (.agg (xs.map (·.1)))
  rw [flat_of_parts]
  refine blocks_flat _ (P.cellsOf e) xs cs (by rw [hl, hc, hn]) fun i y hy => ?_
  have hi : i < n := by rw [← hn]; exact (List.getElem?_eq_some_iff.1 hy).1
  have := hk i hi
  rw [hy] at this
  exact he _ _ _ this
theorem flat_struct {t : TypeId} {fs : Array Field} (ht : P.underlying t = some (.struct fs)) (hc : P.cellsOf t = fs.size) (hf : ∀ (i : Nat) (f : Field), fs[i]? = some f → f.offset = i ∧ P.cellsOf f.type = 1 ∧ Flat P W f.type) : Flat P W t := by
  intro fuel cs x hx
  obtain ⟨xs, m, rfl, rfl, hl, hn, hk⟩ := DataW.trod_struct ht hx
  show cs = flatD (.agg (xs.map (·.1)))
  rw [flat_of_parts]
  refine blocks_flat _ 1 xs cs (by rw [hl, hc, hn, Nat.mul_one]) fun i y hy => ?_
  have hi : i < fs.size := by rw [← hn]; exact (List.getElem?_eq_some_iff.1 hy).1
  obtain ⟨h1, h2, h3⟩ := hf i fs[i] (Array.getElem?_eq_getElem hi)
  have := hk i fs[i] (Array.getElem?_eq_getElem hi)
  rw [hy, h1, h2] at this
  rw [Nat.mul_one]
  exact h3 _ _ _ this
/-- a listed variable's cells -/
theorem laid_cells {l : List (String × DataW Unit)} (h : laidMet P l W) {n : String} {d : DataW Unit} {g : Nat} {t : TypeId} {L : List Value} (hm : (n, d) ∈ l) (hg : P.globalNamed n = some g) (ht : (P.globals[g]?).map (·.type) = some t) (hf : Flat P W t) (hd : flatD d = L) :
    ∀ (i : Nat) (v : Value), L[i]? = some v → W.cell? ⟨g, i, none⟩ = some v := by
  obtain ⟨ps, hv, _⟩ := h
  have key : ∀ {l : List (String × DataW Unit)} {ps : List MemPlace}, DataW.LaidVars P W l ps → (n, d) ∈ l → ∃ cs fuel p, W.var? P n = some cs ∧ DataW.trod (fun _ => ()) P W 0 (fun _ => true) false fuel t cs.toList = some (d, p) := by
    intro l
    induction l with
    | nil => intro ps _ hm; cases hm
    | cons y r ih =>
      intro ps hv hm
      obtain ⟨g', t', cs, fuel, p, q, h1, h2, h3, h4, h5, _⟩ := hv
      rcases List.mem_cons.1 hm with e | e
      · cases e
        obtain rfl := Option.some.inj (hg.symm.trans h1)
        obtain rfl := Option.some.inj (ht.symm.trans h2)
        exact ⟨cs, fuel, p, h3, h4⟩
      · exact ih h5 e
  obtain ⟨cs, fuel, p, h1, h2⟩ := key hv hm
  have h3 : cs.toList = L := (hf _ _ _ h2).trans hd
  intro i v hi
  rw [World.var?_cell hg h1 i, ← Array.getElem?_toList, h3]
  exact hi
end
end Go.Proofs.YtoapdhogghbojaaGreatDoor.C
/- What the rows' list of package-level variables gives: the tables of kinds, the cell of errors.errorType; a world that meets the list. -/
set_option linter.unusedVariables false
set_option linter.unusedSimpArgs false
namespace Go.Proofs.YtoapdhogghbojaaGreatDoor.C
open Go.Abs Go.ChangeShapes Go.WideShapes Go.ChangeAt Go.RowKit
def laidL : List (String × DataW Unit) := [("errors.errorType", Rows.laid_errors_errorType), ("wharf/kind.table", Rows.laid_wharf_kind_table), ("wharf/kind.inside", Rows.laid_wharf_kind_inside)]
def etCells : List Value := [.iface 216 (.agg #[.pointer (some ⟨3, 41, none⟩)])]
theorem etG : Tryz.prog.globalNamed "errors.errorType" = some 2 := by kernel_rfl
theorem etRt : (Tryz.prog.cutTypes.find? (·.1 == "internal/reflectlite.rtype")).map (·.2) = some 216 := by kernel_rfl
theorem etRow : ((List.range Tryz.prog.types.size).filter fun t => Tryz.prog.rowNamed t [101, 114, 114, 111, 114]) = [41] := by kernel_rfl
theorem etHandle : typeHandle Tryz.prog 41 = .pointer (some ⟨3, 41, none⟩) := by kernel_rfl
theorem laid_parts {W : World} (h : laidMetH Tryz.prog laidL W) : laidMet Tryz.prog [("wharf/kind.table", Rows.laid_wharf_kind_table), ("wharf/kind.inside", Rows.laid_wharf_kind_inside)] W ∧ handlesMet Tryz.prog [("errors.errorType", Rows.laid_errors_errorType)] W := h
theorem handle_of_laid {W : World} (h : laidMetH Tryz.prog laidL W) : W.cell? ⟨2, 0, none⟩ = some (.iface 216 (.agg #[.pointer (some ⟨3, 41, none⟩)])) := by
  have h' := laid_parts h
  obtain ⟨name, u, ty, e1, e2, e3, e4, e5⟩ := h'.2 _ (List.mem_singleton.2 rfl)
  have en : name = [101, 114, 114, 111, 114] := (Option.some.inj e1).symm
  subst en
  obtain rfl := Option.some.inj (etRt.symm.trans e2)
  have hm : ty ∈ (List.range Tryz.prog.types.size).filter fun t => Tryz.prog.rowNamed t [101, 114, 114, 111, 114] := List.mem_filter.2 ⟨List.mem_range.2 e3, e4⟩
  rw [etRow] at hm
  obtain rfl := List.mem_singleton.1 hm
  rw [etHandle] at e5
  simpa using World.var?_cell etG e5 0
theorem cell_lt {W : World} {b i : Nat} {v : Value} (h : W.cell? ⟨b, i, none⟩ = some v) : b < W.heap.size := by
  rcases Nat.lt_or_ge b W.heap.size with h' | h'
  · exact h'
  · simp [World.cell?, Array.getElem?_eq_none h'] at h
theorem flat_kinds (W : World) : Flat Tryz.prog W 141 := by
  have h1 : Flat Tryz.prog W 5 := flat_int Tryz.underlying5
  have h2 : Flat Tryz.prog W 3 := flat_int Tryz.underlying3
  have h3 : Flat Tryz.prog W 9 := flat_string Tryz.underlying9
  refine flat_array Tryz.underlying141 (by kernel_rfl) (flat_struct Tryz.underlying89 (by kernel_rfl) fun i f hf => ?_)
  match i, hf with
  | 0, hf => simp at hf; subst hf; exact ⟨rfl, by kernel_rfl, h1⟩
  | 1, hf => simp at hf; subst hf; exact ⟨rfl, by kernel_rfl, h3⟩
  | 2, hf => simp at hf; subst hf; exact ⟨rfl, by kernel_rfl, h1⟩
  | 3, hf => simp at hf; subst hf; exact ⟨rfl, by kernel_rfl, h2⟩
  | 4, hf => simp at hf; subst hf; exact ⟨rfl, by kernel_rfl, h2⟩
  | 5, hf => simp at hf; subst hf; exact ⟨rfl, by kernel_rfl, h2⟩
  | 6, hf => simp at hf; subst hf; exact ⟨rfl, by kernel_rfl, h2⟩
  | i + 7, hf => simp at hf
theorem flat_inside (W : World) : Flat Tryz.prog W 144 :=
  flat_array Tryz.underlying144 (by kernel_rfl) (flat_array Tryz.underlying143 (by kernel_rfl) (flat_int Tryz.underlying3))
theorem cells_table {W : World} (h : laidMetH Tryz.prog laidL W) : GlobC W 0 kcells :=
  laid_cells (laid_parts h).1 (.head _) (by kernel_rfl) (by kernel_rfl) (flat_kinds W) (by kernel_rfl)
theorem cells_inside {W : World} (h : laidMetH Tryz.prog laidL W) : GlobC W 1 icells :=
  laid_cells (laid_parts h).1 (.tail _ (.head _)) (by kernel_rfl) (by kernel_rfl) (flat_inside W) (by kernel_rfl)
theorem cells_et {W : World} (h : laidMetH Tryz.prog laidL W) : GlobC W 2 etCells := by
  intro i v hi
  match i with
  | 0 => simp [etCells] at hi; subst hi; exact handle_of_laid h
  | i + 1 => simp [etCells] at hi
theorem glb_eq : glb = [(0, kcells), (1, icells), (2, etCells)] := by kernel_rfl
theorem globs_of_laid {W : World} (h : laidMetH Tryz.prog laidL W) : Globs W (Old W) [] := by
  intro p hp
  rw [glb_eq] at hp
  simp only [List.mem_cons, List.not_mem_nil, or_false] at hp
  rcases hp with rfl | rfl | rfl
  · exact ⟨cell_lt (cells_table h 0 _ rfl), fun v hv => (by cases hv), cells_table h⟩
  · exact ⟨cell_lt (cells_inside h 0 _ rfl), fun v hv => (by cases hv), cells_inside h⟩
  · exact ⟨cell_lt (handle_of_laid h), fun v hv => (by cases hv), cells_et h⟩
def setCells (cs : List Value) : Obj → Obj
  | .cells _ t frozen => .cells cs.toArray t frozen
  | o => o
noncomputable def laidWorld (os : Os) : World :=
  let w0 := World.holding Tryz.prog os ⟨#[], #[], []⟩
  { w0 with heap := ((w0.heap.modify 0 (setCells kcells)).modify 1 (setCells icells)).modify 2 (setCells etCells) }
theorem laid_met (os : Os) (args : Array Value) : laidMetH Tryz.prog laidL ((laidWorld os).forCall (fun _ _ => 0) ⟨#[], args, []⟩).memory :=
  laidMetH_of_parts (laidMet_of_run' 8 (by kernel_rfl) (by kernel_rfl)) (by kernel_rfl)
end Go.Proofs.YtoapdhogghbojaaGreatDoor.C
/- Chunks, read. -/
set_option linter.unusedVariables false
set_option linter.unusedSimpArgs false
namespace Go.Proofs.YtoapdhogghbojaaGreatDoor.C
open Go.Abs Go.ChangeShapes Go.WideShapes Go.ChangeAt Go.RowKit
section
variable {H : Type} {enc : TypeId × Value → H} {W : World}
theorem chunk_fields : ∃ f0 f1 f2 f3 : Field, Tryz.prog.underlying 31 = some (.struct #[f0, f1, f2, f3]) ∧ f0.type = 5 ∧ f0.offset = 0 ∧ f1.type = 5 ∧ f1.offset = 1 ∧ f2.type = 24 ∧ f2.offset = 2 ∧ f3.type = 29 ∧ f3.offset = 3 :=
  ⟨_, _, _, _, Tryz.underlying31, rfl, rfl, rfl, rfl, rfl, rfl, rfl, rfl⟩
theorem val_u8 {n : Int} (h : (Lit.int .u8 n).wf = true) : ∃ m : Nat, m < 256 ∧ Rel W (Old W) W.heap.size [] (u8 m) (.int .u8 n) := by
  obtain ⟨m, rfl, hm⟩ := u8_of h
  exact ⟨m, hm, .val _⟩
set_option maxRecDepth 100000 in
/-- a chunk, read -/
theorem rel_chunk {r : Reach} {b0 : Nat} {v : Value} {d : DataW H} {ps : List MemPlace} (hval : Value.okWide Tryz.prog W r b0 31 v) (hd : DataW.Trod enc Tryz.prog W 0 (fun _ => true) true 31 v d ps) :
    ∃ c : GChunk, Rel W (Old W) W.heap.size [] (chunkA false c) v ∧ (c.ty < 256 ∧ c.flags < 256 ∧ tysOk c.kids = true) ∧ c.data.length + szs c.kids ≤ Rows.uptoBulk d := by
  have c8 : Tryz.prog.cellsOf 5 = 1 := by kernel_rfl
  have cb : Tryz.prog.cellsOf 24 = 1 := by kernel_rfl
  have cn : Tryz.prog.cellsOf 29 = 1 := by kernel_rfl
  have c4 : Tryz.prog.cellsOf 31 = 4 := by kernel_rfl
  obtain ⟨f0, f1, f2, f3, hs, a0, b0, a1, b1, a2, b2, a3, b3⟩ := chunk_fields
  obtain ⟨cs, rfl, _⟩ := okWide_struct hs hval
  obtain ⟨fuel, hf⟩ := hd
  obtain ⟨xs, m, rfl, hx, hl, hlen, hall⟩ := DataW.trod_struct hs hf
  have e0 := hall 0 f0 rfl
  have e1 := hall 1 f1 rfl
  have e2 := hall 2 f2 rfl
  have e3 := hall 3 f3 rfl
  rw [a0, b0, c8] at e0
  rw [a1, b1, c8] at e1
  rw [a2, b2, cb] at e2
  rw [a3, b3, cn] at e3
  rw [c4] at hl
  obtain ⟨cs⟩ := cs
  match xs, hlen, cs, hl with
  | [y0, y1, y2, y3], _, [v0, v1, v2, v3], _ =>
    simp only [Value.cells, List.drop_zero, List.take_succ_cons, List.take_zero, List.drop_succ_cons, List.getElem?_cons_zero, List.getElem?_cons_succ] at e0 e1 e2 e3
    obtain ⟨n0, h0, hy0, hw0⟩ := DataW.trod_int Tryz.underlying5 e0
    obtain ⟨n1, h1, hy1, hw1⟩ := DataW.trod_int Tryz.underlying5 e1
    obtain ⟨l2, r2, s2⟩ := rel_bytes0 (d := y2.1) (ps := y2.2) e2
    obtain ⟨l3, r3, s3, t3⟩ := (rel_node0 m).2 v3 y3.1 y3.2 e3
    obtain ⟨m0, z0, q0⟩ := val_u8 (W := W) hw0
    obtain ⟨m1, z1, q1⟩ := val_u8 (W := W) hw1
    simp only [List.cons.injEq, and_true] at h0 h1
    subst h0; subst h1
    refine ⟨⟨m0, m1, l2, l3⟩, ?_, ⟨z0, z1, t3⟩, ?_⟩
    · exact Rel.agg (l := [u8 m0, u8 m1, .sl false 1 (bys l2), .sl false 3 (nodesA false l3)]) (.cons q0 (.cons q1 (.cons r2 (.cons r3 .nil))))
    · have hd : d = .agg [y0.1, y1.1, y2.1, y3.1] := congrArg Prod.fst hx
      rw [hd]
      simp only [Rows.uptoBulk, Rows.uptoBulkAll]
      omega
end
end Go.Proofs.YtoapdhogghbojaaGreatDoor.C
/- Lists of numbers, read. -/
set_option linter.unusedVariables false
set_option linter.unusedSimpArgs false
namespace Go.Proofs.YtoapdhogghbojaaGreatDoor.C
open Go.Abs Go.ChangeShapes Go.WideShapes Go.ChangeAt Go.RowKit
section
variable {H : Type} {enc : TypeId × Value → H} {W : World}
end
end Go.Proofs.YtoapdhogghbojaaGreatDoor.C
/- The numbers of an initial chunk, read. -/
set_option linter.unusedVariables false
set_option linter.unusedSimpArgs false
namespace Go.Proofs.YtoapdhogghbojaaGreatDoor.C
open Go.Abs Go.ChangeShapes Go.WideShapes Go.ChangeAt Go.RowKit
section
variable {H : Type} {enc : TypeId × Value → H} {W : World}
theorem val_u16 {n : Int} (h : (Lit.int .u16 n).wf = true) : ∃ m : Nat, m < 2 ^ 16 ∧ Rel W (Old W) W.heap.size [] (u16 m) (.int .u16 n) := by
  obtain ⟨m, rfl, hm⟩ := u16_of h
  exact ⟨m, hm, .val _⟩
theorem val_u32 {n : Int} (h : (Lit.int .u32 n).wf = true) : ∃ m : Nat, m < 2 ^ 32 ∧ Rel W (Old W) W.heap.size [] (u32 m) (.int .u32 n) := by
  obtain ⟨m, rfl, hm⟩ := u32_of h
  exact ⟨m, hm, .val _⟩
end
end Go.Proofs.YtoapdhogghbojaaGreatDoor.C
/- Lists of any elements, read; lists of chunks. -/
set_option linter.unusedVariables false
set_option linter.unusedSimpArgs false
namespace Go.Proofs.YtoapdhogghbojaaGreatDoor.C
open Go.Abs Go.ChangeShapes Go.WideShapes Go.ChangeAt Go.RowKit
section
variable {H : Type} {enc : TypeId × Value → H} {W : World}
end
end Go.Proofs.YtoapdhogghbojaaGreatDoor.C
/- Descriptions of data, read. -/
set_option linter.unusedVariables false
set_option linter.unusedSimpArgs false
namespace Go.Proofs.YtoapdhogghbojaaGreatDoor.C
open Go.Abs Go.ChangeShapes Go.WideShapes Go.ChangeAt Go.RowKit
def partSz (p : GPart) : Nat := p.user.length + 1
section
variable {H : Type} {enc : TypeId × Value → H} {W : World}
theorem part_fields : ∃ f0 f1 f2 f3 f4 f5 f6 f7 f8 f9 : Field, Tryz.prog.underlying 26 = some (.struct #[f0, f1, f2, f3, f4, f5, f6, f7, f8, f9]) ∧ f0.type = 4 ∧ f0.offset = 0 ∧ f1.type = 22 ∧ f1.offset = 1 ∧ f2.type = 23 ∧ f2.offset = 2 ∧ f3.type = 22 ∧ f3.offset = 3 ∧ f4.type = 22 ∧ f4.offset = 4 ∧ f5.type = 4 ∧ f5.offset = 5 ∧ f6.type = 4 ∧ f6.offset = 6 ∧ f7.type = 4 ∧ f7.offset = 7 ∧ f8.type = 4 ∧ f8.offset = 8 ∧ f9.type = 24 ∧ f9.offset = 9 :=
  ⟨_, _, _, _, _, _, _, _, _, _, Tryz.underlying26, rfl, rfl, rfl, rfl, rfl, rfl, rfl, rfl, rfl, rfl, rfl, rfl, rfl, rfl, rfl, rfl, rfl, rfl, rfl, rfl⟩
set_option maxRecDepth 100000 in
set_option maxHeartbeats 1000000 in
theorem rel_part0 {fuel : Nat} (cs : List Value) (d : DataW H) (ps : List MemPlace) (hf : DataW.trod enc Tryz.prog W 0 (fun _ => true) true fuel 26 cs = some (d, ps)) :
    ∃ p : GPart, RelL W (Old W) W.heap.size [] (partA false p).cells cs ∧ partSz p ≤ Rows.uptoBulk d ∧ partIn p := by
  have c32 : Tryz.prog.cellsOf 22 = 1 := by kernel_rfl
  have c16 : Tryz.prog.cellsOf 23 = 1 := by kernel_rfl
  have cbo : Tryz.prog.cellsOf 4 = 1 := by kernel_rfl
  have cby : Tryz.prog.cellsOf 24 = 1 := by kernel_rfl
  have ct : Tryz.prog.cellsOf 26 = 10 := by kernel_rfl
  obtain ⟨f0, f1, f2, f3, f4, f5, f6, f7, f8, f9, hs, a0, b0, a1, b1, a2, b2, a3, b3, a4, b4, a5, b5, a6, b6, a7, b7, a8, b8, a9, b9⟩ := part_fields
  obtain ⟨xs, m, hm, hx, hl, hlen, hall⟩ := DataW.trod_struct hs hf
  have e0 := hall 0 f0 rfl
  have e1 := hall 1 f1 rfl
  have e2 := hall 2 f2 rfl
  have e3 := hall 3 f3 rfl
  have e4 := hall 4 f4 rfl
  have e5 := hall 5 f5 rfl
  have e6 := hall 6 f6 rfl
  have e7 := hall 7 f7 rfl
  have e8 := hall 8 f8 rfl
  have e9 := hall 9 f9 rfl
  rw [a0, b0, cbo] at e0
  rw [a1, b1, c32] at e1
  rw [a2, b2, c16] at e2
  rw [a3, b3, c32] at e3
  rw [a4, b4, c32] at e4
  rw [a5, b5, cbo] at e5
  rw [a6, b6, cbo] at e6
  rw [a7, b7, cbo] at e7
  rw [a8, b8, cbo] at e8
  rw [a9, b9, cby] at e9
  rw [ct] at hl
  match xs, hlen, cs, hl with
  | [y0, y1, y2, y3, y4, y5, y6, y7, y8, y9], _, [v0, v1, v2, v3, v4, v5, v6, v7, v8, v9], _ =>
    simp only [List.drop_zero, List.take_succ_cons, List.take_zero, List.drop_succ_cons, List.getElem?_cons_zero, List.getElem?_cons_succ] at e0 e1 e2 e3 e4 e5 e6 e7 e8 e9
    obtain ⟨n0, h0, hy0⟩ := DataW.trod_bool Tryz.underlying4 e0
    obtain ⟨n1, h1, hy1, hw1⟩ := DataW.trod_int Tryz.underlying22 e1
    obtain ⟨n2, h2, hy2, hw2⟩ := DataW.trod_int Tryz.underlying23 e2
    obtain ⟨n3, h3, hy3, hw3⟩ := DataW.trod_int Tryz.underlying22 e3
    obtain ⟨n4, h4, hy4, hw4⟩ := DataW.trod_int Tryz.underlying22 e4
    obtain ⟨n5, h5, hy5⟩ := DataW.trod_bool Tryz.underlying4 e5
    obtain ⟨n6, h6, hy6⟩ := DataW.trod_bool Tryz.underlying4 e6
    obtain ⟨n7, h7, hy7⟩ := DataW.trod_bool Tryz.underlying4 e7
    obtain ⟨n8, h8, hy8⟩ := DataW.trod_bool Tryz.underlying4 e8
    obtain ⟨l9, r9, s9⟩ := rel_bytes0 (d := y9.1) (ps := y9.2) e9
    obtain ⟨m1, z1, q1⟩ := val_u32 (W := W) hw1
    obtain ⟨m2, z2, q2⟩ := val_u16 (W := W) hw2
    obtain ⟨m3, z3, q3⟩ := val_u32 (W := W) hw3
    obtain ⟨m4, z4, q4⟩ := val_u32 (W := W) hw4
    simp only [List.cons.injEq, and_true] at h0 h1 h2 h3 h4 h5 h6 h7 h8
    subst h0; subst h1; subst h2; subst h3; subst h4; subst h5; subst h6; subst h7; subst h8
    refine ⟨⟨n0, m1, m2, m3, m4, n5, n6, n7, n8, l9⟩, (.cons (.val _) (.cons q1 (.cons q2 (.cons q3 (.cons q4 (.cons (.val _) (.cons (.val _) (.cons (.val _) (.cons (.val _) (.cons r9 .nil)))))))))), ?_, ⟨z1, z2, z3, z4⟩⟩
    have hd : d = .agg [y0.1, y1.1, y2.1, y3.1, y4.1, y5.1, y6.1, y7.1, y8.1, y9.1] := congrArg Prod.fst hx
    have hb0 := bulk_one y0.1
    have hb1 := bulk_one y1.1
    have hb2 := bulk_one y2.1
    have hb3 := bulk_one y3.1
    have hb4 := bulk_one y4.1
    have hb5 := bulk_one y5.1
    have hb6 := bulk_one y6.1
    have hb7 := bulk_one y7.1
    have hb8 := bulk_one y8.1
    rw [hd]
    simp only [partSz, Rows.uptoBulk, Rows.uptoBulkAll]
    omega
set_option maxRecDepth 100000 in
theorem rel_part {r : Reach} {b0 : Nat} {v : Value} {d : DataW H} {ps : List MemPlace} (hval : Value.okWide Tryz.prog W r b0 26 v) (hd : DataW.Trod enc Tryz.prog W 0 (fun _ => true) true 26 v d ps) :
    ∃ p : GPart, Rel W (Old W) W.heap.size [] (partA false p) v ∧ partIn p ∧ partSz p ≤ Rows.uptoBulk d := by
  obtain ⟨f0, f1, f2, f3, f4, f5, f6, f7, f8, f9, hs, _⟩ := part_fields
  obtain ⟨cs, rfl, _⟩ := okWide_struct hs hval
  obtain ⟨fuel, hf⟩ := hd
  obtain ⟨p, h1, h2, h3⟩ := rel_part0 _ d ps hf
  refine ⟨p, ?_, h3, h2⟩
  have := Rel.agg h1
  simpa [partA, AV.cells, Value.cells] using this
end
end Go.Proofs.YtoapdhogghbojaaGreatDoor.C
