/- wire: contracts. -/
import Derived.Test.YtokbbdodbjiciaaGreatDoorM1
import Derived.Lib.ConvBytes
import Derived.Lib.AppendZerosOnto
import Derived.Laws.Append
import Derived.Laws.Externs
import GoSem.Extern.ReflectliteValue
import Derived.KernelRfl
set_option linter.unusedVariables false
set_option linter.unusedSimpArgs false
namespace Go.Proofs.YtokbbdodbjiciaaGreatDoor.C
open Go.Abs
theorem wire_right (k : Nat) : PC Tryz.prog 158 [nat k] (.val (.bool (k == 1 || k == 2 || k == 4))) := by
  refine PC.of_bodyW (by simp only [push_cast]) Tryz.func158 rfl (by rw [Tryz.ntmps158]; simp) ?_
  refine AWp.regionW ?_
  refine AWp.regionA fun K1 hK1 => ?_
  refine ARun.segm 3 fun KS hKS => ?_
  refine ARun2.endm (hKS _ ?_); clear hKS KS
  apply ARun.grpM 2 2 false 7 [0, 5]
  · intro g2 KG hKG
    refine ARun2.gom ?_
    exact ARun2.endm (hKG _ Le.grpM)
  refine ARun.segm 2 fun KS hKS => ?_
  refine ARun2.endm (hKS _ ?_); clear hKS KS
  apply ARun.grpM 2 6 false 11 [9]
  · intro g6 KG hKG
    refine ARun2.gom ?_
    exact ARun2.endm (hKG _ Le.grpM)
  refine ARun2.gom ?_
  refine ARun2.endm (hK1 _ ?_)
  refine AWp.ret ?_
  try simp only [thenQ, blockQ, noGo]
  refine bodyQ.m ?_
  clear hK1 K1
  simp only [Bool.or_assoc]
  first | done | exact Hand.go
def putB (k : Nat) (x : Nat) : List UInt8 := (List.range k).reverse.map fun i => UInt8.ofNat (x / 256 ^ i)
theorem putB_len (k x : Nat) : (putB k x).length = k := by simp [putB]
theorem putB_take (k x j : Nat) (hj : j < k) : (putB k x).take (k - j) = (putB k x).take (k - (j + 1)) ++ [UInt8.ofNat (x / 256 ^ j)] := by
  have hlt : k - (j + 1) < (putB k x).length := by rw [putB_len]; omega
  rw [show k - j = (k - (j + 1)) + 1 by omega, List.take_succ_eq_append_getElem hlt]
  congr 2
  simp only [putB, List.getElem_map, List.getElem_reverse, List.getElem_range, List.length_range]
  rw [show k - 1 - (k - (j + 1)) = j by omega]
theorem put_byte (x j : Nat) (hj : j < 4) : IntKind.u8.wrap ((N x).fdiv (2 ^ min (8 * j) IntKind.u32.bits)) = N (UInt8.ofNat (x / 256 ^ j)).toNat := by
  have h2 : IntKind.u32.bits = 32 := rfl
  unfold N
  rw [h2, Nat.min_eq_left (by omega), IntKind.wrap_u8]
  have h3 : (2 : Int) ^ (8 * j) = ((256 ^ j : Nat) : Int) := by
    rw [show (256 : Nat) = 2 ^ 8 from rfl, ← Nat.pow_mul]
    simp
  rw [h3]
  have h4 : (x : Int).fdiv ((256 ^ j : Nat) : Int) = ((x / 256 ^ j : Nat) : Int) := by
    rw [Int.fdiv_eq_ediv_of_nonneg _ (Int.natCast_nonneg _)]; rfl
  rw [h4]
  simp [UInt8.toNat_ofNat']
theorem flat_len2 (k : Nat) (l : List Nat) : (l.flatMap (putB k)).length = l.length * k := by
  induction l with
  | nil => simp
  | cons x l ih => rw [List.flatMap_cons, List.length_append, putB_len, ih, List.length_cons, Nat.add_mul]; omega
theorem bys_snoc (l : List UInt8) (b : UInt8) : bys l ++ [.val (.int .u8 (N b.toNat))] = bys (l ++ [b]) := by simp [bys]
abbrev u32 (n : Nat) : AV := .val (.int .u32 (N n))
attribute [push_cast] u32
def u32s (l : List Nat) : List AV := l.map u32
@[push_cast] theorem u32s_hand (ids : List Nat) (l : List Nat) : AV.handL ids (u32s l) = u32s l := by
  rw [AV.handL_map]; simp [u32s, AV.hand]
@[push_cast] theorem u32s_len (l : List Nat) : (u32s l).length = l.length := by simp [u32s]
theorem u32s_get (l : List Nat) (i : Nat) : (u32s l)[i]? = l[i]?.map u32 := by simp [u32s]
@[push_cast] theorem u32s_pl (l : List Nat) : AV.plL (u32s l) = true := by
  rw [AV.plL_iff]; intro x hx; simp only [u32s, List.mem_map] at hx; obtain ⟨b, _, rfl⟩ := hx; rfl
@[push_cast] theorem u32s_ids (p : Nat → Bool) (l : List Nat) : AV.idsOkL p (u32s l) = true := by
  rw [AV.idsOkL_iff]; intro x hx; simp only [u32s, List.mem_map] at hx; obtain ⟨b, _, rfl⟩ := hx; rfl
theorem N_pred (j : Nat) : N (j + 1) - 1 = N j := by unfold N; omega
theorem N_pred0 (k : Nat) (h : 1 ≤ k) : N (k - 1) = N k - 1 := by unfold N; omega
theorem N_ge (j : Nat) : (0 ≤ N j - 1) = (1 ≤ j) := by rw [eq_iff_iff]; unfold N; omega
theorem wire_put (k : Nat) (l : List Nat) (hk : k = 1 ∨ k = 2 ∨ k = 4) (hl : ∀ x ∈ l, x < 2 ^ 32) (hn : l.length ≤ 2 ^ 30) :
    PC Tryz.prog 123 [nat k, .sl false 1 (u32s l)] (.sl true 1 (bys (l.flatMap (putB k)))) := by
  have hr : (k == 1 || k == 2 || k == 4) = true := by rcases hk with rfl | rfl | rfl <;> rfl
  refine PC.of_body (by simp only [push_cast]) Tryz.func123 rfl (by rw [Tryz.ntmps123]; simp) ?_
  refine AWp.regionW ?_
  refine AWp.seqK fun K1 hK1 => ?_
  refine AWp.regionM fun K2 hK2 => ?_
  refine ARun2.callM (wire_right k) ?_
  refine ARun2.endm (hK2 _ ?_)
  refine AWp.condF ?_ (by simp only [push_cast, ↓reduceIte, Nat.reduceEqDiff, Nat.reduceLT, Nat.reduceAdd, Nat.reduceSub, Nat.reduceMul, Nat.reduceLeDiff, Nat.reducePow, Int.reduceLT, Int.reduceToNat, reduceCtorEq, Int.reduceNeg, Int.reduceEq, Nat.reduceBEq, Nat.reduceBNe, Int.reduceBEq, Int.reduceBNe, String.reduceEq, hr])
  refine AWp.skip ?_
  refine hK1 _ ?_
  refine AWp.regionW ?_
  refine AWp.seqK fun K3 hK3 => ?_
  refine AWp.regionW ?_
  refine AWp.block ?_
  -- SLOTS THAT TURN AND ARE NOT TOLD: [5]
  refine AWp.nilOwn 5 5 1 (by simp only [push_cast, ↓reduceIte, Nat.reduceEqDiff, Nat.reduceLT, Nat.reduceAdd, Nat.reduceSub, Nat.reduceMul, Nat.reduceLeDiff, Nat.reducePow, Int.reduceLT, Int.reduceToNat, reduceCtorEq, Int.reduceNeg, Int.reduceEq, Nat.reduceBEq, Nat.reduceBNe, Int.reduceBEq, Int.reduceBNe, String.reduceEq]) ?_
  refine Go.Abs.evS2 ?_
  refine AWp.loopK [0, 5, 12, 13] (fun (i : Nat) => [(14, nat i)]) (fun i => [.row 5 1 (bys ((l.take i).flatMap (putB k)))]) (fun i => i ≤ l.length) (fun i => l.length - i) (0) ?_ (Nat.zero_le _) ?_
  · skip
    refine Le.m 1 ?_ ?_
    · exact Go.Abs.evM
    · exact Go.Abs.evN
  · intro i hi K4 hK4
    refine AWp.regionW ?_
    refine AWp.seqK fun K5 hK5 => ?_
    refine AWp.condLM (fun c1 => ?_) (fun c1 => ?_)
    · skip
      have hil : i < l.length := by simpa using c1
      have hx32 := hl l[i] (List.getElem_mem hil)
      generalize hxe : l[i] = x at hx32
      refine AWp.skip ?_
      refine hK5 _ ?_
      refine AWp.seqK fun K6 hK6 => ?_
      refine AWp.block ?_
      refine AWp.regionM fun K7 hK7 => ?_
      refine ARun2.indexM (i) (u32 x) ?_ ?_
      · rw [u32s_get, List.getElem?_eq_getElem hil, hxe]; rfl
      refine ARun2.endm (hK7 _ ?_)
      refine AWp.regionW ?_
      refine AWp.block ?_
      -- SLOTS THAT TURN AND ARE NOT TOLD: [5]
      refine AWp.loopK [0, 5, 7, 12, 13, 14] (fun (j : Nat) => [(8, .val (.int .i64 (N j - 1)))]) (fun j => [.row 5 1 (bys ((l.take i).flatMap (putB k) ++ (putB k x).take (k - j)))]) (fun j => j ≤ k) (fun j => j) (k) ?_ (Nat.le_refl _) ?_
      · skip
        refine Le.m 1 ?_ ?_
        · first | exact Go.Abs.evM | (refine Go.Abs.evS ?_; simp)
        · simp only [push_cast, ↓reduceIte, Nat.reduceEqDiff, Nat.reduceLT, Nat.reduceAdd, Nat.reduceSub, Nat.reduceMul, Nat.reduceLeDiff, Nat.reducePow, Int.reduceLT, Int.reduceToNat, reduceCtorEq, Int.reduceNeg, Int.reduceEq, Nat.reduceBEq, Nat.reduceBNe, Int.reduceBEq, Int.reduceBNe, String.reduceEq]
          try simp (disch := omega) only [w_nat, w_add, w_addl, w_addr, w_sub, w_subl, w_mul, w_mull, w_mulr, w_u32, w_u16, w_u8, w_u32a, N_zero]
          simp only [N_pred0 k (by omega)]
      · intro j hj K8 hK8
        refine AWp.seqK fun K9 hK9 => ?_
        refine AWp.regionW ?_
        refine AWp.condLM (fun c2 => ?_) (fun c2 => ?_)
        · skip
          have hj1 : 1 ≤ j := by have h := of_decide_eq_true c2; rwa [N_ge] at h
          obtain ⟨j, rfl⟩ : ∃ j', j = j' + 1 := ⟨j - 1, by omega⟩
          simp only [N_pred]
          refine AWp.skip ?_
          refine hK9 _ ?_
          refine AWp.seqK fun K10 hK10 => ?_
          refine AWp.block ?_
          refine AWp.regionN fun K11 hK11 => ?_
          rw [put_byte x j (by omega)]
          have hlen : ((l.take i).flatMap (putB k) ++ (putB k x).take (k - (j + 1))).length ≤ 2 ^ 33 := by
            rw [List.length_append, flat_len2, List.length_take, List.length_take, putB_len]
            have : min i l.length * k ≤ 2 ^ 30 * 4 := Nat.mul_le_mul (by omega) (by omega)
            omega
          refine ARun2.appendM ?_ ?_ ?_
          · rw [Facts.eb23, bys_len, List.length_cons, List.length_nil]; omega
          · rw [bys_len, List.length_cons, List.length_nil]; omega
          refine ARun2.endm (hK11 _ ?_)
          refine hK10 _ ?_
          refine AWp.regionV ?_
          refine hK8 _ (j) (by omega) (by omega) ?_
          refine Le.m 1 ?_ ?_
          · first | exact Go.Abs.evM | (refine Go.Abs.evS ?_; rw [putB_take k x j (by omega), ← List.append_assoc, ← bys_snoc])
          · simp only [push_cast, ↓reduceIte, Nat.reduceEqDiff, Nat.reduceLT, Nat.reduceAdd, Nat.reduceSub, Nat.reduceMul, Nat.reduceLeDiff, Nat.reducePow, Int.reduceLT, Int.reduceToNat, reduceCtorEq, Int.reduceNeg, Int.reduceEq, Nat.reduceBEq, Nat.reduceBNe, Int.reduceBEq, Int.reduceBNe, String.reduceEq]
            try simp (disch := omega) only [w_nat, w_add, w_addl, w_addr, w_sub, w_subl, w_mul, w_mull, w_mulr, w_u32, w_u16, w_u8, w_u32a, N_zero]
            rw [show IntKind.i64.wrap (N j - 1) = N j - 1 from w64 (by unfold N; omega) (by unfold N; omega)]
        have hj0 : j = 0 := by have h := of_decide_eq_false c2; rw [N_ge] at h; omega
        subst hj0
        refine AWp.exit ?_
        try simp only [thenQ, blockQ, noGo, reduceIte, Nat.reduceEqDiff]
        refine hK6 _ ?_
        refine AWp.regionV ?_
        refine hK4 _ (i + 1) (by omega) (by omega) ?_
        refine Le.m 1 ?_ ?_
        · refine Go.Abs.evS ?_
          have hfull : (putB k x).take k = putB k x := List.take_of_length_le (by rw [putB_len]; exact Nat.le_refl _)
          rw [List.take_succ_eq_append_getElem hil, List.flatMap_append, hxe, Nat.sub_zero, hfull]; simp
        · exact Go.Abs.evN
    have hil : i = l.length := by simp at c1; omega
    subst hil
    refine AWp.exit ?_
    try simp only [thenQ, blockQ, noGo, reduceIte, Nat.reduceEqDiff]
    refine hK3 _ ?_
    refine AWp.regionW ?_
    refine AWp.pub 0 rfl (Nat.le_refl _) ?_
    refine Go.Abs.evS2 ?_
    rw [List.take_length]
    refine AWp.ret ?_
    try simp only [thenQ, blockQ, noGo]
    refine bodyQ.m ?_
    clear hK5 K5 hK4 K4 hK3 K3 hK2 K2 hK1 K1
    rfl
def cdiv (n k : Nat) : Nat := (n + k - 1) / k
def chunks (k : Nat) (l : List UInt8) : List (List UInt8) := (List.range (cdiv l.length k)).map fun i => (l.drop (i * k)).take k
def chunkYs (k : Nat) (l : List UInt8) : List (List AV) := (chunks k l).map fun c => [.sl false 1 (bys c)]
theorem cdiv_lt {n k i : Nat} (hk : 0 < k) : i < cdiv n k ↔ i * k < n := by
  unfold cdiv
  rw [Nat.lt_div_iff_mul_lt hk]
  constructor <;> intro h <;> omega
theorem chunk_eq (k : Nat) (l : List UInt8) (i : Nat) : (l.take (i * k + min k (l.length - i * k))).drop (i * k) = (l.drop (i * k)).take k := by
  rw [List.drop_take, Nat.add_sub_cancel_left, ← List.length_drop]
  rcases Nat.le_total k (l.drop (i * k)).length with h | h
  · rw [Nat.min_eq_left h]
  · rw [Nat.min_eq_right h, List.take_of_length_le (Nat.le_refl _), List.take_of_length_le h]
theorem chunkYs_get {k : Nat} {l : List UInt8} {i : Nat} (h : i < cdiv l.length k) : (chunkYs k l)[i]? = some [.sl false 1 (bys ((l.drop (i * k)).take k))] := by
  simp [chunkYs, chunks, h]
theorem chunkYs_split {k : Nat} {l : List UInt8} {i : Nat} (h : i < cdiv l.length k) : chunkYs k l = (chunkYs k l).take i ++ [.sl false 1 (bys ((l.drop (i * k)).take k))] :: (chunkYs k l).drop (i + 1) := by
  obtain ⟨h1, h2⟩ := List.getElem?_eq_some_iff.1 (chunkYs_get h)
  rw [← h2, ← List.drop_eq_getElem_cons h1, List.take_append_drop]
theorem chunk_iter (k : Nat) (l : List UInt8) (hk0 : 0 < k) (hk : k < 2 ^ 63) (hl : l.length ≤ 2 ^ 40) :
    IterC Tryz.prog 196 [.ref false (.agg [.sl false 1 (bys l)]), .ref false (.agg [nat k])] (chunkYs k l) := by
  refine IterC.of_body Tryz.func196 rfl (by rw [Tryz.ntmps196]; simp) fun lb => ?_
  refine AWp.regionW ?_
  refine AWp.block ?_
  refine AWp.loopKT [0, 1, 2] (fun (i : Nat) => [(4, nat (i * k))]) (fun i => []) (fun i => (chunkYs k l).take i) (fun i => i ≤ cdiv l.length k) (fun i => cdiv l.length k - i) (0) ?_ (Nat.zero_le _) ?_
  · skip
    refine Le.m 0 ?_ ?_ ?_
    · exact Go.Abs.evM
    · simp only [push_cast, ↓reduceIte, Nat.reduceEqDiff, Nat.reduceLT, Nat.reduceAdd, Nat.reduceSub, Nat.reduceMul, Nat.reduceLeDiff, Nat.reducePow, Int.reduceLT, Int.reduceToNat, reduceCtorEq, Int.reduceNeg, Int.reduceEq, Nat.reduceBEq, Nat.reduceBNe, Int.reduceBEq, Int.reduceBNe, String.reduceEq]
      try simp (disch := omega) only [w_nat, w_add, w_addl, w_addr, w_sub, w_subl, w_mul, w_mull, w_mulr, w_u32, w_u16, w_u8, w_u32a, N_zero]
      simp only [Nat.zero_mul]; rfl
    · exact ⟨rfl, rfl, rfl, rfl, by simp, rfl⟩
  · intro i hi K1 hK1
    refine AWp.seqK fun K2 hK2 => ?_
    refine AWp.regionW ?_
    refine AWp.condLM (fun c0 => ?_) (fun c0 => ?_)
    · skip
      have hil : i * k < l.length := of_decide_eq_true c0
      have hi' : i < cdiv l.length k := (cdiv_lt hk0).2 hil
      have hbk : i * k + k < 2 ^ 63 := by
        rcases Nat.eq_zero_or_pos i with h0 | h0
        · rw [h0, Nat.zero_mul]; omega
        · have := Nat.le_mul_of_pos_left k h0; omega
      refine AWp.skip ?_
      refine hK2 _ ?_
      refine AWp.seqK fun K3 hK3 => ?_
      refine AWp.block ?_
      refine AWp.drS [[(2, none)], [(1, none)], [(4, none)], [(14, some 1), (15, some 2)], [(16, some 3)], [(13, some 0), (17, some 4)], [(18, some 5)]] fun G hG => ?_
      refine Dr.sim ?_
      try simp only [lca, lna]
      refine Dr.sim ?_
      try simp only [lca, lna]
      refine Dr.sim ?_
      try simp only [lca, lna]
      refine Dr.sliceLo (i * k) ?_ ?_
      · rw [bys_len]; omega
      try simp only [lca, lna]
      refine Dr.sim ?_
      try simp only [lca, lna]
      refine Dr.imin ?_
      try simp only [lca, lna]
      refine Dr.sim ?_
      try simp only [lca, lna]
      refine Dr.finM (n := 7) [(5, 6)] [0, 1, 2, 4] hG Facts.mixed fun KD hKD => ?_
      refine ARun2.endm (hKD _ ?_); clear hKD KD hG G
      refine AWp.regionM fun K4 hK4 => ?_
      refine ARun2.slice3M (i * k) (i * k + min k (l.length - i * k)) ?_ ?_ ?_
      · omega
      · rw [bys_len]; omega
      rw [chunk_eq k l i]
      refine ARun2.yieldM (x := [.sl false 1 (bys ((l.drop (i * k)).take k))]) ((chunkYs k l).drop (i + 1)) (chunkYs_split hi') fun b => ?_
      refine ARun2.endm (hK4 _ ?_)
      refine AWp.condLM (fun c1 => ?_) (fun c1 => ?_)
      · skip
        have hb : b = false := by simpa using c1
        subst hb
        refine AWp.ret ?_
        try simp only [thenQ, blockQ, noGo]
        refine bodyQ.m ?_
        clear hK4 K4 hK3 K3 hK2 K2 hK1 K1
        exact ⟨fun h => (by cases h), fun _ => ⟨(chunkYs k l).drop (i + 1), (chunkYs_split hi').trans (by simp [AS.lit])⟩⟩
      have hb : b = true := by simpa using c1
      subst hb
      refine AWp.skip ?_
      refine hK3 _ ?_
      refine AWp.regionV ?_
      refine hK1 _ (i + 1) (hi') (by omega) ?_
      refine Le.m 0 ?_ ?_ ?_
      · exact Go.Abs.evM
      · simp only [push_cast, ↓reduceIte, Nat.reduceEqDiff, Nat.reduceLT, Nat.reduceAdd, Nat.reduceSub, Nat.reduceMul, Nat.reduceLeDiff, Nat.reducePow, Int.reduceLT, Int.reduceToNat, reduceCtorEq, Int.reduceNeg, Int.reduceEq, Nat.reduceBEq, Nat.reduceBNe, Int.reduceBEq, Int.reduceBNe, String.reduceEq]
        try simp (disch := omega) only [w_nat, w_add, w_addl, w_addr, w_sub, w_subl, w_mul, w_mull, w_mulr, w_u32, w_u16, w_u8, w_u32a, N_zero]
        rw [Nat.add_mul, Nat.one_mul]
      · refine ⟨rfl, rfl, rfl, rfl, ?_, rfl⟩
        show (chunkYs k l).take (i + 1) = (chunkYs k l).take i ++ [_]
        obtain ⟨h1, h2⟩ := List.getElem?_eq_some_iff.1 (chunkYs_get hi')
        rw [List.take_succ_eq_append_getElem h1, h2]
    have hie : i = cdiv l.length k := by
      have h1 : ¬ i * k < l.length := of_decide_eq_false c0
      have := mt (cdiv_lt hk0 (n := l.length) (i := i)).1 h1
      omega
    subst hie
    refine AWp.exit ?_
    try simp only [thenQ, blockQ, noGo, reduceIte, Nat.reduceEqDiff]
    try simp only [thenQ, blockQ, noGo]
    refine bodyQ.n ?_
    clear hK2 K2 hK1 K1
    exact ⟨fun _ => List.take_of_length_le (by simp [chunkYs, chunks]), fun h => (by cases h)⟩
theorem chunk_c (k : Nat) (l : List UInt8) (hk : 0 < k) : PC Tryz.prog 185 [.sl false 1 (bys l), nat k] (.fn (.func 196) [] [.ref true (.agg [.sl false 1 (bys l)]), .ref true (.agg [nat k])]) := by
  refine PC.of_body (by simp only [push_cast]) Tryz.func185 rfl (by rw [Tryz.ntmps185]; simp) ?_
  refine AWp.regionW ?_
  refine AWp.seqK fun K1 hK1 => ?_
  refine AWp.regionW ?_
  refine AWp.condF ?_ (by simp only [push_cast, ↓reduceIte, Nat.reduceEqDiff, Nat.reduceLT, Nat.reduceAdd, Nat.reduceSub, Nat.reduceMul, Nat.reduceLeDiff, Nat.reducePow, Int.reduceLT, Int.reduceToNat, reduceCtorEq, Int.reduceNeg, Int.reduceEq, Nat.reduceBEq, Nat.reduceBNe, Int.reduceBEq, Int.reduceBNe, String.reduceEq]; rw [decide_eq_false (by omega)])
  refine AWp.skip ?_
  refine hK1 _ ?_
  refine AWp.regionW ?_
  refine AWp.pubBox 0 rfl (Nat.le_refl _) rfl (by simp) ?_
  refine AWp.pubBox 1 rfl (Nat.zero_le _) rfl (by simp) ?_
  refine Go.Abs.evS2 ?_
  refine AWp.ret ?_
  try simp only [thenQ, blockQ, noGo]
  refine bodyQ.m ?_
  clear hK1 K1
  rfl
theorem numbers_c (k : Nat) (l : List UInt8) : PC Tryz.prog 165 [nat k, .sl false 1 (bys l)] (.fn (.func 184) [] [.ref true (.agg [.sl false 1 (bys l)]), .ref true (.agg [nat k])]) := by
  refine PC.of_body (by simp only [push_cast]) Tryz.func165 rfl (by rw [Tryz.ntmps165]; simp) ?_
  refine AWp.regionW ?_
  refine AWp.regionW ?_
  refine AWp.pubBox 0 rfl (Nat.le_refl _) rfl (by simp) ?_
  refine AWp.pubBox 1 rfl (Nat.zero_le _) rfl (by simp) ?_
  refine Go.Abs.evS2 ?_
  refine AWp.ret ?_
  try simp only [thenQ, blockQ, noGo]
  refine bodyQ.m ?_
  rfl
def beN (l : List UInt8) : Nat := l.foldl (fun x b => x * 256 + b.toNat) 0
def numsOf (k : Nat) (l : List UInt8) : List Nat := (List.range (l.length / k)).map fun i => beN ((l.drop (i * k)).take k)
def numYs (k : Nat) (l : List UInt8) : List (List AV) := (numsOf k l).map fun n => [u32 n]
theorem shl8 {x : Nat} (h : x < 2 ^ 24) : IntKind.u32.wrap (N x * 2 ^ min 8 IntKind.u32.bits) = N (x * 256) := by
  have h2 : IntKind.u32.bits = 32 := rfl
  rw [h2, IntKind.wrap_u32]
  have : (2 : Int) ^ min 8 32 = 256 := rfl
  rw [this]
  unfold N
  omega
theorem or8 {x : Nat} {b : UInt8} (h : x < 2 ^ 24) : bitsV .or .u32 (N (x * 256)) (N b.toNat) = N (x * 256 + b.toNat) := by
  have hb : b.toNat < 256 := b.toNat_lt
  unfold N
  have h1 : (BitVec.ofInt 32 ((x * 256 : Nat) : Int)).toNat = x * 256 := by rw [BitVec.toNat_ofInt]; omega
  have h2 : (BitVec.ofInt 32 (b.toNat : Int)).toNat = b.toNat := by rw [BitVec.toNat_ofInt]; omega
  show IntKind.u32.wrap ((BitVec.ofInt 32 ((x * 256 : Nat) : Int) ||| BitVec.ofInt 32 (b.toNat : Int)).toNat : Nat) = _
  rw [BitVec.toNat_or, h1, h2]
  have h3 : x * 256 ||| b.toNat = x * 256 + b.toNat := by
    have := Nat.shiftLeft_add_eq_or_of_lt (i := 8) (b := b.toNat) (by omega) x
    rw [Nat.shiftLeft_eq, show (2 : Nat) ^ 8 = 256 from rfl] at this
    omega
  rw [h3, IntKind.wrap_u32]
  omega
theorem beN_lt : ∀ (l : List UInt8), beN l < 256 ^ l.length := by
  intro l
  have key : ∀ (l : List UInt8) (x : Nat), l.foldl (fun x b => x * 256 + b.toNat) x + 1 ≤ (x + 1) * 256 ^ l.length := by
    intro l
    induction l with
    | nil => intro x; simp
    | cons b l ih =>
      intro x
      have hb : b.toNat < 256 := b.toNat_lt
      refine Nat.le_trans (ih _) ?_
      rw [List.length_cons, Nat.pow_succ, Nat.mul_comm (256 ^ l.length) 256, ← Nat.mul_assoc]
      refine Nat.mul_le_mul_right _ ?_
      show x * 256 + b.toNat + 1 ≤ (x + 1) * 256
      omega
  have := key l 0
  simp only [beN]; omega
theorem beN_snoc (l : List UInt8) (b : UInt8) : beN (l ++ [b]) = beN l * 256 + b.toNat := by simp [beN]
theorem numYs_len (k : Nat) (l : List UInt8) : (numYs k l).length = (numsOf k l).length := by simp [numYs]
theorem chunkYs_len (k : Nat) (l : List UInt8) : (chunkYs k l).length = cdiv l.length k := by simp [chunkYs, chunks]
theorem nums_len (k : Nat) (l : List UInt8) : (numsOf k l).length = l.length / k := by simp [numsOf]
theorem nums_le (k : Nat) (l : List UInt8) (hk : 0 < k) : (numsOf k l).length ≤ cdiv l.length k := by
  rw [nums_len]; exact Nat.div_le_div_right (by omega)
theorem numYs_get {k : Nat} {l : List UInt8} {i : Nat} (h : i < l.length / k) : (numYs k l)[i]? = some [u32 (beN ((l.drop (i * k)).take k))] := by
  simp [numYs, numsOf, h]
theorem numYs_split {k : Nat} {l : List UInt8} {i : Nat} (h : i < l.length / k) : numYs k l = (numYs k l).take i ++ [u32 (beN ((l.drop (i * k)).take k))] :: (numYs k l).drop (i + 1) := by
  obtain ⟨h1, h2⟩ := List.getElem?_eq_some_iff.1 (numYs_get h)
  rw [← h2, ← List.drop_eq_getElem_cons h1, List.take_append_drop]
theorem numbers_iter (k : Nat) (l : List UInt8) (hk : k = 1 ∨ k = 2 ∨ k = 4) (hl : l.length ≤ 2 ^ 40) :
    IterC Tryz.prog 184 [.ref false (.agg [.sl false 1 (bys l)]), .ref false (.agg [nat k])] (numYs k l) := by
  have hk0 : 0 < k := by omega
  refine IterC.of_body Tryz.func184 rfl (by rw [Tryz.ntmps184]; simp) fun lb => ?_
  refine AWp.regionW ?_
  refine AWp.regionM fun K1 hK1 => ?_
  refine ARun2.callM (chunk_c k l hk0) ?_
  refine ARun2.endm (hK1 _ ?_)
  refine AWp.block ?_
  refine AWp.rangeFuncM (chunk_iter k l hk0 (by omega) hl) [2, 3] (fun pre ob tr go => ob = [.box 255 [.val (.func (.yield lb) #[] #[])]] ∧ go = true ∧ tr = (numYs k l).take pre.length ∧ pre.length ≤ cdiv l.length k) (fun e ob tr go => e = .ret ∧ ob = [.box 255 [.val (.func (.yield lb) #[] #[])]] ∧ Fin (numYs k l) tr go) ?_ ?_ ?_ ?_ ?_
  · intro x hx
    simp only [chunkYs, List.mem_map] at hx
    obtain ⟨c, _, rfl⟩ := hx
    rfl
  · exact ⟨rfl, rfl, rfl, Nat.zero_le _⟩
  · rintro pre x post ob tr go hxs ⟨rfl, rfl, rfl, hle⟩
    have hpl : pre.length < cdiv l.length k := by rw [← chunkYs_len k l, hxs]; simp
    have hx : (chunkYs k l)[pre.length]? = some x := by rw [hxs]; simp
    rw [chunkYs_get hpl] at hx
    simp only [Option.some.injEq] at hx
    subst hx
    generalize hch : (l.drop (pre.length * k)).take k = c at hxs ⊢
    have hcl : c.length ≤ k := by rw [← hch]; exact List.length_take_le _ _
    have hcl2 : c.length = min k (l.length - pre.length * k) := by rw [← hch, List.length_take, List.length_drop]
    refine AWp.regionV ?_
    change AWp _ _ _ _
    refine AWp.block ?_
    refine AWp.regionW ?_
    refine AWp.seqK fun K2 hK2 => ?_
    refine AWp.regionW ?_
    refine AWp.block ?_
    refine AWp.loopK0 [2, 3, 4, 12, 13] (fun (j : Nat) => [(14, nat j), (5, u32 (beN (c.take j)))]) (fun j => j ≤ c.length) (fun j => c.length - j) (0) ?_ (Nat.zero_le _) ?_
    · skip
      refine Le.m 1 ?_ ?_
      · exact Go.Abs.evM
      · exact Go.Abs.evN
    · intro j hj K3 hK3
      refine AWp.regionW ?_
      refine AWp.seqK fun K4 hK4 => ?_
      refine AWp.condLM (fun c0 => ?_) (fun c0 => ?_)
      · skip
        have hjl : j < c.length := of_decide_eq_true c0
        have hx24 : beN (c.take j) < 2 ^ 24 := by
          have h1 := beN_lt (c.take j)
          rw [List.length_take, Nat.min_eq_left (by omega)] at h1
          have h2 : 256 ^ j ≤ 256 ^ 3 := Nat.pow_le_pow_right (by omega) (by omega)
          omega
        have hsn : beN (c.take (j + 1)) = beN (c.take j) * 256 + c[j].toNat := by rw [List.take_succ_eq_append_getElem hjl, beN_snoc]
        refine AWp.skip ?_
        refine hK4 _ ?_
        refine AWp.seqK fun K5 hK5 => ?_
        refine AWp.block ?_
        refine AWp.regionM fun K6 hK6 => ?_
        refine ARun2.indexM (j) (.val (.int .u8 (N c[j].toNat))) ?_ ?_
        · rw [bys_get, List.getElem?_eq_getElem hjl]; rfl
        refine ARun2.endm (hK6 _ ?_)
        refine AWp.regionV ?_
        rw [shl8 hx24, or8 hx24, ← hsn]
        refine hK5 _ ?_
        refine AWp.regionV ?_
        refine hK3 _ (j + 1) (by omega) (by omega) ?_
        refine Le.m 1 ?_ ?_
        · exact Go.Abs.evM
        · exact Go.Abs.evN
      have hjc : j = c.length := by have h := of_decide_eq_false c0; omega
      subst hjc
      refine AWp.exit ?_
      try simp only [thenQ, blockQ, noGo, reduceIte, Nat.reduceEqDiff]
      refine hK2 _ ?_
      cases hcd : decide (c.length < k) with
      | true =>
        have hlt : c.length < k := of_decide_eq_true hcd
        refine AWp.regionS fun K hK => ?_
        simp only [push_cast, ↓reduceIte, Nat.reduceEqDiff, Nat.reduceLT, Nat.reduceAdd, Nat.reduceSub, Nat.reduceMul, Nat.reduceLeDiff, Nat.reducePow, Int.reduceLT, Int.reduceToNat, reduceCtorEq, Int.reduceNeg, Int.reduceEq, Nat.reduceBEq, Nat.reduceBNe, Int.reduceBEq, Int.reduceBNe, String.reduceEq, hcd, List.take_length]
        refine ARun2.nil (hK _ ?_)
        refine AWp.condT ?_
        refine AWp.ret ⟨_, Le.refl _, rfl, rfl, fun _ => ?_, fun h => by cases h⟩
        refine List.take_of_length_le ?_
        rw [numYs_len, nums_len]
        have : ¬ pre.length < l.length / k := by
          rw [Nat.lt_div_iff_mul_lt hk0]
          omega
        omega
      | false =>
        have hfull : c.length = k := by have := of_decide_eq_false hcd; omega
        have hid : pre.length < l.length / k := by
          rw [Nat.lt_div_iff_mul_lt hk0]
          omega
        have hsp := numYs_split hid
        rw [hch] at hsp
        refine AWp.regionS fun K hK => ?_
        simp only [push_cast, ↓reduceIte, Nat.reduceEqDiff, Nat.reduceLT, Nat.reduceAdd, Nat.reduceSub, Nat.reduceMul, Nat.reduceLeDiff, Nat.reducePow, Int.reduceLT, Int.reduceToNat, reduceCtorEq, Int.reduceNeg, Int.reduceEq, Nat.reduceBEq, Nat.reduceBNe, Int.reduceBEq, Int.reduceBNe, String.reduceEq, hcd, List.take_length]
        refine ARun2.yieldM (x := [u32 (beN c)]) ((numYs k l).drop (pre.length + 1)) hsp fun b => ?_
        refine ARun2.nil (hK _ ?_)
        refine AWp.condM (fun hc2 => ?_) (fun hc2 => ?_)
        · refine AWp.ret ⟨_, Le.refl _, rfl, rfl, fun h => ?_, fun _ => ?_⟩
          · cases b <;> simp at hc2 h
          · exact ⟨(numYs k l).drop (pre.length + 1), hsp.trans (by rw [List.append_assoc]; rfl)⟩
        · have hb : b = true := by cases b <;> simp at hc2 ⊢
          subst hb
          refine AWp.skip ⟨_, Le.refl _, rfl, rfl, ?_, ?_⟩
          · rw [List.length_append, List.length_cons, List.length_nil]
            obtain ⟨h1, h2⟩ := List.getElem?_eq_some_iff.1 (numYs_get hid)
            rw [hch] at h2
            rw [List.take_succ_eq_append_getElem h1, h2]
          · rw [List.length_append, List.length_cons, List.length_nil]; omega
  · rintro ob tr go df ⟨rfl, rfl, rfl, _⟩
    try simp only [thenQ, blockQ, noGo]
    refine bodyQ.n ?_
    clear hK1 K1
    exact ⟨fun _ => List.take_of_length_le (by rw [numYs_len, chunkYs_len]; exact nums_le k l hk0), fun h => by simp at h⟩
  · rintro e ob tr go df ⟨rfl, rfl, hfin⟩
    exact ⟨_, rfl, hfin⟩
end Go.Proofs.YtokbbdodbjiciaaGreatDoor.C
set_option maxRecDepth 100000
namespace Go.Proofs.YtokbbdodbjiciaaGreatDoor.C
open Go.Abs
theorem u32s_snoc (l : List Nat) (n : Nat) : u32s l ++ [.val (.int .u32 (N n))] = u32s (l ++ [n]) := by simp [u32s]
theorem numYs_ps (l : List Nat) : ∀ x ∈ (l.map fun n => [u32 n]), x.length = 1 := by
  intro x hx
  simp only [List.mem_map] at hx
  obtain ⟨n, _, rfl⟩ := hx
  rfl
theorem appendSeq_c {f : FuncId} {cap cap' : List AV} {l : List Nat} (hl : l.length ≤ 2 ^ 40) (hit : IterC Tryz.prog f cap' (l.map fun n => [u32 n])) (hc : callable Tryz.prog f = true) (hcap : HandL [] cap cap') (hcl : AV.idsOkL (fun _ => false) cap = true) :
    PC Tryz.prog 186 [.val (.slice none 0 0), .fn (.func f) [] cap] (.sl true 1 (u32s l)) := by
  refine PC.of_body (by simp only [push_cast]) Tryz.func186 rfl (by rw [Tryz.ntmps186]; simp) ?_
  refine AWp.regionW ?_
  refine AWp.seqK fun K1 hK1 => ?_
  refine AWp.regionW ?_
  refine AWp.block ?_
  refine AWp.nilBox 0 0 38 1 rfl rfl ?_
  refine AWp.rangeFuncM (hit) [2] (fun pre ob tr go => ob = [.box 191 [.own 1], .row 38 1 (u32s (l.take pre.length))]) (fun _ _ _ _ => False) ?_ ?_ ?_ ?_ ?_
  · exact numYs_ps l
  · rfl
  · rintro pre x post ob tr go hxs rfl
    have hpl : pre.length < l.length := by
      have := congrArg List.length hxs
      simp at this; omega
    have hx : (l.map fun n => [u32 n])[pre.length]? = some x := by rw [hxs]; simp
    simp only [List.getElem?_map, List.getElem?_eq_getElem hpl, Option.map_some, Option.some.injEq] at hx
    subst hx
    refine AWp.regionV ?_
    change AWp _ _ _ _
    refine AWp.block ?_
    refine AWp.regionN fun K2 hK2 => ?_
    refine ARun2.appendM ?_ ?_ ?_
    · rw [Facts.eb191, u32s_len, List.length_take, List.length_cons, List.length_nil]; omega
    · rw [u32s_len, List.length_take, List.length_cons, List.length_nil]; omega
    refine ARun2.endm (hK2 _ ?_)
    refine ⟨_, Le.refl _, ?_⟩
    have e : u32s (l.take (pre ++ [[u32 l[pre.length]]]).length) = u32s (l.take pre.length) ++ [u32 l[pre.length]] := by
      rw [List.length_append, List.length_cons, List.length_nil, List.take_succ_eq_append_getElem hpl, ← u32s_snoc]
    exact (congrArg (fun z => [Ob.box 191 [AV.own 1], Ob.row 38 1 z]) e).symm
  · rintro ob tr go df rfl
    refine hK1 _ ?_
    refine AWp.regionW ?_
    refine AWp.pub 1 rfl (Nat.zero_le _) ?_
    refine Go.Abs.evS2 ?_
    rw [List.take_length]
    refine AWp.ret ?_
    try simp only [thenQ, blockQ, noGo]
    refine bodyQ.m ?_
    clear hK1 K1
    rfl
  · rintro e ob tr go df h
    exact h.elim
theorem collect_c {f : FuncId} {cap cap' : List AV} {l : List Nat} (hl : l.length ≤ 2 ^ 40) (hit : IterC Tryz.prog f cap' (l.map fun n => [u32 n])) (hc : callable Tryz.prog f = true) (hcap : HandL [] cap cap') (hcl : AV.idsOkL (fun _ => false) cap = true) (hx : HandL [] cap cap) :
    PC Tryz.prog 166 [.fn (.func f) [] cap] (.sl true 1 (u32s l)) := by
  refine PC.of_body (by simp only [push_cast]) Tryz.func166 rfl (by rw [Tryz.ntmps166]; simp) ?_
  refine AWp.regionW ?_
  refine AWp.regionM fun K1 hK1 => ?_
  refine ARun2.callM (appendSeq_c hl hit hc hcap hcl) ?_
  refine ARun2.endm (hK1 _ ?_)
  refine AWp.ret ?_
  try simp only [thenQ, blockQ, noGo]
  refine bodyQ.m ?_
  clear hK1 K1
  rfl
theorem numbers_n (k : Nat) (l : List UInt8) (hk : k = 1 ∨ k = 2 ∨ k = 4) (hl : l.length ≤ 2 ^ 40) (hm : l.length % k = 0) :
    PC Tryz.prog 141 [nat k, .sl false 1 (bys l)] (.sl true 1 (u32s (numsOf k l))) := by
  have hk0 : 0 < k := by omega
  have hr : (k == 1 || k == 2 || k == 4) = true := by rcases hk with rfl | rfl | rfl <;> rfl
  refine PC.of_body (by simp only [push_cast]) Tryz.func141 rfl (by rw [Tryz.ntmps141]; simp) ?_
  refine AWp.regionW ?_
  refine AWp.seqK fun K1 hK1 => ?_
  refine AWp.regionM fun K2 hK2 => ?_
  refine ARun2.callM (hr ▸ wire_right k) ?_
  refine ARun2.endm (hK2 _ ?_)
  refine AWp.condF ?_ (by simp only [push_cast, ↓reduceIte, Nat.reduceEqDiff, Nat.reduceLT, Nat.reduceAdd, Nat.reduceSub, Nat.reduceMul, Nat.reduceLeDiff, Nat.reducePow, Int.reduceLT, Int.reduceToNat, reduceCtorEq, Int.reduceNeg, Int.reduceEq, Nat.reduceBEq, Nat.reduceBNe, Int.reduceBEq, Int.reduceBNe, String.reduceEq, hm])
  refine AWp.skip ?_
  refine hK1 _ ?_
  refine AWp.regionM fun K3 hK3 => ?_
  refine ARun2.callM (numbers_c k l) ?_
  refine ARun2.callM (collect_c (l := numsOf k l) (cap := [.ref false (.agg [.sl false 1 (bys l)]), .ref false (.agg [nat k])]) (by rw [nums_len]; exact Nat.le_trans (Nat.div_le_self _ _) hl) (numbers_iter k l hk hl) rfl Hand.goL (by simp only [push_cast]) Hand.goL) ?_
  refine ARun2.endm (hK3 _ ?_)
  refine AWp.ret ?_
  try simp only [thenQ, blockQ, noGo]
  refine bodyQ.m ?_
  clear hK3 K3 hK2 K2 hK1 K1
  rfl
theorem bys_cons (b : UInt8) (l : List UInt8) : bys (b :: l) = .val (.int .u8 (N b.toNat)) :: bys l := rfl
theorem clone_c (l : List UInt8) (hl : l.length ≤ 2 ^ 40) : PC Tryz.prog 87 [.sl false 1 (bys l)] (.sl true 1 (bys l)) := by
  refine PC.of_body (by simp only [push_cast]) Tryz.func87 rfl (by rw [Tryz.ntmps87]; simp) ?_
  refine AWp.regionS fun K hK => ?_; simp only [push_cast, ↓reduceIte, Nat.reduceEqDiff, Nat.reduceLT, Nat.reduceAdd, Nat.reduceSub, Nat.reduceMul, Nat.reduceLeDiff, Nat.reducePow, Int.reduceLT, Int.reduceToNat, reduceCtorEq, Int.reduceNeg, Int.reduceEq, Nat.reduceBEq, Nat.reduceBNe, Int.reduceBEq, Int.reduceBNe, String.reduceEq]
  refine ARun2.nil (hK _ ?_); clear hK K
  refine AWp.seqK fun KA hKA => ?_
  cases l with
  | nil =>
    refine AWp.regionS fun K hK => ?_; simp only [push_cast, ↓reduceIte, Nat.reduceEqDiff, Nat.reduceLT, Nat.reduceAdd, Nat.reduceSub, Nat.reduceMul, Nat.reduceLeDiff, Nat.reducePow, Int.reduceLT, Int.reduceToNat, reduceCtorEq, Int.reduceNeg, Int.reduceEq, Nat.reduceBEq, Nat.reduceBNe, Int.reduceBEq, Int.reduceBNe, String.reduceEq]
    refine ARun2.nilSl rfl rfl (.inl rfl) rfl Facts.nk23 (by rw [Facts.nk23]; rfl) (fun b hb => ?_)
    refine ARun2.go ?_; simp only [push_cast, ↓reduceIte, Nat.reduceEqDiff, Nat.reduceLT, Nat.reduceAdd, Nat.reduceSub, Nat.reduceMul, Nat.reduceLeDiff, Nat.reducePow, Int.reduceLT, Int.reduceToNat, reduceCtorEq, Int.reduceNeg, Int.reduceEq, Nat.reduceBEq, Nat.reduceBNe, Int.reduceBEq, Int.reduceBNe, String.reduceEq]
    refine ARun2.nil (hK _ ?_); clear hK K
    refine AWp.cond (by first | (simp only [push_cast, ↓reduceIte, Nat.reduceEqDiff, Nat.reduceLT, Nat.reduceAdd, Nat.reduceSub, Nat.reduceMul, Nat.reduceLeDiff, Nat.reducePow, Int.reduceLT, Int.reduceToNat, reduceCtorEq, Int.reduceNeg, Int.reduceEq, Nat.reduceBEq, Nat.reduceBNe, Int.reduceBEq, Int.reduceBNe, String.reduceEq]; done) | (simp only [push_cast, ↓reduceIte, Nat.reduceEqDiff, Nat.reduceLT, Nat.reduceAdd, Nat.reduceSub, Nat.reduceMul, Nat.reduceLeDiff, Nat.reducePow, Int.reduceLT, Int.reduceToNat, reduceCtorEq, Int.reduceNeg, Int.reduceEq, Nat.reduceBEq, Nat.reduceBNe, Int.reduceBEq, Int.reduceBNe, String.reduceEq]; rfl)) (fun hc => ?_) (fun hc => ?_)
    · refine AWp.regionS fun K hK => ?_; simp only [push_cast, ↓reduceIte, Nat.reduceEqDiff, Nat.reduceLT, Nat.reduceAdd, Nat.reduceSub, Nat.reduceMul, Nat.reduceLeDiff, Nat.reducePow, Int.reduceLT, Int.reduceToNat, reduceCtorEq, Int.reduceNeg, Int.reduceEq, Nat.reduceBEq, Nat.reduceBNe, Int.reduceBEq, Int.reduceBNe, String.reduceEq]
      refine ARun2.nil (hK _ ?_); clear hK K
      refine AWp.nilOwn 2 5 1 (by simp only [push_cast, ↓reduceIte, Nat.reduceEqDiff, Nat.reduceLT, Nat.reduceAdd, Nat.reduceSub, Nat.reduceMul, Nat.reduceLeDiff, Nat.reducePow, Int.reduceLT, Int.reduceToNat, reduceCtorEq, Int.reduceNeg, Int.reduceEq, Nat.reduceBEq, Nat.reduceBNe, Int.reduceBEq, Int.reduceBNe, String.reduceEq]) ?_
      refine Go.Abs.evS2 ?_
      refine AWp.pub 0 rfl (Nat.le_refl _) ?_
      refine AWp.ret ⟨_, rfl, ?_⟩
      refine Go.Abs.evS2 ?_
    · refine AWp.skip (hKA _ ?_)
      refine AWp.regionS fun K hK => ?_; simp only [push_cast, ↓reduceIte, Nat.reduceEqDiff, Nat.reduceLT, Nat.reduceAdd, Nat.reduceSub, Nat.reduceMul, Nat.reduceLeDiff, Nat.reducePow, Int.reduceLT, Int.reduceToNat, reduceCtorEq, Int.reduceNeg, Int.reduceEq, Nat.reduceBEq, Nat.reduceBNe, Int.reduceBEq, Int.reduceBNe, String.reduceEq]
      refine ARun2.buildOwn (e := 5) rfl rfl Facts.es23 Facts.el23 rfl (fun p hp => by simp at hp) (by decide) ?_
      refine ARun2.go ?_; simp only [push_cast, ↓reduceIte, Nat.reduceEqDiff, Nat.reduceLT, Nat.reduceAdd, Nat.reduceSub, Nat.reduceMul, Nat.reduceLeDiff, Nat.reducePow, Int.reduceLT, Int.reduceToNat, reduceCtorEq, Int.reduceNeg, Int.reduceEq, Nat.reduceBEq, Nat.reduceBNe, Int.reduceBEq, Int.reduceBNe, String.reduceEq]
      refine ARun2.append (xs := []) rfl rfl (by first | (simp only [push_cast, ↓reduceIte, Nat.reduceEqDiff, Nat.reduceLT, Nat.reduceAdd, Nat.reduceSub, Nat.reduceMul, Nat.reduceLeDiff, Nat.reducePow, Int.reduceLT, Int.reduceToNat, reduceCtorEq, Int.reduceNeg, Int.reduceEq, Nat.reduceBEq, Nat.reduceBNe, Int.reduceBEq, Int.reduceBNe, String.reduceEq]; done) | (simp only [push_cast, ↓reduceIte, Nat.reduceEqDiff, Nat.reduceLT, Nat.reduceAdd, Nat.reduceSub, Nat.reduceMul, Nat.reduceLeDiff, Nat.reducePow, Int.reduceLT, Int.reduceToNat, reduceCtorEq, Int.reduceNeg, Int.reduceEq, Nat.reduceBEq, Nat.reduceBNe, Int.reduceBEq, Int.reduceBNe, String.reduceEq]; rfl)) rfl (by first | (simp only [push_cast, ↓reduceIte, Nat.reduceEqDiff, Nat.reduceLT, Nat.reduceAdd, Nat.reduceSub, Nat.reduceMul, Nat.reduceLeDiff, Nat.reducePow, Int.reduceLT, Int.reduceToNat, reduceCtorEq, Int.reduceNeg, Int.reduceEq, Nat.reduceBEq, Nat.reduceBNe, Int.reduceBEq, Int.reduceBNe, String.reduceEq]; done) | (simp only [push_cast, ↓reduceIte, Nat.reduceEqDiff, Nat.reduceLT, Nat.reduceAdd, Nat.reduceSub, Nat.reduceMul, Nat.reduceLeDiff, Nat.reducePow, Int.reduceLT, Int.reduceToNat, reduceCtorEq, Int.reduceNeg, Int.reduceEq, Nat.reduceBEq, Nat.reduceBNe, Int.reduceBEq, Int.reduceBNe, String.reduceEq]; rfl)) (by first | (simp only [push_cast, ↓reduceIte, Nat.reduceEqDiff, Nat.reduceLT, Nat.reduceAdd, Nat.reduceSub, Nat.reduceMul, Nat.reduceLeDiff, Nat.reducePow, Int.reduceLT, Int.reduceToNat, reduceCtorEq, Int.reduceNeg, Int.reduceEq, Nat.reduceBEq, Nat.reduceBNe, Int.reduceBEq, Int.reduceBNe, String.reduceEq]; done) | (simp only [push_cast, ↓reduceIte, Nat.reduceEqDiff, Nat.reduceLT, Nat.reduceAdd, Nat.reduceSub, Nat.reduceMul, Nat.reduceLeDiff, Nat.reducePow, Int.reduceLT, Int.reduceToNat, reduceCtorEq, Int.reduceNeg, Int.reduceEq, Nat.reduceBEq, Nat.reduceBNe, Int.reduceBEq, Int.reduceBNe, String.reduceEq]; rfl)) (.inl (by first | (simp only [push_cast, ↓reduceIte, Nat.reduceEqDiff, Nat.reduceLT, Nat.reduceAdd, Nat.reduceSub, Nat.reduceMul, Nat.reduceLeDiff, Nat.reducePow, Int.reduceLT, Int.reduceToNat, reduceCtorEq, Int.reduceNeg, Int.reduceEq, Nat.reduceBEq, Nat.reduceBNe, Int.reduceBEq, Int.reduceBNe, String.reduceEq]; done) | (simp only [push_cast, ↓reduceIte, Nat.reduceEqDiff, Nat.reduceLT, Nat.reduceAdd, Nat.reduceSub, Nat.reduceMul, Nat.reduceLeDiff, Nat.reducePow, Int.reduceLT, Int.reduceToNat, reduceCtorEq, Int.reduceNeg, Int.reduceEq, Nat.reduceBEq, Nat.reduceBNe, Int.reduceBEq, Int.reduceBNe, String.reduceEq]; rfl))) (by first | (simp only [push_cast, ↓reduceIte, Nat.reduceEqDiff, Nat.reduceLT, Nat.reduceAdd, Nat.reduceSub, Nat.reduceMul, Nat.reduceLeDiff, Nat.reducePow, Int.reduceLT, Int.reduceToNat, reduceCtorEq, Int.reduceNeg, Int.reduceEq, Nat.reduceBEq, Nat.reduceBNe, Int.reduceBEq, Int.reduceBNe, String.reduceEq]; done) | (simp only [push_cast, ↓reduceIte, Nat.reduceEqDiff, Nat.reduceLT, Nat.reduceAdd, Nat.reduceSub, Nat.reduceMul, Nat.reduceLeDiff, Nat.reducePow, Int.reduceLT, Int.reduceToNat, reduceCtorEq, Int.reduceNeg, Int.reduceEq, Nat.reduceBEq, Nat.reduceBNe, Int.reduceBEq, Int.reduceBNe, String.reduceEq]; rfl)) ?_ ?_ rfl (by first | (simp only [push_cast, ↓reduceIte, Nat.reduceEqDiff, Nat.reduceLT, Nat.reduceAdd, Nat.reduceSub, Nat.reduceMul, Nat.reduceLeDiff, Nat.reducePow, Int.reduceLT, Int.reduceToNat, reduceCtorEq, Int.reduceNeg, Int.reduceEq, Nat.reduceBEq, Nat.reduceBNe, Int.reduceBEq, Int.reduceBNe, String.reduceEq]; done) | (simp only [push_cast, ↓reduceIte, Nat.reduceEqDiff, Nat.reduceLT, Nat.reduceAdd, Nat.reduceSub, Nat.reduceMul, Nat.reduceLeDiff, Nat.reducePow, Int.reduceLT, Int.reduceToNat, reduceCtorEq, Int.reduceNeg, Int.reduceEq, Nat.reduceBEq, Nat.reduceBNe, Int.reduceBEq, Int.reduceBNe, String.reduceEq]; rfl)) ?_
      · rw [Facts.eb23]; simp only [List.length_nil]; simp at hl; omega
      · simp only [List.length_nil]; simp at hl; omega
      rw [List.nil_append]
      refine Go.Abs.evS2 ?_
      refine ARun2.nil (hK _ ?_); clear hK K
      refine AWp.pub 0 rfl (Nat.le_refl _) ?_
      refine AWp.ret ⟨_, rfl, ?_⟩
      refine Go.Abs.evS2 ?_
  | cons c l =>
    refine AWp.regionS fun K hK => ?_
    simp only [push_cast, ↓reduceIte, Nat.reduceEqDiff, Nat.reduceLT, Nat.reduceAdd, Nat.reduceSub, Nat.reduceMul, Nat.reduceLeDiff, Nat.reducePow, Int.reduceLT, Int.reduceToNat, reduceCtorEq, Int.reduceNeg, Int.reduceEq, Nat.reduceBEq, Nat.reduceBNe, Int.reduceBEq, Int.reduceBNe, String.reduceEq, bys_cons]
    refine ARun2.nil (hK _ ?_); clear hK K
    refine AWp.cond (t := false) (by first | (simp only [push_cast, ↓reduceIte, Nat.reduceEqDiff, Nat.reduceLT, Nat.reduceAdd, Nat.reduceSub, Nat.reduceMul, Nat.reduceLeDiff, Nat.reducePow, Int.reduceLT, Int.reduceToNat, reduceCtorEq, Int.reduceNeg, Int.reduceEq, Nat.reduceBEq, Nat.reduceBNe, Int.reduceBEq, Int.reduceBNe, String.reduceEq]; done) | (simp only [push_cast, ↓reduceIte, Nat.reduceEqDiff, Nat.reduceLT, Nat.reduceAdd, Nat.reduceSub, Nat.reduceMul, Nat.reduceLeDiff, Nat.reducePow, Int.reduceLT, Int.reduceToNat, reduceCtorEq, Int.reduceNeg, Int.reduceEq, Nat.reduceBEq, Nat.reduceBNe, Int.reduceBEq, Int.reduceBNe, String.reduceEq]; rfl)) (fun hc => by cases hc) (fun hc => ?_)
    refine AWp.skip (hKA _ ?_)
    rw [← bys_cons]
    refine AWp.regionS fun K hK => ?_; simp only [push_cast, ↓reduceIte, Nat.reduceEqDiff, Nat.reduceLT, Nat.reduceAdd, Nat.reduceSub, Nat.reduceMul, Nat.reduceLeDiff, Nat.reducePow, Int.reduceLT, Int.reduceToNat, reduceCtorEq, Int.reduceNeg, Int.reduceEq, Nat.reduceBEq, Nat.reduceBNe, Int.reduceBEq, Int.reduceBNe, String.reduceEq]
    refine ARun2.buildOwn (e := 5) rfl rfl Facts.es23 Facts.el23 rfl (fun p hp => by simp at hp) (by decide) ?_
    refine ARun2.go ?_; simp only [push_cast, ↓reduceIte, Nat.reduceEqDiff, Nat.reduceLT, Nat.reduceAdd, Nat.reduceSub, Nat.reduceMul, Nat.reduceLeDiff, Nat.reducePow, Int.reduceLT, Int.reduceToNat, reduceCtorEq, Int.reduceNeg, Int.reduceEq, Nat.reduceBEq, Nat.reduceBNe, Int.reduceBEq, Int.reduceBNe, String.reduceEq]
    refine ARun2.append (xs := []) rfl rfl (by first | (simp only [push_cast, ↓reduceIte, Nat.reduceEqDiff, Nat.reduceLT, Nat.reduceAdd, Nat.reduceSub, Nat.reduceMul, Nat.reduceLeDiff, Nat.reducePow, Int.reduceLT, Int.reduceToNat, reduceCtorEq, Int.reduceNeg, Int.reduceEq, Nat.reduceBEq, Nat.reduceBNe, Int.reduceBEq, Int.reduceBNe, String.reduceEq]; done) | (simp only [push_cast, ↓reduceIte, Nat.reduceEqDiff, Nat.reduceLT, Nat.reduceAdd, Nat.reduceSub, Nat.reduceMul, Nat.reduceLeDiff, Nat.reducePow, Int.reduceLT, Int.reduceToNat, reduceCtorEq, Int.reduceNeg, Int.reduceEq, Nat.reduceBEq, Nat.reduceBNe, Int.reduceBEq, Int.reduceBNe, String.reduceEq]; rfl)) rfl (by first | (simp only [push_cast, ↓reduceIte, Nat.reduceEqDiff, Nat.reduceLT, Nat.reduceAdd, Nat.reduceSub, Nat.reduceMul, Nat.reduceLeDiff, Nat.reducePow, Int.reduceLT, Int.reduceToNat, reduceCtorEq, Int.reduceNeg, Int.reduceEq, Nat.reduceBEq, Nat.reduceBNe, Int.reduceBEq, Int.reduceBNe, String.reduceEq]; done) | (simp only [push_cast, ↓reduceIte, Nat.reduceEqDiff, Nat.reduceLT, Nat.reduceAdd, Nat.reduceSub, Nat.reduceMul, Nat.reduceLeDiff, Nat.reducePow, Int.reduceLT, Int.reduceToNat, reduceCtorEq, Int.reduceNeg, Int.reduceEq, Nat.reduceBEq, Nat.reduceBNe, Int.reduceBEq, Int.reduceBNe, String.reduceEq]; rfl)) (by first | (simp only [push_cast, ↓reduceIte, Nat.reduceEqDiff, Nat.reduceLT, Nat.reduceAdd, Nat.reduceSub, Nat.reduceMul, Nat.reduceLeDiff, Nat.reducePow, Int.reduceLT, Int.reduceToNat, reduceCtorEq, Int.reduceNeg, Int.reduceEq, Nat.reduceBEq, Nat.reduceBNe, Int.reduceBEq, Int.reduceBNe, String.reduceEq]; done) | (simp only [push_cast, ↓reduceIte, Nat.reduceEqDiff, Nat.reduceLT, Nat.reduceAdd, Nat.reduceSub, Nat.reduceMul, Nat.reduceLeDiff, Nat.reducePow, Int.reduceLT, Int.reduceToNat, reduceCtorEq, Int.reduceNeg, Int.reduceEq, Nat.reduceBEq, Nat.reduceBNe, Int.reduceBEq, Int.reduceBNe, String.reduceEq]; rfl)) (.inl (by first | (simp only [push_cast, ↓reduceIte, Nat.reduceEqDiff, Nat.reduceLT, Nat.reduceAdd, Nat.reduceSub, Nat.reduceMul, Nat.reduceLeDiff, Nat.reducePow, Int.reduceLT, Int.reduceToNat, reduceCtorEq, Int.reduceNeg, Int.reduceEq, Nat.reduceBEq, Nat.reduceBNe, Int.reduceBEq, Int.reduceBNe, String.reduceEq]; done) | (simp only [push_cast, ↓reduceIte, Nat.reduceEqDiff, Nat.reduceLT, Nat.reduceAdd, Nat.reduceSub, Nat.reduceMul, Nat.reduceLeDiff, Nat.reducePow, Int.reduceLT, Int.reduceToNat, reduceCtorEq, Int.reduceNeg, Int.reduceEq, Nat.reduceBEq, Nat.reduceBNe, Int.reduceBEq, Int.reduceBNe, String.reduceEq]; rfl))) (by first | (simp only [push_cast, ↓reduceIte, Nat.reduceEqDiff, Nat.reduceLT, Nat.reduceAdd, Nat.reduceSub, Nat.reduceMul, Nat.reduceLeDiff, Nat.reducePow, Int.reduceLT, Int.reduceToNat, reduceCtorEq, Int.reduceNeg, Int.reduceEq, Nat.reduceBEq, Nat.reduceBNe, Int.reduceBEq, Int.reduceBNe, String.reduceEq]; done) | (simp only [push_cast, ↓reduceIte, Nat.reduceEqDiff, Nat.reduceLT, Nat.reduceAdd, Nat.reduceSub, Nat.reduceMul, Nat.reduceLeDiff, Nat.reducePow, Int.reduceLT, Int.reduceToNat, reduceCtorEq, Int.reduceNeg, Int.reduceEq, Nat.reduceBEq, Nat.reduceBNe, Int.reduceBEq, Int.reduceBNe, String.reduceEq]; rfl)) ?_ ?_ rfl (by first | (simp only [push_cast, ↓reduceIte, Nat.reduceEqDiff, Nat.reduceLT, Nat.reduceAdd, Nat.reduceSub, Nat.reduceMul, Nat.reduceLeDiff, Nat.reducePow, Int.reduceLT, Int.reduceToNat, reduceCtorEq, Int.reduceNeg, Int.reduceEq, Nat.reduceBEq, Nat.reduceBNe, Int.reduceBEq, Int.reduceBNe, String.reduceEq]; done) | (simp only [push_cast, ↓reduceIte, Nat.reduceEqDiff, Nat.reduceLT, Nat.reduceAdd, Nat.reduceSub, Nat.reduceMul, Nat.reduceLeDiff, Nat.reducePow, Int.reduceLT, Int.reduceToNat, reduceCtorEq, Int.reduceNeg, Int.reduceEq, Nat.reduceBEq, Nat.reduceBNe, Int.reduceBEq, Int.reduceBNe, String.reduceEq]; rfl)) ?_
    · rw [Facts.eb23, bys_len]; simp only [List.length_nil]; omega
    · rw [bys_len]; simp only [List.length_nil]; omega
    rw [List.nil_append]
    refine Go.Abs.evS2 ?_
    refine ARun2.nil (hK _ ?_); clear hK K
    refine AWp.pub 0 rfl (Nat.le_refl _) ?_
    refine AWp.ret ⟨_, rfl, ?_⟩
    refine Go.Abs.evS2 ?_
end Go.Proofs.YtokbbdodbjiciaaGreatDoor.C
namespace Go.Abs
inductive GNode where
  | mk (ty : Nat) (data : List UInt8) (kids : List GNode)
namespace GNode
def ty : GNode → Nat | .mk t _ _ => t
def data : GNode → List UInt8 | .mk _ d _ => d
def kids : GNode → List GNode | .mk _ _ k => k
def zero : GNode := .mk 0 [] []
instance : Inhabited GNode := ⟨zero⟩
end GNode
abbrev u16 (n : Nat) : AV := .val (.int .u16 (N n))
abbrev u8 (n : Nat) : AV := .val (.int .u8 (N n))
abbrev bool (b : Bool) : AV := .val (.bool b)
attribute [push_cast] u16 u8 bool
mutual
def nodeA (b : Bool) : GNode → AV
  | .mk t d k => .agg [u16 t, .sl b 1 (bys d), .sl b 3 (nodesA b k)]
def nodesA (b : Bool) : List GNode → List AV
  | [] => []
  | n :: l => nodeA b n :: nodesA b l
end
@[push_cast] theorem nodeA_eq (b : Bool) (n : GNode) : nodeA b n = .agg [u16 n.ty, .sl b 1 (bys n.data), .sl b 3 (nodesA b n.kids)] := by
  cases n; simp [nodeA, GNode.ty, GNode.data, GNode.kids]
theorem nodesA_map (b : Bool) : ∀ l : List GNode, nodesA b l = l.map (nodeA b)
  | [] => by simp [nodesA]
  | n :: l => by rw [nodesA, nodesA_map b l]; rfl
@[push_cast] theorem nodesA_len (b : Bool) (l : List GNode) : (nodesA b l).length = l.length := by rw [nodesA_map]; simp
theorem nodesA_get (b : Bool) (l : List GNode) (i : Nat) : (nodesA b l)[i]? = l[i]?.map (nodeA b) := by rw [nodesA_map]; simp
theorem nodesA_at (b : Bool) (l : List GNode) (i : Nat) (h : i < l.length) : (nodesA b l)[i]? = some (nodeA b l[i]) := by rw [nodesA_get, List.getElem?_eq_getElem h]; rfl
theorem nodesA_head (b : Bool) (l : List GNode) (h : 0 < l.length) : (nodesA b l)[0]? = some (nodeA b (l.headD default)) := by
  cases l with
  | nil => simp at h
  | cons n l => simp [nodesA]
@[push_cast] theorem nodesA_nil (b : Bool) : nodesA b [] = [] := by simp [nodesA]
@[push_cast] theorem nodesA_cons (b : Bool) (n : GNode) (l : List GNode) : nodesA b (n :: l) = nodeA b n :: nodesA b l := by simp [nodesA]
mutual
theorem nodeA_hand (ids : List Nat) (b : Bool) : ∀ n : GNode, (nodeA b n).hand ids = nodeA false n
  | .mk t d k => by simp only [nodeA, AV.hand, AV.handL, bys_hand, nodesA_hand ids b k]
theorem nodesA_hand (ids : List Nat) (b : Bool) : ∀ l : List GNode, AV.handL ids (nodesA b l) = nodesA false l
  | [] => by simp [nodesA, AV.handL]
  | n :: l => by simp only [nodesA, AV.handL, nodeA_hand ids b n, nodesA_hand ids b l]
end
attribute [push_cast] nodesA_hand
mutual
theorem nodeA_ids (p : Nat → Bool) (b : Bool) : ∀ n : GNode, (nodeA b n).idsOk p = true
  | .mk t d k => by simp only [nodeA, AV.idsOk, AV.idsOkL, bys_ids, nodesA_ids p b k, Bool.and_true]
theorem nodesA_ids (p : Nat → Bool) (b : Bool) : ∀ l : List GNode, AV.idsOkL p (nodesA b l) = true
  | [] => by simp [nodesA, AV.idsOkL]
  | n :: l => by simp only [nodesA, AV.idsOkL, nodeA_ids p b n, nodesA_ids p b l, Bool.and_true]
end
attribute [push_cast] nodesA_ids
mutual
theorem nodeA_pl : ∀ n : GNode, (nodeA false n).pl = true
  | .mk t d k => by simp only [nodeA, AV.pl, AV.plL, bys_pl, nodesA_pl k, Bool.and_true, Bool.not_false]
theorem nodesA_pl : ∀ l : List GNode, AV.plL (nodesA false l) = true
  | [] => by simp [nodesA, AV.plL]
  | n :: l => by simp only [nodesA, AV.plL, nodeA_pl n, nodesA_pl l, Bool.and_true]
end
attribute [push_cast] nodesA_pl
structure ShForm where
  cls : Nat
  ty : Nat
  name : ByteArray
  least : Nat
  most : Nat
  unit : Nat
  kids : Nat
@[push_cast] def formA (f : ShForm) : AV := .agg [nat f.cls, u16 f.ty, .val (.string f.name), nat f.least, nat f.most, nat f.unit, nat f.kids]
end Go.Abs
namespace Go.Proofs.YtokbbdodbjiciaaGreatDoor.C
open Go.Abs
def insideN (k : Nat) : Nat × Nat × Nat :=
  if k = 1 ∨ k = 4 then (1, 1, 1) else if k = 2 then (1, 1, 16384) else if k = 3 then (2, 1, 16384) else (0, 0, 0)
theorem inside_c (k : Nat) (hk : k < 2 ^ 60) : PC Tryz.prog 138 [nat k] (.tup [nat (insideN k).1, nat (insideN k).2.1, nat (insideN k).2.2]) := by
  refine PC.of_bodyW (by simp only [push_cast]) Tryz.func138 rfl (by rw [Tryz.ntmps138]; simp) ?_
  refine AWp.regionW ?_
  refine AWp.seqK fun K1 hK1 => ?_
  refine AWp.regionW ?_
  refine AWp.block ?_
  refine AWp.seqK fun K2 hK2 => ?_
  refine AWp.regionW ?_
  refine AWp.condLM (fun c0 => ?_) (fun c0 => ?_)
  · skip
    refine AWp.skip ?_
    refine hK2 _ ?_
    refine AWp.condT ?_
    refine AWp.regionW ?_
    refine AWp.ret ?_
    try simp only [thenQ, blockQ, noGo]
    refine bodyQ.m ?_
    clear hK2 K2 hK1 K1
    simp_all [insideN]
    first | done | exact Hand.go
  refine AWp.regionV ?_
  refine hK2 _ ?_
  refine AWp.condLM (fun c1 => ?_) (fun c1 => ?_)
  · skip
    refine AWp.regionW ?_
    refine AWp.ret ?_
    try simp only [thenQ, blockQ, noGo]
    refine bodyQ.m ?_
    clear hK2 K2 hK1 K1
    simp_all [insideN]
    first | done | exact Hand.go
  refine AWp.regionW ?_
  refine AWp.condLM (fun c2 => ?_) (fun c2 => ?_)
  · skip
    refine AWp.regionW ?_
    refine AWp.ret ?_
    try simp only [thenQ, blockQ, noGo]
    refine bodyQ.m ?_
    clear hK2 K2 hK1 K1
    simp_all [insideN]
    first | done | exact Hand.go
  refine AWp.regionW ?_
  refine AWp.condLM (fun c3 => ?_) (fun c3 => ?_)
  · skip
    refine AWp.regionW ?_
    refine AWp.ret ?_
    try simp only [thenQ, blockQ, noGo]
    refine bodyQ.m ?_
    clear hK2 K2 hK1 K1
    simp_all [insideN]
    first | done | exact Hand.go
  refine AWp.skip ?_
  refine hK1 _ ?_
  refine AWp.regionW ?_
  refine AWp.ret ?_
  try simp only [thenQ, blockQ, noGo]
  refine bodyQ.m ?_
  clear hK2 K2 hK1 K1
  simp_all [insideN]
  first | done | exact Hand.go
def fitsN (f : ShForm) (n : Nat) : Bool := decide (f.least ≤ n) && decide (n ≤ f.most) && ((n - f.least) % f.unit == 0)
theorem fits_c (f : ShForm) (n : Nat) (hn : n < 2 ^ 60) (hl : f.least < 2 ^ 60) (hu : 0 < f.unit) (hu2 : f.unit < 2 ^ 60) : PC Tryz.prog 135 [formA f, nat n] (bool (fitsN f n)) := by
  refine PC.of_bodyW (by simp only [push_cast]) Tryz.func135 rfl (by rw [Tryz.ntmps135]; simp) ?_
  refine AWp.regionW ?_
  refine AWp.regionA fun K1 hK1 => ?_
  refine ARun.segm 5 fun KS hKS => ?_
  refine ARun2.endm (hKS _ ?_); clear hKS KS
  apply ARun.grpM 4 4 true 13 [1, 2, 9]
  · intro g4 KG hKG
    refine ARun2.gom ?_
    exact ARun2.endm (hKG _ Le.grpM)
  refine ARun.segm 2 fun KS hKS => ?_
  refine ARun2.endm (hKS _ ?_); clear hKS KS
  apply ARun.grpM 8 10 true 23 [15]
  · intro g10 KG hKG
    have hle : f.least ≤ n := by simp at g10; omega
    refine ARun2.gom ?_
    exact ARun2.endm (hKG _ Le.grpM)
  refine ARun2.gom ?_
  refine ARun2.endm (hK1 _ ?_)
  refine AWp.ret ?_
  try simp only [thenQ, blockQ, noGo]
  refine bodyQ.m ?_
  clear hK1 K1
  simp only [fitsN]
  first | done | exact Hand.go
def kidsOk (f : ShForm) (l : List GNode) : Bool :=
  decide ((insideN f.kids).2.1 ≤ l.length) && decide (l.length ≤ (insideN f.kids).2.2) && (f.kids != 4 || (l.headD default).ty == 5 || (l.headD default).ty == 6)
theorem kids_c (f : ShForm) (l : List GNode) (hl : l.length < 2 ^ 60) (hf : f.kids < 2 ^ 60) : PC Tryz.prog 136 [formA f, .sl false 3 (nodesA false l)] (bool (kidsOk f l)) := by
  refine PC.of_bodyW (by simp only [push_cast]) Tryz.func136 rfl (by rw [Tryz.ntmps136]; simp) ?_
  refine AWp.regionW ?_
  refine AWp.regionM fun K1 hK1 => ?_
  refine ARun2.callM (inside_c f.kids hf) ?_
  refine ARun2.endm (hK1 _ ?_)
  refine AWp.regionA fun K2 hK2 => ?_
  refine ARun.segm 5 fun KS hKS => ?_
  refine ARun2.endm (hKS _ ?_); clear hKS KS
  apply ARun.grpM 4 4 true 23 [1, 2, 19]
  · intro g4 KG hKG
    refine ARun2.gom ?_
    exact ARun2.endm (hKG _ Le.grpM)
  refine ARun.segm 2 fun KS hKS => ?_
  refine ARun2.endm (hKS _ ?_); clear hKS KS
  apply ARun.grpM 17 10 true 42 [25]
  · intro g10 KG hKG
    refine ARun.segm 4 fun KS hKS => ?_
    refine ARun2.endm (hKS _ ?_); clear hKS KS
    apply ARun.grpM 5 14 false 34 [1, 25, 29]
    · intro g14 KG hKG
      have hne : 0 < l.length := by
        have hk : f.kids = 4 := by simpa using g14
        simp [insideN, hk] at g10
        omega
      refine ARun2.gom ?_
      refine ARun2.indexM (0) (nodeA false (l.headD default)) ?_ ?_
      · exact nodesA_head false l hne
      exact ARun2.endm (hKG _ Le.grpM)
    refine ARun.segm 2 fun KS hKS => ?_
    refine ARun2.endm (hKS _ ?_); clear hKS KS
    apply ARun.grpM 5 21 false 41 [25, 36]
    · intro g21 KG hKG
      have hne : 0 < l.length := by
        have hk : f.kids = 4 := by simp at g21; exact g21.1
        simp [insideN, hk] at g10
        omega
      refine ARun2.gom ?_
      refine ARun2.indexM (0) (nodeA false (l.headD default)) ?_ ?_
      · exact nodesA_head false l hne
      exact ARun2.endm (hKG _ Le.grpM)
    refine ARun2.gom ?_
    exact ARun2.endm (hKG _ Le.grpM)
  refine ARun2.gom ?_
  refine ARun2.endm (hK2 _ ?_)
  refine AWp.ret ?_
  try simp only [thenQ, blockQ, noGo]
  refine bodyQ.m ?_
  clear hK2 K2 hK1 K1
  simp only [kidsOk, Bool.or_assoc]
  first | done | exact Hand.go
abbrev cur (l : List UInt8) (i : Nat) : Ob := .box 185 [.sl false 1 (bys l), nat i]
theorem new_c (l : List UInt8) (hl : l.length ≤ 2 ^ 40) : OC Tryz.prog 95 [.sl false 1 (bys l)] [] (.ptr 0 0) [cur l 0] := by
  refine OC.of_body [0] (by intro k hk; simp at hk) Tryz.func95 rfl (by rw [Tryz.ntmps95]; simp) ?_
  refine AWp.regionW ?_
  refine AWp.regionM fun K1 hK1 => ?_
  refine ARun2.callM (clone_c l hl) ?_
  refine ARun2.endm (hK1 _ ?_)
  refine AWp.ret ?_
  try simp only [thenQ, blockQ, noGo]
  refine bodyQ.m ?_
  clear hK1 K1
  refine endO.m ?_ ?_
  · rfl
  first | done | exact Hand.go
theorem left_c (l : List UInt8) (i : Nat) (hi : i ≤ l.length) (hl : l.length ≤ 2 ^ 40) : OC Tryz.prog 99 [.ptr 0 0] [cur l i] (nat (l.length - i)) [cur l i] := by
  refine OC.of_body [0] (by intro k hk; simp at hk; subst hk; rfl) Tryz.func99 rfl (by rw [Tryz.ntmps99]; simp) ?_
  refine AWp.regionW ?_
  refine AWp.seqK fun K1 hK1 => ?_
  refine AWp.regionW ?_
  refine AWp.condF ?_
  refine AWp.skip ?_
  refine hK1 _ ?_
  refine AWp.drS [[(0, none)], [(5, some 0)], [(6, some 1)], [(7, some 2)], [(8, some 3)], [(0, none)], [(10, some 5)], [(11, some 6)], [(12, some 7)], [(9, some 4), (13, some 8)], [(14, some 9)]] fun G hG => ?_
  refine Dr.sim ?_
  try simp only [lca, lna]
  refine Dr.sim ?_
  try simp only [lca, lna]
  refine Dr.sim ?_
  try simp only [lca, lna]
  refine Dr.sim ?_
  try simp only [lca, lna]
  refine Dr.sim ?_
  try simp only [lca, lna]
  refine Dr.sim ?_
  try simp only [lca, lna]
  refine Dr.sim ?_
  try simp only [lca, lna]
  refine Dr.sim ?_
  try simp only [lca, lna]
  refine Dr.sim ?_
  try simp only [lca, lna]
  refine Dr.sim ?_
  try simp only [lca, lna]
  refine Dr.sim ?_
  try simp only [lca, lna]
  refine Dr.finM (n := 11) [(2, 10)] [] hG Facts.mixed fun KD hKD => ?_
  refine ARun2.endm (hKD _ ?_); clear hKD KD hG G
  refine AWp.ret ?_
  try simp only [thenQ, blockQ, noGo]
  refine bodyQ.m ?_
  clear hK1 K1
  refine endO.m ?_ ?_
  · rfl
  try simp only [bys_len]
  first | done | exact Hand.go
def peekN (k : Nat) (l : List UInt8) (i : Nat) : Nat := if i + k ≤ l.length then beN ((l.drop i).take k) else 0
theorem peek_c (k : Nat) (l : List UInt8) (i : Nat) (hk : k = 1 ∨ k = 2 ∨ k = 4) (hi : i ≤ l.length) (hl : l.length ≤ 2 ^ 40) :
    OC Tryz.prog 139 [.ptr 0 0, nat k] [cur l i] (.tup [u32 (peekN k l i), bool (decide (i + k ≤ l.length))]) [cur l i] := by
  have hr : (k == 1 || k == 2 || k == 4) = true := by rcases hk with rfl | rfl | rfl <;> rfl
  have hil : (l.drop i).length = l.length - i := List.length_drop
  refine OC.of_body [0] (by intro k hk; simp at hk; subst hk; rfl) Tryz.func139 rfl (by rw [Tryz.ntmps139]; simp) ?_
  refine AWp.regionW ?_
  refine AWp.seqK fun K1 hK1 => ?_
  refine AWp.regionM fun K2 hK2 => ?_
  refine ARun2.callM (hr ▸ wire_right k) ?_
  refine ARun2.callOM [0] (left_c l i hi hl) ?_
  refine ARun2.endm (hK2 _ ?_)
  refine AWp.condLM (fun c0 => ?_) (fun c0 => ?_)
  · skip
    have hno : ¬ i + k ≤ l.length := by simp at c0; omega
    refine AWp.regionW ?_
    refine AWp.ret ?_
    try simp only [thenQ, blockQ, noGo]
    refine bodyQ.m ?_
    clear hK2 K2 hK1 K1
    refine endO.m ?_ ?_
    · rfl
    simp only [peekN, hno, if_false, decide_false]
    first | done | exact Hand.go
  have hyes : i + k ≤ l.length := by simp at c0; omega
  have hpos : 0 < (l.drop i).length / k := by rw [hil]; exact Nat.div_pos (by omega) (by omega)
  refine AWp.skip ?_
  refine hK1 _ ?_
  refine AWp.seqK fun K3 hK3 => ?_
  refine AWp.drS [[(1, none)], [(0, none)], [(17, some 1)], [(18, some 2)], [(19, some 3)], [(0, none)], [(21, some 5)], [(22, some 6)], [(23, some 7)], [(20, some 4), (24, some 8)], [(16, some 0), (25, some 9)]] fun G hG => ?_
  refine Dr.sim ?_
  try simp only [lca, lna]
  refine Dr.sim ?_
  try simp only [lca, lna]
  refine Dr.sim ?_
  try simp only [lca, lna]
  refine Dr.sim ?_
  try simp only [lca, lna]
  refine Dr.sim ?_
  try simp only [lca, lna]
  refine Dr.sim ?_
  try simp only [lca, lna]
  refine Dr.sim ?_
  try simp only [lca, lna]
  refine Dr.sim ?_
  try simp only [lca, lna]
  refine Dr.sim ?_
  try simp only [lca, lna]
  refine Dr.sliceLo (i) ?_ ?_
  · rw [bys_len]; omega
  try simp only [lca, lna]
  refine Dr.call (numbers_c k (l.drop i)) ?_
  try simp only [lca, lna]
  refine Dr.finM (n := 11) [(26, 10)] [4, 5] hG Facts.mixed fun KD hKD => ?_
  refine ARun2.endm (hKD _ ?_); clear hKD KD hG G
  refine AWp.block ?_
  refine AWp.rangeFuncM (numbers_iter k (l.drop i) hk (by omega)) [4, 5] (fun pre ob tr go => pre = [] ∧ ob = [cur l i, .box 38 [.val (.int .u32 0)], .box 4 [.val (.bool false)]]) (fun e ob tr go => e = .ret ∧ ob = [cur l i, .box 38 [u32 (beN ((l.drop i).take k))], .box 4 [.val (.bool true)]]) ?_ ?_ ?_ ?_ ?_
  · exact numYs_ps _
  · exact ⟨rfl, rfl⟩
  · rintro pre x post ob tr go hxs ⟨rfl, rfl⟩
    have hx : (numYs k (l.drop i))[0]? = some x := by rw [hxs]; rfl
    rw [numYs_get hpos] at hx
    simp only [Option.some.injEq, Nat.zero_mul, List.drop_zero] at hx
    subst hx
    refine AWp.regionV ?_
    change AWp _ _ _ _
    refine AWp.block ?_
    refine AWp.regionW ?_
    refine AWp.ret ?_
    try simp only [thenQ, blockQ, noGo]
    refine ⟨_, Le.refl _, ?_⟩
    exact ⟨rfl, rfl⟩
  · rintro ob tr go df ⟨h, _⟩
    have := congrArg List.length h
    rw [numYs_len, nums_len] at this
    simp at this
    omega
  · rintro e ob tr go df ⟨rfl, rfl⟩
    refine bodyQ.m ?_
    refine endO.m ?_ ?_
    · rfl
    · simp only [peekN, hyes, if_true, decide_true]
      exact Hand.go
theorem number_c (k : Nat) (l : List UInt8) (i : Nat) (hk : k = 1 ∨ k = 2 ∨ k = 4) (hi : i ≤ l.length) (hl : l.length ≤ 2 ^ 40) :
    OC Tryz.prog 96 [.ptr 0 0, nat k] [cur l i] (.tup [u32 (peekN k l i), bool (decide (i + k ≤ l.length))]) [cur l (if i + k ≤ l.length then i + k else i)] := by
  refine OC.of_body [0] (by intro k hk; simp at hk; subst hk; rfl) Tryz.func96 rfl (by rw [Tryz.ntmps96]; simp) ?_
  refine AWp.regionW ?_
  refine AWp.regionM fun K1 hK1 => ?_
  refine ARun2.callOM [0] (peek_c k l i hk hi hl) ?_
  refine ARun2.endm (hK1 _ ?_)
  refine AWp.seqK fun K2 hK2 => ?_
  refine AWp.regionW ?_
  refine AWp.condLM (fun c0 => ?_) (fun c0 => ?_)
  · skip
    have hyes : i + k ≤ l.length := of_decide_eq_true c0
    refine AWp.regionV ?_
    refine hK2 _ ?_
    refine AWp.regionW ?_
    refine AWp.ret ?_
    try simp only [thenQ, blockQ, noGo]
    refine bodyQ.m ?_
    clear hK2 K2 hK1 K1
    refine endO.m ?_ ?_
    · first | (rw [if_pos (by assumption)]) | (rw [if_neg (by assumption)])
    first | done | exact Hand.go
  have hno : ¬ i + k ≤ l.length := of_decide_eq_false c0
  refine AWp.skip ?_
  refine hK2 _ ?_
  refine AWp.regionW ?_
  refine AWp.ret ?_
  try simp only [thenQ, blockQ, noGo]
  refine bodyQ.m ?_
  clear hK2 K2 hK1 K1
  refine endO.m ?_ ?_
  · first | (rw [if_pos (by assumption)]) | (rw [if_neg (by assumption)])
  first | done | exact Hand.go
theorem peekN_lt (k : Nat) (l : List UInt8) (i : Nat) (hk : k ≤ 4) : peekN k l i < 2 ^ 32 := by
  unfold peekN
  split
  · refine Nat.lt_of_lt_of_le (beN_lt _) ?_
    have h : ((l.drop i).take k).length ≤ 4 := Nat.le_trans (List.length_take_le _ _) hk
    exact Nat.le_trans (Nat.pow_le_pow_right (by omega) h) (by decide)
  · decide
def countedN (c t : Nat) (d : List UInt8) : Bool := c == 2 && (t == 2 && (!decide (4 ≤ d.length) || peekN 4 d 0 != (d.length - 4) / 2))
theorem counted_c (c t : Nat) (d : List UInt8) (hl : d.length ≤ 2 ^ 40) : PC Tryz.prog 137 [nat c, u16 t, .sl false 1 (bys d)] (bool (countedN c t d)) := by
  have hp := peekN_lt 4 d 0 (by omega)
  refine PC.of_bodyW (by simp only [push_cast]) Tryz.func137 rfl (by rw [Tryz.ntmps137]; simp) ?_
  refine AWp.regionW ?_
  refine AWp.regionM fun K1 hK1 => ?_
  refine ARun2.callOM [] (new_c d hl) ?_
  refine ARun2.callOM [0] (number_c 4 d 0 (by omega) (by omega) hl) ?_
  refine ARun2.endm (hK1 _ ?_)
  refine AWp.regionA fun K2 hK2 => ?_
  refine ARun.segm 3 fun KS hKS => ?_
  refine ARun2.endm (hKS _ ?_); clear hKS KS
  apply ARun.grpM 2 2 true 19 [2, 7, 8, 17]
  · intro g2 KG hKG
    refine ARun2.gom ?_
    exact ARun2.endm (hKG _ Le.grpM)
  refine ARun.segm 2 fun KS hKS => ?_
  refine ARun2.endm (hKS _ ?_); clear hKS KS
  apply ARun.grpM 11 6 true 32 [21]
  · intro g6 KG hKG
    refine ARun.segm 3 fun KS hKS => ?_
    refine ARun2.endm (hKS _ ?_); clear hKS KS
    apply ARun.grpM 7 9 false 31 [21, 24]
    · intro g9 KG hKG
      have h4 : 4 ≤ d.length := by simpa using g9
      refine ARun2.gom ?_
      exact ARun2.endm (hKG _ Le.grpM)
    refine ARun2.gom ?_
    exact ARun2.endm (hKG _ Le.grpM)
  refine ARun2.gom ?_
  refine ARun2.endm (hK2 _ ?_)
  refine AWp.ret ?_
  try simp only [thenQ, blockQ, noGo]
  refine bodyQ.m ?_
  clear hK2 K2 hK1 K1
  simp only [countedN, Nat.zero_add, Bool.and_assoc]
  first | done | exact Hand.go
def tlvSize (l : List Nat) : Nat := sumUp 0 (l.map (4 + ·))
structure Frm where
  ty : Nat
  val : List UInt8
@[push_cast] def frmA (b : Bool) (f : Frm) : AV := .agg [u16 f.ty, .sl b 1 (bys f.val)]
def frmsA (b : Bool) (l : List Frm) : List AV := l.map (frmA b)
@[push_cast] theorem frmsA_len (b : Bool) (l : List Frm) : (frmsA b l).length = l.length := by simp [frmsA]
theorem frmsA_at (b : Bool) (l : List Frm) (i : Nat) (h : i < l.length) : (frmsA b l)[i]? = some (frmA b l[i]) := by simp [frmsA, h]
@[push_cast] theorem frmsA_ids (b : Bool) (p : Nat → Bool) (l : List Frm) : AV.idsOkL p (frmsA b l) = true := by
  rw [AV.idsOkL_iff]; intro x hx; simp only [frmsA, List.mem_map] at hx; obtain ⟨f, _, rfl⟩ := hx; simp [frmA, AV.idsOk, AV.idsOkL, bys_ids]
@[push_cast] theorem frmsA_hand (ids : List Nat) (b : Bool) (l : List Frm) : AV.handL ids (frmsA b l) = frmsA false l := by
  rw [AV.handL_map]; simp [frmsA, frmA, AV.hand, AV.handL, bys_hand]
theorem tlvSize_c (l : List Frm) (h : tlvSize (l.map fun f => f.val.length) < 2 ^ 61) (hl : l.length ≤ 2 ^ 40) (hv : ∀ f ∈ l, f.val.length ≤ 2 ^ 40) : PC Tryz.prog 163 [.sl false 2 (frmsA false l)] (nat (tlvSize (l.map fun f => f.val.length))) := by
  refine PC.of_bodyW (by simp only [push_cast]) Tryz.func163 rfl (by rw [Tryz.ntmps163]; simp) ?_
  refine AWp.regionW ?_
  refine AWp.regionW ?_
  refine AWp.seqK fun K1 hK1 => ?_
  refine AWp.regionW ?_
  refine AWp.block ?_
  -- SLOTS THAT TURN AND ARE NOT TOLD: [3]
  refine AWp.nilOwn 3 3 1 (by simp only [push_cast, ↓reduceIte, Nat.reduceEqDiff, Nat.reduceLT, Nat.reduceAdd, Nat.reduceSub, Nat.reduceMul, Nat.reduceLeDiff, Nat.reducePow, Int.reduceLT, Int.reduceToNat, reduceCtorEq, Int.reduceNeg, Int.reduceEq, Nat.reduceBEq, Nat.reduceBNe, Int.reduceBEq, Int.reduceBNe, String.reduceEq]) ?_
  refine Go.Abs.evS2 ?_
  refine AWp.loopK [3, 6, 7] (fun (i : Nat) => [(8, nat i)]) (fun i => [.row 3 1 (nats ((l.take i).map fun f => 4 + f.val.length))]) (fun i => i ≤ l.length) (fun i => l.length - i) (0) ?_ (Nat.zero_le _) ?_
  · skip
    refine Le.m 1 ?_ ?_
    · first | exact Go.Abs.evM | (refine Go.Abs.evS ?_; rfl)
    · exact Go.Abs.evN
  · intro i hi K2 hK2
    refine AWp.regionW ?_
    refine AWp.seqK fun K3 hK3 => ?_
    refine AWp.condLM (fun c0 => ?_) (fun c0 => ?_)
    · skip
      have hil : i < l.length := by simpa using c0
      have hvi := hv l[i] (List.getElem_mem hil)
      refine AWp.skip ?_
      refine hK3 _ ?_
      refine AWp.seqK fun K4 hK4 => ?_
      refine AWp.block ?_
      refine AWp.regionM fun K5 hK5 => ?_
      refine ARun2.indexM (i) (frmA false l[i]) ?_ ?_
      · exact frmsA_at _ _ _ hil
      refine ARun2.endm (hK5 _ ?_)
      refine AWp.regionN fun K6 hK6 => ?_
      refine ARun2.appendM ?_ ?_ ?_
      · rw [Facts.eb156, nats_len, List.length_map, List.length_take, List.length_cons, List.length_nil]; omega
      · rw [nats_len, List.length_map, List.length_take, List.length_cons, List.length_nil]; omega
      refine ARun2.endm (hK6 _ ?_)
      refine hK4 _ ?_
      refine AWp.regionV ?_
      refine hK2 _ (i + 1) (by omega) (by omega) ?_
      refine Le.m 1 ?_ ?_
      · first | exact Go.Abs.evM | (refine Go.Abs.evS ?_; rw [List.take_succ_eq_append_getElem hil, List.map_append]; simp [nats])
      · exact Go.Abs.evN
    have hil : i = l.length := by simp at c0; omega
    subst hil
    refine AWp.exit ?_
    try simp only [thenQ, blockQ, noGo, reduceIte, Nat.reduceEqDiff]
    refine hK1 _ ?_
    refine AWp.pub 0 rfl (Nat.le_refl _) ?_
    simp only [push_cast, ↓reduceIte, Nat.reduceEqDiff, Nat.reduceLT, Nat.reduceAdd, Nat.reduceSub, Nat.reduceMul, Nat.reduceLeDiff, Nat.reducePow, Int.reduceLT, Int.reduceToNat, reduceCtorEq, Int.reduceNeg, Int.reduceEq, Nat.reduceBEq, Nat.reduceBNe, Int.reduceBEq, Int.reduceBNe, String.reduceEq, List.take_length]
    refine AWp.regionM fun K7 hK7 => ?_
    refine ARun2.callM (pad_sizes (l.map fun f => 4 + f.val.length) (by simpa [tlvSize, List.map_map, Function.comp_def] using h) (by rw [List.length_map]; omega)) ?_
    refine ARun2.endm (hK7 _ ?_)
    refine AWp.ret ?_
    try simp only [thenQ, blockQ, noGo]
    refine bodyQ.m ?_
    clear hK7 K7 hK3 K3 hK2 K2 hK1 K1
    simp only [tlvSize, List.map_map, Function.comp_def]
    first | done | exact Hand.go
end Go.Proofs.YtokbbdodbjiciaaGreatDoor.C
namespace Go.Abs
def paramForms : List ShForm := [⟨0, 1, ⟨#[104, 101, 97, 114, 116, 98, 101, 97, 116, 45, 105, 110, 102, 111]⟩, 0, 65531, 1, 0⟩,
  ⟨0, 5, ⟨#[105, 112, 118, 52]⟩, 4, 4, 1, 0⟩,
  ⟨0, 6, ⟨#[105, 112, 118, 54]⟩, 16, 16, 1, 0⟩,
  ⟨0, 7, ⟨#[115, 116, 97, 116, 101, 45, 99, 111, 111, 107, 105, 101]⟩, 0, 65531, 1, 0⟩,
  ⟨0, 8, ⟨#[117, 110, 114, 101, 99, 111, 103, 110, 105, 122, 101, 100]⟩, 0, 0, 1, 1⟩,
  ⟨0, 9, ⟨#[99, 111, 111, 107, 105, 101, 45, 112, 114, 101, 115, 101, 114, 118, 97, 116, 105, 118, 101]⟩, 4, 4, 1, 0⟩,
  ⟨0, 11, ⟨#[104, 111, 115, 116, 45, 110, 97, 109, 101]⟩, 1, 65531, 1, 0⟩,
  ⟨0, 12, ⟨#[97, 100, 100, 114, 101, 115, 115, 45, 116, 121, 112, 101, 115]⟩, 2, 65531, 2, 0⟩,
  ⟨0, 13, ⟨#[111, 117, 116, 103, 111, 105, 110, 103, 45, 114, 101, 115, 101, 116]⟩, 12, 65531, 2, 0⟩,
  ⟨0, 14, ⟨#[105, 110, 99, 111, 109, 105, 110, 103, 45, 114, 101, 115, 101, 116]⟩, 4, 65531, 2, 0⟩,
  ⟨0, 15, ⟨#[116, 115, 110, 45, 114, 101, 115, 101, 116]⟩, 4, 4, 1, 0⟩,
  ⟨0, 16, ⟨#[114, 101, 99, 111, 110, 102, 105, 103, 45, 114, 101, 115, 112, 111, 110, 115, 101]⟩, 8, 16, 8, 0⟩,
  ⟨0, 17, ⟨#[97, 100, 100, 45, 111, 117, 116, 103, 111, 105, 110, 103]⟩, 8, 8, 1, 0⟩,
  ⟨0, 18, ⟨#[97, 100, 100, 45, 105, 110, 99, 111, 109, 105, 110, 103]⟩, 8, 8, 1, 0⟩,
  ⟨0, 32768, ⟨#[101, 99, 110]⟩, 0, 0, 1, 0⟩,
  ⟨0, 32770, ⟨#[114, 97, 110, 100, 111, 109]⟩, 1, 65531, 1, 0⟩,
  ⟨0, 32771, ⟨#[99, 104, 117, 110, 107, 45, 108, 105, 115, 116]⟩, 0, 65531, 1, 0⟩,
  ⟨0, 32772, ⟨#[104, 109, 97, 99, 45, 97, 108, 103, 111, 114, 105, 116, 104, 109, 115]⟩, 2, 65531, 2, 0⟩,
  ⟨0, 32773, ⟨#[112, 97, 100, 100, 105, 110, 103]⟩, 0, 65531, 1, 0⟩,
  ⟨0, 32776, ⟨#[101, 120, 116, 101, 110, 115, 105, 111, 110, 115]⟩, 0, 65531, 1, 0⟩,
  ⟨0, 49152, ⟨#[102, 111, 114, 119, 97, 114, 100, 45, 116, 115, 110]⟩, 0, 0, 1, 0⟩,
  ⟨0, 49153, ⟨#[97, 100, 100, 45, 105, 112]⟩, 4, 4, 1, 4⟩,
  ⟨0, 49154, ⟨#[100, 101, 108, 101, 116, 101, 45, 105, 112]⟩, 4, 4, 1, 4⟩,
  ⟨0, 49155, ⟨#[101, 114, 114, 111, 114, 45, 105, 110, 100, 105, 99, 97, 116, 105, 111, 110]⟩, 4, 4, 1, 3⟩,
  ⟨0, 49156, ⟨#[115, 101, 116, 45, 112, 114, 105, 109, 97, 114, 121]⟩, 4, 4, 1, 4⟩,
  ⟨0, 49157, ⟨#[115, 117, 99, 99, 101, 115, 115]⟩, 4, 4, 1, 0⟩,
  ⟨0, 49158, ⟨#[97, 100, 97, 112, 116, 97, 116, 105, 111, 110]⟩, 4, 4, 1, 0⟩]
def causeForms : List ShForm := [⟨0, 1, ⟨#[105, 110, 118, 97, 108, 105, 100, 45, 115, 116, 114, 101, 97, 109]⟩, 4, 4, 1, 0⟩,
  ⟨0, 2, ⟨#[109, 105, 115, 115, 105, 110, 103, 45, 112, 97, 114, 97, 109, 101, 116, 101, 114]⟩, 6, 65531, 2, 0⟩,
  ⟨0, 3, ⟨#[115, 116, 97, 108, 101, 45, 99, 111, 111, 107, 105, 101]⟩, 4, 4, 1, 0⟩,
  ⟨0, 4, ⟨#[111, 117, 116, 45, 111, 102, 45, 114, 101, 115, 111, 117, 114, 99, 101]⟩, 0, 0, 1, 0⟩,
  ⟨0, 5, ⟨#[117, 110, 114, 101, 115, 111, 108, 118, 97, 98, 108, 101, 45, 97, 100, 100, 114, 101, 115, 115]⟩, 0, 0, 1, 1⟩,
  ⟨0, 6, ⟨#[117, 110, 114, 101, 99, 111, 103, 110, 105, 122, 101, 100, 45, 99, 104, 117, 110, 107]⟩, 4, 65531, 1, 0⟩,
  ⟨0, 7, ⟨#[105, 110, 118, 97, 108, 105, 100, 45, 112, 97, 114, 97, 109, 101, 116, 101, 114]⟩, 0, 0, 1, 0⟩,
  ⟨0, 8, ⟨#[117, 110, 114, 101, 99, 111, 103, 110, 105, 122, 101, 100, 45, 112, 97, 114, 97, 109, 101, 116, 101, 114, 115]⟩, 0, 0, 1, 2⟩,
  ⟨0, 9, ⟨#[110, 111, 45, 117, 115, 101, 114, 45, 100, 97, 116, 97]⟩, 4, 4, 1, 0⟩,
  ⟨0, 10, ⟨#[99, 111, 111, 107, 105, 101, 45, 119, 104, 105, 108, 101, 45, 115, 104, 117, 116, 116, 105, 110, 103, 45, 100, 111, 119, 110]⟩, 0, 0, 1, 0⟩,
  ⟨0, 11, ⟨#[114, 101, 115, 116, 97, 114, 116]⟩, 0, 0, 1, 2⟩,
  ⟨0, 12, ⟨#[117, 115, 101, 114, 45, 97, 98, 111, 114, 116]⟩, 0, 65531, 1, 0⟩,
  ⟨0, 13, ⟨#[112, 114, 111, 116, 111, 99, 111, 108, 45, 118, 105, 111, 108, 97, 116, 105, 111, 110]⟩, 0, 65531, 1, 0⟩,
  ⟨0, 160, ⟨#[100, 101, 108, 101, 116, 101, 45, 108, 97, 115, 116, 45, 97, 100, 100, 114, 101, 115, 115]⟩, 0, 0, 1, 1⟩,
  ⟨0, 161, ⟨#[114, 101, 115, 111, 117, 114, 99, 101, 45, 115, 104, 111, 114, 116, 97, 103, 101]⟩, 0, 65531, 1, 0⟩,
  ⟨0, 162, ⟨#[100, 101, 108, 101, 116, 101, 45, 115, 111, 117, 114, 99, 101, 45, 97, 100, 100, 114, 101, 115, 115]⟩, 0, 0, 1, 1⟩,
  ⟨0, 163, ⟨#[105, 108, 108, 101, 103, 97, 108, 45, 97, 115, 99, 111, 110, 102, 45, 97, 99, 107]⟩, 0, 65531, 1, 0⟩,
  ⟨0, 164, ⟨#[110, 111, 45, 97, 117, 116, 104, 111, 114, 105, 122, 97, 116, 105, 111, 110]⟩, 0, 65531, 1, 0⟩,
  ⟨0, 261, ⟨#[117, 110, 115, 117, 112, 112, 111, 114, 116, 101, 100, 45, 104, 109, 97, 99]⟩, 2, 2, 1, 0⟩]
def formsN : Nat → List ShForm
  | 1 => paramForms
  | 2 => causeForms
  | _ => []
def formsA (l : List ShForm) : List AV := l.map formA
@[push_cast] theorem formsA_len (l : List ShForm) : (formsA l).length = l.length := by simp [formsA]
theorem formsA_at (l : List ShForm) (i : Nat) (h : i < l.length) : (formsA l)[i]? = some (formA l[i]) := by simp [formsA, h]
@[push_cast] theorem formsA_ids (p : Nat → Bool) (l : List ShForm) : AV.idsOkL p (formsA l) = true := by
  rw [AV.idsOkL_iff]; intro x hx; simp only [formsA, List.mem_map] at hx; obtain ⟨f, _, rfl⟩ := hx; rfl
@[push_cast] theorem formsA_hand (ids : List Nat) (l : List ShForm) : AV.handL ids (formsA l) = formsA l := by
  rw [AV.handL_map, formsA, List.map_map]; rfl
def formV (c : Nat) (f : ShForm) : Value := .agg #[.int .i64 (N c), .int .u16 (N f.ty), .string f.name, .int .i64 (N f.least), .int .i64 (N f.most), .int .i64 (N f.unit), .int .i64 (N f.kids)]
def entryV (c : Nat) (f : ShForm) : Value × Value := (.int .u16 (N f.ty), formV c f)
def zeroForm : ShForm := ⟨0, 0, ⟨#[]⟩, 0, 0, 0, 0⟩
def shapeOf (c t : Nat) : ShForm := (((formsN c).find? fun f => f.ty == t).map fun f => { f with cls := c }).getD zeroForm
def shapeHas (c t : Nat) : Bool := ((formsN c).find? fun f => f.ty == t).isSome
theorem mpFree_entries (c n : Nat) : ∀ l : List ShForm, (∀ f ∈ l, f.ty ≠ n) → mpFree .u16 (N n) (l.map (entryV c)) = true
  | [], _ => rfl
  | f :: l, h => by
    simp only [List.map_cons, entryV, mpFree, Bool.and_eq_true, decide_eq_true_eq]
    refine ⟨⟨trivial, ?_⟩, mpFree_entries c n l fun g hg => h g (by simp [hg])⟩
    rw [ne_eq, N_inj]; exact h f (by simp)
theorem mpFind_entries (c n : Nat) : ∀ l : List ShForm, mpFind .u16 (N n) (l.map (entryV c)) = some ((l.find? fun f => f.ty == n).map (formV c))
  | [] => rfl
  | f :: l => by
    simp only [List.map_cons, entryV, mpFind, if_true, N_inj, List.find?_cons]
    by_cases h : f.ty = n
    · simp [h]
    · have h' : (f.ty == n) = false := by simpa using h
      simp only [h, if_false, h', mpFind_entries c n l]
theorem forms_nodup (c : Nat) : ((formsN c).map (·.ty)).Nodup := by
  match c with
  | 0 => decide
  | 1 => decide
  | 2 => decide
  | _ + 3 => exact List.nodup_nil
theorem forms_free (c i : Nat) (h : i < (formsN c).length) : ∀ f ∈ (formsN c).take i, f.ty ≠ (formsN c)[i].ty := by
  intro f hf he
  have hn := forms_nodup c
  obtain ⟨j, hj, rfl⟩ := List.getElem_of_mem hf
  rw [List.length_take] at hj
  rw [List.getElem_take] at he
  have h1 : j = i := (List.getElem_inj (xs := (formsN c).map (·.ty)) (i := j) (j := i) (h₀ := by simp; omega) (h₁ := by simpa using h) hn).1 (by simpa using he)
  omega
end Go.Abs
namespace Go.Proofs.YtokbbdodbjiciaaGreatDoor.C
open Go.Abs
set_option maxRecDepth 100000 in
set_option maxHeartbeats 1000000 in
theorem table_c : PC Tryz.prog 183 [] (.agg [.val (.slice none 0 0), .sl false 7 (formsA paramForms), .sl false 7 (formsA causeForms)]) := by
  refine PC.of_bodyW (by simp only [push_cast]) Tryz.func183 rfl (by rw [Tryz.ntmps183]; simp) ?_
  refine AWp.regionW ?_
  refine AWp.regionW ?_
  refine AWp.ret ?_
  try simp only [thenQ, blockQ, noGo]
  refine bodyQ.m ?_
  simp only [formsA, paramForms, causeForms, List.map_cons, List.map_nil]
  first | done | exact Hand.go
theorem forms_c (c : Nat) (hc : c = 1 ∨ c = 2) : OC Tryz.prog 164 [nat c] [] (.own 0) [.mp ((formsN c).map (entryV c))] := by
  have hc3 : c < 3 := by omega
  have hl : (formsN c).length < 2 ^ 60 := by rcases hc with rfl | rfl <;> decide
  refine OC.of_body [0] (by intro k hk; simp at hk) Tryz.func164 rfl (by rw [Tryz.ntmps164]; simp) ?_
  refine AWp.regionW ?_
  refine AWp.regionM fun K1 hK1 => ?_
  refine ARun2.makeMapM ?_
  refine ARun2.endm (hK1 _ ?_)
  refine AWp.seqK fun K2 hK2 => ?_
  refine AWp.regionM fun K3 hK3 => ?_
  refine ARun2.callM (table_c) ?_
  refine ARun2.endm (hK3 _ ?_)
  refine AWp.condF ?_ (by simp only [push_cast, ↓reduceIte, Nat.reduceEqDiff, Nat.reduceLT, Nat.reduceAdd, Nat.reduceSub, Nat.reduceMul, Nat.reduceLeDiff, Nat.reducePow, Int.reduceLT, Int.reduceToNat, reduceCtorEq, Int.reduceNeg, Int.reduceEq, Nat.reduceBEq, Nat.reduceBNe, Int.reduceBEq, Int.reduceBNe, String.reduceEq]; rw [decide_eq_false (by omega)])
  refine AWp.skip ?_
  refine hK2 _ ?_
  refine AWp.seqK fun K4 hK4 => ?_
  refine AWp.regionM fun K5 hK5 => ?_
  refine ARun2.callM (table_c) ?_
  refine ARun2.aindexM (c) (.sl false 7 (formsA (formsN c))) ?_ ?_
  · rw [Facts.tk252]; rcases hc with rfl | rfl <;> rfl
  refine ARun2.endm (hK5 _ ?_)
  refine AWp.block ?_
  refine AWp.loopK [0, 3, 18, 19] (fun (i : Nat) => [(20, nat i)]) (fun i => [.mp (((formsN c).take i).map (entryV c))]) (fun i => i ≤ (formsN c).length) (fun i => (formsN c).length - i) (0) ?_ (Nat.zero_le _) ?_
  · skip
    refine Le.m 1 ?_ ?_
    · exact Go.Abs.evM
    · exact Go.Abs.evN
  · intro i hi K6 hK6
    refine AWp.regionW ?_
    refine AWp.seqK fun K7 hK7 => ?_
    refine AWp.condLM (fun c1 => ?_) (fun c1 => ?_)
    · skip
      have hil : i < (formsN c).length := by simpa using c1
      refine AWp.skip ?_
      refine hK7 _ ?_
      refine AWp.seqK fun K8 hK8 => ?_
      refine AWp.block ?_
      refine AWp.regionM fun K9 hK9 => ?_
      refine ARun2.indexM (i) (formA (formsN c)[i]) ?_ ?_
      · exact formsA_at _ _ hil
      refine ARun2.endm (hK9 _ ?_)
      refine AWp.regionW ?_
      refine AWp.regionN fun K10 hK10 => ?_
      refine ARun2.mapUpdateM ?_ ?_
      · exact mpFree_entries c _ _ (forms_free c i hil)
      refine ARun2.endm (hK10 _ ?_)
      refine hK8 _ ?_
      refine AWp.regionV ?_
      refine hK6 _ (i + 1) (by omega) (by omega) ?_
      refine Le.m 1 ?_ ?_
      · first | exact Go.Abs.evM | (refine Go.Abs.evS ?_; rw [List.take_succ_eq_append_getElem hil, List.map_append]; rfl)
      · exact Go.Abs.evN
    have hil : i = (formsN c).length := by simp at c1; omega
    refine AWp.exit ?_
    try simp only [thenQ, blockQ, noGo, reduceIte, Nat.reduceEqDiff]
    refine hK4 _ ?_
    refine AWp.regionW ?_
    refine AWp.ret ?_
    try simp only [thenQ, blockQ, noGo]
    refine bodyQ.m ?_
    clear hK7 K7 hK6 K6 hK5 K5 hK4 K4 hK3 K3 hK2 K2 hK1 K1
    refine endO.m ?_ ?_
    · rw [hil, List.take_length]
    first | done | exact Hand.go
theorem of_c (c t : Nat) (hc : c = 1 ∨ c = 2) : PC Tryz.prog 134 [nat c, u16 t] (.tup [formA (shapeOf c t), bool (shapeHas c t)]) := by
  refine PC.of_bodyW (by simp only [push_cast]) Tryz.func134 rfl (by rw [Tryz.ntmps134]; simp) ?_
  refine AWp.regionW ?_
  refine AWp.regionM fun K1 hK1 => ?_
  refine ARun2.callOM [] (forms_c c hc) ?_
  refine ARun2.lookupM (((formsN c).find? fun f => f.ty == t).map (formV c)) (formA (shapeOf c t)) ?_ ?_ ?_
  · exact mpFind_entries c t _
  · simp only [shapeOf]; cases (formsN c).find? (fun f => f.ty == t) <;> rfl
  refine ARun2.endm (hK1 _ ?_)
  refine AWp.regionW ?_
  refine AWp.ret ?_
  try simp only [thenQ, blockQ, noGo]
  refine bodyQ.m ?_
  clear hK1 K1
  simp only [shapeHas, Option.isSome_map]
  first | done | exact Hand.go
end Go.Proofs.YtokbbdodbjiciaaGreatDoor.C
namespace Go.Abs
mutual
def GNode.wt : GNode → Nat
  | .mk _ _ k => wts k + 1
def wts : List GNode → Nat
  | [] => 0
  | n :: l => n.wt + wts l
end
theorem GNode.wt_eq (n : GNode) : n.wt = wts n.kids + 1 := by cases n; simp [GNode.wt, GNode.kids]
theorem wts_mem : ∀ {l : List GNode} {n : GNode}, n ∈ l → n.wt ≤ wts l
  | [], n, h => by simp at h
  | m :: l, n, h => by
    rcases List.mem_cons.1 h with h | h
    · subst h; simp only [wts]; omega
    · have := wts_mem h; simp only [wts]; omega
theorem kids_lt {l : List GNode} {n : GNode} (h : n ∈ l) : wts n.kids < wts l := by
  have := wts_mem h; rw [GNode.wt_eq] at this; omega
end Go.Abs
namespace Go.Proofs.YtokbbdodbjiciaaGreatDoor.C
open Go.Abs
mutual
def vlen : GNode → Nat
  | .mk _ d k => d.length + tlvSize (nLens k)
def nLens : List GNode → List Nat
  | [] => []
  | n :: l => vlen n :: nLens l
end
def nSize (l : List GNode) : Nat := tlvSize (nLens l)
theorem nLens_map : ∀ l : List GNode, nLens l = l.map vlen
  | [] => by simp [nLens]
  | n :: l => by simp [nLens, nLens_map l]
theorem vlen_eq (n : GNode) : vlen n = n.data.length + nSize n.kids := by cases n; simp [vlen, nSize, GNode.data, GNode.kids]
theorem sumUp_mem : ∀ {l : List Nat} {s n : Nat}, n ∈ l → n ≤ sumUp s l
  | [], s, n, h => by simp at h
  | m :: l, s, n, h => by
    simp only [sumUp]
    rcases List.mem_cons.1 h with h | h
    · subst h; exact Nat.le_trans (by omega) (le_sumUp l _)
    · exact sumUp_mem h
theorem sumUp_len : ∀ (l : List Nat) (s : Nat), s + 4 * l.length ≤ sumUp s (l.map (4 + ·))
  | [], s => by simp [sumUp]
  | n :: l, s => by
    have := sumUp_len l (upN s + (4 + n))
    simp only [List.map_cons, sumUp, List.length_cons, upN] at *
    omega
theorem tlvSize_mem {l : List Nat} {n : Nat} (h : n ∈ l) : 4 + n ≤ tlvSize l := sumUp_mem (List.mem_map.2 ⟨n, h, rfl⟩)
theorem tlvSize_len (l : List Nat) : 4 * l.length ≤ tlvSize l := by have := sumUp_len l 0; simpa [tlvSize] using this
theorem vlen_mem {l : List GNode} {n : GNode} (h : n ∈ l) : 4 + vlen n ≤ nSize l := tlvSize_mem (by rw [nLens_map]; exact List.mem_map.2 ⟨n, h, rfl⟩)
theorem nSize_len (l : List GNode) : 4 * l.length ≤ nSize l := by have := tlvSize_len (nLens l); rw [nLens_map, List.length_map] at this; rw [nSize, nLens_map]; exact this
theorem nSize_kids {l : List GNode} {n : GNode} (h : n ∈ l) : nSize n.kids ≤ nSize l := by have := vlen_mem h; rw [vlen_eq] at this; omega
def zf (n : GNode) : Frm := ⟨0, List.replicate (vlen n) 0⟩
theorem size_step (w : Nat) (ih : ∀ l : List GNode, wts l < w → nSize l ≤ 2 ^ 30 → PC Tryz.prog 131 [.sl false 3 (nodesA false l)] (nat (nSize l))) (l : List GNode) (hw : wts l ≤ w) (hs : nSize l ≤ 2 ^ 30) :
    PC Tryz.prog 131 [.sl false 3 (nodesA false l)] (nat (nSize l)) := by
  have hlen := nSize_len l
  refine PC.of_bodyW (by simp only [push_cast]) Tryz.func131 rfl (by rw [Tryz.ntmps131]; simp) ?_
  refine AWp.regionW ?_
  refine AWp.regionW ?_
  refine AWp.seqK fun K1 hK1 => ?_
  refine AWp.regionW ?_
  refine AWp.block ?_
  -- SLOTS THAT TURN AND ARE NOT TOLD: [3]
  refine AWp.nilOwn 3 219 2 (by simp only [push_cast, ↓reduceIte, Nat.reduceEqDiff, Nat.reduceLT, Nat.reduceAdd, Nat.reduceSub, Nat.reduceMul, Nat.reduceLeDiff, Nat.reducePow, Int.reduceLT, Int.reduceToNat, reduceCtorEq, Int.reduceNeg, Int.reduceEq, Nat.reduceBEq, Nat.reduceBNe, Int.reduceBEq, Int.reduceBNe, String.reduceEq]) ?_
  refine Go.Abs.evS2 ?_
  refine AWp.loopK [3, 6, 7] (fun (i : Nat) => [(8, nat i)]) (fun i => [.row 219 2 (frmsA true ((l.take i).map zf))]) (fun i => i ≤ l.length) (fun i => l.length - i) (0) ?_ (Nat.zero_le _) ?_
  · skip
    refine Le.m 1 ?_ ?_
    · first | exact Go.Abs.evM | (refine Go.Abs.evS ?_; rfl)
    · exact Go.Abs.evN
  · intro i hi K2 hK2
    refine AWp.regionW ?_
    refine AWp.seqK fun K3 hK3 => ?_
    refine AWp.condLM (fun c0 => ?_) (fun c0 => ?_)
    · skip
      have hil : i < l.length := by simpa using c0
      have hm := List.getElem_mem hil
      have hv := vlen_mem hm
      have he := vlen_eq l[i]
      have hk := nSize_kids hm
      refine AWp.skip ?_
      refine hK3 _ ?_
      refine AWp.seqK fun K4 hK4 => ?_
      refine AWp.block ?_
      refine AWp.regionM fun K5 hK5 => ?_
      refine ARun2.indexM (i) (nodeA false l[i]) ?_ ?_
      · exact nodesA_at _ _ _ hil
      refine ARun2.endm (hK5 _ ?_)
      refine AWp.drE [[(3, none)], [(5, none)], [(13, some 1)], [(14, some 2)], [(5, none)], [(16, some 4)], [(17, some 5)], [(15, some 3), (18, some 6)], [(19, some 7)], [(20, some 8)], [(21, some 9)]] fun G hG => ?_
      refine Dr.sim ?_
      try simp only [lca, lna]
      refine Dr.sim ?_
      try simp only [lca, lna]
      refine Dr.sim ?_
      try simp only [lca, lna]
      refine Dr.sim ?_
      try simp only [lca, lna]
      refine Dr.sim ?_
      try simp only [lca, lna]
      refine Dr.sim ?_
      try simp only [lca, lna]
      refine Dr.call (ih l[i].kids (by have := kids_lt hm; omega) (by omega)) ?_
      try simp only [lca, lna]
      refine Dr.sim ?_
      try simp only [lca, lna]
      rw [← he]
      refine Dr.make (vlen l[i]) ?_ ?_
      · omega
      try simp only [lca, lna]
      refine Dr.sim ?_
      try simp only [lca, lna]
      refine Dr.build ?_
      try simp only [lca, lna]
      refine Dr.finN (n := 11) [(12, 0), (22, 10)] [6, 7, 8] hG Facts.mixed fun KD hKD => ?_
      refine ARun2.appendM ?_ ?_ ?_
      · rw [Facts.eb214, frmsA_len, List.length_map, List.length_take, List.length_cons, List.length_nil]; omega
      · rw [frmsA_len, List.length_map, List.length_take, List.length_cons, List.length_nil]; omega
      refine ARun2.endm (hKD _ ?_); clear hKD KD hG G
      refine hK4 _ ?_
      refine AWp.regionV ?_
      refine hK2 _ (i + 1) (by omega) (by omega) ?_
      refine Le.m 1 ?_ ?_
      · first | exact Go.Abs.evM | (refine Go.Abs.evS ?_; rw [List.take_succ_eq_append_getElem hil, List.map_append]; simp [frmsA, frmA, zf, N])
      · exact Go.Abs.evN
    have hil : i = l.length := by simp at c0; omega
    subst hil
    refine AWp.exit ?_
    try simp only [thenQ, blockQ, noGo, reduceIte, Nat.reduceEqDiff]
    refine hK1 _ ?_
    refine AWp.pub 0 rfl (Nat.le_refl _) ?_
    simp only [push_cast, ↓reduceIte, Nat.reduceEqDiff, Nat.reduceLT, Nat.reduceAdd, Nat.reduceSub, Nat.reduceMul, Nat.reduceLeDiff, Nat.reducePow, Int.reduceLT, Int.reduceToNat, reduceCtorEq, Int.reduceNeg, Int.reduceEq, Nat.reduceBEq, Nat.reduceBNe, Int.reduceBEq, Int.reduceBNe, String.reduceEq, List.take_length]
    refine AWp.regionM fun K6 hK6 => ?_
    have hz : tlvSize ((l.map zf).map fun f => f.val.length) = nSize l := by rw [nSize, nLens_map]; simp [List.map_map, Function.comp_def, zf]
    refine ARun2.callM (tlvSize_c (l.map zf) (by have := hz; omega) (by rw [List.length_map]; omega) (by intro f hf; obtain ⟨n, hn, rfl⟩ := List.mem_map.1 hf; have := vlen_mem hn; simp [zf]; omega)) ?_
    refine ARun2.endm (hK6 _ ?_)
    refine AWp.ret ?_
    try simp only [thenQ, blockQ, noGo]
    refine bodyQ.m ?_
    clear hK6 K6 hK3 K3 hK2 K2 hK1 K1
    rw [hz]
    first | done | exact Hand.go
theorem size_w : ∀ (w : Nat) (l : List GNode), wts l ≤ w → nSize l ≤ 2 ^ 30 → PC Tryz.prog 131 [.sl false 3 (nodesA false l)] (nat (nSize l)) := by
  intro w
  induction w with
  | zero => exact size_step 0 (fun l h => by omega)
  | succ w ih => exact size_step (w + 1) (fun l h => ih l (by omega))
theorem size_c (l : List GNode) (hs : nSize l ≤ 2 ^ 30) : PC Tryz.prog 131 [.sl false 3 (nodesA false l)] (nat (nSize l)) := size_w _ l (Nat.le_refl _) hs
def errA (e : Nat) : AV := bif e == 0 then .val .nilIface else .ifc 136 (.val (.int .i64 (N e)))
@[push_cast] theorem nilIs_err (e : Nat) : nilIs .ifc (errA e) = some (e == 0) := by
  unfold errA; cases e == 0 <;> rfl
@[push_cast] theorem err_ids (p : Nat → Bool) (e : Nat) : (errA e).idsOk p = true := by unfold errA; cases e == 0 <;> rfl
@[push_cast] theorem err_hand (ids : List Nat) (e : Nat) : (errA e).hand ids = errA e := by unfold errA; cases e == 0 <;> rfl
@[push_cast] theorem err_one (e : Nat) : (errA e).one = true := by unfold errA; cases e == 0 <;> rfl
@[push_cast] theorem err_flat (e : Nat) : (errA e).flat = true := by unfold errA; cases e == 0 <;> rfl
@[push_cast] theorem err_cells (e : Nat) : (errA e).cells = [errA e] := by unfold errA; cases e == 0 <;> rfl
def badN (c t len : Nat) (k : List GNode) : Bool :=
  (!shapeHas c t && decide (0 < k.length)) || (shapeHas c t && (!fitsN (shapeOf c t) len || !kidsOk (shapeOf c t) k))
mutual
def checkN (c dp : Nat) : GNode → Nat
  | .mk t d k =>
    if 4 < dp then 9 else if badN c t d.length k = true then 7 else if countedN c t d = true then 8
    else if checkL (insideN (shapeOf c t).kids).1 (dp + 1) k ≠ 0 then checkL (insideN (shapeOf c t).kids).1 (dp + 1) k
    else if 65535 < nSize [.mk t d k] then 4 else 0
def checkL (c dp : Nat) : List GNode → Nat
  | [] => 0
  | n :: l => if checkN c dp n ≠ 0 then checkN c dp n else checkL c dp l
end
theorem checkN_eq (c dp : Nat) (n : GNode) : checkN c dp n =
    if 4 < dp then 9 else if badN c n.ty n.data.length n.kids = true then 7 else if countedN c n.ty n.data = true then 8
    else if checkL (insideN (shapeOf c n.ty).kids).1 (dp + 1) n.kids ≠ 0 then checkL (insideN (shapeOf c n.ty).kids).1 (dp + 1) n.kids
    else if 65535 < nSize [n] then 4 else 0 := by
  cases n; simp only [checkN, GNode.ty, GNode.data, GNode.kids]; rfl
theorem checkL_snoc (c dp : Nat) (n : GNode) : ∀ l : List GNode, checkL c dp (l ++ [n]) = if checkL c dp l ≠ 0 then checkL c dp l else checkN c dp n
  | [] => by
    simp only [List.nil_append, checkL]
    by_cases h : checkN c dp n = 0 <;> simp [h]
  | m :: l => by
    simp only [List.cons_append, checkL, checkL_snoc c dp n l]
    by_cases h : checkN c dp m = 0 <;> simp [h]
theorem checkL_app (c dp : Nat) (r : List GNode) : ∀ l : List GNode, checkL c dp l ≠ 0 → checkL c dp (l ++ r) = checkL c dp l
  | [], h => by simp [checkL] at h
  | m :: l, h => by
    simp only [List.cons_append, checkL] at h ⊢
    by_cases hm : checkN c dp m = 0
    · simp only [hm, ne_eq, not_true_eq_false, if_false] at h ⊢
      exact checkL_app c dp r l h
    · simp [hm]
theorem checkL_at (c dp : Nat) (l : List GNode) (i : Nat) (hil : i < l.length) (h0 : checkL c dp (l.take i) = 0) (h : checkN c dp l[i] ≠ 0) : checkL c dp l = checkN c dp l[i] := by
  have e := checkL_snoc c dp l[i] (l.take i)
  rw [h0, ← List.take_succ_eq_append_getElem hil] at e
  simp only [ne_eq, not_true_eq_false, if_false] at e
  have e2 := checkL_app c dp (l.drop (i + 1)) (l.take (i + 1)) (by rw [e]; exact h)
  rw [List.take_append_drop] at e2
  exact e2.trans e
theorem form_ok (c t : Nat) (h : shapeHas c t = true) : 0 < (shapeOf c t).unit ∧ (shapeOf c t).unit < 2 ^ 60 ∧ (shapeOf c t).least < 2 ^ 60 := by
  have key : ∀ l : List ShForm, (∀ f ∈ l, 0 < f.unit ∧ f.unit < 2 ^ 60 ∧ f.least < 2 ^ 60) → (l.find? fun f => f.ty == t).isSome = true →
      0 < (((l.find? fun f => f.ty == t).map fun f => { f with cls := c }).getD zeroForm).unit ∧ (((l.find? fun f => f.ty == t).map fun f => { f with cls := c }).getD zeroForm).unit < 2 ^ 60 ∧ (((l.find? fun f => f.ty == t).map fun f => { f with cls := c }).getD zeroForm).least < 2 ^ 60 := by
    intro l hl hs
    cases hf : l.find? (fun f => f.ty == t) with
    | none => simp [hf] at hs
    | some f => simpa using hl f (List.mem_of_find?_eq_some hf)
  refine key (formsN c) ?_ h
  match c with
  | 0 => intro f hf; simp [formsN] at hf
  | 1 => decide
  | 2 => decide
  | _ + 3 => intro f hf; simp [formsN] at hf
theorem form_kids (c t : Nat) : (shapeOf c t).kids < 2 ^ 60 := by
  have key : ∀ l : List ShForm, (∀ f ∈ l, f.kids < 2 ^ 60) → (((l.find? fun f => f.ty == t).map fun f => { f with cls := c }).getD zeroForm).kids < 2 ^ 60 := by
    intro l hl
    cases hf : l.find? (fun f => f.ty == t) with
    | none => simp [zeroForm]
    | some f => simpa using hl f (List.mem_of_find?_eq_some hf)
  refine key (formsN c) ?_
  match c with
  | 0 => intro f hf; simp [formsN] at hf
  | 1 => decide
  | 2 => decide
  | _ + 3 => intro f hf; simp [formsN] at hf
theorem inside_class (c t len : Nat) (k : List GNode) (h : badN c t len k = false) (hk : 0 < k.length) : (insideN (shapeOf c t).kids).1 = 1 ∨ (insideN (shapeOf c t).kids).1 = 2 := by
  unfold badN at h
  have hd : decide (0 < k.length) = true := by simpa using hk
  rw [hd] at h
  cases hs : shapeHas c t with
  | false => simp [hs] at h
  | true =>
    simp only [hs, Bool.not_true, Bool.false_and, Bool.false_or, Bool.true_and, Bool.or_eq_false_iff, Bool.not_eq_false'] at h
    have hkk := h.2
    unfold kidsOk insideN at hkk
    unfold insideN
    by_cases h1 : (shapeOf c t).kids = 1 ∨ (shapeOf c t).kids = 4
    · simp [h1]
    · by_cases h2 : (shapeOf c t).kids = 2
      · simp [h2]
      · by_cases h3 : (shapeOf c t).kids = 3
        · simp [h3]
        · simp [h1, h2, h3] at hkk
          rw [hkk.1] at hk
          simp at hk
theorem nSize_kids1 (n : GNode) : nSize n.kids ≤ nSize [n] := nSize_kids (by simp)
theorem nSize_one {l : List GNode} {n : GNode} (h : n ∈ l) : nSize [n] ≤ nSize l := by
  have := vlen_mem h
  have e : nSize [n] = 4 + vlen n := by simp [nSize, nLens, tlvSize, sumUp, upN, gapN]
  omega
theorem nSize_data (n : GNode) : n.data.length ≤ nSize [n] := by
  have e : nSize [n] = 4 + vlen n := by simp [nSize, nLens, tlvSize, sumUp, upN, gapN]
  rw [vlen_eq] at e; omega
theorem check_step (w : Nat) (ih : ∀ (c dp : Nat) (n : GNode), n.wt < w → (c = 1 ∨ c = 2) → dp < 2 ^ 60 → nSize [n] ≤ 2 ^ 30 → PC Tryz.prog 94 [nat c, nodeA false n, nat dp] (errA (checkN c dp n)))
    (c dp : Nat) (n : GNode) (hw : n.wt ≤ w) (hc : c = 1 ∨ c = 2) (hdp : dp < 2 ^ 60) (hs : nSize [n] ≤ 2 ^ 30) : PC Tryz.prog 94 [nat c, nodeA false n, nat dp] (errA (checkN c dp n)) := by
  have hkl := nSize_len n.kids
  have hk1 := nSize_kids1 n
  have hdl := nSize_data n
  refine PC.of_bodyW (by simp only [push_cast]) Tryz.func94 rfl (by rw [Tryz.ntmps94]; simp) ?_
  refine AWp.regionW ?_
  refine AWp.seqK fun K1 hK1 => ?_
  refine AWp.regionW ?_
  refine AWp.condLM (fun c0 => ?_) (fun c0 => ?_)
  · skip
    have h0 : 4 < dp := by simpa using c0
    refine AWp.regionW ?_
    refine AWp.ret ?_
    try simp only [thenQ, blockQ, noGo]
    refine bodyQ.m ?_
    clear hK1 K1
    rw [checkN_eq, if_pos h0]
    first | done | exact Hand.go
  have h0 : ¬ 4 < dp := by simpa using c0
  refine AWp.skip ?_
  refine hK1 _ ?_
  refine AWp.regionM fun K2 hK2 => ?_
  refine ARun2.callM (of_c c n.ty hc) ?_
  refine ARun2.endm (hK2 _ ?_)
  refine AWp.seqK fun K3 hK3 => ?_
  refine AWp.block ?_
  refine AWp.seqK fun K4 hK4 => ?_
  refine AWp.regionA fun K5 hK5 => ?_
  refine ARun.segm 3 fun KS hKS => ?_
  refine ARun2.endm (hKS _ ?_); clear hKS KS
  apply ARun.grpM 4 2 true 32 [0, 2, 4, 7, 8, 28]
  · intro g2 KG hKG
    refine ARun2.gom ?_
    exact ARun2.endm (hKG _ Le.grpM)
  refine ARun2.gom ?_
  refine ARun2.endm (hK5 _ ?_)
  refine AWp.condLM (fun c1 => ?_) (fun c1 => ?_)
  · skip
    refine AWp.skip ?_
    refine hK4 _ ?_
    refine AWp.condT ?_
    have hb : badN c n.ty n.data.length n.kids = true := by unfold badN; simp_all
    refine AWp.regionW ?_
    refine AWp.ret ?_
    try simp only [thenQ, blockQ, noGo]
    refine bodyQ.m ?_
    clear hK5 K5 hK4 K4 hK3 K3 hK2 K2 hK1 K1
    rw [checkN_eq, if_neg h0, if_pos hb]
    first | done | exact Hand.go
  refine AWp.regionB fun K6 hK6 => ?_
  refine ARun.segm 2 fun KS hKS => ?_
  refine ARun2.endm (hKS _ ?_); clear hKS KS
  apply ARun.grpM 13 1 true 48 [0, 2, 4, 7, 35]
  · intro g1 KG hKG
    have hf := form_ok c n.ty g1
    refine ARun.segm 7 fun KS hKS => ?_
    refine ARun2.callM (fits_c (shapeOf c n.ty) n.data.length (by omega) hf.2.2 hf.1 hf.2.1) ?_
    refine ARun2.endm (hKS _ ?_); clear hKS KS
    apply ARun.grpM 5 8 false 47 [0, 2, 4, 7, 35, 42]
    · intro g8 KG hKG
      refine ARun2.gom ?_
      refine ARun2.callM (kids_c (shapeOf c n.ty) n.kids (by omega) (form_kids c n.ty)) ?_
      exact ARun2.endm (hKG _ Le.grpM)
    refine ARun2.gom ?_
    exact ARun2.endm (hKG _ Le.grpM)
  refine ARun2.gom ?_
  refine ARun2.endm (hK6 _ ?_)
  refine hK4 _ ?_
  refine AWp.condLM (fun c2 => ?_) (fun c2 => ?_)
  · skip
    have hb : badN c n.ty n.data.length n.kids = true := by unfold badN; simp_all
    refine AWp.regionW ?_
    refine AWp.ret ?_
    try simp only [thenQ, blockQ, noGo]
    refine bodyQ.m ?_
    clear hK6 K6 hK5 K5 hK4 K4 hK3 K3 hK2 K2 hK1 K1
    rw [checkN_eq, if_neg h0, if_pos hb]
    first | done | exact Hand.go
  have hb : badN c n.ty n.data.length n.kids = false := by unfold badN; simp_all
  have hb' : ¬ badN c n.ty n.data.length n.kids = true := by rw [hb]; simp
  refine AWp.regionM fun K7 hK7 => ?_
  refine ARun2.callM (counted_c c n.ty n.data (by omega)) ?_
  refine ARun2.endm (hK7 _ ?_)
  refine AWp.condLM (fun c3 => ?_) (fun c3 => ?_)
  · skip
    have h3 : countedN c n.ty n.data = true := c3
    refine AWp.regionW ?_
    refine AWp.ret ?_
    try simp only [thenQ, blockQ, noGo]
    refine bodyQ.m ?_
    clear hK7 K7 hK6 K6 hK5 K5 hK4 K4 hK3 K3 hK2 K2 hK1 K1
    rw [checkN_eq, if_neg h0, if_neg hb', if_pos h3]
    first | done | exact Hand.go
  have h3 : ¬ countedN c n.ty n.data = true := by rw [c3]; simp
  refine AWp.skip ?_
  refine hK3 _ ?_
  refine AWp.regionM fun K8 hK8 => ?_
  refine ARun2.callM (inside_c (shapeOf c n.ty).kids (form_kids c n.ty)) ?_
  refine ARun2.endm (hK8 _ ?_)
  refine AWp.seqK fun K9 hK9 => ?_
  refine AWp.regionW ?_
  refine AWp.block ?_
  refine AWp.loopK0 [2, 4, 9, 67, 68] (fun (i : Nat) => [(69, nat i)]) (fun i => i ≤ n.kids.length ∧ checkL (insideN (shapeOf c n.ty).kids).1 (dp + 1) (n.kids.take i) = 0) (fun i => n.kids.length - i) (0) ?_ ⟨Nat.zero_le _, rfl⟩ ?_
  · skip
    refine Le.m 2 ?_ ?_
    · exact Go.Abs.evM
    · exact Go.Abs.evN
  · intro i hi K10 hK10
    refine AWp.regionW ?_
    refine AWp.seqK fun K11 hK11 => ?_
    refine AWp.condLM (fun c4 => ?_) (fun c4 => ?_)
    · skip
      have hil : i < n.kids.length := by simpa using c4
      have hm := List.getElem_mem hil
      have hcl := inside_class c n.ty n.data.length n.kids hb (by omega)
      refine AWp.skip ?_
      refine hK11 _ ?_
      refine AWp.seqK fun K12 hK12 => ?_
      refine AWp.block ?_
      refine AWp.regionM fun K13 hK13 => ?_
      refine ARun2.indexM (i) (nodeA false n.kids[i]) ?_ ?_
      · exact nodesA_at _ _ _ hil
      refine ARun2.endm (hK13 _ ?_)
      refine AWp.regionM fun K14 hK14 => ?_
      refine ARun2.callM (ih (insideN (shapeOf c n.ty).kids).1 (dp + 1) n.kids[i] (by have := wts_mem hm; rw [GNode.wt_eq] at hw; omega) hcl (by omega) (by have := nSize_one hm; omega)) ?_
      refine ARun2.endm (hK14 _ ?_)
      refine AWp.regionW ?_
      refine AWp.condLM (fun c5 => ?_) (fun c5 => ?_)
      · skip
        have h5 : checkN (insideN (shapeOf c n.ty).kids).1 (dp + 1) n.kids[i] ≠ 0 := by simpa using c5
        refine AWp.regionW ?_
        refine AWp.ret ?_
        try simp only [thenQ, blockQ, noGo]
        refine bodyQ.m ?_
        clear hK14 K14 hK13 K13 hK12 K12 hK11 K11 hK10 K10 hK9 K9 hK8 K8 hK7 K7 hK6 K6 hK5 K5 hK4 K4 hK3 K3 hK2 K2 hK1 K1
        have hL := checkL_at _ _ n.kids i hil hi.2 h5
        rw [checkN_eq c dp n, if_neg h0, if_neg hb', if_neg h3, if_pos (by rw [hL]; exact h5), hL]
        first | done | exact Hand.go
      have h5 : checkN (insideN (shapeOf c n.ty).kids).1 (dp + 1) n.kids[i] = 0 := by simpa using c5
      refine AWp.skip ?_
      refine hK12 _ ?_
      refine AWp.regionV ?_
      refine hK10 _ (i + 1) (⟨by omega, by rw [List.take_succ_eq_append_getElem hil, checkL_snoc, hi.2]; simpa using h5⟩) (by omega) ?_
      refine Le.m 2 ?_ ?_
      · exact Go.Abs.evM
      · exact Go.Abs.evN
    have hil : i = n.kids.length := by have := hi.1; simp at c4; omega
    have hL : checkL (insideN (shapeOf c n.ty).kids).1 (dp + 1) n.kids = 0 := by have := hi.2; rwa [hil, List.take_length] at this
    subst hil
    refine AWp.exit ?_
    try simp only [thenQ, blockQ, noGo, reduceIte, Nat.reduceEqDiff]
    refine hK9 _ ?_
    refine AWp.seqK fun K15 hK15 => ?_
    refine AWp.regionM fun K16 hK16 => ?_
    refine ARun2.callM (size_c [n] hs) ?_
    refine ARun2.endm (hK16 _ ?_)
    refine AWp.condLM (fun c6 => ?_) (fun c6 => ?_)
    · skip
      have h6 : 65535 < nSize [n] := by simpa using c6
      refine AWp.regionW ?_
      refine AWp.ret ?_
      try simp only [thenQ, blockQ, noGo]
      refine bodyQ.m ?_
      clear hK16 K16 hK15 K15 hK11 K11 hK10 K10 hK9 K9 hK8 K8 hK7 K7 hK6 K6 hK5 K5 hK4 K4 hK3 K3 hK2 K2 hK1 K1
      rw [checkN_eq, if_neg h0, if_neg hb', if_neg h3, if_neg (by rw [hL]; simp), if_pos h6]
      first | done | exact Hand.go
    have h6 : ¬ 65535 < nSize [n] := by simpa using c6
    refine AWp.skip ?_
    refine hK15 _ ?_
    refine AWp.regionW ?_
    refine AWp.ret ?_
    try simp only [thenQ, blockQ, noGo]
    refine bodyQ.m ?_
    clear hK16 K16 hK15 K15 hK11 K11 hK10 K10 hK9 K9 hK8 K8 hK7 K7 hK6 K6 hK5 K5 hK4 K4 hK3 K3 hK2 K2 hK1 K1
    rw [checkN_eq, if_neg h0, if_neg hb', if_neg h3, if_neg (by rw [hL]; simp), if_neg h6]
    first | done | exact Hand.go
theorem check_w : ∀ (w c dp : Nat) (n : GNode), n.wt ≤ w → (c = 1 ∨ c = 2) → dp < 2 ^ 60 → nSize [n] ≤ 2 ^ 30 → PC Tryz.prog 94 [nat c, nodeA false n, nat dp] (errA (checkN c dp n)) := by
  intro w
  induction w with
  | zero => exact check_step 0 (fun c dp n h => by omega)
  | succ w ih => exact check_step (w + 1) (fun c dp n h => ih c dp n (by omega))
theorem check_c (c : Nat) (n : GNode) (hc : c = 1 ∨ c = 2) (hs : nSize [n] ≤ 2 ^ 30) : PC Tryz.prog 47 [nat c, nodeA false n] (errA (checkN c 1 n)) := by
  refine PC.of_bodyW (by simp only [push_cast]) Tryz.func47 rfl (by rw [Tryz.ntmps47]; simp) ?_
  refine AWp.regionW ?_
  refine AWp.regionM fun K1 hK1 => ?_
  refine ARun2.callM (check_w n.wt c 1 n (Nat.le_refl _) hc (by omega) hs) ?_
  refine ARun2.endm (hK1 _ ?_)
  refine AWp.ret ?_
  try simp only [thenQ, blockQ, noGo]
  refine bodyQ.m ?_
  clear hK1 K1
  first | done | exact Hand.go
end Go.Proofs.YtokbbdodbjiciaaGreatDoor.C
namespace Go.Abs
theorem nodesA_snoc (b : Bool) (l : List GNode) (n : GNode) : nodesA b (l ++ [n]) = nodesA b l ++ [nodeA b n] := by rw [nodesA_map, nodesA_map, List.map_append]; rfl
mutual
def GNode.sz : GNode → Nat
  | .mk _ d k => d.length + szs k + 1
def szs : List GNode → Nat
  | [] => 0
  | n :: l => n.sz + szs l
end
theorem GNode.sz_eq (n : GNode) : n.sz = n.data.length + szs n.kids + 1 := by cases n; simp [GNode.sz, GNode.kids, GNode.data]
theorem szs_mem : ∀ {l : List GNode} {n : GNode}, n ∈ l → n.sz ≤ szs l
  | [], n, h => by simp at h
  | m :: l, n, h => by
    rcases List.mem_cons.1 h with h | h
    · subst h; simp only [szs]; omega
    · have := szs_mem h; simp only [szs]; omega
theorem szs_len : ∀ l : List GNode, l.length ≤ szs l
  | [] => by simp [szs]
  | n :: l => by
    have := szs_len l
    have := n.sz_eq
    simp only [szs, List.length_cons]; omega
theorem szs_lt {n m : GNode} (h : m ∈ n.kids) : m.sz < n.sz := by
  have := szs_mem h; rw [GNode.sz_eq n]; omega
mutual
def sameN : GNode → GNode → Bool
  | .mk t d k, .mk t' d' k' => t == t' && (decide (d = d') && sameL k k')
def sameL : List GNode → List GNode → Bool
  | [], [] => true
  | n :: l, m :: r => sameN n m && sameL l r
  | _, _ => false
end
theorem sameN_eq (n m : GNode) : sameN n m = (n.ty == m.ty && (decide (n.data = m.data) && sameL n.kids m.kids)) := by cases n; cases m; rw [sameN]; rfl
mutual
theorem sameN_iff : ∀ n m : GNode, sameN n m = true ↔ n = m
  | .mk t d k, .mk t' d' k' => by
    have := sameL_iff k k'
    simp [sameN, this]
theorem sameL_iff : ∀ l r : List GNode, sameL l r = true ↔ l = r
  | [], [] => by simp [sameL]
  | n :: l, m :: r => by
    have h1 := sameN_iff n m
    have h2 := sameL_iff l r
    simp [sameL, h1, h2]
  | [], m :: r => by simp [sameL]
  | n :: l, [] => by simp [sameL]
end
theorem sameL_len {l r : List GNode} (h : l.length ≠ r.length) : sameL l r = false := by
  cases hs : sameL l r with
  | false => rfl
  | true => rw [sameL_iff] at hs; subst hs; simp at h
theorem sameL_take {l r : List GNode} {i : Nat} (hl : i < l.length) (hr : i < r.length) (h0 : sameL (l.take i) (r.take i) = true) (h : sameN l[i] r[i] = true) : sameL (l.take (i + 1)) (r.take (i + 1)) = true := by
  rw [sameL_iff] at *
  rw [sameN_iff] at h
  rw [List.take_succ_eq_append_getElem hl, List.take_succ_eq_append_getElem hr, h0, h]
theorem sameL_at {l r : List GNode} {i : Nat} (hl : i < l.length) (hr : i < r.length) (h : sameN l[i] r[i] = false) : sameL l r = false := by
  cases hs : sameL l r with
  | false => rfl
  | true =>
    rw [sameL_iff] at hs; subst hs
    have : sameN l[i] l[i] = true := (sameN_iff _ _).2 rfl
    rw [this] at h; cases h
end Go.Abs
namespace Go.Proofs.YtokbbdodbjiciaaGreatDoor.C
open Go.Abs
theorem nclone_step (n : GNode) (hs : n.sz ≤ 2 ^ 40) (ih : ∀ a : GNode, a.sz < n.sz → PC Tryz.prog 51 [nodeA false a] (nodeA false a)) : PC Tryz.prog 51 [nodeA false n] (nodeA false n) := by
  have hsz := n.sz_eq
  have hlen := szs_len n.kids
  refine PC.of_bodyW (by simp only [push_cast]) Tryz.func51 rfl (by rw [Tryz.ntmps51]; simp) ?_
  refine AWp.regionW ?_
  refine AWp.drS [[(1, none)], [(6, some 0)], [(1, none)], [(8, some 2)], [(9, some 3)], [(7, some 1), (10, some 4)], []] fun G hG => ?_
  refine Dr.sim ?_
  try simp only [lca, lna]
  refine Dr.sim ?_
  try simp only [lca, lna]
  refine Dr.sim ?_
  try simp only [lca, lna]
  refine Dr.sim ?_
  try simp only [lca, lna]
  refine Dr.call (clone_c n.data (by omega)) ?_
  try simp only [lca, lna]
  refine Dr.sim ?_
  try simp only [lca, lna]
  refine Dr.al ?_
  try simp only [lca, lna]
  refine Dr.finA (n := 7) 6 [(11, 5), (3, 6)] [1, 2] hG Facts.mixed fun KD hKD => ?_
  refine ARun2.endm (hKD _ ?_); clear hKD KD hG G
  refine AWp.seqK fun K1 hK1 => ?_
  refine AWp.regionW ?_
  refine AWp.block ?_
  refine AWp.nilBox 2 2 26 3 rfl rfl ?_
  refine Go.Abs.evS2 ?_
  refine AWp.loopK [2, 3, 13, 14] (fun (i : Nat) => [(15, nat i)]) (fun i => [.box 26 [u16 n.ty, .sl false 1 (bys n.data), .sl false 3 (nodesA false n.kids)], .box 26 [.val (.int .u16 0), .val (.slice none 0 0), .val (.slice none 0 0)], .box 26 [u16 n.ty, .sl true 1 (bys n.data), .own 3], .row 26 3 (nodesA false (n.kids.take i))]) (fun i => i ≤ n.kids.length) (fun i => n.kids.length - i) (0) ?_ (Nat.zero_le _) ?_
  · skip
    refine Le.m 4 ?_ ?_
    · exact Go.Abs.evM
    · exact Go.Abs.evN
  · intro i hi K2 hK2
    refine AWp.regionW ?_
    refine AWp.seqK fun K3 hK3 => ?_
    refine AWp.condLM (fun c0 => ?_) (fun c0 => ?_)
    · skip
      have hil : i < n.kids.length := by simpa using c0
      refine AWp.skip ?_
      refine hK3 _ ?_
      refine AWp.seqK fun K4 hK4 => ?_
      refine AWp.block ?_
      refine AWp.regionM fun K5 hK5 => ?_
      refine ARun2.indexM (i) (nodeA false n.kids[i]) ?_ ?_
      · exact nodesA_at _ _ _ hil
      refine ARun2.endm (hK5 _ ?_)
      refine AWp.drE [[(3, none)], [(19, some 0)], [(5, none)], [(21, some 2)], [(22, some 3)]] fun G hG => ?_
      refine Dr.sim ?_
      try simp only [lca, lna]
      refine Dr.sim ?_
      try simp only [lca, lna]
      refine Dr.sim ?_
      try simp only [lca, lna]
      refine Dr.call (ih n.kids[i] (szs_lt (List.getElem_mem hil))) ?_
      try simp only [lca, lna]
      refine Dr.build ?_
      try simp only [lca, lna]
      refine Dr.finN (n := 5) [(20, 1), (23, 4)] [2, 3, 13, 14, 15] hG Facts.mixed fun KD hKD => ?_
      refine ARun2.appendM ?_ ?_ ?_
      · rw [Facts.eb24, nodesA_len, List.length_take, List.length_cons, List.length_nil]; omega
      · rw [nodesA_len, List.length_take, List.length_cons, List.length_nil]; omega
      refine ARun2.endm (hKD _ ?_); clear hKD KD hG G
      refine hK4 _ ?_
      refine AWp.regionV ?_
      refine hK2 _ (i + 1) (by omega) (by omega) ?_
      refine Le.m 4 ?_ ?_
      · first | exact Go.Abs.evM | (refine Go.Abs.evS ?_; rw [List.take_succ_eq_append_getElem hil, nodesA_snoc, nodeA_eq])
      · exact Go.Abs.evN
    have hil : i = n.kids.length := by simp at c0; omega
    subst hil
    refine AWp.exit ?_
    try simp only [thenQ, blockQ, noGo, reduceIte, Nat.reduceEqDiff]
    refine hK1 _ ?_
    refine AWp.pubD 3 ?_
    refine AWp.regionW ?_
    refine AWp.ret ?_
    try simp only [thenQ, blockQ, noGo]
    refine bodyQ.m ?_
    clear hK3 K3 hK2 K2 hK1 K1
    rw [List.take_length]
    first | done | exact Hand.go
theorem nclone_w : ∀ (w : Nat) (n : GNode), n.sz ≤ w → n.sz ≤ 2 ^ 40 → PC Tryz.prog 51 [nodeA false n] (nodeA false n) := by
  intro w
  induction w with
  | zero => intro n h; have := n.sz_eq; omega
  | succ w ih => exact fun n hw hs => nclone_step n hs (fun a h => ih a (by omega) (by omega))
theorem nclone_c (n : GNode) (hs : n.sz ≤ 2 ^ 40) : PC Tryz.prog 51 [nodeA false n] (nodeA false n) := nclone_w _ n (Nat.le_refl _) hs
end Go.Proofs.YtokbbdodbjiciaaGreatDoor.C
namespace Go.Abs
mutual
def GNode.tyOk : GNode → Bool
  | .mk t _ k => decide (t < 65536) && tysOk k
def tysOk : List GNode → Bool
  | [] => true
  | n :: l => n.tyOk && tysOk l
end
theorem GNode.tyOk_eq (n : GNode) : n.tyOk = (decide (n.ty < 65536) && tysOk n.kids) := by cases n; rw [GNode.tyOk]; rfl
theorem tysOk_mem : ∀ {l : List GNode}, tysOk l = true → ∀ n ∈ l, n.tyOk = true
  | [], _, n, h => by simp at h
  | m :: l, h, n, hm => by
    simp only [tysOk, Bool.and_eq_true] at h
    rcases List.mem_cons.1 hm with rfl | hm
    · exact h.1
    · exact tysOk_mem h.2 n hm
theorem GNode.tyOk_kids {n : GNode} (h : n.tyOk = true) : tysOk n.kids = true := by rw [GNode.tyOk_eq] at h; simp at h; exact h.2
theorem GNode.tyOk_ty {n : GNode} (h : n.tyOk = true) : n.ty < 65536 := by rw [GNode.tyOk_eq] at h; simp at h; exact h.1
set_option linter.unusedSectionVars false
def isBl (P : Program) (T : TypeId) : Bool := match P.underlying T with
  | some .bool => true
  | _ => false
theorem isBl_spec {P : Program} {T : TypeId} (h : isBl P T = true) : P.underlying T = some .bool := by
  unfold isBl at h
  split at h
  · assumption
  · cases h
section
variable {P : Program} {ops : Array Oper} {E : Env} {s s' : AS} {ρ : List Value} {B : Nat → Prop} {a : Act} {w w' : World} {o : Oper} {rest : List Oper} {Q : AS → Prop} {R : Exit → AS → Prop}
theorem AOp.boolEq {op : BinOp} {T X : TypeId} {x y : Operand} {b c : Bool} (ho : o.op = .binOp op T x y X) (hop : op = .eql ∨ op = .neq) (hT : isBl P T = true) (hx : s.ev x = .val (.bool b)) (hy : s.ev y = .val (.bool c))
    (k : ARun P ops rest (s.put o.dst (.val (.bool (if op = .eql then b == c else b != c)))) Q) : AOp P ops o rest s Q := by
  refine AOp.pure1 (fun E ρ B a w hs => ⟨.bool (if op = .eql then b == c else b != c), ?_, .val _⟩) k
  have hu := isBl_spec hT
  have e1 : a.eval x = .bool b := (hx ▸ hs.ev x : Rel w B E.bs ρ (.val (.bool b)) (a.eval x)).val_eq
  have e2 : a.eval y = .bool c := (hy ▸ hs.ev y : Rel w B E.bs ρ (.val (.bool c)) (a.eval y)).val_eq
  have he : (Op.equal T (.bool b) (.bool c)).run P w = .ok (b == c) w := equal_run fun d => by simp [Op.equalIn, run_underlying hu]
  have hg : (eqGuard op T x y (.bool b) (.bool c)).run P w = .ok () w := by rcases hop with rfl | rfl <;> simp [eqGuard]
  simp only [execOp, ho, e1, e2]
  rcases hop with rfl | rfl
  · simp [binOp, hg, he]
  · simp [binOp, hg, he, bne]
theorem ARun2.boolEqM {op : BinOp} {T X : TypeId} {x y : Operand} {b c : Bool} {p : List Oper × AS} (K : ARun2 P ops p Q) (ho : o.op = .binOp op T x y X := by rfl) (hop : op = .eql ∨ op = .neq := by first | exact .inl rfl | exact .inr rfl) (hT : isBl P T = true := by kernel_rfl)
    (hg : gd ops s o = some true := by exact Go.Abs.evT) (hx : s.ev x = .val (.bool b) := by exact Go.Abs.evT) (hy : s.ev y = .val (.bool c) := by exact Go.Abs.evT)
    (h : srun P ops rest (s.put o.dst (.val (.bool (if op = .eql then b == c else b != c)))) = p := by
        exact Go.Abs.evE) : ARun2 P ops (o :: rest, s) Q :=
  ARun.exec hg (AOp.boolEq ho hop hT hx hy (ARun.srun (h ▸ K)))
end
attribute [push_cast] bne_self_eq_false
set_option linter.unusedSectionVars false
set_option linter.unnecessarySimpa false
mutual
def AV.fresh : AV → Bool
  | .val _ => true
  | .any => false
  | .agg l | .tup l => AV.freshL l
  | .sl nw _ xs => nw && AV.freshL xs
  | .slc _ _ => false
  | .own _ | .ptr _ _ | .ept _ _ => false
  | .ref nw x => nw && x.fresh
  | .ifc _ x => x.fresh
  | .fn _ l m => AV.freshL l && AV.freshL m
def AV.freshL : List AV → Bool
  | [] => true
  | x :: xs => x.fresh && AV.freshL xs
end
theorem AV.freshL_cells (x : AV) : AV.freshL x.cells = x.fresh := by
  cases x <;> simp [AV.cells, AV.fresh, AV.freshL]
section fresh
variable {w : World} {B : Nat → Prop} {bs : Nat} {ρ : List Value}
mutual
theorem Rel.fresh : ∀ {x : AV} {v : Value}, Rel w B bs ρ x v → x.fresh = true → Rel w (fun b => B b ∧ bs ≤ b) bs ρ x v
  | _, _, .val v, _ => .val v
  | _, _, .agg h, e => .agg (h.fresh (by simpa [AV.fresh] using e))
  | _, _, .tup h, e => .tup (h.fresh (by simpa [AV.fresh] using e))
  | _, _, .slE nw sz A cap, _ => .slE nw sz A cap
  | _, _, .sl h hc, e => by
    simp only [AV.fresh, Bool.and_eq_true] at e
    exact .sl (RelRow.fresh' h e.1 e.2) hc
  | _, _, .own h h1, e => by simp [AV.fresh] at e
  | _, _, .ptr h, e => by simp [AV.fresh] at e
  | _, _, .ept h, e => by simp [AV.fresh] at e
  | _, _, .ref (x := x) h hn, e => by
    simp only [AV.fresh, Bool.and_eq_true] at e
    exact .ref (RelCells.fresh h e.1 (by rw [AV.freshL_cells]; exact e.2)) hn
  | _, _, .ifc h, e => .ifc (h.fresh (by simpa [AV.fresh] using e))
  | _, _, .fn h h2, e => .fn (h.fresh (by simp only [AV.fresh, Bool.and_eq_true] at e; exact e.1)) (h2.fresh (by simp only [AV.fresh, Bool.and_eq_true] at e; exact e.2))
  | _, _, .any v, e => by simp [AV.fresh] at e
  | _, _, .slc h, e => by simp [AV.fresh] at e
theorem RelL.fresh : ∀ {xs : List AV} {vs : List Value}, RelL w B bs ρ xs vs → AV.freshL xs = true → RelL w (fun b => B b ∧ bs ≤ b) bs ρ xs vs
  | _, _, .nil, _ => .nil
  | _, _, .cons h h2, e => .cons (h.fresh (by simp only [AV.freshL, Bool.and_eq_true] at e; exact e.1)) (h2.fresh (by simp only [AV.freshL, Bool.and_eq_true] at e; exact e.2))
theorem RelCells.fresh : ∀ {nw : Bool} {b o : Nat} {xs : List AV}, RelCells w B bs ρ nw b o xs → nw = true → AV.freshL xs = true → RelCells w (fun b => B b ∧ bs ≤ b) bs ρ nw b o xs
  | _, _, _, _, .nil, _, _ => .nil
  | _, _, _, _, .cons h1 h2 h3 h4 h5 h6, g, e => .cons ⟨h1, h2 g⟩ h2 h3 h4 (h5.fresh (by simp only [AV.freshL, Bool.and_eq_true] at e; exact e.1)) (RelCells.fresh h6 g (by simp only [AV.freshL, Bool.and_eq_true] at e; exact e.2))
theorem RelRow.fresh' : ∀ {nw : Bool} {b sz o : Nat} {xs : List AV}, RelRow w B bs ρ nw b sz o xs → nw = true → AV.freshL xs = true → RelRow w (fun b => B b ∧ bs ≤ b) bs ρ nw b sz o xs
  | _, _, _, _, _, .nil, _, _ => .nil
  | _, _, _, _, _, .cons (x := x) h1 h2 h3, g, e => .cons (RelCells.fresh h1 g (by rw [AV.freshL_cells]; simp only [AV.freshL, Bool.and_eq_true] at e; exact e.1)) h2 (RelRow.fresh' h3 g (by simp only [AV.freshL, Bool.and_eq_true] at e; exact e.2))
end
end fresh
section
variable {P : Program} {ops : Array Oper} {E : Env} {s s' : AS} {ρ σ : List Value} {B : Nat → Prop} {a : Act} {w w' : World} {o : Oper} {rest : List Oper} {Q : AS → Prop} {R : Exit → AS → Prop}
theorem flat_ones : ∀ {xs : List AV}, xs.all AV.one = true → xs.flatMap AV.cells = xs
  | [], _ => rfl
  | x :: xs, h => by
    simp only [List.all_cons, Bool.and_eq_true] at h
    rw [List.flatMap_cons, one_cells h.1, flat_ones h.2]; rfl
def Wk (x y : AV) : Prop := ∀ (w : World) (B : Nat → Prop) (bs : Nat) (ρ : List Value) (v : Value), Rel w B bs ρ x v → Rel w B bs ρ y v
def WkL (xs ys : List AV) : Prop := ∀ (w : World) (B : Nat → Prop) (bs : Nat) (ρ : List Value) (vs : List Value), RelL w B bs ρ xs vs → RelL w B bs ρ ys vs
theorem Wk.eq {x y : AV} (h : x = y) : Wk x y := by subst h; exact fun _ _ _ _ _ h => h
theorem Wk.nil {nw : Bool} {sz : Nat} : Wk (.val (.slice none 0 0)) (.sl nw sz []) := by
  intro w B bs ρ v h; cases h; exact .slE _ _ _ _
theorem WkL.nil : WkL [] [] := fun _ _ _ _ _ h => h
theorem WkL.cons {x y : AV} {xs ys : List AV} (h : Wk x y) (h2 : WkL xs ys) : WkL (x :: xs) (y :: ys) := by
  intro w B bs ρ v hr; cases hr with | cons a b => exact .cons (h _ _ _ _ _ a) (h2 _ _ _ _ _ b)
theorem Wk.agg {xs ys : List AV} (h : WkL xs ys) : Wk (.agg xs) (.agg ys) := by
  intro w B bs ρ v hr; cases hr with | agg a => exact .agg (h _ _ _ _ _ a)
theorem Wk.tup {xs ys : List AV} (h : WkL xs ys) : Wk (.tup xs) (.tup ys) := by
  intro w B bs ρ v hr; cases hr with | tup a => exact .tup (h _ _ _ _ _ a)
theorem Wk.go {x y : AV} (h : Wk x y := by
      exact Go.Abs.evW) : Wk x y := h
theorem PC.of_bodyK {f : FuncId} {fn : Func} {c : Code} {args : List AV} {r : AV} (hr : r.idsOk (fun _ => false) = true) (hf : P.funcs[f]? = some fn) (hb : fn.body = some c) (hn : args.length ≤ fn.ntmps)
    (h : AWp P c { n := fn.ntmps, m := 0, fr := frOf 0 args, ob := [] } (bodyQ P fn fun r' _ => Wk r' r)) : PC P f args r := by
  refine ⟨hr, ?_⟩
  intro ep w ρ B vs hg hw hrel R' hR'
  refine ACalls.of_body (τ := []) (R := fun r' _ => Wk r' r) hf hb hn h ep w ρ B vs hg hw hrel R' ?_
  rintro r' v τ' ρ' B' w' hh hw' hv
  have hρ : ρ = [] := by have := hw.len; simpa using this
  subst hρ
  refine hR' _ v [] [] B' w' ⟨rfl, rfl⟩ ?_ ((hh _ _ _ _ _ hv).ids (p := fun _ => false) (by intro _ _ h; simp at h) hr)
  have := hw'.cut (n := 0) (by simp) (by intro k o h; simp at h)
  simpa using this
end
attribute [push_cast] AV.fresh AV.freshL
set_option linter.unusedSectionVars false
set_option linter.unnecessarySimpa false
section
variable {P : Program} {ops : Array Oper} {E : Env} {s s' : AS} {ρ σ : List Value} {B : Nat → Prop} {a : Act} {w w' : World} {o : Oper} {rest : List Oper} {Q : AS → Prop} {R : Exit → AS → Prop}
theorem zeros_one {z : Value} {zv : Value} (h : zv.cells = #[z]) (n : Nat) : Builtin.zeroCells zv.cells n = (List.replicate n z).toArray := by
  apply Array.ext'
  simp only [Builtin.zeroCells, h]
  apply List.ext_getElem
  · simp
  · intro j h1 h2
    simp [Nat.mod_one]
theorem AOp.appendZeros {T T2 e : TypeId} {x y : Operand} {k1 kn : IntKind} {n : Nat} {z : Value} (ho : o.op = .call { callee := .builtin .append, args := #[x, y], argTypes := #[T, T2] }) (hx : s.ev x = .val (.slice none 0 0)) (hy : s.ev y = .val (.int k1 (N n)))
    (hz : elSz P T = some 1) (he : elT P T = some e) (hzc : zc P e = some [z]) (hT2 : ikd P T2 = some kn) (h0 : 0 < n) (hn : n ≤ 2 ^ 40) (hb : elB P T ≤ 2 ^ 6)
    (K : ARun P ops rest (({ s with ob := s.ob ++ [Ob.row e 1 (List.replicate n (.val z))] } : AS).put o.dst (.own s.ob.length)) Q) : AOp P ops o rest s Q := by
  refine AOp.value (s' := { s with ob := s.ob ++ [.row e 1 (List.replicate n (.val z))] }) (fun E ρ B a w hs => ?_) K
  obtain ⟨e', i, zv, hu, hi, hsz, hzz, hzl, hz1⟩ := elSz_spec hz
  have hee : e' = e := by have := elT_spec he; rw [hu] at this; simpa using this
  subst hee
  have hzv : zv.cells = #[z] := by
    simp only [zc, hi, hzz, Option.bind_some] at hzc
    split at hzc <;> simp only [Option.some.injEq, reduceCtorEq] at hzc
    apply Array.ext'; simpa using hzc
  have h4 : (AV.val z).one = true := by
    have := hz1 z (by rw [hzv]; simp)
    exact this
  have hbe : elB P T = i.bytes := elB_spec hu hi
  have hxv := (hx ▸ hs.ev x : Rel w B E.bs ρ (.val (.slice none 0 0)) (a.eval x)).val_eq
  have hyv := (hy ▸ hs.ev y : Rel w B E.bs ρ (.val (.int k1 (N n))) (a.eval y)).val_eq
  have hmul : n * i.bytes ≤ 2 ^ 40 * 2 ^ 6 := Nat.mul_le_mul hn (hbe ▸ hb)
  have hrun := Go.Lib.run_append_grow_zeros (P := P) w T T2 o.type e' i zv k1 kn hu (ikd_spec hT2) hi hzz none 0 0 [] (by simp [Builtin.firstCells]) n h0 (by omega) (by omega) (by omega) (by omega) (growslice_fits (by omega) (by rw [Nat.zero_add]; omega))
  rw [Nat.zero_add, zeros_one hzv, zeros_one hzv] at hrun
  have hcap : n ≤ grownCap w n 0 e' := by simp [grownCap, Question.cut]
  generalize hc : grownCap w n 0 e' = cap at hrun hcap
  have hsame : Same w (w.drew.alloc (.cells (List.toArray [] ++ (List.replicate n z).toArray ++ (List.replicate (cap - n) z).toArray) e')) := by
    have h1 := same_alloc w.drew (.cells (List.toArray [] ++ (List.replicate n z).toArray ++ (List.replicate (cap - n) z).toArray) e')
    exact ⟨h1.os, h1.tape, h1.output, h1.size, h1.block⟩
  have hnew : (w.drew.alloc (.cells (List.toArray [] ++ (List.replicate n z).toArray ++ (List.replicate (cap - n) z).toArray) e')).heap[w.heap.size]? = some (.cells (List.toArray (List.replicate n z ++ List.replicate (cap - n) z)) e') := by
    have := alloc_get w.drew (.cells (List.toArray [] ++ (List.replicate n z).toArray ++ (List.replicate (cap - n) z).toArray) e')
    have hs0 : w.drew.heap.size = w.heap.size := rfl
    rw [hs0] at this
    rw [this]
    simp
  have hall : (List.replicate n (AV.val z)).all AV.one = true := by
    rw [List.all_eq_true]; intro c hc; rw [(List.mem_replicate.1 hc).2]; exact h4
  have hrl : ∀ (m : Nat) (W : World) (B1 : Nat → Prop) (ρ1 : List Value), RelL W B1 E.bs ρ1 (List.replicate m (AV.val z)) (List.replicate m z) := by
    intro m W B1 ρ1
    induction m with
    | zero => exact .nil
    | succ m ih => exact .cons (.val _) ih
  refine ⟨.slice (some ⟨w.heap.size, 0, none⟩) n cap, _, ρ ++ [.slice (some ⟨w.heap.size, 0, none⟩) n cap], B, ?_, hs.new hsame ⟨?_, .inr ⟨w.heap.size, cap, List.replicate n z, List.replicate (cap - n) z, (0, 0), ?_, hnew, ?_, ?_, .inl (Nat.le_refl _), ?_⟩⟩ ?_, .own ?_ rfl⟩
  · have hrun' : (Builtin.append_ #[T, T2] o.type #[.slice none 0 0, .int k1 (N n)]).run P w = _ := hrun
    simp [execOp, ho, resolve, invoke, builtin, hxv, hyv, hrun']
  · intro c hc
    have := List.all_eq_true.1 hall c hc
    rw [one_cells this]
    exact ⟨rfl, fun u hu => by simp at hu; subst hu; exact this⟩
  · rw [List.length_replicate, ← hs.rw_.len, List.getElem?_append_right (Nat.le_refl _), Nat.sub_self]; rfl
  · simp; omega
  · simpa using hcap
  · rw [flat_ones hall]; exact hrl n _ _ _
  · intro b hb
    simp only [blk, Option.some.injEq] at hb
    subst hb
    refine ⟨Nat.le_refl _, ?_⟩
    simp [World.alloc]
  · rw [← hs.rw_.len, List.getElem?_append_right (Nat.le_refl _), Nat.sub_self]; rfl
theorem ARun2.appendZerosM {T T2 e : TypeId} {x y : Operand} {k1 kn : IntKind} {z : Value} {p : List Oper × AS} (n : Nat) (h0 : 0 < n) (hn : n ≤ 2 ^ 40) (K : ARun2 P ops p Q)
    (ho : o.op = .call { callee := .builtin .append, args := #[x, y], argTypes := #[T, T2] } := by rfl) (hg : gd ops s o = some true := by exact Go.Abs.evT) (hx : s.ev x = .val (.slice none 0 0) := by exact Go.Abs.evT) (hy : s.ev y = .val (.int k1 (N n)) := by exact Go.Abs.evT)
    (hz : elSz P T = some 1 := by exact Go.Abs.evT) (he : elT P T = some e := by exact Go.Abs.evT) (hzc : zc P e = some [z] := by exact Go.Abs.evT) (hT2 : ikd P T2 = some kn := by exact Go.Abs.evT) (hb : decide (elB P T ≤ 2 ^ 6) = true := by exact Go.Abs.evT)
    (h : srun P ops rest (({ s with ob := s.ob ++ [Ob.row e 1 (List.replicate n (.val z))] } : AS).put o.dst (.own s.ob.length)) = p := by
        exact Go.Abs.evE) : ARun2 P ops (o :: rest, s) Q :=
  ARun.exec hg (AOp.appendZeros ho hx hy hz he hzc hT2 h0 hn (of_decide_eq_true hb) (ARun.srun (h ▸ K)))
theorem AOp.frontOwn {T e : TypeId} {x hi : Operand} {k sz m : Nat} {xs : List AV} {kk : IntKind} (ho : o.op = .slice T x none (some hi) none) (hx : s.ev x = .own k) (hk : s.ob[k]? = some (.row e sz xs)) (hh : s.ev hi = .val (.int kk (N m)))
    (hz : elSz P T = some sz) (hm : m ≤ xs.length) (hid : AV.idsOkL (· != k) xs = true)
    (K : ARun P ops rest (({ s with ob := (s.ob.map (Ob.inval k)).set k (.row e sz (xs.take m)), fr := frInval k s.fr } : AS).put o.dst (.own k)) Q) : AOp P ops o rest s Q := by
  refine AOp.value (s' := { s with ob := (s.ob.map (Ob.inval k)).set k (.row e sz (xs.take m)), fr := frInval k s.fr }) (fun E ρ B a w hs => ?_) K
  obtain ⟨e', ti, zv, hu, hti, hsz, _⟩ := elSz_spec hz
  have hxr := hs.ev x
  rw [hx] at hxr
  have hhv := (hh ▸ hs.ev hi : Rel w B E.bs ρ (.val (.int kk (N m))) (a.eval hi)).val_eq
  generalize hq : a.eval x = u at hxr
  have hob := hs.rw_.obs k _ hk
  obtain ⟨h0, hob⟩ := hob
  have hkl := get_lt hk
  have hkr : k < ρ.length := by rw [hs.rw_.len]; exact hkl
  have hids : ∀ (i : Nat) (u' v' : Value), (i != k) = true → ρ[i]? = some u' → (ρ.set k v')[i]? = some u' := by
    intro i u' v' hi' hu'
    have hne : k ≠ i := by have : i ≠ k := by simpa using hi'
                           exact this.symm
    rw [List.getElem?_set_ne hne]; exact hu'
  have hidc : AV.idsOkL (· != k) ((xs.take m).flatMap AV.cells) = true := by
    rw [AV.idsOkL_iff] at hid ⊢
    intro c hc
    simp only [List.mem_flatMap] at hc
    obtain ⟨x', hx', hc⟩ := hc
    have := hid x' (List.mem_of_mem_take hx')
    rw [← AV.idsOkL_cells, AV.idsOkL_iff] at this
    exact this c hc
  have h0' : ∀ y ∈ xs.take m, y.cells.length = sz ∧ ∀ c ∈ y.cells, c.one = true := fun y hy => h0 y (List.mem_of_mem_take hy)
  cases hxr with
  | own hp h1 =>
    rcases hob with ⟨rfl, hr⟩ | ⟨b, cap, vs, ws, fz, r1, r2, r3, r4, r5, r6⟩
    · have hv : u = .slice none 0 0 := by rw [hr] at hp; exact (Option.some.inj hp).symm
      subst hv
      obtain rfl : m = 0 := by simpa using hm
      have hb := run_bounds (P := P) (w := w) (lo := none) (hi := some (.int kk (N 0))) (l := 0) (h := 0) (n := 0) (c := 0) true rfl rfl (Int.le_refl _) (Int.le_refl _) (Int.le_refl _) (Nat.le_refl _)
      refine ⟨.slice none 0 0, w, ρ.set k (.slice none 0 0), B, ?_, hs.regrow hk hp rfl rfl rfl rfl (Nat.le_refl _) (fun _ _ _ => rfl) (fun b hb => by simp [blk] at hb) ⟨by simp, .inl ⟨by simp, by rw [List.getElem?_set_self hkr]⟩⟩, .own (by rw [List.getElem?_set_self hkr]) rfl⟩
      simp only [execOp, ho]
      refine val_run ?_
      simp only [Instr.sliceAt, Sem.run_bind, run_underlying hu, Result.andThen_ok, Instr.slice, hq, hhv, Option.map_some, Option.map_none, hb, run_sizeOf hti, hsz, Sem.run_pure]
      simp
    · have hv : u = .slice (some ⟨b, 0, none⟩) xs.length cap := by rw [r1] at hp; exact (Option.some.inj hp).symm
      subst hv
      have hb := run_bounds (P := P) (w := w) (lo := none) (hi := some (.int kk (N m))) (l := 0) (h := N m) (n := xs.length) (c := cap) true rfl rfl (Int.le_refl _) (Int.natCast_nonneg m) (Int.ofNat_le.2 hm) r4
      have hvl : vs.length = xs.length * sz := by
        have := r6.length_eq
        rw [← this]
        exact flat_len fun y hy => (h0 y hy).1
      have htl : ((xs.take m).flatMap AV.cells).length = m * sz := by
        rw [flat_len (fun y hy => (h0' y hy).1), List.length_take, Nat.min_eq_left hm]
      have hle : m * sz ≤ xs.length * sz := Nat.mul_le_mul_right _ hm
      have hsplit : xs.flatMap AV.cells = (xs.take m).flatMap AV.cells ++ (xs.drop m).flatMap AV.cells := by
        rw [← List.flatMap_append, List.take_append_drop]
      have hrel := r6.take (m * sz)
      rw [hsplit, List.take_left' htl] at hrel
      refine ⟨.slice (some ⟨b, 0, none⟩) m cap, w, ρ.set k (.slice (some ⟨b, 0, none⟩) m cap), B, ?_, hs.regrow hk hp rfl rfl rfl rfl (Nat.le_refl _) (fun _ _ _ => rfl) (fun b' hb' => .inl hb')
        ⟨h0', .inr ⟨b, cap, vs.take (m * sz), vs.drop (m * sz) ++ ws, fz, ?_, ?_, ?_, ?_, ?_, hrel.ids (fun i u' hi' hu' => hids i u' _ hi' hu') hidc⟩⟩, .own (by rw [List.getElem?_set_self hkr]) rfl⟩
      · simp only [execOp, ho]
        refine val_run ?_
        simp only [Instr.sliceAt, Sem.run_bind, run_underlying hu, Result.andThen_ok, Instr.slice, hq, hhv, Option.map_some, Option.map_none, hb, run_sizeOf hti, hsz, Sem.run_pure]
        simp [N]
        intro _; rfl
      · rw [List.getElem?_set_self hkr, List.length_take, Nat.min_eq_left hm]
      · rw [← List.append_assoc, List.take_append_drop]; exact r2
      · rw [← List.append_assoc, List.take_append_drop]; exact r3
      · rw [List.length_take]; omega
      · rw [← List.append_assoc, List.take_append_drop]; exact r5
theorem ARun2.frontOwnM {T e : TypeId} {x hi : Operand} {k sz : Nat} {xs : List AV} {kk : IntKind} {p : List Oper × AS} (m : Nat) (hm : m ≤ xs.length) (K : ARun2 P ops p Q) (ho : o.op = .slice T x none (some hi) none := by rfl) (hg : gd ops s o = some true := by exact Go.Abs.evT)
    (hx : s.ev x = .own k := by exact Go.Abs.evT) (hk : s.ob[k]? = some (.row e sz xs) := by exact Go.Abs.evT) (hh : s.ev hi = .val (.int kk (N m)) := by exact Go.Abs.evT) (hz : elSz P T = some sz := by exact Go.Abs.evT) (hid : AV.idsOkL (· != k) xs = true := by exact Go.Abs.evT)
    (h : srun P ops rest (({ s with ob := (s.ob.map (Ob.inval k)).set k (.row e sz (xs.take m)), fr := frInval k s.fr } : AS).put o.dst (.own k)) = p := by
        exact Go.Abs.evE) : ARun2 P ops (o :: rest, s) Q :=
  ARun.exec hg (AOp.frontOwn ho hx hk hh hz hm hid (ARun.srun (h ▸ K)))
theorem ARun2.frontNilM {T : TypeId} {x hi : Operand} {kk : IntKind} {p : List Oper × AS} (K : ARun2 P ops p Q) (ho : o.op = .slice T x none (some hi) none := by rfl) (hg : gd ops s o = some true := by exact Go.Abs.evT)
    (hx : s.ev x = .val (.slice none 0 0) := by exact Go.Abs.evT) (hh : s.ev hi = .val (.int kk 0) := by exact Go.Abs.evT) (hz : (elSz P T).isSome = true := by exact Go.Abs.evT)
    (h : srun P ops rest (s.put o.dst (.val (.slice none 0 0))) = p := by
        exact Go.Abs.evE) : ARun2 P ops (o :: rest, s) Q := by
  refine ARun.exec hg (AOp.pure1 (fun E ρ B a w hs => ?_) (ARun.srun (h ▸ K)))
  obtain ⟨sz, hz⟩ := Option.isSome_iff_exists.1 hz
  obtain ⟨e', ti, zv, hu, hti, hsz, _⟩ := elSz_spec hz
  have hxv := (hx ▸ hs.ev x : Rel w B E.bs ρ (.val (.slice none 0 0)) (a.eval x)).val_eq
  have hhv := (hh ▸ hs.ev hi : Rel w B E.bs ρ (.val (.int kk 0)) (a.eval hi)).val_eq
  have hb := run_bounds (P := P) (w := w) (lo := none) (hi := some (.int kk 0)) (l := 0) (h := 0) (n := 0) (c := 0) true rfl rfl (Int.le_refl _) (Int.le_refl _) (Int.le_refl _) (Nat.le_refl _)
  refine ⟨.slice none 0 0, ?_, .val _⟩
  simp only [execOp, ho]
  refine val_run ?_
  simp only [Instr.sliceAt, Sem.run_bind, run_underlying hu, Result.andThen_ok, Instr.slice, hxv, hhv, Option.map_some, Option.map_none, hb, run_sizeOf hti, hsz, Sem.run_pure]
  simp
theorem ARun2.capNilM {T : TypeId} {x : Operand} {p : List Oper × AS} (K : ARun2 P ops p Q) (ho : o.op = .call { callee := .builtin .cap, args := #[x], argTypes := #[T] } := by rfl) (hg : gd ops s o = some true := by exact Go.Abs.evT)
    (hx : s.ev x = .val (.slice none 0 0) := by exact Go.Abs.evT) (hz : (elSz P T).isSome = true := by exact Go.Abs.evT)
    (h : srun P ops rest (s.put o.dst (.val (.int .i64 0))) = p := by
        exact Go.Abs.evE) : ARun2 P ops (o :: rest, s) Q := by
  refine ARun.exec hg (AOp.pure1 (fun E ρ B a w hs => ?_) (ARun.srun (h ▸ K)))
  obtain ⟨sz, hz⟩ := Option.isSome_iff_exists.1 hz
  obtain ⟨e', ti, zv, hu, hti, hsz, _⟩ := elSz_spec hz
  have hxv := (hx ▸ hs.ev x : Rel w B E.bs ρ (.val (.slice none 0 0)) (a.eval x)).val_eq
  refine ⟨.int .i64 0, ?_, .val _⟩
  simp [execOp, ho, resolve, invoke, builtin, hxv, Builtin.cap_, run_underlying hu, goInt]
def Ho (ids : List Nat) (x y : AV) : Prop := ∀ (w : World) (B : Nat → Prop) (bs : Nat) (ρ σ : List Value) (v : Value), (∀ i k : Nat, ids[i]? = some k → σ[i]? = ρ[k]?) → Rel w B bs ρ x v → Rel w B bs σ y v
def HoL (ids : List Nat) (xs ys : List AV) : Prop := ∀ (w : World) (B : Nat → Prop) (bs : Nat) (ρ σ : List Value) (vs : List Value), (∀ i k : Nat, ids[i]? = some k → σ[i]? = ρ[k]?) → RelL w B bs ρ xs vs → RelL w B bs σ ys vs
theorem Ho.hand {ids : List Nat} {x y : AV} (h : Hand ids x y) : Ho ids x y := fun w B bs ρ σ v hi hr => h w B bs bs ρ σ v (Nat.le_refl _) hi hr
theorem Ho.eq {ids : List Nat} {x y : AV} (h : x = y) (hp : x.idsOk (fun _ => false) = true) : Ho ids x y := by
  subst h
  exact fun w B bs ρ σ v hi hr => hr.ids (p := fun _ => false) (by intro _ _ h; simp at h) hp
theorem HoL.nil {ids : List Nat} : HoL ids [] [] := fun _ _ _ _ _ _ _ h => by cases h; exact .nil
theorem HoL.cons {ids : List Nat} {x y : AV} {xs ys : List AV} (h : Ho ids x y) (h2 : HoL ids xs ys) : HoL ids (x :: xs) (y :: ys) := by
  intro w B bs ρ σ v hi hr; cases hr with | cons a b => exact .cons (h _ _ _ _ _ _ hi a) (h2 _ _ _ _ _ _ hi b)
theorem Ho.agg {ids : List Nat} {xs ys : List AV} (h : HoL ids xs ys) : Ho ids (.agg xs) (.agg ys) := by
  intro w B bs ρ σ v hi hr; cases hr with | agg a => exact .agg (h _ _ _ _ _ _ hi a)
theorem Ho.tup {ids : List Nat} {xs ys : List AV} (h : HoL ids xs ys) : Ho ids (.tup xs) (.tup ys) := by
  intro w B bs ρ σ v hi hr; cases hr with | tup a => exact .tup (h _ _ _ _ _ _ hi a)
theorem Ho.nilS {ids : List Nat} {nw : Bool} {sz : Nat} : Ho ids (.val (.slice none 0 0)) (.sl nw sz []) := by
  intro w B bs ρ σ v _ h; cases h; exact .slE _ _ _ _
theorem Ho.go {ids : List Nat} {x y : AV} (h : Ho ids x y := by
      try simp only [push_cast, ↓reduceIte, Nat.reduceEqDiff, Nat.reduceLT, Nat.reduceAdd, Nat.reduceSub, Nat.reduceMul, Nat.reduceLeDiff, Nat.reducePow, Int.reduceLT, Int.reduceToNat, reduceCtorEq, Int.reduceNeg, Int.reduceEq, Nat.reduceBEq, Nat.reduceBNe, Int.reduceBEq, Int.reduceBNe, String.reduceEq]
      try simp (disch := omega) only [w_nat, w_add, w_addl, w_addr, w_sub, w_subl, w_mul, w_mull, w_mulr, w_u32, w_u16, w_u8, w_u32a, N_zero]
      repeat' (first | assumption | exact HoL.nil | exact Ho.nilS | exact Ho.eq (by exact Go.Abs.evT) (by exact Go.Abs.evT) | exact Ho.hand (Hand.eq (by exact Go.Abs.evT) (by exact Go.Abs.evT)) | refine HoL.cons ?_ ?_ | refine Ho.agg ?_ | refine Ho.tup ?_)) : Ho ids x y := h
def endK (ids : List Nat) (r0 : AV) (τ' : List Ob) (r : AV) (s : AS) : Prop := ids.Nodup ∧ SubOL ids s.ob ids τ' ∧ Ho ids r r0
theorem endK.m {ids : List Nat} {r0 r : AV} {τ' τ : List Ob} (hτ : τ = τ') (hr : Ho ids r r0) (hn : ids.Nodup := by first | rfl | decide) (hok : handObsOk ids s.ob ids = true := by exact Go.Abs.evT) (hh : handObs ids s.ob ids = τ := by
        exact Go.Abs.evE) : endK ids r0 τ' r s :=
  ⟨hn, (hh.trans hτ) ▸ SubOL.hand hok, hr⟩
theorem OC.of_bodyK {f : FuncId} {fn : Func} {c : Code} {args : List AV} {τ τ' : List Ob} {r0 : AV} (ids : List Nat) (h0 : ∀ k, k < τ.length → ids[k]? = some k) (hf : P.funcs[f]? = some fn) (hb : fn.body = some c) (hn : args.length ≤ fn.ntmps)
    (h : AWp P c { n := fn.ntmps, m := τ.length, fr := frOf 0 args, ob := τ } (bodyQ P fn (endK ids r0 τ'))) : OC P f args τ r0 τ' := by
  intro ep w ρ B vs hg hw hr R' hR'
  have hs := RS.init (n := fn.ntmps) hw hr (by rw [← hr.length_eq]; exact hn)
  refine calls_body (E0.ok ep w B ρ P hg) rfl hf hb (by simpa using hs) h ?_
  rintro r v s' ρ' B' a' w' ⟨e1, e2, e3⟩ hs' hv
  refine hR' r0 v τ' (pick ρ' ids) B' w' ⟨rfl, rfl⟩ (hs'.rw_.sel e1 e2 (fun k hk => h0 k (by simpa [hw.len] using hk))) ?_
  exact e3 _ _ _ _ _ _ (fun i k hi => pick_at hs'.rw_ e2 hi) hv
theorem stepR_scope {b : Frame} {a : Act} {k : List Item} {cs : List Frame} {w : World} {c : Code} : step P (lone (b.atR a (.code (.scope c) :: k)) cs w) = .next (lone (b.atR a (.code c :: .inScope c :: k)) cs w) :=
  step_lone_go (by simp [stepG, stepG.exec, Frame.atR])
theorem stepR_inScope {b : Frame} {a : Act} {k : List Item} {cs : List Frame} {w : World} {c : Code} : step P (lone (b.atR a (.inScope c :: k)) cs w) = .next (lone (b.atR a k) cs w) :=
  step_lone_go (by simp [stepG, stepG.exec, Frame.atR])
theorem wpIn_scope {F : Fence} {n : Nat} {c : Code} {Q : Exit → Act → World → Prop} {a : Act} {w : World} (hg : ∀ l a w, ¬ Q (.goto l) a w) (h : c.wpIn F n P Q a w) : (Code.scope c).wpIn F n P Q a w := by
  intro b k cs hro hb hr
  have h0 : (lone (b.atR a (.code (.scope c) :: k)) cs w).fenced P F := fenced_calm hb hr rfl
  obtain ⟨e, a₁, w₁, hq, harr⟩ := h b (.inScope c :: k) cs hro hb hr
  cases e with
  | normal => exact ⟨.normal, a₁, w₁, hq, .head h0 stepR_scope (StepsIn.trans harr (.one (fenced_calm hb hr rfl) stepR_inScope))⟩
  | exit id =>
    have hx : exitTo id (.inScope c :: k) = exitTo id k := by simp [exitTo]
    exact ⟨.exit id, a₁, w₁, hq, fun k' hk => .head h0 stepR_scope (harr.1 k' (by rw [hx]; exact hk)),
      fun hr' hk => let ⟨k₁, h1, h2⟩ := harr.2 hr' (by rw [hx]; exact hk); ⟨k₁, h1, .head h0 stepR_scope h2⟩⟩
  | goto l => exact absurd hq (hg _ _ _)
  | ret => exact ⟨_, a₁, w₁, hq, .of_steps (.one h0 stepR_scope) harr⟩
  | panic ch => exact ⟨_, a₁, w₁, hq, .of_steps (.one h0 stepR_scope) harr⟩
  | outgrown => exact ⟨_, a₁, w₁, hq, .of_steps (.one h0 stepR_scope) harr⟩
theorem AWp.scope {c : Code} (h : AWp P c s (noGo R)) : AWp P (.scope c) s R := by
  intro E hE ρ B a w hs Q' hQ
  have := h E hE ρ B a w hs (fun e a w => (∀ l, e ≠ .goto l) ∧ Q' e a w) fun e s' ρ' B' a' w' hq hs' => by
    cases e with
    | goto l => exact hq.elim
    | _ => exact ⟨(by rintro l ⟨⟩), hQ _ _ _ _ _ _ hq hs'⟩
  exact wpIn_mono (wpIn_scope (fun l a w hq => hq.1 l rfl) this) fun e a w hq => hq.2
end
set_option linter.unusedSectionVars false
set_option linter.unnecessarySimpa false
section
variable {P : Program} {ops : Array Oper} {E : Env} {s s' : AS} {ρ σ : List Value} {B : Nat → Prop} {a : Act} {w w' : World} {o : Oper} {rest : List Oper} {Q : AS → Prop} {R : Exit → AS → Prop}
theorem PC.of_own {f : FuncId} {ys : List AV} {e : TypeId} {sz : Nat} {xs : List AV} (h : OC P f ys [] (.own 0) [.row e sz xs]) (hx : AV.idsOkL (fun _ => false) xs = true := by simp only [push_cast]) : PC P f ys (.sl true sz xs) := by
  refine ⟨by simpa [AV.idsOk] using hx, fun ep w ρ B vs hg hw hr R' hR' => ?_⟩
  refine h ep w ρ B vs hg hw hr R' ?_
  rintro r v τ' ρ' B' w' ⟨rfl, rfl⟩ hw' hv
  have hρ : ρ = [] := by have := hw.len; simpa using this
  subst hρ
  obtain ⟨B2, u, k1, k2, k3, k4, _⟩ := hw'.publish (k := 0) rfl (Nat.zero_le _)
  have hu : u = v := by
    cases hv with
    | own hp _ => rw [k2] at hp; exact Option.some.inj hp
  subst hu
  have hc := k3.cut (n := 0) (by simp) (by intro k o h; simp at h)
  refine hR' _ u [] [] B2 w' ⟨rfl, rfl⟩ (by simpa using hc) (k4.ids (p := fun _ => false) (by intro _ _ h; simp at h) (by simpa [AV.idsOk] using hx))
theorem Le.nilSl (t : Nat) (nw : Bool) (sz : Nat) (h : lk s.fr t = .val (.slice none 0 0)) : Le s { s with fr := (t, .sl nw sz []) :: del s.fr t } := by
  intro E ρ B a w hs
  refine ⟨ρ, B, hs.rw_, hs.m, hs.n, hs.df, hs.jj, ?_⟩
  intro u x hm
  rcases List.mem_cons.1 hm with e | hm
  · have e1 : u = t := congrArg Prod.fst e
    have e2 : x = .sl nw sz [] := congrArg Prod.snd e
    subst e1; subst e2
    have hg := hs.get u
    rw [h] at hg
    refine ⟨?_, ?_⟩
    · rcases lk_mem h with hx | hx
      · cases hx
      · exact (hs.rf u _ hx).1
    · rw [hg.val_eq]; exact .slE _ _ _ _
  · exact hs.rf u x (del_mem hm).1
theorem AWp.nilSl {c : Code} (t : Nat) (nw : Bool) (sz : Nat) {s' : AS} (K : AWp P c s' R) (h : lk s.fr t = .val (.slice none 0 0) := by exact Go.Abs.evT) (hs' : { s with fr := (t, .sl nw sz []) :: del s.fr t } = s' := by
        exact Go.Abs.evE) : AWp P c s R :=
  AWp.weak (Le.nilSl t nw sz h) (hs' ▸ K)
end
set_option linter.unusedSectionVars false
set_option linter.unnecessarySimpa false
section
variable {P : Program} {ops : Array Oper} {E : Env} {s s' : AS} {ρ σ : List Value} {B : Nat → Prop} {a : Act} {w w' : World} {o : Oper} {rest : List Oper} {Q : AS → Prop} {R : Exit → AS → Prop}
theorem sliceHi3_run (hs : RS E s ρ B a w) {T : TypeId} {x hi mx : Operand} {nw : Bool} {sz : Nat} {xs : List AV} {h m : Int} {k2 k3 : IntKind} (ho : o.op = .slice T x none (some hi) (some mx)) (hx : s.ev x = .sl nw sz xs)
    (hh : s.ev hi = .val (.int k2 h)) (hm : s.ev mx = .val (.int k3 m))
    (hz : elSz P T = some sz) (h1 : 0 ≤ h) (h2 : h ≤ m) (h3 : m ≤ xs.length) : ∃ v, (execOp a.eval o).run P w = .ok (.value v) w ∧ Rel w B E.bs ρ (.sl nw sz (xs.take h.toNat)) v := by
  obtain ⟨e, ti, zv, hu, hti, hsz, _⟩ := elSz_spec hz
  have hxr := hs.ev x
  rw [hx] at hxr
  have hcap : ∃ A c, a.eval x = .slice A xs.length c ∧ xs.length ≤ c := by
    generalize a.eval x = u at hxr
    cases hxr with
    | slE => exact ⟨_, _, rfl, Nat.zero_le _⟩
    | sl hr hc => exact ⟨_, _, rfl, hc⟩
  obtain ⟨A, c, hv, hc⟩ := hcap
  rw [hv] at hxr
  have vh := hs.ev hi; rw [hh] at vh; replace vh := vh.val_eq
  have vm := hs.ev mx; rw [hm] at vm; replace vm := vm.val_eq
  have e2 : 0 ≤ m := by omega
  have e3 : m ≤ c := by omega
  have e4 : h ≤ max m 0 := by omega
  have hr := hxr.slice (l := 0) (h := h.toNat) (by omega) (by omega) m.toNat (by omega) (by omega)
  rw [List.drop_zero] at hr
  refine ⟨_, ?_, hr⟩
  simp only [execOp, ho]
  refine val_run ?_
  simp [Instr.sliceAt, run_underlying hu, Instr.slice, hv, Instr.sliceBounds, Instr.sliceBound, asIntOf, vh, vm, h1, e2, e3, e4, run_sizeOf hti, hsz]
theorem ARun2.sliceHi3M {T : TypeId} {x hi mx : Operand} {nw : Bool} {sz : Nat} {xs : List AV} {k2 k3 : IntKind} {p : List Oper × AS} (n : Nat) (hn : n ≤ xs.length) (K : ARun2 P ops p Q) (ho : o.op = .slice T x none (some hi) (some mx) := by rfl) (hg : gd ops s o = some true := by exact Go.Abs.evT)
    (hx : s.ev x = .sl nw sz xs := by exact Go.Abs.evT) (hh : s.ev hi = .val (.int k2 (N n)) := by exact Go.Abs.evT) (hm : s.ev mx = .val (.int k3 (N n)) := by exact Go.Abs.evT) (hz : elSz P T = some sz := by exact Go.Abs.evT)
    (h : srun P ops rest (s.put o.dst (.sl nw sz (xs.take n))) = p := by
        exact Go.Abs.evE) : ARun2 P ops (o :: rest, s) Q := by
  refine ARun.exec hg (AOp.pure1 (fun E ρ B a w hs => ?_) (ARun.srun (h ▸ K)))
  have := sliceHi3_run hs ho hx hh hm hz (Int.natCast_nonneg n) (Int.le_refl _) (Int.ofNat_le.2 hn)
  rwa [N_toNat] at this
@[push_cast] theorem idsOkL_app (p : Nat → Bool) (l m : List AV) : AV.idsOkL p (l ++ m) = (AV.idsOkL p l && AV.idsOkL p m) := by
  rw [Bool.eq_iff_iff, Bool.and_eq_true, AV.idsOkL_iff, AV.idsOkL_iff, AV.idsOkL_iff]
  simp only [List.mem_append]
  exact ⟨fun h => ⟨fun x hx => h x (.inl hx), fun x hx => h x (.inr hx)⟩, fun h x hx => hx.elim (h.1 x) (h.2 x)⟩
theorem rowZ {bs : Nat} {e : TypeId} {sz : Nat} {xs : List AV} {k : Nat} (h : RO w B bs ρ k (.row e sz xs)) (hne : xs ≠ []) : ∃ b cap vs ws fz, ρ[k]? = some (.slice (some ⟨b, 0, none⟩) xs.length cap) ∧ w.heap[b]? = some (.cells (List.toArray (vs ++ ws)) e fz) ∧
    (vs ++ ws).length = cap * sz ∧ xs.length ≤ cap ∧ thaw fz (vs ++ ws).length ∧ RelL w B bs ρ (xs.flatMap AV.cells) vs ∧ (∀ x ∈ xs, x.cells.length = sz ∧ ∀ c ∈ x.cells, c.one = true) := by
  obtain ⟨h0, h⟩ := h
  rcases h with h | ⟨b, cap, vs, ws, fz, h1', h2, h3, h4, h5, h6⟩
  · exact absurd h.1 hne
  · exact ⟨b, cap, vs, ws, fz, h1', h2, h3, h4, h5, h6, h0⟩
theorem flat_set {sz : Nat} {y : AV} : ∀ {xs : List AV} {j : Nat}, j < xs.length → (∀ x ∈ xs, x.cells.length = sz) → y.cells.length = sz → splice (xs.flatMap AV.cells) (j * sz) y.cells = (xs.set j y).flatMap AV.cells
  | [], j, h, _, _ => by simp at h
  | x :: xs, 0, _, hx, hy => by
    have := hx x (by simp)
    simp [splice, hy, ← this]
  | x :: xs, j + 1, h, hx, hy => by
    have hl := hx x (by simp)
    have ih := flat_set (y := y) (xs := xs) (j := j) (by simpa using h) (fun z hz => hx z (by simp [hz])) hy
    simp only [List.set_cons_succ, List.flatMap_cons, ← ih]
    unfold splice
    have e1 : (j + 1) * sz = x.cells.length + j * sz := by rw [hl, Nat.add_mul]; omega
    rw [e1, Nat.add_assoc, List.take_append, List.drop_append]
    simp only [Nat.add_sub_cancel_left]
    rw [List.take_of_length_le (by omega), List.drop_of_length_le (by omega)]
    simp
theorem AOp.indexOwnZ {T : TypeId} {x i : Operand} {k j sz : Nat} {e : TypeId} {xs : List AV} {kk : IntKind} (ho : o.op = .indexAddr T x i) (hx : s.ev x = .own k) (hk : s.ob[k]? = some (.row e sz xs)) (hi : s.ev i = .val (.int kk (N j)))
    (hz : elSz P T = some sz) (hj : j < xs.length) (K : ARun P ops rest (s.put o.dst (.ept k (j * sz))) Q) : AOp P ops o rest s Q := by
  refine AOp.pure1 (fun E ρ B a w hs => ?_) K
  obtain ⟨e', ti, zv, hu, hti, hsz, _⟩ := elSz_spec hz
  obtain ⟨b, cap, vs, ws, fz, r1, r2, r3, r4, r5, r6, _⟩ := rowZ (hs.rw_.obs k _ hk) (by rintro rfl; simp at hj)
  have hxr := hs.ev x
  have hir := hs.ev i
  rw [hx] at hxr
  rw [hi] at hir
  have hv := hir.val_eq
  simp only [execOp, ho, hv]
  generalize a.eval x = u at hxr
  cases hxr with
  | own hp _ =>
    rw [r1] at hp
    have := Option.some.inj hp
    subst this
    refine ⟨_, val_run (v := .pointer (some ⟨b, j * sz, none⟩)) ?_, .ept r1⟩
    have hjj : 0 ≤ N j ∧ N j < (xs.length : Int) := ⟨Int.natCast_nonneg j, by unfold N; omega⟩
    simp only [Instr.indexAt, asIntOf, Sem.run_bind, Sem.run_pure, Result.andThen_ok, run_underlying hu]
    simp only [if_pos hjj, Sem.run_bind, run_sizeOf hti, hsz, Result.andThen_ok, addr_add, Sem.run_pure, N_toNat, Nat.zero_add]
theorem AOp.storeZ {T : TypeId} {x y : Operand} {k j sz : Nat} {e : TypeId} {xs : List AV} (ho : o.op = .store T x y) (hx : s.ev x = .ept k (j * sz)) (hk : s.ob[k]? = some (.row e sz xs)) (ht : tkLen (tk P T) = sz) (h0 : 0 < sz) (hj : j < xs.length) (hf : (s.ev y).flat = true) (hl : (s.ev y).cells.length = sz)
    (K : ARun P ops rest ({ s with ob := s.ob.set k (.row e sz (xs.set j (s.ev y))) }.put o.dst .any) Q) : AOp P ops o rest s Q := by
  refine AOp.unit (s' := { s with ob := s.ob.set k (.row e sz (xs.set j (s.ev y))) }) (fun E ρ B a w hs => ?_) (by rw [ho]; intro c h; cases h) K
  obtain ⟨b, cap, vs, ws, fz, r1, r2, r3, r4, r5, r6, r7⟩ := rowZ (hs.rw_.obs k _ hk) (by rintro rfl; simp at hj)
  have hxr := hs.ev x
  rw [hx] at hxr
  obtain ⟨t1, t2⟩ := (hs.ev y).toCells hf
  have hi : ∃ i, P.info? T = some i ∧ i.size = sz := by
    rw [← ht]
    cases hq : tk P T with
    | scal => obtain ⟨d, i, _, hi, hs, _⟩ := tk_scal hq; exact ⟨i, hi, hs⟩
    | aggr n => obtain ⟨d, i, _, hi, hs, _⟩ := tk_aggr hq; exact ⟨i, hi, hs⟩
    | bad => rw [hq] at ht; simp [tkLen] at ht; omega
  obtain ⟨i, hi, hsz⟩ := hi
  have hul : (a.eval y).cells.toList.length = sz := by rw [← t1.length_eq, hl]
  have hvl : vs.length = xs.length * sz := by rw [← r6.length_eq]; exact flat_len fun y hy => (r7 y hy).1
  have hjs : j * sz + sz ≤ xs.length * sz := by
    have : (j + 1) * sz ≤ xs.length * sz := Nat.mul_le_mul_right _ hj
    rw [Nat.add_mul] at this; omega
  have hst := run_storeVar (P := P) (w := w) (t := T) (b := b) (o := j * sz) (T := e) hi (v := a.eval y) rfl (by rw [hsz, hul]) r2 r5 (by rw [List.length_append, hul, hvl]; omega) (t1.ones t2)
  have hset : (vs ++ ws).take (j * sz) ++ (a.eval y).cells.toList ++ (vs ++ ws).drop (j * sz + (a.eval y).cells.toList.length) = (vs.take (j * sz) ++ (a.eval y).cells.toList ++ vs.drop (j * sz + (a.eval y).cells.toList.length)) ++ ws := by
    rw [List.take_append_of_le_length (by omega), List.drop_append_of_le_length (by omega)]
    simp
  rw [hset] at hst
  generalize hq : vs.take (j * sz) ++ (a.eval y).cells.toList ++ vs.drop (j * sz + (a.eval y).cells.toList.length) = us at hst
  have husl : us.length = vs.length := by rw [← hq]; simp only [List.length_append, List.length_take, List.length_drop]; omega
  have hw : RS E { s with ob := s.ob.set k (.row e sz (xs.set j (s.ev y))) } ρ B a (setBlk w b (.cells (us ++ ws).toArray e fz)) := by
    obtain ⟨p1, p2, p3⟩ := hs.rw_.prv k _ _ b hk rfl r1 rfl
    have hB : ∀ b', B b' → (setBlk w b (.cells (us ++ ws).toArray e fz)).heap[b']? = w.heap[b']? := fun b' hb' => by
      rw [setBlk_get _ _ _ _ p2, if_neg (by rintro rfl; exact p1 hb')]
    refine hs.write (b := b) hk rfl r1 rfl ⟨?_, .inr ⟨b, cap, us, ws, fz, by rw [List.length_set]; exact r1, by rw [setBlk_get _ _ _ _ p2, if_pos rfl], by rw [← r3]; simp [husl], by rw [List.length_set]; exact r4, by simpa [husl] using r5, ?_⟩⟩
    · intro c hc
      rcases List.mem_or_eq_of_mem_set hc with hc | rfl
      · exact r7 c hc
      · exact ⟨hl, t2⟩
    · rw [← flat_set hj (fun z hz => (r7 z hz).1) hl]
      have hsp := r6.splice t1 (j * sz)
      rw [hq] at hsp
      exact hsp.mono (fun _ h => h) hB (Nat.le_refl _) (fun _ _ h => h)
  refine ⟨_, ρ, B, ?_, hw⟩
  simp only [execOp, ho]
  generalize a.eval x = u at hxr
  cases hxr with
  | ept hp =>
    rw [r1] at hp
    simp only [Option.some.injEq, Value.slice.injEq, Addr.mk.injEq, and_true] at hp
    obtain ⟨rfl, _, _⟩ := hp
    simp [Instr.storeAt, Instr.sureAddr, hst]
theorem ARun2.indexZM {T : TypeId} {x i : Operand} {k sz : Nat} {e : TypeId} {xs : List AV} {kk : IntKind} {p : List Oper × AS} (j : Nat) (hj : j < xs.length) (K : ARun2 P ops p Q) (ho : o.op = .indexAddr T x i := by rfl) (hg : gd ops s o = some true := by exact Go.Abs.evT) (hx : s.ev x = .own k := by exact Go.Abs.evT) (hk : s.ob[k]? = some (.row e sz xs) := by rfl)
    (hi : s.ev i = .val (.int kk (N j)) := by exact Go.Abs.evT) (hz : elSz P T = some sz := by exact Go.Abs.evT) (h : srun P ops rest (s.put o.dst (.ept k (j * sz))) = p := by
        exact Go.Abs.evE) : ARun2 P ops (o :: rest, s) Q :=
  ARun.exec hg (AOp.indexOwnZ ho hx hk hi hz hj (ARun.srun (h ▸ K)))
theorem ARun2.storeZM {T : TypeId} {x y : Operand} {k sz : Nat} {e : TypeId} {p : List Oper × AS} (xs : List AV) (j : Nat) (v : AV) (xs' : List AV) (hj : j < xs.length) (hs' : xs.set j v = xs') (K : ARun2 P ops p Q) (ho : o.op = .store T x y := by rfl) (hg : gd ops s o = some true := by exact Go.Abs.evT) (hx : s.ev x = .ept k (j * sz) := by exact Go.Abs.evT) (hk : s.ob[k]? = some (.row e sz xs) := by rfl)
    (hy : s.ev y = v := by exact Go.Abs.evT) (ht : tkLen (tk P T) = sz := by exact Go.Abs.evT) (h0 : decide (0 < sz) = true := by first | rfl | decide) (hf : v.flat = true := by exact Go.Abs.evT) (hl : v.cells.length = sz := by exact Go.Abs.evT) (h : srun P ops rest ({ s with ob := s.ob.set k (.row e sz xs') }.put o.dst .any) = p := by
        exact Go.Abs.evE) : ARun2 P ops (o :: rest, s) Q := by
  subst hy
  exact ARun.exec hg (AOp.storeZ ho hx hk ht (of_decide_eq_true h0) hj hf hl (ARun.srun (by rw [hs', h]; exact K)))
end
set_option linter.unusedSectionVars false
section
variable {P : Program} {ops : Array Oper} {E : Env} {s s' : AS} {o : Oper} {rest : List Oper} {Q : AS → Prop} {R : Exit → AS → Prop} {nds : List (List (Nat × Option Nat))} {vals : List AV} {G : Prop}
attribute [push_cast] Option.toList_some
theorem AAny.zero {listed : Array Bool} (h : Region.ready .any ops listed = []) (q : Q s) : AAny P ops 0 listed Q s := by
  intro E hE ρ B a w hs Q' hQ
  exact ⟨h, hQ _ _ _ _ _ q hs⟩
theorem AAny.step {fuel : Nat} {listed : Array Bool} {l : List Nat} (h : Region.ready .any ops listed = l) (hl : l ≠ []) (k : ∀ j ∈ l, ∃ o, ops[j]? = some o ∧ ARun P ops [o] s (fun s' => AAny P ops fuel (listed.setIfInBounds j true) Q s')) :
    AAny P ops (fuel + 1) listed Q s := by
  intro E hE ρ B a w hs Q' hQ
  refine ⟨fun e => absurd (h.symm.trans e) hl, fun i hi => ?_⟩
  obtain ⟨o, ho, hk⟩ := k i (h ▸ hi)
  have := hk E hE ρ B a w hs (fun e a w => match e with | .normal => wpAnyIn (FR E.rnd) 0 P .any ops Q' fuel (listed.setIfInBounds i true) a w | e => Q' e a w) (fun s' ρ' B' a' w' q hs' => q E hE ρ' B' a' w' hs' Q' hQ)
  unfold wpOpIn
  simp only [ho]
  simp only [lwp] at this
  split
  · rename_i hw; rw [if_pos hw] at this; exact wpIn_mono2 (fun _ _ h => h) (fun e a w he h => by cases e <;> first | exact absurd rfl he | exact h) this
  · rename_i hw; rw [if_neg hw] at this; exact ⟨fun _ _ => trivial, this⟩
theorem AAny.fin {listed : Array Bool} (q : Q s) (h : Region.ready .any ops listed = [] := by kernel_rfl) : AAny P ops 0 listed Q s := AAny.zero h q
theorem AAny.one {fuel : Nat} {listed : Array Bool} (j : Nat) (k : ARun P ops (ops[j]?).toList s (fun s' => AAny P ops fuel (listed.setIfInBounds j true) Q s')) (ho : (ops[j]?).isSome = true := by kernel_rfl) (h : Region.ready .any ops listed = [j] := by kernel_rfl) :
    AAny P ops (fuel + 1) listed Q s := by
  refine AAny.step h (by simp) fun i hi => ?_
  have : i = j := by simpa using hi
  subst this
  obtain ⟨o, ho⟩ := Option.isSome_iff_exists.1 ho
  exact ⟨o, ho, by rw [ho] at k; exact k⟩
theorem AAny.two {fuel : Nat} {listed : Array Bool} (j1 j2 : Nat) (k1 : ARun P ops (ops[j1]?).toList s (fun s' => AAny P ops fuel (listed.setIfInBounds j1 true) Q s')) (k2 : ARun P ops (ops[j2]?).toList s (fun s' => AAny P ops fuel (listed.setIfInBounds j2 true) Q s'))
    (ho : ((ops[j1]?).isSome && (ops[j2]?).isSome) = true := by kernel_rfl) (h : Region.ready .any ops listed = [j1, j2] := by kernel_rfl) : AAny P ops (fuel + 1) listed Q s := by
  refine AAny.step h (by simp) fun i hi => ?_
  simp only [Bool.and_eq_true] at ho
  obtain ⟨o1, h1⟩ := Option.isSome_iff_exists.1 ho.1
  obtain ⟨o2, h2⟩ := Option.isSome_iff_exists.1 ho.2
  have : i = j1 ∨ i = j2 := by simpa using hi
  rcases this with rfl | rfl
  · exact ⟨o1, h1, by rw [h1] at k1; exact k1⟩
  · exact ⟨o2, h2, by rw [h2] at k2; exact k2⟩
theorem ARun.opM {l : List Oper} {p : List Oper × AS} (k : ARun2 P ops p Q) (h : Abs.srun P ops l s = p := by
        exact Go.Abs.evE) : ARun P ops l s Q := ARun.srun (h ▸ k)
def drawnT (ops : Array Oper) (n sn : Nat) (nds : List (List (Nat × Option Nat))) : Bool :=
  decide (n < ops.size) && ((List.range n).all fun i => Region.waitsFor .any ops n i || (List.range n).any fun j => decide (i < j) && Region.waitsFor .any ops j i) &&
  ((List.range ops.size).all fun j => decide (j ≤ n) || (List.range j).any fun i => decide (n ≤ i) && Region.waitsFor .any ops j i) && drawnH ops n sn nds
theorem drawnT.tail {n sn : Nat} (h : drawnT ops n sn nds = true) {listed : Array Bool} (inv : HeadInv .any ops n listed) : ∀ (d i : Nat), n - i = d → i < n → listed.getD i true = false → ∀ t, n ≤ t → t ∉ Region.ready .any ops listed := by
  simp only [drawnT, Bool.and_eq_true, decide_eq_true_eq] at h
  obtain ⟨⟨⟨hn, hs⟩, hc⟩, _⟩ := h
  intro d
  induction d using Nat.strongRecOn with
  | _ d ih =>
    intro i hd hi hun t ht hr
    obtain ⟨_, ot, hot, hall⟩ := mem_ready.1 hr
    have htlt : t < ops.size := (Array.getElem?_eq_some_iff.1 hot).1
    by_cases htn : t = n
    · subst htn
      have h1 := List.all_eq_true.1 hs i (List.mem_range.2 hi)
      simp only [Bool.or_eq_true] at h1
      rcases h1 with h1 | h1
      · obtain ⟨oj, hoj, e, he, hb, hon⟩ := Region.waitsFor_spec h1
        have : oj = ot := Option.some.inj (hoj.symm.trans hot)
        subst this
        have h2 := hall e he hb
        rw [hon, getD_both hun] at h2
        cases h2
      · obtain ⟨j, hj, hj2⟩ := List.any_eq_true.1 h1
        simp only [Bool.and_eq_true, decide_eq_true_eq] at hj2
        obtain ⟨oj, hoj, e, he, hb, hon⟩ := Region.waitsFor_spec hj2.2
        have hjlt := List.mem_range.1 hj
        cases hl : listed.getD j false with
        | true =>
          have h2 := inv.closed j oj hoj hl e he hb
          rw [hon, getD_both hun] at h2
          cases h2
        | false =>
          have hjs : j < listed.size := by rw [inv.size]; omega
          exact ih (t - j) (by omega) j rfl (by omega) (getD_in hjs hl) t (Nat.le_refl _) hr
    · have h1 := List.all_eq_true.1 hc t (List.mem_range.2 htlt)
      simp only [Bool.or_eq_true, decide_eq_true_eq] at h1
      rcases h1 with h1 | h1
      · omega
      · obtain ⟨i', hi', h1⟩ := List.any_eq_true.1 h1
        simp only [Bool.and_eq_true, decide_eq_true_eq] at h1
        obtain ⟨o', ho', e, he, hb, hon⟩ := Region.waitsFor_spec h1.2
        have : o' = ot := Option.some.inj (ho'.symm.trans hot)
        subst this
        have h2 := hall e he hb
        have := List.mem_range.1 hi'
        rw [hon, getD_both (inv.tail i' h1.1 (by omega))] at h2
        cases h2
theorem AWp.drT {id : Nat} {n : Nat} (nds : List (List (Nat × Option Nat))) (new : List (Nat × Nat)) (old : List Nat) (vals : List AV) (hm : P.follows .mixedOrders = true) (hB : drawnT ops n s.n nds = true)
    (hk : (drB ops n s.n s.fr new old && noAl ops n none) = true) (hl : vals.length = n) (hp : PSpec P ops s nds vals)
    (k : AAny P ops (ops.size - n) (listed0 n ops.size) (R .normal) { s with fr := (new.map fun p => (p.1, vals.getD p.2 .any)) ++ keepFr s.fr old }) : AWp P (.region id ops true) s R := by
  subst hl
  rw [Bool.and_eq_true] at hk
  have hB' := hB
  simp only [drawnT, Bool.and_eq_true, decide_eq_true_eq] at hB'
  refine AWp.drawnA vals.length nds vals none _ hm (Nat.le_of_lt hB'.1.1.1) hB'.2 (fun listed inv hex j h hj => ?_) (fun i o h => by cases h) (fun i o h1 h2 _ => hp i o h1 h2 ?_) (fun i o ob h => by cases h) (drFr hk.1) (by simpa [oball] using k)
  · obtain ⟨i, hin, hil⟩ := hex
    exact drawnT.tail hB inv _ i rfl hin hil j h hj
  have := List.all_eq_true.1 hk.2 i (List.mem_range.2 h1)
  simp only [h2, Bool.or_eq_true, decide_eq_true_eq, Bool.not_eq_true'] at this
  rcases this with h | h
  · cases h
  · exact h
theorem Dr.finTN {id : Nat} {n : Nat} (f : Nat) (new : List (Nat × Nat)) (old : List Nat) (hG : ∀ vals, PSpec P ops s nds vals → AWp P (.region id ops true) s R → G) (hm : P.follows .mixedOrders = true)
    (k : ∀ K : AS → Prop, (∀ s', R .normal s' → K s') → AAny P ops f (listed0 n (n + f)) K { s with fr := (new.map fun p => (p.1, vals.getD p.2 .any)) ++ keepFr s.fr old })
    (hl : vals.length = n := by rfl) (hf : ops.size = n + f := by kernel_rfl) (hB : drawnT ops n s.n nds = true := by kernel_rfl) (hk : (drB ops n s.n s.fr new old && noAl ops n none) = true := by kernel_rfl) : Dr P ops s nds vals G := by
  intro hp
  refine hG vals hp (AWp.drT nds new old vals hm hB hk hl hp ?_)
  rw [hf, Nat.add_sub_cancel_left]
  exact k _ fun _ h => h
theorem AWp.drZ {id : Nat} (old : List Nat) (hm : P.follows .mixedOrders = true) (hk : (old.all fun t => decide (t < s.n)) = true)
    (k : AAny P ops ops.size (listed0 0 ops.size) (R .normal) { s with fr := keepFr s.fr old }) : AWp P (.region id ops true) s R := by
  refine AWp.drawnA 0 [] [] none (keepFr s.fr old) hm (Nat.zero_le _) rfl (fun listed inv hex j h hj => ?_) (fun i o h => by cases h) (fun i o h => by omega) (fun i o ob h => by cases h) (fun t x hx => ?_) (by simpa [oball] using k)
  · obtain ⟨i, hi, _⟩ := hex; omega
  · have hB : drB ops 0 s.n s.fr [] old = true := by
      simp only [drB, List.all_nil, Bool.true_and, List.all_eq_true, Bool.and_eq_true, List.range_zero, decide_eq_true_eq]
      intro t ht
      exact ⟨by simpa using List.all_eq_true.1 hk t ht, trivial⟩
    exact drFr (n := 0) (new := []) (vals := []) hB t x (by simpa using hx)
theorem Dr.finZM {id : Nat} {y : Code} (f : Nat) (old : List Nat) (hG : ∀ vals, PSpec P ops s nds vals → AWp P (.region id ops true) s (thenQ (fun s' => AWp P y s' R) R) → G) (hm : P.follows .mixedOrders = true)
    (k : ∀ K : AS → Prop, (∀ s', AWp P y s' R → K s') → AAny P ops f (listed0 0 f) K { s with fr := keepFr s.fr old })
    (hf : ops.size = f := by kernel_rfl) (hk : (old.all fun t => decide (t < s.n)) = true := by kernel_rfl) : Dr P ops s nds vals G := by
  intro hp
  refine hG vals hp (AWp.drZ old hm hk ?_)
  rw [hf]
  exact k _ fun _ h => h
theorem AAny.weak {fuel : Nat} {listed : Array Bool} (h : Le s s') (k : AAny P ops fuel listed Q s') : AAny P ops fuel listed Q s := by
  intro E hE ρ B a w hs Q' hQ
  obtain ⟨ρ', B', hs'⟩ := h E ρ B a w hs
  exact k E hE ρ' B' a w hs' Q' hQ
def EdL (P : Program) (ops : Array Oper) (f : Nat) (L : Array Bool) (Q : AS → Prop) (x : AS) : List Nat → Prop
  | [] => True
  | j :: r => (∃ y L', L.setIfInBounds j true = L' ∧ ARun P ops (ops[j]?).toList x (fun s' => Le s' y) ∧ AAny P ops f L' Q y) ∧ EdL P ops f L Q x r
theorem EdL.get {f : Nat} {L : Array Bool} {x : AS} : ∀ {l : List Nat}, EdL P ops f L Q x l → ∀ j ∈ l, ∃ y L', L.setIfInBounds j true = L' ∧ ARun P ops (ops[j]?).toList x (fun s' => Le s' y) ∧ AAny P ops f L' Q y
  | [], _, j, h => by cases h
  | i :: r, h, j, hj => by
    rcases List.mem_cons.1 hj with rfl | hj
    · exact h.1
    · exact EdL.get h.2 j hj
theorem AAny.ofL {f : Nat} {L : Array Bool} {x : AS} (l : List Nat) (h : Region.ready .any ops L = l) (hne : l ≠ []) (k : EdL P ops f L Q x l) : AAny P ops (f + 1) L Q x := by
  refine AAny.step h hne fun j hj => ?_
  obtain ⟨y, L', rfl, e, a⟩ := k.get j hj
  obtain ⟨_, o, ho, _⟩ := mem_ready.1 (h.symm ▸ hj)
  rw [ho] at e
  exact ⟨o, ho, e.mono fun s' hle => AAny.weak hle a⟩
section node
variable {f0 : Nat} {L0 : Array Bool} {Q0 : AS → Prop} {x0 x1 s0 s1 xr : AS}
theorem ANode.new {S : AS} (j : Nat) (h0 : x0 = s0) (e : ARun P ops (ops[j]?).toList s0 (fun s' => Le s' S)) (k : ∀ x, x = S → ARun P ops (ops[j]?).toList x0 (fun s' => Le s' x) → AAny P ops f0 L0 Q0 xr) : AAny P ops f0 L0 Q0 xr := k S rfl (h0 ▸ e)
theorem ANode.fin (L : Array Bool) (h0 : x0 = s0) (q : Q0 s0) (k : AAny P ops 0 L Q0 x0 → AAny P ops f0 L0 Q0 xr) (h : Region.ready .any ops L = [] := by kernel_rfl) : AAny P ops f0 L0 Q0 xr := k (h0 ▸ AAny.zero h q)
theorem ANode.up {f : Nat} {x : AS} (L : Array Bool) (l : List Nat) (hne : l ≠ []) (e : EdL P ops f L Q0 x l) (k : AAny P ops (f + 1) L Q0 x → AAny P ops f0 L0 Q0 xr) (h : Region.ready .any ops L = l := by kernel_rfl) : AAny P ops f0 L0 Q0 xr := k (AAny.ofL l h hne e)
end node
theorem ASpec.own {T e : TypeId} {sz : Nat} (hg : gd ops s o = some true) (ho : o.op = .buildSlice T 0 #[]) (hz : elSz P T = some sz) (he : elT P T = some e) : ASpec P ops o s (.own s.ob.length) (.row e sz []) := by
  intro E ρ B a w hs K Q' hK
  rw [if_pos (gd_wanted hg hs)]
  obtain ⟨e', vs, hu, hr, hrel, h1, hvl⟩ := run_buildSlice (s := s) hz (parts := #[]) (len := 0) rfl (fun p hp => by simp at hp) (by simp) hs
  have hee : e' = e := by
    have := elT_spec he
    rw [hu] at this
    simpa using this
  subst hee
  have hsame := same_alloc w (.cells (List.toArray vs) e')
  have hBw : ∀ b, B b → (w.alloc (.cells (List.toArray vs) e')).heap[b]? = w.heap[b]? := fun b hb => hsame.block b (hs.rw_.blt b hb)
  have hn : RS E { s with ob := s.ob ++ [.row e' sz []] } (ρ ++ [.slice (some ⟨w.heap.size, 0, none⟩) 0 0]) B a (w.alloc (.cells (List.toArray vs) e')) := by
    refine hs.new hsame ⟨?_, .inr ⟨w.heap.size, 0, vs, [], (0, 0), ?_, ?_, ?_, ?_, .inl (Nat.le_refl _), ?_⟩⟩ ?_
    · intro x hx'; simp at hx'
    · rw [← hs.rw_.len, List.getElem?_append_right (Nat.le_refl _), Nat.sub_self]; rfl
    · rw [List.append_nil]; exact alloc_get _ _
    · rw [List.append_nil]; exact hvl
    · exact Nat.le_refl _
    · exact hrel.mono (fun _ h => h) hBw (Nat.le_refl _) (fun _ _ h => get_append_some h)
    · intro b hb
      simp only [blk, Option.some.injEq] at hb
      subst hb
      exact ⟨Nat.le_refl _, by simp⟩
  have hrun : (execOp a.eval o).run P w = .ok (.value (.slice (some ⟨w.heap.size, 0, none⟩) 0 0)) (w.alloc (.cells (List.toArray vs) e')) := by
    simp only [execOp, ho]; exact val_run hr
  refine owp_value hrun (hK _ _ _ hn.rj hBw (.own ?_ rfl))
  rw [← hs.rw_.len, List.getElem?_append_right (Nat.le_refl _), Nat.sub_self]; rfl
end
set_option linter.unusedSectionVars false
section
variable {P : Program} {ops : Array Oper} {E : Env} {s s' : AS} {ρ : List Value} {B : Nat → Prop} {a : Act} {w w' : World} {o : Oper} {rest : List Oper} {Q : AS → Prop} {R : Exit → AS → Prop} {nds : List (List (Nat × Option Nat))} {vals : List AV} {G : Prop}
theorem NSpec.boolEq {op : BinOp} {T X : TypeId} {x y : Operand} {b c : Bool} (hgd : gd ops s o = some true) (ho : o.op = .binOp op T x y X) (hop : op = .eql ∨ op = .neq) (hT : isBl P T = true) (hx : s.ev x = .val (.bool b)) (hy : s.ev y = .val (.bool c)) :
    NSpec P ops o s (.val (.bool (if op = .eql then b == c else b != c))) := by
  refine NSpec.pure1 hgd fun E ρ B a w ob hs => ⟨.bool (if op = .eql then b == c else b != c), ?_, .val _⟩
  have hev : AS.ev { s with ob := s.ob ++ ob } = s.ev := funext fun y => by cases y <;> rfl
  have hu := isBl_spec hT
  have e1 : a.eval x = .bool b := by have h := hs.ev x; rw [hev, hx] at h; exact h.val_eq
  have e2 : a.eval y = .bool c := by have h := hs.ev y; rw [hev, hy] at h; exact h.val_eq
  have he : (Op.equal T (.bool b) (.bool c)).run P w = .ok (b == c) w := equal_run fun d => by simp [Op.equalIn, run_underlying hu]
  have hg : (eqGuard op T x y (.bool b) (.bool c)).run P w = .ok () w := by rcases hop with rfl | rfl <;> simp [eqGuard]
  simp only [execOp, ho, e1, e2]
  rcases hop with rfl | rfl
  · simp [binOp, hg, he]
  · simp [binOp, hg, he, bne]
theorem Dr.boolEqM {op : BinOp} {T X : TypeId} {x y : Operand} {b c : Bool} (k : Dr P ops s nds (vals ++ [.val (.bool (if op = .eql then b == c else b != c))]) G) (hn : ndsB nds = true := by first | rfl | decide) (hol : ops[vals.length]? = some o := by exact Go.Abs.evT)
    (ho : o.op = .binOp op T x y X := by rfl) (hg : gd ops { s with fr := needFr s.fr vals (nds.getD vals.length []) } o = some true := by exact Go.Abs.evT) (hop : op = .eql ∨ op = .neq := by first | exact .inl rfl | exact .inr rfl) (hT : isBl P T = true := by kernel_rfl)
    (hx : AS.ev { s with fr := needFr s.fr vals (nds.getD vals.length []) } x = .val (.bool b) := by exact Go.Abs.evT) (hy : AS.ev { s with fr := needFr s.fr vals (nds.getD vals.length []) } y = .val (.bool c) := by exact Go.Abs.evT) : Dr P ops s nds vals G :=
  Dr.step hn hol (NSpec.boolEq hg ho hop hT hx hy) k
end
set_option linter.unusedSectionVars false
set_option linter.unnecessarySimpa false
theorem Chg.rfl' (D B : Nat → Prop) (w : World) : Chg D B w D B w :=
  ⟨rfl, rfl, rfl, Nat.le_refl _, fun _ _ _ => rfl, fun _ h => .inl h, fun _ h => h, fun _ h => .inl h⟩
theorem Chg.trans' {D B D1 B1 D2 B2 : Nat → Prop} {w w1 w2 : World} (h : Chg D B w D1 B1 w1) (k : Chg D1 B1 w1 D2 B2 w2) : Chg D B w D2 B2 w2 := by
  refine ⟨k.os.trans h.os, k.tape.trans h.tape, k.output.trans h.output, Nat.le_trans h.size k.size, fun b hb hd => ?_, fun b hb => ?_, fun b hb => k.bsub b (h.bsub b hb), fun b hb => ?_⟩
  · refine (k.block b (Nat.lt_of_lt_of_le hb h.size) fun hd1 => ?_).trans (h.block b hb hd)
    rcases h.dsub b hd1 with h' | h'
    · exact hd h'
    · omega
  · rcases k.dsub b hb with h' | h'
    · exact h.dsub b h'
    · exact .inr (Nat.le_trans h.size h')
  · rcases k.bnew b hb with h' | h' | h'
    · exact h.bnew b h'
    · exact .inr (h.dsub b h')
    · exact .inr (.inr (Nat.le_trans h.size h'))
def Env.spy (E : Env) (D0 B0 : Nat → Prop) (w : World) : Env := { E with J := fun tr go D B w' => E.J tr go D B w' ∧ Chg D0 B0 w D B w' }
section
variable {P : Program} {ops : Array Oper} {E : Env} {s s' : AS} {ρ ρ' : List Value} {B B' : Nat → Prop} {a a' : Act} {w w' : World} {o : Oper} {rest : List Oper} {Q : AS → Prop} {R : Exit → AS → Prop} {nds : List (List (Nat × Option Nat))} {vals : List AV} {G : Prop}
theorem RW.spied {D0 B0 : Nat → Prop} {w0 : World} {ob : List Ob} (h : RW E ob ρ B w) : RW (E.spy D0 B0 w0) ob ρ B w :=
  ⟨h.ep, h.os, h.tape, h.output, h.size, h.block, h.pre, h.bsub, h.bnew, h.blt, h.len, h.obs, h.dis, h.prv⟩
theorem RW.unspied {D0 B0 : Nat → Prop} {w0 : World} {ob : List Ob} (h : RW (E.spy D0 B0 w0) ob ρ B w) : RW E ob ρ B w :=
  ⟨h.ep, h.os, h.tape, h.output, h.size, h.block, h.pre, h.bsub, h.bnew, h.blt, h.len, h.obs, h.dis, h.prv⟩
theorem RS.spied (h : RS E s ρ B a w) : RS (E.spy (fun b => Dof s.ob ρ b ∨ b ∈ s.df) B w) s ρ B a w := by
  refine ⟨h.rw_.spied, h.m, h.n, h.df, ⟨⟨h.jj.j, Chg.rfl' _ _ _⟩, ?_, h.jj.nodup, h.jj.mks⟩, h.rf⟩
  intro tr go D B w D' B' w' hj hc hb
  exact ⟨h.jj.stab tr go D B w D' B' w' hj.1 hc hb, hj.2.trans' hc⟩
theorem RS.unspied {D0 B0 : Nat → Prop} {w0 : World} (hst : E.Stab) (h : RS (E.spy D0 B0 w0) s ρ B a w) : RS E s ρ B a w ∧ Chg D0 B0 w0 (fun b => Dof s.ob ρ b ∨ b ∈ s.df) B w :=
  ⟨⟨h.rw_.unspied, h.m, h.n, h.df, ⟨h.jj.j.1, hst, h.jj.nodup, h.jj.mks⟩, h.rf⟩, h.jj.j.2⟩
def CSpec (P : Program) (ops : Array Oper) (o : Oper) (s : AS) (X X' : List Ob) (x : AV) : Prop :=
  ∀ (E : Env), E.Ok P → ∀ (ρ : List Value) (B : Nat → Prop) (a : Act) (w : World), RS E { s with ob := s.ob ++ X } ρ B a w → ∀ (K : Act → World → Prop) (Q' : Exit → Act → World → Prop),
    (∀ v w' ρ' B', RJ E s (s.ob ++ X') ρ' B' w' → (∀ b, B b → B' b) → (∀ b, B b → w'.heap[b]? = w.heap[b]?) → (∀ (j : Nat) (u : Value), j < s.ob.length → ρ[j]? = some u → ρ'[j]? = some u) → Rel w' B' E.bs ρ' x v → K (a.put o.dst v) w') →
    if Region.wanted o (yielded ops a.tmps) then owp E.rnd P o a w K Q' else K (a.put o.dst undef) w
theorem CSpec.own {T e : TypeId} {sz : Nat} (hg : gd ops s o = some true) (ho : o.op = .buildSlice T 0 #[]) (hz : elSz P T = some sz) (he : elT P T = some e) : CSpec P ops o s [] [.row e sz []] (.own s.ob.length) := by
  intro E hE ρ B a w hs K Q' hK
  have hs' : RS E s ρ B a w := by simpa using hs
  refine ASpec.own hg ho hz he E ρ B a w hs' K Q' fun v w' u h1 h2 h3 => ?_
  exact hK v w' _ B h1 (fun _ h => h) h2 (fun j u _ h => get_append_some h) h3
theorem inval_ids {k : Nat} {x : AV} (h : x.idsOk (fun j => decide (j < k)) = true) : AV.inval k x = x := by
  unfold AV.inval
  rw [if_pos (idsOk_mono (fun j hj => by simp only [decide_eq_true_eq] at hj; simp only [bne_iff_ne, ne_eq]; omega) _ h)]
theorem ob_inval_ids {k : Nat} {o : Ob} (h : obIds (fun j => decide (j < k)) o = true) : Ob.inval k o = o := by
  cases o with
  | box T cs =>
    simp only [Ob.inval, Ob.box.injEq, true_and]
    simp only [obIds] at h
    refine (List.map_congr_left (g := id) fun x hx => inval_ids ?_).trans (List.map_id _)
    exact (AV.idsOkL_iff _ _).1 h x hx
  | row T sz xs =>
    simp only [obIds] at h
    simp only [Ob.inval]
    rw [if_pos (idsOkL_mono (fun j hj => by simp only [decide_eq_true_eq] at hj; simp only [bne_iff_ne, ne_eq]; omega) _ h)]
  | mp es => rfl
  | gone => rfl
theorem CSpec.append {T T2 : TypeId} {x y : Operand} {sz : Nat} {e : TypeId} {xs ys : List AV} (hg : gd ops s o = some true) (ho : o.op = .call { callee := .builtin .append, args := #[x, y], argTypes := #[T, T2] }) (hx : s.ev x = .own s.ob.length)
    (hz : elSz P T = some sz) (hT : elT P T = some e) (h2 : isSlc P T2 = true ∨ isStr P T2 = true) (hsrc : srcOf s sz (s.ev y) = some ys) (hb : 2 * (xs.length + ys.length) * elB P T ≤ 2 ^ 48) (hsm : xs.length + ys.length ≤ 2 ^ 60)
    (hid : AV.idsOkL (· != s.ob.length) xs = true) (hid2 : AV.idsOkL (· != s.ob.length) ys = true) (hob : s.ob.all (obIds (fun j => decide (j < s.ob.length))) = true) : CSpec P ops o s [.row e sz xs] [.row e sz (xs ++ ys)] (.own s.ob.length) := by
  intro E hE ρ B a w hs K Q' hK
  rw [if_pos (gd_wanted (s := { s with ob := s.ob ++ [.row e sz xs] }) hg hs)]
  have hs1 := hs.spied
  have hev : AS.ev { s with ob := s.ob ++ [.row e sz xs] } = s.ev := funext fun y => by cases y <;> rfl
  have hxr := hs.ev x
  rw [hev, hx] at hxr
  have hyr := hs1.ev y
  rw [hev] at hyr
  generalize hu : a.eval x = u at hxr
  cases hxr with
  | own hp h1c =>
    have hk : (s.ob ++ [Ob.row e sz xs])[s.ob.length]? = some (.row e sz xs) := by simp
    obtain ⟨v', w', h1, h3, h4⟩ := append_core (P := P) (ty := o.type) (T := T) (T2 := T2) (k := s.ob.length) hs1 hz (elT_spec hT) h2 hk hp (srcOf_new hsrc) hyr hb hsm hid hid2
    obtain ⟨h3', hc⟩ := h3.unspied hs.jj.stab
    have hmap : s.ob.map (Ob.inval s.ob.length) = s.ob := by
      refine (List.map_congr_left (g := id) fun q hq => ob_inval_ids ?_).trans (List.map_id _)
      exact List.all_eq_true.1 hob q hq
    have hrow : Ob.inval s.ob.length (.row e sz xs) = .row e sz xs := by simp only [Ob.inval]; rw [if_pos hid]
    have e1 : ((s.ob ++ [Ob.row e sz xs]).map (Ob.inval s.ob.length)).set s.ob.length (.row e sz (xs ++ ys)) = s.ob ++ [.row e sz (xs ++ ys)] := by
      rw [List.map_append, hmap, List.map_cons, List.map_nil, hrow, List.set_append_right _ _ (Nat.le_refl _), Nat.sub_self, List.set_cons_zero]
    have hj : RJ E s (s.ob ++ [.row e sz (xs ++ ys)]) (ρ.set s.ob.length v') B w' := by
      have := h3'.rj
      rw [← e1]; exact this
    have hrun : (execOp a.eval o).run P w = .ok (.value v') w' := by simp [execOp, ho, resolve, invoke, builtin, hu, h1]
    have hkρ := get_lt hp
    refine owp_value hrun (hK v' w' _ B hj (fun _ h => h) (fun b hb => hc.block b (hs.rw_.blt b hb) fun hd => ?_) (fun j u hj' hu' => ?_) (.own ?_ h4))
    · rcases hd with ⟨k, o2, v2, a1, a2, a3, a4⟩ | hd
      · exact (hs.rw_.prv k o2 v2 b a1 a2 a3 a4).1 hb
      · exact (hs.jj.mks b hd).2.2.1 hb
    · rw [List.getElem?_set_ne (by omega)]; exact hu'
    · rw [List.getElem?_set_self hkρ]
theorem CSpec.pub {e : TypeId} {sz : Nat} {X : List Ob} {zs : List AV} (h : CSpec P ops o s X [.row e sz zs] (.own s.ob.length)) (hm : s.m ≤ s.ob.length) : CSpec P ops o s X [.gone] (.sl true sz zs) := by
  intro E hE ρ B a w hs K Q' hK
  refine h E hE ρ B a w hs K Q' fun v w' ρ' B' h1 h2 h3 h4 h5 => ?_
  have hk : (s.ob ++ [Ob.row e sz zs])[s.ob.length]? = some (.row e sz zs) := by simp
  obtain ⟨B'', u, p1, p2, p3, p4, p5⟩ := h1.1.publish hk (Nat.le_trans hs.m.1 hm)
  have e1 : (s.ob ++ [Ob.row e sz zs]).set s.ob.length .gone = s.ob ++ [.gone] := by
    rw [List.set_append_right _ _ (Nat.le_refl _), Nat.sub_self, List.set_cons_zero]
  rw [e1] at p3
  have hv : v = u := by
    cases h5 with
    | own hp _ => exact Option.some.inj (hp.symm.trans p2)
  subst hv
  exact hK v w' ρ' B'' ⟨p3, h1.2.chg ⟨rfl, rfl, rfl, Nat.le_refl _, fun _ _ _ => rfl, fun b hd => .inl (Dof.set hk rfl b (e1 ▸ hd)), p1, fun b hb => (p5 b hb).elim .inl fun h => .inr (.inl h)⟩ p3.bd⟩ (fun b hb => p1 b (h2 b hb)) h3 h4 p4
def CL (P : Program) (ops : Array Oper) (s : AS) (nds1 : List (List (Nat × Option Nat))) (vals : List AV) : List Nat → List Ob → List Ob → Prop
  | [], X, XL => X = XL
  | i :: r, X, XL => ∃ X', (∀ o, ops[i]? = some o → CSpec P ops o { s with fr := needFr s.fr vals (nds1.getD i []) } X X' (vals.getD i .any)) ∧ CL P ops s nds1 vals r X' XL
theorem CL.obs {nds1 : List (List (Nat × Option Nat))} : ∀ {ci : List Nat} {X XL : List Ob}, CL P ops s nds1 vals ci X XL → ∃ obs : Nat → List Ob, obs 0 = X ∧ obs ci.length = XL ∧
    ∀ l o, l < ci.length → ops[ci.getD l 0]? = some o → CSpec P ops o { s with fr := needFr s.fr vals (nds1.getD (ci.getD l 0) []) } (obs l) (obs (l + 1)) (vals.getD (ci.getD l 0) .any)
  | [], X, XL, h => ⟨fun _ => X, rfl, h, fun l o hl => by simp at hl⟩
  | i :: r, X, XL, ⟨X', h1, h2⟩ => by
    obtain ⟨obs, a1, a2, a3⟩ := CL.obs h2
    refine ⟨fun l => match l with | 0 => X | l + 1 => obs l, rfl, a2, fun l o hl ho => ?_⟩
    cases l with
    | zero =>
      have := h1 o (by simpa using ho)
      simp only [List.getD_cons_zero]
      rw [a1]; exact this
    | succ l =>
      simp only [List.getD_cons_succ] at ho ⊢
      exact a3 l o (by simpa using hl) ho
section cl
variable {nds1 : List (List (Nat × Option Nat))} {X XL : List Ob} {i : Nat} {r : List Nat}
theorem CL.nil : CL P ops s nds1 vals [] X X := rfl
theorem CL.own {T e : TypeId} {sz : Nat} (k : CL P ops s nds1 vals r [.row e sz []] XL) (hol : ops[i]? = some o := by exact Go.Abs.evT) (ho : o.op = .buildSlice T 0 #[] := by rfl) (hg : gd ops { s with fr := needFr s.fr vals (nds1.getD i []) } o = some true := by exact Go.Abs.evT)
    (hz : elSz P T = some sz := by exact Go.Abs.evT) (he : elT P T = some e := by exact Go.Abs.evT) (hv : vals.getD i .any = .own s.ob.length := by rfl) : CL P ops s nds1 vals (i :: r) [] XL :=
  ⟨_, fun o' ho' => by
    have : o' = o := Option.some.inj (ho'.symm.trans hol)
    subst this
    rw [hv]
    exact CSpec.own hg ho hz he, k⟩
end cl
def tailB (ops : Array Oper) (n : Nat) : Bool := decide (n ≤ ops.size) && (decide (n = ops.size) || (((List.range n).all fun i => Region.waitsFor .any ops n i || (List.range n).any fun j => decide (i < j) && Region.waitsFor .any ops j i) &&
  ((List.range ops.size).all fun j => decide (j ≤ n) || (List.range j).any fun i => decide (n ≤ i) && Region.waitsFor .any ops j i)))
theorem tailB.tail {n : Nat} (h : tailB ops n = true) {listed : Array Bool} (inv : HeadInv .any ops n listed) (hex : ∃ i, i < n ∧ listed.getD i true = false) : ∀ t, n ≤ t → t ∉ Region.ready .any ops listed := by
  simp only [tailB, Bool.and_eq_true, decide_eq_true_eq, Bool.or_eq_true] at h
  obtain ⟨hn, h⟩ := h
  rcases h with h | ⟨hs, hc⟩
  · intro t ht hr
    obtain ⟨_, ot, hot, _⟩ := mem_ready.1 hr
    have := (Array.getElem?_eq_some_iff.1 hot).1
    omega
  · have key : ∀ (d i : Nat), n - i = d → i < n → listed.getD i true = false → ∀ t, n ≤ t → t ∉ Region.ready .any ops listed := by
      intro d
      induction d using Nat.strongRecOn with
      | _ d ih =>
        intro i hd hi hun t ht hr
        obtain ⟨_, ot, hot, hall⟩ := mem_ready.1 hr
        have htlt : t < ops.size := (Array.getElem?_eq_some_iff.1 hot).1
        by_cases htn : t = n
        · subst htn
          have h1 := List.all_eq_true.1 hs i (List.mem_range.2 hi)
          simp only [Bool.or_eq_true] at h1
          rcases h1 with h1 | h1
          · obtain ⟨oj, hoj, e, he, hb, hon⟩ := Region.waitsFor_spec h1
            have : oj = ot := Option.some.inj (hoj.symm.trans hot)
            subst this
            have h2 := hall e he hb
            rw [hon, getD_both hun] at h2
            cases h2
          · obtain ⟨j, hj, hj2⟩ := List.any_eq_true.1 h1
            simp only [Bool.and_eq_true, decide_eq_true_eq] at hj2
            obtain ⟨oj, hoj, e, he, hb, hon⟩ := Region.waitsFor_spec hj2.2
            have hjlt := List.mem_range.1 hj
            cases hl : listed.getD j false with
            | true =>
              have h2 := inv.closed j oj hoj hl e he hb
              rw [hon, getD_both hun] at h2
              cases h2
            | false =>
              have hjs : j < listed.size := by rw [inv.size]; omega
              exact ih (t - j) (by omega) j rfl (by omega) (getD_in hjs hl) t (Nat.le_refl _) hr
        · have h1 := List.all_eq_true.1 hc t (List.mem_range.2 htlt)
          simp only [Bool.or_eq_true, decide_eq_true_eq] at h1
          rcases h1 with h1 | h1
          · omega
          · obtain ⟨i', hi', h1⟩ := List.any_eq_true.1 h1
            simp only [Bool.and_eq_true, decide_eq_true_eq] at h1
            obtain ⟨o', ho', e, he, hb, hon⟩ := Region.waitsFor_spec h1.2
            have : o' = ot := Option.some.inj (ho'.symm.trans hot)
            subst this
            have h2 := hall e he hb
            have := List.mem_range.1 hi'
            rw [hon, getD_both (inv.tail i' h1.1 (by omega))] at h2
            cases h2
    obtain ⟨i, hin, hil⟩ := hex
    exact key _ i rfl hin hil
def ciB : List Nat → Nat → Bool
  | [], _ => false
  | j :: r, i => (j == i) || ciB r i
def valIds (p : Nat → Bool) (ci : List Nat) : Nat → List AV → Bool
  | _, [] => true
  | i, x :: r => (ciB ci i || x.idsOk p) && valIds p ci (i + 1) r
attribute [push_cast] ciB valIds Bool.true_or Bool.false_or
end
set_option linter.unusedSectionVars false
section
variable {P : Program} {ops : Array Oper} {E : Env} {s s' : AS} {o : Oper} {rest : List Oper} {Q : AS → Prop} {R : Exit → AS → Prop}
theorem Le.subBox (k : Nat) {T : TypeId} {cs cs' : List AV} (hk : s.ob[k]? = some (.box T cs)) (h : HandL [] cs cs') (ho : cs'.all AV.oc = true) : Le s { s with ob := s.ob.set k (.box T cs') } := by
  intro E ρ B a w hs
  have r := hs.rw_
  obtain ⟨b, vs, fz, r1, r2, r3, r4, r5⟩ := r.obs k _ hk
  have h' : SubXL [] cs cs' := h
  have hro : RO w B E.bs ρ k (.box T cs') := ⟨b, vs, fz, r1, r2, r3, h'.rel (Nat.le_refl _) (by intro i k hik; simp at hik) r4, fun c hc => List.all_eq_true.1 ho c hc⟩
  have get : ∀ {i' : Nat} {o1 : Ob}, (s.ob.set k (.box T cs'))[i']? = some o1 → ∃ o2, s.ob[i']? = some o2 ∧ (o1.live = true → o2.live = true) := by
    intro i' o1 h1
    by_cases hik : k = i'
    · subst hik; exact ⟨_, hk, fun _ => rfl⟩
    · rw [List.getElem?_set_ne hik] at h1; exact ⟨o1, h1, fun h => h⟩
  have hrw : RW E (s.ob.set k (.box T cs')) ρ B w := by
    refine { ep := r.ep, os := r.os, tape := r.tape, output := r.output, size := r.size, block := r.block, pre := r.pre, bsub := r.bsub, bnew := r.bnew, blt := r.blt, len := by simpa using r.len, obs := ?_, dis := ?_, prv := ?_ }
    · intro j o hj
      by_cases hjk : k = j
      · subst hjk
        rw [List.getElem?_set_self (get_lt hk)] at hj
        have := Option.some.inj hj
        subst this
        exact hro
      · rw [List.getElem?_set_ne hjk] at hj; exact r.obs j o hj
    · intro i' j o o' u v b hij h1 l1 h2 l2
      obtain ⟨x1, y1, z1⟩ := get h1
      obtain ⟨x2, y2, z2⟩ := get h2
      exact r.dis i' j x1 x2 u v b hij y1 (z1 l1) y2 (z2 l2)
    · intro j o v b h1 l1
      obtain ⟨x1, y1, z1⟩ := get h1
      exact r.prv j x1 v b y1 (z1 l1)
  refine ⟨ρ, B, hrw, hs.m, hs.n, hs.df, ?_, hs.rf⟩
  exact hs.jj.chg ⟨rfl, rfl, rfl, Nat.le_refl _, fun _ _ _ => rfl, fun b hd => .inl (Dof.set hk rfl b hd), fun _ h => h, fun _ h => .inl h⟩ hrw.bd
theorem AWp.subBox {c : Code} (k : Nat) (cs' : List AV) {T : TypeId} {cs : List AV} {ob' : List Ob} (h : HandL [] cs cs') (K : AWp P c { s with ob := ob' } R) (hk : s.ob[k]? = some (.box T cs) := by rfl) (ho : cs'.all AV.oc = true := by exact Go.Abs.evT) (he : s.ob.set k (.box T cs') = ob' := by rfl) : AWp P c s R :=
  AWp.weak (Le.subBox k hk h ho) (he ▸ K)
end
set_option linter.unusedSectionVars false
section
variable {P : Program} {ops : Array Oper} {E : Env} {s s' : AS} {o : Oper} {rest : List Oper} {Q : AS → Prop} {R : Exit → AS → Prop} {nds : List (List (Nat × Option Nat))} {vals : List AV} {G : Prop}
theorem Dr.slice {T : TypeId} {x lo hi : Operand} {nw : Bool} {sz : Nat} {xs : List AV} {kk k' : IntKind} (m n : Nat) (hmn : m ≤ n) (hnl : n ≤ xs.length) (k : Dr P ops s nds (vals ++ [.sl nw sz ((xs.take n).drop m)]) G) (hn : ndsB nds = true := by first | rfl | decide) (hol : ops[vals.length]? = some o := by exact Go.Abs.evT)
    (ho : o.op = .slice T x (some lo) (some hi) none := by rfl) (hg : gd ops { s with fr := needFr s.fr vals (nds.getD vals.length []) } o = some true := by exact Go.Abs.evT) (hx : AS.ev { s with fr := needFr s.fr vals (nds.getD vals.length []) } x = .sl nw sz xs := by exact Go.Abs.evT)
    (hl : AS.ev { s with fr := needFr s.fr vals (nds.getD vals.length []) } lo = .val (.int kk (N m)) := by exact Go.Abs.evT) (hh : AS.ev { s with fr := needFr s.fr vals (nds.getD vals.length []) } hi = .val (.int k' (N n)) := by exact Go.Abs.evT) (hz : elSz P T = some sz := by exact Go.Abs.evT) : Dr P ops s nds vals G := by
  refine Dr.step hn hol (NSpec.cast ?_ (NSpec.slice (l := N m) (h := N n) hg ho hx (by rw [Option.map_some, hl]; rfl) (fun h => by cases h) (by rw [Option.map_some, hh]; rfl) (fun h => by cases h) hz (Int.natCast_nonneg m) (Int.ofNat_le.2 hmn) (Int.ofNat_le.2 hnl))) k
  rw [N_toNat, N_toNat]
def arSz (P : Program) (T : TypeId) : Option (Nat × Nat) :=
  match P.underlying T with
  | some (.array n e) => (P.info? e).map fun i => (n, i.size)
  | _ => none
theorem arSz_spec {T : TypeId} {n sz : Nat} (h : arSz P T = some (n, sz)) : ∃ e i, P.underlying T = some (.array n e) ∧ P.info? e = some i ∧ i.size = sz := by
  unfold arSz at h
  split at h <;> (try (simp at h; done))
  rename_i m e hu
  cases hi : P.info? e with
  | none => simp [hi] at h
  | some i =>
    simp only [hi, Option.map_some, Option.some.injEq, Prod.mk.injEq] at h
    obtain ⟨rfl, rfl⟩ := h
    exact ⟨e, i, hu, hi, rfl⟩
theorem AOp.pureE {x : AV} (h : ∀ (E : Env), E.Ok P → ∀ (ρ : List Value) (B : Nat → Prop) (a : Act) (w : World), RS E s ρ B a w → ∃ v, (execOp a.eval o).run P w = .ok (.value v) w ∧ Rel w B E.bs ρ x v) (K : ARun P ops rest (s.put o.dst x) Q) : AOp P ops o rest s Q := by
  intro E hE ρ B a w hs Q' hQ
  obtain ⟨v, h1, h2⟩ := h E hE ρ B a w hs
  exact owp_value h1 (K E hE ρ B _ w (hs.put o.dst h2) Q' hQ)
theorem NSpec.pureE {x : AV} (hg : gd ops s o = some true) (h : ∀ (E : Env), E.Ok P → ∀ (ρ : List Value) (B : Nat → Prop) (a : Act) (w : World) (ob : List Ob), RS E { s with ob := s.ob ++ ob } ρ B a w →
      ∃ v, (execOp a.eval o).run P w = .ok (.value v) w ∧ Rel w B E.bs ρ x v) : NSpec P ops o s x := by
  intro E hE ρ B a w ob hs K Q' hK
  rw [if_pos (gd_wanted (s := { s with ob := s.ob ++ ob }) hg hs)]
  obtain ⟨v, h1, h2⟩ := h E hE ρ B a w ob hs
  exact owp_value h1 (hK _ _ _ hs.rj (fun _ h => h) (fun _ _ => rfl) h2)
theorem run_index_arr {w : World} {T : TypeId} {len sz b o' : Nat} {k : IntKind} {j : Int} (hz : arSz P T = some (len, sz)) (h0 : 0 ≤ j) (h1 : j < len) :
    (Instr.indexAt T (.pointer (some ⟨b, o', none⟩)) (.int k j)).run P w = .ok (.pointer (some ⟨b, o' + j.toNat * sz, none⟩)) w := by
  obtain ⟨e, i, hu, hi, rfl⟩ := arSz_spec hz
  simp only [Instr.indexAt, asIntOf, Sem.run_bind, Sem.run_pure, Result.andThen_ok, run_underlying hu, Instr.sureAddr, if_pos (And.intro h0 h1), run_sizeOf hi, addr_add]
def ElemsOf (sz : Nat) (xs : List AV) (cs : List Value) : Prop := xs.flatMap AV.cells = cs.map AV.val ∧ ∀ x ∈ xs, x.cells.length = sz ∧ ∀ c ∈ x.cells, c.one = true
theorem glb_row {w : World} {B : Nat → Prop} {bs g sz : Nat} {ρ : List Value} {xs : List AV} {cs : List Value} (hB : B g) (hc : GlobC w g cs) (he : ElemsOf sz xs cs) : RelRow w B bs ρ false g sz 0 xs :=
  RelRow.mk hB (fun h => by cases h) (vs := cs) (by rw [he.1]; exact RelL.valsC cs) he.2 (fun j v hj => by rw [Nat.zero_add]; exact hc j v hj)
theorem gslice_run (E : Env) (hE : E.Ok P) {ρ : List Value} {B : Nat → Prop} {a : Act} {w : World} (hs : RS E s ρ B a w) {T : TypeId} {g n sz : Nat} {xs : List AV} {cs : List Value} (hg : (g, cs) ∈ glb) (he : ElemsOf sz xs cs) (hz : arSz P T = some (n, sz)) (hl : xs.length = n)
    (ho : o.op = .slice T (.global g) none none none) : ∃ v, (execOp a.eval o).run P w = .ok (.value v) w ∧ Rel w B E.bs ρ (.sl false sz xs) v := by
  obtain ⟨e, i, hu, hi, rfl⟩ := arSz_spec hz
  obtain ⟨h1, h2⟩ := hE.glb.now hs.rw_ _ hg
  have hr := glb_row (bs := E.bs) (ρ := ρ) h1 h2 he
  refine ⟨.slice (some ⟨g, 0, none⟩) n n, ?_, ?_⟩
  · simp only [execOp, ho]
    refine val_run ?_
    have ev : a.eval (.global g) = .pointer (some ⟨g, 0, none⟩) := rfl
    simp [Instr.sliceAt, run_underlying hu, ev, Instr.sureAddr, Instr.sliceBounds, run_sizeOf hi, addr_add]
  · cases xs with
    | nil => simp at hl; subst hl; exact .slE _ _ _ _
    | cons x xs => simp at hl; subst hl; exact .sl hr (by simp)
theorem ARun2.gsliceM {T : TypeId} {g n sz : Nat} {p : List Oper × AS} (xs : List AV) (cs : List Value) (hg : (g, cs) ∈ glb) (he : ElemsOf sz xs cs) (hz : arSz P T = some (n, sz)) (hl : xs.length = n) (K : ARun2 P ops p Q) (ho : o.op = .slice T (.global g) none none none := by rfl) (hgd : gd ops s o = some true := by exact Go.Abs.evT)
    (h : srun P ops rest (s.put o.dst (.sl false sz xs)) = p := by
        exact Go.Abs.evE) : ARun2 P ops (o :: rest, s) Q :=
  ARun.exec hgd (AOp.pureE (fun E hE ρ B a w hs => gslice_run E hE hs hg he hz hl ho) (ARun.srun (h ▸ K)))
theorem gindex_run (E : Env) (hE : E.Ok P) {ρ : List Value} {B : Nat → Prop} {a : Act} {w : World} (hs : RS E s ρ B a w) {T : TypeId} {i : Operand} {g len sz : Nat} {kk : IntKind} {xs : List AV} {cs : List Value} (n : Nat) (y : AV) (hg : (g, cs) ∈ glb) (he : ElemsOf sz xs cs) (hz : arSz P T = some (len, sz)) (hl : xs.length = len) (h0 : sz ≠ 0)
    (hy : xs[n]? = some y) (hi : s.ev i = .val (.int kk (N n))) (ho : o.op = .indexAddr T (.global g) i) : ∃ v, (execOp a.eval o).run P w = .ok (.value v) w ∧ Rel w B E.bs ρ (.ref false y) v := by
  obtain ⟨h1, h2⟩ := hE.glb.now hs.rw_ _ hg
  obtain ⟨r1, r2⟩ := (glb_row (bs := E.bs) (ρ := ρ) h1 h2 he).at hy
  have hv := (hi ▸ hs.ev i : Rel w B E.bs ρ (.val (.int kk (N n))) (a.eval i)).val_eq
  have hlt := get_lt hy
  refine ⟨.pointer (some ⟨g, 0 + n * sz, none⟩), ?_, .ref r1 (by intro h; rw [h] at r2; simp at r2; omega)⟩
  simp only [execOp, ho, hv]
  refine val_run ?_
  have := run_index_arr (P := P) (w := w) (b := g) (o' := 0) (k := kk) (j := N n) hz (Int.natCast_nonneg n) (Int.ofNat_lt.2 (by omega))
  rw [N_toNat] at this
  exact this
theorem ARun2.gindexM {T : TypeId} {i : Operand} {g len sz : Nat} {kk : IntKind} {p : List Oper × AS} (xs : List AV) (cs : List Value) (n : Nat) (y : AV) (hg : (g, cs) ∈ glb) (he : ElemsOf sz xs cs) (hz : arSz P T = some (len, sz)) (hl : xs.length = len) (h0 : sz ≠ 0) (hy : xs[n]? = some y) (K : ARun2 P ops p Q)
    (ho : o.op = .indexAddr T (.global g) i := by rfl) (hgd : gd ops s o = some true := by exact Go.Abs.evT) (hi : s.ev i = .val (.int kk (N n)) := by exact Go.Abs.evT) (h : srun P ops rest (s.put o.dst (.ref false y)) = p := by
        exact Go.Abs.evE) : ARun2 P ops (o :: rest, s) Q :=
  ARun.exec hgd (AOp.pureE (fun E hE ρ B a w hs => gindex_run E hE hs n y hg he hz hl h0 hy hi ho) (ARun.srun (h ▸ K)))
theorem Dr.gidx {T : TypeId} {i : Operand} {g len sz : Nat} {kk : IntKind} (xs : List AV) (cs : List Value) (n : Nat) (y : AV) (hg : (g, cs) ∈ glb) (he : ElemsOf sz xs cs) (hz : arSz P T = some (len, sz)) (hl : xs.length = len) (h0 : sz ≠ 0) (hy : xs[n]? = some y) (k : Dr P ops s nds (vals ++ [.ref false y]) G)
    (hn : ndsB nds = true := by first | rfl | decide) (hol : ops[vals.length]? = some o := by exact Go.Abs.evT) (ho : o.op = .indexAddr T (.global g) i := by rfl) (hgd : gd ops { s with fr := needFr s.fr vals (nds.getD vals.length []) } o = some true := by exact Go.Abs.evT)
    (hi : AS.ev { s with fr := needFr s.fr vals (nds.getD vals.length []) } i = .val (.int kk (N n)) := by exact Go.Abs.evT) : Dr P ops s nds vals G :=
  Dr.step hn hol (NSpec.pureE hgd fun E hE ρ B a w ob hs => gindex_run (s := { s with fr := needFr s.fr vals (nds.getD vals.length []), ob := s.ob ++ ob }) E hE hs n y hg he hz hl h0 hy (by rw [← hi]; cases i <;> rfl) ho) k
theorem aref_run {E : Env} {ρ : List Value} {B : Nat → Prop} {a : Act} {w : World} (hs : RS E s ρ B a w) {T : TypeId} {x i : Operand} {len : Nat} {nw : Bool} {kk : IntKind} {l : List AV} (n : Nat) (y : AV) (hz : arSz P T = some (len, 1)) (hl : l.length = len) (hy : l[n]? = some y)
    (hx : s.ev x = .ref nw (.agg l)) (hi : s.ev i = .val (.int kk (N n))) (ho : o.op = .indexAddr T x i) : ∃ v, (execOp a.eval o).run P w = .ok (.value v) w ∧ Rel w B E.bs ρ (.ref nw y) v := by
  have hv := (hi ▸ hs.ev i : Rel w B E.bs ρ (.val (.int kk (N n))) (a.eval i)).val_eq
  have hxr := hs.ev x
  rw [hx] at hxr
  have hlt := get_lt hy
  generalize hq : a.eval x = u at hxr
  cases hxr with
  | ref h1 hne =>
    rename_i b o'
    simp only [AV.cells] at h1
    have hd := h1.drop n
    rw [List.drop_eq_getElem_cons hlt] at hd
    have hyy : l[n] = y := by rw [List.getElem?_eq_getElem hlt] at hy; exact Option.some.inj hy
    rw [hyy] at hd
    cases hd with
    | cons a1 a2 a3 a4 a5 a6 =>
      have hc : y.cells = [y] := by cases y <;> simp_all [AV.cells, AV.one]
      refine ⟨.pointer (some ⟨b, o' + n, none⟩), ?_, .ref (by rw [hc]; exact .cons a1 a2 a3 a4 a5 .nil) (by rw [hc]; simp)⟩
      simp only [execOp, ho, hv, hq]
      refine val_run ?_
      have := run_index_arr (P := P) (w := w) (b := b) (o' := o') (k := kk) (j := N n) hz (Int.natCast_nonneg n) (Int.ofNat_lt.2 (by omega))
      rw [N_toNat, Nat.mul_one] at this
      exact this
theorem Dr.aref {T : TypeId} {x i : Operand} {len : Nat} {nw : Bool} {kk : IntKind} {l : List AV} (n : Nat) (y : AV) (hz : arSz P T = some (len, 1)) (hl : l.length = len) (hy : l[n]? = some y) (k : Dr P ops s nds (vals ++ [.ref nw y]) G)
    (hn : ndsB nds = true := by first | rfl | decide) (hol : ops[vals.length]? = some o := by exact Go.Abs.evT) (ho : o.op = .indexAddr T x i := by rfl) (hgd : gd ops { s with fr := needFr s.fr vals (nds.getD vals.length []) } o = some true := by exact Go.Abs.evT)
    (hx : AS.ev { s with fr := needFr s.fr vals (nds.getD vals.length []) } x = .ref nw (.agg l) := by exact Go.Abs.evT) (hi : AS.ev { s with fr := needFr s.fr vals (nds.getD vals.length []) } i = .val (.int kk (N n)) := by exact Go.Abs.evT) : Dr P ops s nds vals G :=
  Dr.step hn hol (NSpec.pureE hgd fun E hE ρ B a w ob hs => aref_run (s := { s with fr := needFr s.fr vals (nds.getD vals.length []), ob := s.ob ++ ob }) hs n y hz hl hy (by rw [← hx]; cases x <;> rfl) (by rw [← hi]; cases i <;> rfl) ho) k
end
structure KForm where
  ty : Nat
  name : ByteArray
  mask : Nat
  least : Nat
  most : Nat
  unit : Nat
  kids : Nat
@[push_cast] def kformA (f : KForm) : AV := .agg [u8 f.ty, .val (.string f.name), u8 f.mask, nat f.least, nat f.most, nat f.unit, nat f.kids]
def kindForms : List KForm := [
  ⟨0, ⟨#[100, 97, 116, 97]⟩, 15, 13, 65531, 1, 0⟩,
  ⟨1, ⟨#[105, 110, 105, 116]⟩, 0, 16, 16, 1, 2⟩,
  ⟨2, ⟨#[105, 110, 105, 116, 45, 97, 99, 107]⟩, 0, 16, 16, 1, 2⟩,
  ⟨3, ⟨#[115, 97, 99, 107]⟩, 0, 12, 65531, 4, 0⟩,
  ⟨4, ⟨#[104, 101, 97, 114, 116, 98, 101, 97, 116]⟩, 0, 0, 0, 1, 1⟩,
  ⟨5, ⟨#[104, 101, 97, 114, 116, 98, 101, 97, 116, 45, 97, 99, 107]⟩, 0, 0, 0, 1, 1⟩,
  ⟨6, ⟨#[97, 98, 111, 114, 116]⟩, 1, 0, 0, 1, 3⟩,
  ⟨7, ⟨#[115, 104, 117, 116, 100, 111, 119, 110]⟩, 0, 4, 4, 1, 0⟩,
  ⟨8, ⟨#[115, 104, 117, 116, 100, 111, 119, 110, 45, 97, 99, 107]⟩, 0, 0, 0, 1, 0⟩,
  ⟨9, ⟨#[101, 114, 114, 111, 114]⟩, 0, 0, 0, 1, 4⟩,
  ⟨10, ⟨#[99, 111, 111, 107, 105, 101, 45, 101, 99, 104, 111]⟩, 0, 1, 65531, 1, 0⟩,
  ⟨11, ⟨#[99, 111, 111, 107, 105, 101, 45, 97, 99, 107]⟩, 0, 0, 0, 1, 0⟩,
  ⟨12, ⟨#[101, 99, 110, 101]⟩, 0, 4, 4, 1, 0⟩,
  ⟨13, ⟨#[99, 119, 114]⟩, 0, 4, 4, 1, 0⟩,
  ⟨14, ⟨#[115, 104, 117, 116, 100, 111, 119, 110, 45, 99, 111, 109, 112, 108, 101, 116, 101]⟩, 1, 0, 0, 1, 0⟩,
  ⟨15, ⟨#[97, 117, 116, 104]⟩, 0, 5, 65531, 1, 0⟩,
  ⟨64, ⟨#[105, 45, 100, 97, 116, 97]⟩, 15, 17, 65531, 1, 0⟩,
  ⟨128, ⟨#[97, 115, 99, 111, 110, 102, 45, 97, 99, 107]⟩, 0, 4, 4, 1, 2⟩,
  ⟨130, ⟨#[114, 101, 45, 99, 111, 110, 102, 105, 103]⟩, 0, 0, 0, 1, 5⟩,
  ⟨132, ⟨#[112, 97, 100]⟩, 0, 0, 65531, 1, 0⟩,
  ⟨192, ⟨#[102, 111, 114, 119, 97, 114, 100, 45, 116, 115, 110]⟩, 0, 4, 65531, 4, 0⟩,
  ⟨193, ⟨#[97, 115, 99, 111, 110, 102]⟩, 0, 4, 4, 1, 6⟩,
  ⟨194, ⟨#[105, 45, 102, 111, 114, 119, 97, 114, 100, 45, 116, 115, 110]⟩, 0, 4, 65531, 8, 0⟩]
def kformsA (l : List KForm) : List AV := l.map kformA
@[push_cast] theorem kformsA_len (l : List KForm) : (kformsA l).length = l.length := by simp [kformsA]
@[push_cast] theorem kformsA_ids (p : Nat → Bool) (l : List KForm) : AV.idsOkL p (kformsA l) = true := by
  rw [AV.idsOkL_iff]; intro x hx; simp only [kformsA, List.mem_map] at hx; obtain ⟨f, _, rfl⟩ := hx; rfl
@[push_cast] theorem kformsA_hand (ids : List Nat) (l : List KForm) : AV.handL ids (kformsA l) = kformsA l := by
  rw [AV.handL_map, kformsA, List.map_map]; rfl
def zeroK : KForm := ⟨0, ⟨#[]⟩, 0, 0, 0, 0, 0⟩
def kindOf (t : Nat) : KForm := (kindForms.find? fun f => f.ty == t).getD zeroK
def kindHas (t : Nat) : Bool := (kindForms.find? fun f => f.ty == t).isSome
def kidx (t : Nat) : Nat := kindForms.countP fun f => f.ty < t
@[push_cast] theorem kindForms_len : kindForms.length = 23 := rfl
def kf (i : Nat) : KForm := kindForms.getD i zeroK
theorem kf_at (i : Nat) (h : i < 23) : kindForms[i]? = some (kf i) := by
  have h' : i < kindForms.length := h
  rw [kf, List.getD_eq_getElem?_getD, List.getElem?_eq_getElem h']; rfl
theorem kf_mem (i : Nat) (h : i < 23) : kf i ∈ kindForms := List.mem_of_getElem? (kf_at i h)
theorem kformsA_kf (i : Nat) (h : i < 23) : (kformsA kindForms)[i]? = some (kformA (kf i)) := by rw [kformsA, List.getElem?_map, kf_at i h]; rfl
theorem mem_kf {f : KForm} (h : f ∈ kindForms) : ∃ i, i < 23 ∧ f = kf i := by
  obtain ⟨i, hi, rfl⟩ := List.getElem_of_mem h
  refine ⟨i, hi, ?_⟩
  have := kf_at i hi
  rw [List.getElem?_eq_getElem hi] at this
  exact Option.some.inj this
theorem kidx_of (t i : Nat) (hi : i ≤ 23) (h1 : ∀ m, m < i → (kf m).ty < t) (h2 : ∀ m, m < 23 → i ≤ m → t ≤ (kf m).ty) : i = kidx t := by
  unfold kidx
  rw [← List.take_append_drop i kindForms, List.countP_append]
  have e1 : (kindForms.take i).countP (fun f => f.ty < t) = (kindForms.take i).length := by
    rw [List.countP_eq_length]
    intro f hf
    obtain ⟨m, hm, rfl⟩ := List.getElem_of_mem hf
    rw [List.length_take, kindForms_len] at hm
    have := kf_at m (by omega)
    rw [List.getElem?_eq_getElem (by rw [kindForms_len]; omega)] at this
    rw [List.getElem_take, Option.some.inj this]
    exact decide_eq_true (h1 m (by omega))
  have e2 : (kindForms.drop i).countP (fun f => f.ty < t) = 0 := by
    rw [List.countP_eq_zero]
    intro f hf
    obtain ⟨m, hm, rfl⟩ := List.getElem_of_mem hf
    rw [List.length_drop, kindForms_len] at hm
    have := kf_at (i + m) (by omega)
    rw [List.getElem?_eq_getElem (by rw [kindForms_len]; omega)] at this
    rw [List.getElem_drop, Option.some.inj this]
    have := h2 (i + m) (by omega) (by omega)
    simp; omega
  rw [e1, e2, List.length_take, kindForms_len]; omega
theorem kind_pair : (kindForms.map (·.ty)).Pairwise (· < ·) := by decide
theorem kind_sorted (i j : Nat) (h : j < 23) (hij : i < j) : (kf i).ty < (kf j).ty := by
  have h1 := List.pairwise_iff_getElem.1 kind_pair i j (by rw [List.length_map, kindForms_len]; omega) (by rw [List.length_map, kindForms_len]; omega) hij
  rw [List.getElem_map, List.getElem_map] at h1
  have e1 := kf_at i (by omega)
  have e2 := kf_at j h
  rw [List.getElem?_eq_getElem (by rw [kindForms_len]; omega)] at e1 e2
  rwa [Option.some.inj e1, Option.some.inj e2] at h1
theorem kind_small : ∀ f ∈ kindForms, f.ty < 256 ∧ f.mask < 256 ∧ f.least ≤ 65531 ∧ f.most ≤ 65531 ∧ 0 < f.unit ∧ f.unit ≤ 8 ∧ f.kids ≤ 6 ∧ (f.mask = 0 ∨ f.mask = 1 ∨ f.mask = 15) := by decide
theorem kind_at (t i : Nat) (h : i < 23) (he : (kf i).ty = t) : kindOf t = kf i ∧ kindHas t = true := by
  have hi := kf_at i h
  have : kindForms.find? (fun f => f.ty == t) = some (kf i) := by
    rw [List.find?_eq_some_iff_getElem]
    refine ⟨by simpa using he, i, by rw [kindForms_len]; exact h, ?_, fun j hj => ?_⟩
    · rw [List.getElem?_eq_getElem (by rw [kindForms_len]; exact h)] at hi
      exact Option.some.inj hi
    · have h1 := kind_sorted j i h hj
      have h2 := kf_at j (by omega)
      rw [List.getElem?_eq_getElem (by rw [kindForms_len]; omega)] at h2
      rw [Option.some.inj h2]
      have : (kf j).ty ≠ t := by omega
      simpa using this
  unfold kindOf kindHas
  rw [this]
  exact ⟨rfl, rfl⟩
theorem kind_none (t : Nat) (h : ∀ m, m < 23 → (kf m).ty ≠ t) : kindOf t = zeroK ∧ kindHas t = false := by
  have : kindForms.find? (fun f => f.ty == t) = none := by
    rw [List.find?_eq_none]
    intro f hf
    obtain ⟨m, hm, rfl⟩ := mem_kf hf
    simpa using h m hm
  unfold kindOf kindHas
  rw [this]
  exact ⟨rfl, rfl⟩
theorem kind_ends (t i : Nat) (hi : i ≤ 23) (h1 : ∀ m, m < i → (kf m).ty < t) (h2 : ∀ m, m < 23 → i ≤ m → t ≤ (kf m).ty) :
    (i < 23 → ((kf i).ty == t) = kindHas t) ∧ (¬ i < 23 → kindHas t = false) ∧ (kindHas t = true → kindOf t = kf i) := by
  by_cases hi2 : i < 23 ∧ (kf i).ty = t
  · obtain ⟨e1, e2⟩ := kind_at t i hi2.1 hi2.2
    rw [e1, e2]
    exact ⟨fun _ => by simpa using hi2.2, fun h => absurd hi2.1 h, fun _ => rfl⟩
  · have hn := kind_none t (fun m hm => by
      rcases Nat.lt_or_ge m i with h | h
      · have := h1 m h; omega
      · have h3 := h2 m hm h
        rcases Nat.lt_or_ge i m with h' | h'
        · have := kind_sorted i m hm h'; have := h2 i (by omega) (Nat.le_refl _); omega
        · obtain rfl : m = i := by omega
          intro he; exact hi2 ⟨hm, he⟩)
    rw [hn.2]
    exact ⟨fun h => by simpa using fun he => hi2 ⟨h, he⟩, fun _ => rfl, fun h => by cases h⟩
theorem kind_bd (t : Nat) : (kindOf t).mask < 256 ∧ (kindOf t).least ≤ 65531 ∧ (kindOf t).most ≤ 65531 ∧ (kindOf t).unit ≤ 8 ∧ (kindOf t).kids ≤ 6 ∧ ((kindOf t).mask = 0 ∨ (kindOf t).mask = 1 ∨ (kindOf t).mask = 15) ∧ (kindHas t = true → 0 < (kindOf t).unit ∧ (kindOf t).ty = t) ∧ (kindHas t = false → kindOf t = zeroK) := by
  unfold kindOf kindHas
  cases hf : kindForms.find? (fun f => f.ty == t) with
  | none => simp [zeroK]
  | some f =>
    have h1 := kind_small f (List.mem_of_find?_eq_some hf)
    have h2 := List.find?_some hf
    simp at h2 ⊢
    omega
theorem kidx_has (t : Nat) (h : kindHas t = true) : kidx t < 23 ∧ kindOf t = kf (kidx t) := by
  unfold kindHas at h
  obtain ⟨f, hf⟩ := Option.isSome_iff_exists.1 h
  obtain ⟨i, hi, rfl⟩ := mem_kf (List.mem_of_find?_eq_some hf)
  have ht : (kf i).ty = t := by have := List.find?_some hf; simpa using this
  have hk : i = kidx t := kidx_of t i (by omega) (fun m hm => by have := kind_sorted m i hi hm; omega) (fun m hm h2 => by
    rcases Nat.lt_or_ge i m with h' | h'
    · have := kind_sorted i m hm h'; omega
    · obtain rfl : m = i := by omega
      omega)
  rw [← hk]
  exact ⟨hi, (kind_at t i hi ht).1⟩
def kinsideN (k : Nat) : Nat × Nat × Nat :=
  if k = 1 then (1, 1, 1) else if k = 2 then (1, 0, 16384) else if k = 3 then (2, 0, 16384) else if k = 4 then (2, 1, 16384) else if k = 5 then (1, 1, 2) else if k = 6 then (1, 2, 16384) else (0, 0, 0)
def kfitsN (f : KForm) (n : Nat) : Bool := decide (f.least ≤ n) && decide (n ≤ f.most) && ((n - f.least) % f.unit == 0)
def kcells : List Value := kindForms.flatMap fun f => [.int .u8 (N f.ty), .string f.name, .int .u8 (N f.mask), .int .i64 (N f.least), .int .i64 (N f.most), .int .i64 (N f.unit), .int .i64 (N f.kids)]
def icells : List Value := (List.range 7).flatMap fun k => [.int .i64 (N (kinsideN k).1), .int .i64 (N (kinsideN k).2.1), .int .i64 (N (kinsideN k).2.2)]
def insideA : List AV := (List.range 7).map fun k => .agg [nat (kinsideN k).1, nat (kinsideN k).2.1, nat (kinsideN k).2.2]
theorem kelems : ElemsOf 7 (kformsA kindForms) kcells := by
  refine ⟨rfl, fun x hx => ?_⟩
  simp only [kformsA, List.mem_map] at hx
  obtain ⟨f, _, rfl⟩ := hx
  exact ⟨rfl, by simp [kformA, AV.cells, AV.one, Value.oneCell']⟩
theorem ielems : ElemsOf 3 insideA icells := by
  refine ⟨rfl, fun x hx => ?_⟩
  simp only [insideA, List.mem_map] at hx
  obtain ⟨k, _, rfl⟩ := hx
  exact ⟨rfl, by simp [AV.cells, AV.one, Value.oneCell']⟩
theorem kglb : (0, kcells) ∈ glb := by
  first | exact List.Mem.head _ | exact List.Mem.tail _ (List.Mem.head _) | exact List.Mem.tail _ (List.Mem.tail _ (List.Mem.head _))
theorem iglb : (1, icells) ∈ glb := by
  first | exact List.Mem.head _ | exact List.Mem.tail _ (List.Mem.head _) | exact List.Mem.tail _ (List.Mem.tail _ (List.Mem.head _))
end Go.Abs
namespace Go.Proofs.YtokbbdodbjiciaaGreatDoor.C
open Go.Abs
theorem kind_cmp_c (f : KForm) (t : Nat) (hf : f.ty < 256) (ht : t < 256) : PC Tryz.prog 133 [kformA f, u8 t] (.val (.int .i64 (N f.ty - N t))) := by
  have e : IntKind.i64.wrap (N f.ty - N t) = N f.ty - N t := by rw [IntKind.wrap_i64]; unfold N; omega
  refine PC.of_bodyW (by simp only [push_cast]) Tryz.func133 rfl (by rw [Tryz.ntmps133]; simp) ?_
  refine AWp.regionW ?_
  refine AWp.regionW ?_
  refine AWp.ret ?_
  try simp only [thenQ, blockQ, noGo]
  refine bodyQ.m ?_
  try rw [e]
  first | done | exact Hand.go
theorem half_w (n : Nat) (h : n < 2 ^ 62) : IntKind.i64.wrap ((IntKind.u64.wrap (N n)).fdiv (2 ^ min 1 IntKind.u64.bits)) = N (n / 2) := by
  have e : IntKind.u64.wrap (N n) = N n := by simp [IntKind.wrap, IntKind.bits, IntKind.signed]; unfold N; omega
  have e2 : (2 : Int) ^ min 1 IntKind.u64.bits = 2 := rfl
  rw [e, e2]
  have e3 : (N n).fdiv 2 = N (n / 2) := by unfold N; rw [Int.fdiv_eq_ediv_of_nonneg _ (by omega)]; omega
  rw [e3, IntKind.wrap_i64]; unfold N; omega
theorem bsearch_c (t : Nat) (ht : t < 256) : PC Tryz.prog 132 [.sl false 7 (kformsA kindForms), u8 t, .fn (.func 133) [] []] (.tup [nat (kidx t), bool (kindHas t)]) := by
  refine PC.of_bodyW (by simp only [push_cast]) Tryz.func132 rfl (by rw [Tryz.ntmps132]; simp) ?_
  refine AWp.regionW ?_
  refine AWp.regionW ?_
  refine AWp.regionW ?_
  refine AWp.seqK fun K1 hK1 => ?_
  refine AWp.block ?_
  refine AWp.loopK0 [0, 1, 2, 8] (fun (g : Nat × Nat) => [(9, nat g.1), (10, nat g.2)]) (fun g => g.1 ≤ g.2 ∧ g.2 ≤ 23 ∧ (∀ m, m < g.1 → (kf m).ty < t) ∧ (∀ m, m < 23 → g.2 ≤ m → t ≤ (kf m).ty)) (fun g => g.2 - g.1) ((0, 23)) ?_ ⟨by decide, by decide, fun m h2 => absurd h2 (Nat.not_lt_zero _), fun m h h2 => absurd h (Nat.not_lt.2 h2)⟩ ?_
  · skip
    refine Le.m 0 ?_ ?_
    · exact Go.Abs.evM
    · exact Go.Abs.evN
  · intro g hg K2 hK2
    obtain ⟨i, j⟩ := g
    dsimp only at hg ⊢
    obtain ⟨hg1, hg2, hg3, hg4⟩ := hg
    refine AWp.seqK fun K3 hK3 => ?_
    refine AWp.regionW ?_
    refine AWp.condLM (fun c0 => ?_) (fun c0 => ?_)
    · skip
      have hij : i < j := by simpa using c0
      obtain ⟨q, hq⟩ : ∃ q, (i + j) / 2 = q := ⟨_, rfl⟩
      have hiq : i ≤ q ∧ q < j := by omega
      have hq23 : q < 23 := by omega
      have hbd := (kind_small (kf q) (kf_mem q hq23)).1
      refine AWp.skip ?_
      refine hK3 _ ?_
      refine AWp.block ?_
      refine AWp.regionW ?_
      rw [half_w (i + j) (by omega), hq]
      refine AWp.regionM fun K4 hK4 => ?_
      refine ARun2.indexM (q) (kformA (kf q)) ?_ ?_
      · exact kformsA_kf q hq23
      refine ARun2.callVM (kind_cmp_c (kf q) t hbd ht) ?_
      refine ARun2.endm (hK4 _ ?_)
      refine AWp.condLM (fun c1 => ?_) (fun c1 => ?_)
      · skip
        have hc : (kf q).ty < t := by simp at c1; unfold N at c1; omega
        have hlt : ∀ m, m < q + 1 → (kf m).ty < t := fun m hm => by
          rcases Nat.lt_or_ge m q with h' | h'
          · exact Nat.lt_trans (kind_sorted m q hq23 h') hc
          · obtain rfl : m = q := by omega
            exact hc
        refine AWp.regionV ?_
        refine hK2 _ ((q + 1, j)) (⟨hiq.2, hg2, hlt, hg4⟩) (by show j - (q + 1) < j - i; omega) ?_
        refine Le.m 0 ?_ ?_
        · exact Go.Abs.evM
        · exact Go.Abs.evN
      have hc : t ≤ (kf q).ty := by simp at c1; unfold N at c1; omega
      have hge : ∀ m, m < 23 → q ≤ m → t ≤ (kf m).ty := fun m hm23 hm => by
        rcases Nat.lt_or_ge q m with h' | h'
        · exact Nat.le_trans hc (Nat.le_of_lt (kind_sorted q m hm23 h'))
        · obtain rfl : m = q := by omega
          exact hc
      refine AWp.regionV ?_
      refine hK2 _ ((i, q)) (⟨hiq.1, by show q ≤ 23; omega, hg3, hge⟩) (by show q - i < j - i; omega) ?_
      refine Le.m 0 ?_ ?_
      · exact Go.Abs.evM
      · exact Go.Abs.evN
    have hij : i = j := by simp at c0; omega
    subst hij
    have hk := kidx_of t i hg2 hg3 hg4
    obtain ⟨e1, e2, e3⟩ := kind_ends t i hg2 hg3 hg4
    refine AWp.exit ?_
    try simp only [thenQ, blockQ, noGo, reduceIte, Nat.reduceEqDiff]
    refine hK1 _ ?_
    refine AWp.regionA fun K5 hK5 => ?_
    refine ARun.segm 5 fun KS hKS => ?_
    refine ARun2.endm (hKS _ ?_); clear hKS KS
    apply ARun.grpM 8 4 true 47 [35, 39]
    · intro g4 KG hKG
      have hlt : i < 23 := by simpa using g4
      refine ARun2.gom ?_
      refine ARun2.indexM (i) (kformA (kf i)) ?_ ?_
      · exact kformsA_kf i hlt
      refine ARun2.callVM (kind_cmp_c (kf i) t ((kind_small (kf i) (kf_mem i hlt)).1) ht) ?_
      exact ARun2.endm (hKG _ Le.grpM)
    refine ARun2.gom ?_
    refine ARun2.endm (hK5 _ ?_)
    refine AWp.ret ?_
    try simp only [thenQ, blockQ, noGo]
    refine bodyQ.m ?_
    clear hK5 K5 hK3 K3 hK2 K2 hK1 K1
    have hb : (decide (i < 23) && (N (kf i).ty - N t == 0)) = kindHas t := by
      by_cases h : i < 23
      · rw [← e1 h, Bool.eq_iff_iff]; simp [h]; unfold N; omega
      · rw [e2 h]; simp [h]
    rw [← hk, ← hb]
    first | done | exact Hand.go
theorem arsz_t : arSz Tryz.prog 174 = some (23, 7) := by kernel_rfl
theorem kof_c (t : Nat) (ht : t < 256) : PC Tryz.prog 88 [u8 t] (.tup [kformA (kindOf t), bool (kindHas t)]) := by
  have hb := kind_bd t
  refine PC.of_bodyW (by simp only [push_cast]) Tryz.func88 rfl (by rw [Tryz.ntmps88]; simp) ?_
  refine AWp.regionW ?_
  refine AWp.regionM fun K1 hK1 => ?_
  refine ARun2.gsliceM (kformsA kindForms) kcells kglb kelems arsz_t rfl ?_
  refine ARun2.callM (bsearch_c t ht) ?_
  refine ARun2.endm (hK1 _ ?_)
  refine AWp.seqK fun K2 hK2 => ?_
  refine AWp.regionW ?_
  refine AWp.condLM (fun c0 => ?_) (fun c0 => ?_)
  · skip
    have hh : kindHas t = false := by simpa using c0
    have hz := hb.2.2.2.2.2.2.2 hh
    refine AWp.regionW ?_
    refine AWp.ret ?_
    try simp only [thenQ, blockQ, noGo]
    refine bodyQ.m ?_
    clear hK2 K2 hK1 K1
    rw [hz, hh]; simp only [zeroK]
    first | done | exact Hand.go
  have hh : kindHas t = true := by simpa using c0
  obtain ⟨e1, e2⟩ := kidx_has t hh
  refine AWp.skip ?_
  refine hK2 _ ?_
  refine AWp.regionM fun K3 hK3 => ?_
  refine ARun2.gindexM (kformsA kindForms) kcells (kidx t) (kformA (kf (kidx t))) kglb kelems arsz_t rfl (by decide) (kformsA_kf _ e1) ?_
  refine ARun2.endm (hK3 _ ?_)
  refine AWp.ret ?_
  try simp only [thenQ, blockQ, noGo]
  refine bodyQ.m ?_
  clear hK3 K3 hK2 K2 hK1 K1
  rw [e2, hh]
  first | done | exact Hand.go
end Go.Proofs.YtokbbdodbjiciaaGreatDoor.C
namespace Go.Abs
@[push_cast] theorem GNode.ty_mk (t : Nat) (d : List UInt8) (k : List GNode) : (GNode.mk t d k).ty = t := rfl
@[push_cast] theorem GNode.data_mk (t : Nat) (d : List UInt8) (k : List GNode) : (GNode.mk t d k).data = d := rfl
@[push_cast] theorem GNode.kids_mk (t : Nat) (d : List UInt8) (k : List GNode) : (GNode.mk t d k).kids = k := rfl
@[push_cast] theorem GNode.zero_mk : GNode.zero = .mk 0 [] [] := rfl
end Go.Abs
namespace Go.Proofs.YtokbbdodbjiciaaGreatDoor.C
open Go.Abs
theorem tlv_le : ∀ (l : List Nat) (s : Nat), sumUp s (l.map (4 + ·)) ≤ s + l.sum + 7 * l.length
  | [], s => by simp [sumUp]
  | n :: l, s => by
    have := tlv_le l (upN s + (4 + n))
    have h := gapN_le s
    simp only [List.map_cons, sumUp, List.length_cons, List.sum_cons, upN] at *
    omega
mutual
theorem vlen_sz : ∀ n : GNode, vlen n + 7 ≤ 8 * n.sz
  | .mk t d k => by
    have h1 := nLens_sz k
    have h2 := tlv_le (nLens k) 0
    have h3 : (nLens k).length = k.length := by rw [nLens_map]; simp
    simp only [vlen, GNode.sz, tlvSize] at *
    omega
theorem nLens_sz : ∀ l : List GNode, (nLens l).sum + 7 * l.length ≤ 8 * szs l
  | [] => by simp [nLens, szs]
  | n :: l => by
    have h1 := vlen_sz n
    have h2 := nLens_sz l
    simp only [nLens, szs, List.sum_cons, List.length_cons] at *
    omega
end
theorem nSize_sz (n : GNode) : nSize [n] ≤ 8 * n.sz := by
  have h := vlen_sz n
  have e : nSize [n] = 4 + vlen n := by simp [nSize, nLens, tlvSize, sumUp, upN, gapN]
  omega
def rightN (n : GNode) (ok : Bool) : GNode × Bool := bif ok && (checkN 2 1 n == 0) then (n, true) else (.zero, false)
def u16s (l : List Nat) : List AV := l.map u16
@[push_cast] theorem u16s_hand (ids : List Nat) (l : List Nat) : AV.handL ids (u16s l) = u16s l := by
  rw [AV.handL_map]; simp [u16s, AV.hand]
@[push_cast] theorem u16s_len (l : List Nat) : (u16s l).length = l.length := by simp [u16s]
theorem u16s_at (l : List Nat) (i : Nat) (h : i < l.length) : (u16s l)[i]? = some (u16 l[i]) := by simp [u16s, h]
@[push_cast] theorem u16s_nil : u16s [] = [] := rfl
@[push_cast] theorem u16s_pl (l : List Nat) : AV.plL (u16s l) = true := by
  rw [AV.plL_iff]; intro x hx; simp only [u16s, List.mem_map] at hx; obtain ⟨b, _, rfl⟩ := hx; rfl
@[push_cast] theorem u16s_ids (p : Nat → Bool) (l : List Nat) : AV.idsOkL p (u16s l) = true := by
  rw [AV.idsOkL_iff]; intro x hx; simp only [u16s, List.mem_map] at hx; obtain ⟨b, _, rfl⟩ := hx; rfl
theorem beN_lt2 (l : List UInt8) (k : Nat) (h : l.length ≤ k) : beN l < 256 ^ k := by
  have := beN_lt l
  exact Nat.lt_of_lt_of_le this (Nat.pow_le_pow_right (by omega) h)
@[push_cast] theorem plL_app (l m : List AV) : AV.plL (l ++ m) = (AV.plL l && AV.plL m) := by
  rw [Bool.eq_iff_iff, Bool.and_eq_true, AV.plL_iff, AV.plL_iff, AV.plL_iff]
  simp only [List.mem_append]
  exact ⟨fun h => ⟨fun x hx => h x (.inl hx), fun x hx => h x (.inr hx)⟩, fun h x hx => hx.elim (h.1 x) (h.2 x)⟩
theorem ids2 {a b : Ob} : ∀ k, k < [a, b].length → [0, 1][k]? = some k := by
  intro k hk
  have : k = 0 ∨ k = 1 := by simp at hk; omega
  rcases this with rfl | rfl <;> rfl
def rowsA (ls : List (List UInt8)) : List AV := ls.map fun l => .sl false 1 (bys l)
@[push_cast] theorem rowsA_len (l : List (List UInt8)) : (rowsA l).length = l.length := by simp [rowsA]
theorem rowsA_at (l : List (List UInt8)) (i : Nat) (h : i < l.length) : (rowsA l)[i]? = some (.sl false 1 (bys l[i])) := by simp [rowsA, h]
@[push_cast] theorem rowsA_nil : rowsA [] = [] := rfl
@[push_cast] theorem rowsA_cons (a : List UInt8) (l : List (List UInt8)) : rowsA (a :: l) = .sl false 1 (bys a) :: rowsA l := rfl
@[push_cast] theorem rowsA_ids (p : Nat → Bool) (l : List (List UInt8)) : AV.idsOkL p (rowsA l) = true := by
  rw [AV.idsOkL_iff]; intro x hx; simp only [rowsA, List.mem_map] at hx; obtain ⟨b, _, rfl⟩ := hx; simp only [push_cast]
@[push_cast] theorem rowsA_hand (ids : List Nat) (l : List (List UInt8)) : AV.handL ids (rowsA l) = rowsA l := by
  rw [AV.handL_map]; simp only [rowsA, List.map_map]
  refine List.map_congr_left fun x _ => ?_
  simp only [Function.comp, AV.hand, bys_hand]
def lens (ls : List (List UInt8)) : Nat := (ls.map List.length).sum
theorem lens_take (ls : List (List UInt8)) : ∀ i, lens (ls.take i) ≤ lens ls := by
  unfold lens
  induction ls with
  | nil => intro i; simp
  | cons a ls ih => intro i; cases i with
    | zero => simp
    | succ i => have := ih i; simp only [List.take_succ_cons, List.map_cons, List.sum_cons]; omega
theorem lens_snoc (ls : List (List UInt8)) (a : List UInt8) : lens (ls ++ [a]) = lens ls + a.length := by simp [lens]
theorem lens_flat (ls : List (List UInt8)) : ls.flatten.length = lens ls := by simp [lens, List.length_flatten]
theorem grow_c (n : Nat) (hn : n ≤ 2 ^ 40) : OC Tryz.prog 175 [.val (.slice none 0 0), nat n] [] (.own 0) [.row 5 1 []] := by
  refine OC.of_body [0] (by intro k hk; simp at hk) Tryz.func175 rfl (by rw [Tryz.ntmps175]; simp) ?_
  refine AWp.regionW ?_
  refine AWp.seqK fun K1 hK1 => ?_
  refine AWp.regionW ?_
  refine AWp.condF ?_
  refine AWp.skip ?_
  refine hK1 _ ?_
  refine AWp.seqK fun K2 hK2 => ?_
  refine AWp.regionM fun K3 hK3 => ?_
  refine ARun2.capNilM ?_
  refine ARun2.endm (hK3 _ ?_)
  rw [show IntKind.i64.wrap (0 - 0) = 0 from rfl, Int.sub_zero, w_nat n (by omega)]
  refine AWp.regionW ?_
  refine AWp.condLM (fun c1 => ?_) (fun c1 => ?_)
  · skip
    have h0 : 0 < n := by simpa using c1
    refine AWp.regionN fun K4 hK4 => ?_
    refine ARun2.capNilM ?_
    refine ARun2.frontNilM ?_
    refine ARun2.appendZerosM n h0 hn ?_
    refine ARun2.frontOwnM 0 (Nat.zero_le _) ?_
    refine ARun2.endm (hK4 _ ?_)
    refine hK2 _ ?_
    refine AWp.regionW ?_
    refine AWp.ret ?_
    try simp only [thenQ, blockQ, noGo]
    refine bodyQ.m ?_
    clear hK4 K4 hK3 K3 hK2 K2 hK1 K1
    refine endO.m ?_ ?_
    · first | rfl | simp
    first | done | exact Hand.go
  refine AWp.skip ?_
  refine hK2 _ ?_
  refine AWp.nilOwn 0 5 1 (by simp only [push_cast, ↓reduceIte, Nat.reduceEqDiff, Nat.reduceLT, Nat.reduceAdd, Nat.reduceSub, Nat.reduceMul, Nat.reduceLeDiff, Nat.reducePow, Int.reduceLT, Int.reduceToNat, reduceCtorEq, Int.reduceNeg, Int.reduceEq, Nat.reduceBEq, Nat.reduceBNe, Int.reduceBEq, Int.reduceBNe, String.reduceEq]) ?_
  refine Go.Abs.evS2 ?_
  refine AWp.regionW ?_
  refine AWp.ret ?_
  try simp only [thenQ, blockQ, noGo]
  refine bodyQ.m ?_
  clear hK3 K3 hK2 K2 hK1 K1
  refine endO.m ?_ ?_
  · first | rfl | simp
  first | done | exact Hand.go
theorem concat_o (ls : List (List UInt8)) (hl : lens ls ≤ 2 ^ 40) (hn : ls.length ≤ 2 ^ 40) : OC Tryz.prog 159 [.sl false 1 (rowsA ls)] [] (.own 0) [.row 5 1 (bys ls.flatten)] := by
  refine OC.of_body [0] (by intro k hk; simp at hk) Tryz.func159 rfl (by rw [Tryz.ntmps159]; simp) ?_
  refine AWp.regionW ?_
  refine AWp.regionW ?_
  refine AWp.seqK fun K1 hK1 => ?_
  refine AWp.regionW ?_
  refine AWp.block ?_
  refine AWp.loopK0 [0, 9, 10] (fun (i : Nat) => [(3, nat (lens (ls.take i))), (11, nat i)]) (fun i => i ≤ ls.length) (fun i => ls.length - i) (0) ?_ (Nat.zero_le _) ?_
  · skip
    refine Le.m 0 ?_ ?_
    · exact Go.Abs.evM
    · exact Go.Abs.evN
  · intro i hi K2 hK2
    refine AWp.regionW ?_
    refine AWp.seqK fun K3 hK3 => ?_
    refine AWp.condLM (fun c0 => ?_) (fun c0 => ?_)
    · skip
      have hil : i < ls.length := by simpa using c0
      have hlt := lens_take ls (i + 1)
      rw [List.take_succ_eq_append_getElem hil, lens_snoc] at hlt
      refine AWp.skip ?_
      refine hK3 _ ?_
      refine AWp.seqK fun K4 hK4 => ?_
      refine AWp.block ?_
      refine AWp.regionM fun K5 hK5 => ?_
      refine ARun2.indexM (i) (.sl false 1 (bys ls[i])) ?_ ?_
      · exact rowsA_at _ _ hil
      refine ARun2.endm (hK5 _ ?_)
      refine AWp.regionW ?_
      refine AWp.regionW ?_
      refine AWp.condF ?_
      refine AWp.skip ?_
      refine hK4 _ ?_
      refine AWp.regionV ?_
      refine hK2 _ (i + 1) (by omega) (by omega) ?_
      refine Le.m 0 ?_ ?_
      · exact Go.Abs.evM
      · simp only [push_cast, ↓reduceIte, Nat.reduceEqDiff, Nat.reduceLT, Nat.reduceAdd, Nat.reduceSub, Nat.reduceMul, Nat.reduceLeDiff, Nat.reducePow, Int.reduceLT, Int.reduceToNat, reduceCtorEq, Int.reduceNeg, Int.reduceEq, Nat.reduceBEq, Nat.reduceBNe, Int.reduceBEq, Int.reduceBNe, String.reduceEq]
        try simp (disch := omega) only [w_nat, w_add, w_addl, w_addr, w_sub, w_subl, w_mul, w_mull, w_mulr, w_u32, w_u16, w_u8, w_u32a, N_zero]
        rw [List.take_succ_eq_append_getElem hil, lens_snoc]
    have hil : i = ls.length := by simp at c0; omega
    subst hil
    rw [List.take_length]
    refine AWp.exit ?_
    try simp only [thenQ, blockQ, noGo, reduceIte, Nat.reduceEqDiff]
    refine hK1 _ ?_
    refine AWp.regionM fun K6 hK6 => ?_
    refine ARun2.callOM [] (grow_c (lens ls) hl) ?_
    refine ARun2.endm (hK6 _ ?_)
    refine AWp.seqK fun K7 hK7 => ?_
    refine AWp.regionW ?_
    refine AWp.block ?_
    -- SLOTS THAT TURN AND ARE NOT TOLD: [6]
    refine AWp.loopK [6, 25, 26] (fun (i : Nat) => [(27, nat i)]) (fun i => [.row 5 1 (bys (ls.take i).flatten)]) (fun i => i ≤ ls.length) (fun i => ls.length - i) (0) ?_ (Nat.zero_le _) ?_
    · skip
      refine Le.m 1 ?_ ?_
      · exact Go.Abs.evM
      · exact Go.Abs.evN
    · intro i hi K8 hK8
      refine AWp.regionW ?_
      refine AWp.seqK fun K9 hK9 => ?_
      refine AWp.condLM (fun c2 => ?_) (fun c2 => ?_)
      · skip
        have hil : i < ls.length := by simpa using c2
        have hlt := lens_take ls (i + 1)
        rw [List.take_succ_eq_append_getElem hil, lens_snoc, ← lens_flat] at hlt
        refine AWp.skip ?_
        refine hK9 _ ?_
        refine AWp.seqK fun K10 hK10 => ?_
        refine AWp.block ?_
        refine AWp.regionM fun K11 hK11 => ?_
        refine ARun2.indexM (i) (.sl false 1 (bys ls[i])) ?_ ?_
        · exact rowsA_at _ _ hil
        refine ARun2.endm (hK11 _ ?_)
        refine AWp.regionN fun K12 hK12 => ?_
        refine ARun2.appendM ?_ ?_ ?_
        · rw [Facts.eb23, bys_len, bys_len]; omega
        · rw [bys_len, bys_len]; omega
        refine ARun2.endm (hK12 _ ?_)
        refine hK10 _ ?_
        refine AWp.regionV ?_
        refine hK8 _ (i + 1) (by omega) (by omega) ?_
        refine Le.m 1 ?_ ?_
        · first | exact Go.Abs.evM | (refine Go.Abs.evS ?_; rw [List.take_succ_eq_append_getElem hil, List.flatten_append, bys_append]; simp)
        · exact Go.Abs.evN
      have hil : i = ls.length := by simp at c2; omega
      subst hil
      refine AWp.exit ?_
      try simp only [thenQ, blockQ, noGo, reduceIte, Nat.reduceEqDiff]
      refine hK7 _ ?_
      refine AWp.regionW ?_
      refine AWp.ret ?_
      try simp only [thenQ, blockQ, noGo]
      refine bodyQ.m ?_
      clear hK9 K9 hK8 K8 hK7 K7 hK6 K6 hK3 K3 hK2 K2 hK1 K1
      refine endO.m ?_ ?_
      · rw [List.take_length]
      first | done | exact Hand.go
theorem wjoin_o (ls : List (List UInt8)) (hl : lens ls ≤ 2 ^ 40) (hn : ls.length ≤ 2 ^ 40) : OC Tryz.prog 126 [.sl false 1 (rowsA ls)] [] (.own 0) [.row 5 1 (bys ls.flatten)] := by
  refine OC.of_body [0] (by intro k hk; simp at hk) Tryz.func126 rfl (by rw [Tryz.ntmps126]; simp) ?_
  refine AWp.regionW ?_
  refine AWp.regionM fun K1 hK1 => ?_
  refine ARun2.callOM [] (concat_o ls hl hn) ?_
  refine ARun2.endm (hK1 _ ?_)
  refine AWp.ret ?_
  try simp only [thenQ, blockQ, noGo]
  refine bodyQ.m ?_
  clear hK1 K1
  refine endO.m ?_ ?_
  · rfl
  first | done | exact Hand.go
theorem wjoin_c (ls : List (List UInt8)) (hl : lens ls ≤ 2 ^ 40) (hn : ls.length ≤ 2 ^ 40) : PC Tryz.prog 126 [.sl false 1 (rowsA ls)] (.sl true 1 (bys ls.flatten)) := PC.of_own (wjoin_o ls hl hn)
def padB (l : List UInt8) : List UInt8 := l ++ List.replicate (gapN l.length) 0
theorem padB_len (l : List UInt8) : (padB l).length = upN l.length := by simp [padB, upN]
theorem padBytes_o (l : List UInt8) (hl : l.length ≤ 2 ^ 39) : OC Tryz.prog 177 [.sl false 1 (bys l)] [] (.own 0) [.row 5 1 (bys (padB l))] := by
  have hg := gapN_le l.length
  have hc := concat_o [l, List.replicate (gapN l.length) 0] (by simp [lens]; omega) (by simp)
  rw [show [l, List.replicate (gapN l.length) 0].flatten = padB l by simp [padB]] at hc
  refine OC.of_body [0] (by intro k hk; simp at hk) Tryz.func177 rfl (by rw [Tryz.ntmps177]; simp) ?_
  refine AWp.regionW ?_
  refine AWp.regionM fun K1 hK1 => ?_
  refine ARun2.callM (pad_gap l.length (by omega)) ?_
  refine ARun2.makeM (gapN l.length) ?_ ?_
  · omega
  refine ARun2.callOM [] (hc) ?_
  refine ARun2.endm (hK1 _ ?_)
  refine AWp.ret ?_
  try simp only [thenQ, blockQ, noGo]
  refine bodyQ.m ?_
  clear hK1 K1
  refine endO.m ?_ ?_
  · rfl
  first | done | exact Hand.go
inductive Er where
  | ok
  | code (c : Nat)
  | flt (c i : Nat)
  deriving DecidableEq
def Er.isOk : Er → Bool
  | .ok => true
  | _ => false
@[push_cast] theorem isOk_ok : Er.ok.isOk = true := rfl
@[push_cast] theorem isOk_code (c : Nat) : (Er.code c).isOk = false := rfl
@[push_cast] theorem isOk_flt (c i : Nat) : (Er.flt c i).isOk = false := rfl
def erA : Er → AV
  | .ok => .val .nilIface
  | .code c => .ifc 136 (nat c)
  | .flt c i => .ifc 187 (.agg [nat c, nat i])
@[push_cast] theorem erA_ok : erA .ok = .val .nilIface := rfl
@[push_cast] theorem nilIs_er (e : Er) : nilIs .ifc (erA e) = some e.isOk := by cases e <;> rfl
@[push_cast] theorem er_ids (p : Nat → Bool) (e : Er) : (erA e).idsOk p = true := by cases e <;> rfl
@[push_cast] theorem er_hand (ids : List Nat) (e : Er) : (erA e).hand ids = erA e := by cases e <;> rfl
@[push_cast] theorem er_one (e : Er) : (erA e).one = true := by cases e <;> rfl
@[push_cast] theorem er_flat (e : Er) : (erA e).flat = true := by cases e <;> rfl
@[push_cast] theorem er_cells (e : Er) : (erA e).cells = [erA e] := by cases e <;> rfl
@[push_cast] theorem er_fresh (e : Er) : (erA e).fresh = true := by cases e <;> rfl
theorem fnew_c (c i : Nat) : PC Tryz.prog 97 [nat c, nat i] (erA (.flt c i)) := by
  refine PC.of_bodyK (by simp only [push_cast]) Tryz.func97 rfl (by rw [Tryz.ntmps97]; simp) ?_
  refine AWp.regionW ?_
  refine AWp.regionW ?_
  refine AWp.ret ?_
  try simp only [thenQ, blockQ, noGo]
  refine bodyQ.m ?_
  exact Wk.eq rfl
  first | done | exact Wk.go
def nzIdx (l : List UInt8) : Int := match l.findIdx? (· != 0) with
  | some i => N i
  | none => -1
theorem zero1_c (b : UInt8) : PC Tryz.prog 204 [.val (.int .u8 (N b.toNat))] (bool (b != 0)) := by
  have hb : (b.toNat != 0) = (b != 0) := by
    rw [Bool.eq_iff_iff]
    simp only [bne_iff_ne, ne_eq, ← UInt8.toNat_inj]; rfl
  refine PC.of_bodyW (by simp only [push_cast]) Tryz.func204 rfl (by rw [Tryz.ntmps204]; simp) ?_
  refine AWp.regionW ?_
  refine AWp.regionW ?_
  refine AWp.ret ?_
  try simp only [thenQ, blockQ, noGo]
  refine bodyQ.m ?_
  rw [hb]
  first | done | exact Hand.go
theorem nzIdx_hit {l : List UInt8} {i : Nat} (h : i < l.length) (h0 : ∀ j (hj : j < i), l[j]'(by omega) = 0) (hi : l[i] ≠ 0) : nzIdx l = N i := by
  unfold nzIdx
  rw [show l.findIdx? (· != 0) = some i from List.findIdx?_eq_some_iff_getElem.2 ⟨h, by simpa using hi, fun j hj => by simpa using h0 j hj⟩]
theorem nzIdx_none {l : List UInt8} (h0 : ∀ j (hj : j < l.length), l[j] = 0) : nzIdx l = -1 := by
  unfold nzIdx
  rw [show l.findIdx? (· != 0) = none from List.findIdx?_eq_none_iff.2 fun x hx => by
    obtain ⟨j, hj, rfl⟩ := List.getElem_of_mem hx
    simp [h0 j hj]]
theorem indexFunc_c (l : List UInt8) (hl : l.length ≤ 2 ^ 40) : PC Tryz.prog 203 [.sl false 1 (bys l), .fn (.func 204) [] []] (.val (.int .i64 (nzIdx l))) := by
  refine PC.of_bodyW (by simp only [push_cast]) Tryz.func203 rfl (by rw [Tryz.ntmps203]; simp) ?_
  refine AWp.regionW ?_
  refine AWp.seqK fun K1 hK1 => ?_
  refine AWp.regionW ?_
  refine AWp.block ?_
  refine AWp.loopK0 [0, 1, 7] (fun (i : Nat) => [(8, nat i)]) (fun i => i ≤ l.length ∧ ∀ j (hj : j < l.length), j < i → l[j] = 0) (fun i => l.length - i) (0) ?_ ⟨Nat.zero_le _, fun j _ hj => by omega⟩ ?_
  · skip
    refine Le.m 0 ?_ ?_
    · exact Go.Abs.evM
    · exact Go.Abs.evN
  · intro i hi K2 hK2
    refine AWp.regionW ?_
    refine AWp.seqK fun K3 hK3 => ?_
    refine AWp.condLM (fun c0 => ?_) (fun c0 => ?_)
    · skip
      have hil : i < l.length := by simpa using c0
      refine AWp.skip ?_
      refine hK3 _ ?_
      refine AWp.seqK fun K4 hK4 => ?_
      refine AWp.block ?_
      refine AWp.regionW ?_
      refine AWp.regionM fun K5 hK5 => ?_
      refine ARun2.indexM (i) (.val (.int .u8 (N l[i].toNat))) ?_ ?_
      · rw [bys_get, List.getElem?_eq_getElem hil]; rfl
      refine ARun2.callVM (zero1_c l[i]) ?_
      refine ARun2.endm (hK5 _ ?_)
      refine AWp.condLM (fun c1 => ?_) (fun c1 => ?_)
      · skip
        have hne : l[i] ≠ 0 := by simpa using c1
        have hz := nzIdx_hit hil (fun j hj => hi.2 j (by omega) hj) hne
        refine AWp.regionW ?_
        refine AWp.ret ?_
        try simp only [thenQ, blockQ, noGo]
        refine bodyQ.m ?_
        clear hK5 K5 hK4 K4 hK3 K3 hK2 K2 hK1 K1
        rw [hz]
        first | done | exact Hand.go
      have heq : l[i] = 0 := by simpa using c1
      refine AWp.skip ?_
      refine hK4 _ ?_
      refine AWp.regionV ?_
      refine hK2 _ (i + 1) (⟨hil, fun j hj hji => (Nat.lt_or_ge j i).elim (fun h => hi.2 j hj h) (fun h => by have e : j = i := (by omega); subst e; exact heq)⟩) (by omega) ?_
      refine Le.m 0 ?_ ?_
      · exact Go.Abs.evM
      · exact Go.Abs.evN
    have hil : i = l.length := by have := hi.1; simp at c0; omega
    have hz := nzIdx_none (l := l) fun j hj => hi.2 j hj (by omega)
    refine AWp.exit ?_
    try simp only [thenQ, blockQ, noGo, reduceIte, Nat.reduceEqDiff]
    refine hK1 _ ?_
    refine AWp.regionW ?_
    refine AWp.ret ?_
    try simp only [thenQ, blockQ, noGo]
    refine bodyQ.m ?_
    clear hK3 K3 hK2 K2 hK1 K1
    rw [hz]
    first | done | exact Hand.go
def zeroB (l : List UInt8) : Bool := l.all (· == 0)
theorem nzIdx_zero (l : List UInt8) : (!decide (0 ≤ nzIdx l)) = zeroB l := by
  unfold nzIdx zeroB
  cases h : l.findIdx? (· != 0) with
  | some i =>
    obtain ⟨h1, h2, _⟩ := List.findIdx?_eq_some_iff_getElem.1 h
    have : l.all (· == 0) = false := by
      rw [List.all_eq_false]; exact ⟨l[i], List.getElem_mem h1, by simpa using h2⟩
    rw [this]
    simp [N]
  | none =>
    have h1 := List.findIdx?_eq_none_iff.1 h
    have : l.all (· == 0) = true := by rw [List.all_eq_true]; intro x hx; have := h1 x hx; simpa using this
    rw [this]; decide
theorem containsFunc_c (l : List UInt8) (hl : l.length ≤ 2 ^ 40) : PC Tryz.prog 201 [.sl false 1 (bys l), .fn (.func 204) [] []] (bool (decide (0 ≤ nzIdx l))) := by
  refine PC.of_bodyW (by simp only [push_cast]) Tryz.func201 rfl (by rw [Tryz.ntmps201]; simp) ?_
  refine AWp.regionW ?_
  refine AWp.regionM fun K1 hK1 => ?_
  refine ARun2.callM (indexFunc_c l hl) ?_
  refine ARun2.endm (hK1 _ ?_)
  refine AWp.ret ?_
  try simp only [thenQ, blockQ, noGo]
  refine bodyQ.m ?_
  clear hK1 K1
  first | done | exact Hand.go
theorem zero_c (l : List UInt8) (hl : l.length ≤ 2 ^ 40) : PC Tryz.prog 202 [.sl false 1 (bys l)] (bool (zeroB l)) := by
  refine PC.of_bodyW (by simp only [push_cast]) Tryz.func202 rfl (by rw [Tryz.ntmps202]; simp) ?_
  refine AWp.regionW ?_
  refine AWp.regionM fun K1 hK1 => ?_
  refine ARun2.callM (containsFunc_c l hl) ?_
  refine ARun2.endm (hK1 _ ?_)
  refine AWp.ret ?_
  try simp only [thenQ, blockQ, noGo]
  refine bodyQ.m ?_
  clear hK1 K1
  rw [nzIdx_zero]
  first | done | exact Hand.go
def nextN (b : List UInt8) (n : Nat) : Option Nat := if n ≤ b.length ∧ upN n ≤ b.length ∧ zeroB ((b.take (upN n)).drop n) = true then some (upN n) else none
theorem next_c (b : List UInt8) (n : Nat) (hl : b.length ≤ 2 ^ 40) (hn : n ≤ 2 ^ 41) : PC Tryz.prog 197 [.sl false 1 (bys b), nat n] (.tup [nat ((nextN b n).getD 0), bool (nextN b n).isSome]) := by
  have hu : upN n ≤ n + 3 := by have := gapN_le n; unfold upN; omega
  have hu2 : n ≤ upN n := by unfold upN; omega
  refine PC.of_bodyW (by simp only [push_cast]) Tryz.func197 rfl (by rw [Tryz.ntmps197]; simp) ?_
  refine AWp.regionW ?_
  refine AWp.seqK fun K1 hK1 => ?_
  refine AWp.regionA fun K2 hK2 => ?_
  refine ARun.segm 3 fun KS hKS => ?_
  refine ARun2.endm (hKS _ ?_); clear hKS KS
  apply ARun.grpM 4 2 false 12 [0, 1, 8]
  · intro g2 KG hKG
    refine ARun2.gom ?_
    exact ARun2.endm (hKG _ Le.grpM)
  refine ARun.segm 2 fun KS hKS => ?_
  refine ARun2.endm (hKS _ ?_); clear hKS KS
  apply ARun.grpM 5 8 false 19 [0, 1, 14]
  · intro g8 KG hKG
    refine ARun2.gom ?_
    refine ARun2.callM (pad_up n (by omega)) ?_
    exact ARun2.endm (hKG _ Le.grpM)
  refine ARun.segm 2 fun KS hKS => ?_
  refine ARun2.endm (hKS _ ?_); clear hKS KS
  apply ARun.grpM 7 15 false 28 [1, 21]
  · intro g15 KG hKG
    have hub : upN n ≤ b.length := by simp at g15; omega
    refine ARun2.gom ?_
    refine ARun2.callM (pad_up n (by omega)) ?_
    refine ARun2.sliceM (n) (upN n) ?_ ?_ ?_
    · omega
    · rw [bys_len]; omega
    refine ARun2.callM (zero_c ((b.take (upN n)).drop n) (by rw [List.length_drop, List.length_take]; omega)) ?_
    exact ARun2.endm (hKG _ Le.grpM)
  refine ARun2.gom ?_
  refine ARun2.endm (hK2 _ ?_)
  refine AWp.condLM (fun c0 => ?_) (fun c0 => ?_)
  · skip
    have hno : nextN b n = none := by
      unfold nextN; rw [if_neg]; rintro ⟨h1, h2, h3⟩; simp [h1, h2, h3] at c0; omega
    refine AWp.regionW ?_
    refine AWp.ret ?_
    try simp only [thenQ, blockQ, noGo]
    refine bodyQ.m ?_
    clear hK2 K2 hK1 K1
    first | rw [hno] | rw [hyes]
    first | done | exact Hand.go
  have hyes : nextN b n = some (upN n) := by
    unfold nextN; rw [if_pos]; simp at c0; refine ⟨by omega, by omega, ?_⟩; simp_all
  refine AWp.skip ?_
  refine hK1 _ ?_
  refine AWp.regionM fun K3 hK3 => ?_
  refine ARun2.callM (pad_up n (by omega)) ?_
  refine ARun2.endm (hK3 _ ?_)
  refine AWp.ret ?_
  try simp only [thenQ, blockQ, noGo]
  refine bodyQ.m ?_
  clear hK3 K3 hK2 K2 hK1 K1
  first | rw [hno] | rw [hyes]
  first | done | exact Hand.go
end Go.Proofs.YtokbbdodbjiciaaGreatDoor.C
namespace Go.Abs
open Go.Extern
set_option linter.unusedSectionVars false
set_option linter.unnecessarySimpa false
def NatOk (P : Program) (f : FuncId) (e : Array Value → Sem Value) : Prop := ∀ vs w, (callFunc f vs).run P w = ((e vs).run P w).andThen fun v w' => .ok (.value v) w'
section
variable {P : Program} {ops : Array Oper} {E : Env} {s s' : AS} {ρ σ : List Value} {B : Nat → Prop} {a : Act} {w w' : World} {o : Oper} {rest : List Oper} {Q : AS → Prop} {R : Exit → AS → Prop}
theorem run_call_nat {f : FuncId} {e : Array Value → Sem Value} {args : Array Operand} {ts : Array TypeId} (he : NatOk P f e) (ho : o.op = .call { callee := .value (.func f), args := args, argTypes := ts }) {ρe : Operand → Value} (hf : ρe (.func f) = .func (.func f) #[] #[]) :
    (execOp ρe o).run P w = ((e (args.map ρe)).run P w).andThen fun v w' => .ok (.value v) w' := by
  have := he (args.map ρe) w
  simp [execOp, ho, resolve, hf, Deferred.ofValue, invoke, this]
theorem run_inv_nat {g : FuncId} {e : Array Value → Sem Value} {recv : Operand} {name : String} {args : Array Operand} {ts : Array TypeId} {RT : TypeId} {p p' : Value} (he : NatOk P g e)
    (hm : ∀ w, (Go.method (P.types.size + Made.depth) RT p name).run P w = .ok (g, p') w) (ho : o.op = .call { callee := .invoke recv name, args := args, argTypes := ts }) {ρe : Operand → Value} (hr : ρe recv = .iface RT p) :
    (execOp ρe o).run P w = ((e (#[p'] ++ args.map ρe)).run P w).andThen fun v w' => .ok (.value v) w' := by
  have h1 := he (#[p'] ++ args.map ρe) w
  have h2 := hm w
  have h3 : (callMethod (.iface RT p) name (args.map ρe)).run P w = ((e (#[p'] ++ args.map ρe)).run P w).andThen fun v w' => .ok (.value v) w' := by
    have hp : (program : Sem Program).run P w = .ok P w := rfl
    simp only [callMethod, Sem.run_bind, hp, Result.andThen_ok, h2]
    exact h1
  have h4 : (#[ρe recv] ++ args.map ρe)[0]? = some (.iface RT p) := by rw [hr, Array.getElem?_append_left (by simp)]; rfl
  have h5 : (#[ρe recv] ++ args.map ρe).extract 1 (#[ρe recv] ++ args.map ρe).size = args.map ρe := by
    apply Array.ext'; simp
    exact List.take_of_length_le (by simp)
  simp only [execOp, ho, resolve, Sem.run_bind, Sem.run_pure, Result.andThen_ok, invoke, h4, h5]
  exact h3
theorem args_vals {l : List Operand} {vs : List Value} (hs : RS E s ρ B a w) (h : l.map s.ev = vs.map AV.val) : l.map a.eval = vs := by
  have hr := RelL.map_ev hs l
  rw [h] at hr
  generalize l.map a.eval = us at hr
  clear h
  induction vs generalizing us with
  | nil => cases hr; rfl
  | cons v vs ih => cases hr with | cons h1 h2 => rw [h1.val_eq, ih _ h2]
theorem eval_func (f : FuncId) : a.eval (.func f) = .func (.func f) #[] #[] := rfl
theorem AOp.invC {g : FuncId} {e : Array Value → Sem Value} {recv : Operand} {name : String} {args : Array Operand} {ts : Array TypeId} {RT : TypeId} {p p' : Value} {vs : List Value} {v : Value} (he : NatOk P g e) (hm : ∀ w, (Go.method (P.types.size + Made.depth) RT p name).run P w = .ok (g, p') w)
    (hr : ∀ w, (e (p' :: vs).toArray).run P w = .ok v w) (ho : o.op = .call { callee := .invoke recv name, args := args, argTypes := ts }) (hx : s.ev recv = .val (.iface RT p)) (hv : args.toList.map s.ev = vs.map AV.val) (K : ARun P ops rest (s.put o.dst (.val v)) Q) : AOp P ops o rest s Q := by
  refine AOp.pure1 (fun E ρ B a w hs => ⟨v, ?_, .val _⟩) K
  have ha : args.map a.eval = vs.toArray := by apply Array.ext'; simpa using args_vals hs hv
  have hxv := (hx ▸ hs.ev recv : Rel w B E.bs ρ (.val (.iface RT p)) (a.eval recv)).val_eq
  rw [run_inv_nat he hm ho hxv, ha, show #[p'] ++ vs.toArray = (p' :: vs).toArray by simp, hr]; rfl
theorem AOp.natV {f : FuncId} {e : Array Value → Sem Value} {x : Operand} {ts : Array TypeId} {h fl : Value} {nw : Bool} {y r : AV} (he : NatOk P f e) (ho : o.op = .call { callee := .value (.func f), args := #[x], argTypes := ts }) (hx : s.ev x = .agg [.val h, .ref nw y, .val fl])
    (hr : ∀ (w : World) (B : Nat → Prop) (bs : Nat) (ρ : List Value) (b o : Nat), RelCells w B bs ρ nw b o y.cells → ∃ v, (e #[.agg #[h, .pointer (some ⟨b, o, none⟩), fl]]).run P w = .ok v w ∧ Rel w B bs ρ r v)
    (K : ARun P ops rest (s.put o.dst r) Q) : AOp P ops o rest s Q := by
  refine AOp.pure1 (fun E ρ B a w hs => ?_) K
  have hxr := hs.ev x
  rw [hx] at hxr
  generalize hq : a.eval x = u at hxr
  cases hxr with
  | agg h1 =>
    cases h1 with
    | cons a1 h1 => cases h1 with
      | cons a2 h1 => cases h1 with
        | cons a3 h1 =>
          cases h1
          have e1 := a1.val_eq
          have e3 := a3.val_eq
          subst e1; subst e3
          cases a2 with
          | ref hc hn =>
            obtain ⟨v, k1, k2⟩ := hr w B E.bs ρ _ _ hc
            refine ⟨v, ?_, k2⟩
            rw [run_call_nat he ho (eval_func f), show (#[x] : Array Operand).map a.eval = #[a.eval x] by simp, hq]
            have k1' := congrArg (fun r : Result Value => r.andThen fun v w' => (Result.ok (Next.value v) w' : Result Next)) k1
            exact k1'
theorem AOp.valueOf {f : FuncId} {e : Array Value → Sem Value} {x : Operand} {ts : Array TypeId} {T : TypeId} {h fl : Value} {y : AV} (he : NatOk P f e) (ho : o.op = .call { callee := .value (.func f), args := #[x], argTypes := ts }) (hx : s.ev x = .ifc T y) (hf : y.flat = true) (hne : y.cells ≠ [])
    (hr : ∀ (w : World) (B : Nat → Prop) (bs : Nat) (ρ : List Value) (v : Value), Rel w B bs ρ y v → (e #[.iface T v]).run P w = .ok (.agg #[h, .pointer (some ⟨w.heap.size, 0, none⟩), fl]) (w.alloc (.cells (List.toArray v.cells.toList) T)))
    (K : ARun P ops rest (s.put o.dst (.agg [.val h, .ref true y, .val fl])) Q) : AOp P ops o rest s Q := by
  refine AOp.value (s' := s) (fun E ρ B a w hs => ?_) K
  have hxr := hs.ev x
  rw [hx] at hxr
  generalize hq : a.eval x = u at hxr
  cases hxr with
  | ifc h1 =>
    rename_i v
    have hrun := hr w B E.bs ρ v h1
    obtain ⟨c1, c2⟩ := h1.toCells hf
    have hsame := same_alloc w (.cells (List.toArray v.cells.toList) T)
    refine ⟨.agg #[h, .pointer (some ⟨w.heap.size, 0, none⟩), fl], w.alloc (.cells (List.toArray v.cells.toList) T), ρ, _, ?_, hs.pubNew hsame (Nat.le_refl _) (by simp), .agg (.cons (.val _) (.cons (.ref (RelCells.mk (vs := v.cells.toList) (.inr rfl) (fun _ => hs.rw_.le) (c1.mono (fun _ h => .inl h) (fun b hb => hsame.block b (hs.rw_.blt b hb)) (Nat.le_refl _) (fun _ _ h => h)) c2 ?_) hne) (.cons (.val _) .nil)))⟩
    · rw [run_call_nat he ho (eval_func f), show (#[x] : Array Operand).map a.eval = #[a.eval x] by simp, hq]
      exact congrArg (fun r : Result Value => r.andThen fun v w' => (Result.ok (Next.value v) w' : Result Next)) hrun
    · intro j u hj
      exact block_cell (alloc_get w _) 0 j u (by simpa using hj)
theorem AOp.natSet {f : FuncId} {e : Array Value → Sem Value} {x y : Operand} {ts : Array TypeId} {T T' : TypeId} {h1 f1 h2 f2 : Value} {k off : Nat} {nw : Bool} {z z' : AV} {cs : List AV} (he : NatOk P f e) (ho : o.op = .call { callee := .value (.func f), args := #[x, y], argTypes := ts })
    (hx : s.ev x = .agg [.val h1, .ptr k off, .val f1]) (hy : s.ev y = .agg [.val h2, .ref nw z, .val f2]) (hk : s.ob[k]? = some (.box T' cs)) (hz : part' z.cells 0 (tk P T) = some z') (hf : z'.flat = true) (hl : z'.cells.length = tkLen (tk P T)) (hpos : 0 < tkLen (tk P T)) (hle : off + z'.cells.length ≤ cs.length)
    (hr : ∀ (ta b : Addr) (w w' : World) (v : Value), (loadVar T b).run P w = .ok v w → (storeVar T ta v).run P w = .ok () w' → (e #[.agg #[h1, .pointer (some ta), f1], .agg #[h2, .pointer (some b), f2]]).run P w = .ok (.tuple #[]) w')
    (K : ARun P ops rest (({ s with ob := s.ob.set k (.box T' (splice cs off z'.cells)) } : AS).put o.dst (.val (.tuple #[]))) Q) : AOp P ops o rest s Q := by
  refine AOp.value (s' := { s with ob := s.ob.set k (.box T' (splice cs off z'.cells)) }) (fun E ρ B a w hs => ?_) K
  have hxr := hs.ev x
  rw [hx] at hxr
  generalize hq : a.eval x = u at hxr
  have hyr := hs.ev y
  rw [hy] at hyr
  generalize hq2 : a.eval y = u2 at hyr
  cases hxr with
  | agg g1 => cases g1 with
    | cons a1 g1 => cases g1 with
      | cons a2 g1 => cases g1 with
        | cons a3 g1 =>
          cases g1
          have e1 := a1.val_eq
          have e3 := a3.val_eq
          subst e1; subst e3
          cases hyr with
          | agg g2 => cases g2 with
            | cons b1 g2 => cases g2 with
              | cons b2 g2 => cases g2 with
                | cons b3 g2 =>
                  cases g2
                  have d1 := b1.val_eq
                  have d3 := b3.val_eq
                  subst d1; subst d3
                  cases b2 with
                  | ref hc hn =>
                    rename_i bb bo
                    obtain ⟨zs, c1, c2, c3⟩ := hc.get
                    obtain ⟨zv, l1, l2⟩ := run_load_cells (P := P) (T := T) (off := 0) rfl c1 c3 hz
                    obtain ⟨b, vs, fz, r1, r2, r3, r4, r5, r6⟩ := box_cells hs hk (b := 0)
                    obtain ⟨t1, t2⟩ := l2.toCells hf
                    have hi : ∃ i, P.info? T = some i ∧ i.size = z'.cells.length := by
                      rw [hl]
                      cases ht : tk P T with
                      | scal => obtain ⟨d, i, _, hi, hs, _⟩ := tk_scal ht; exact ⟨i, hi, hs⟩
                      | aggr n => obtain ⟨d, i, _, hi, hs, _⟩ := tk_aggr ht; exact ⟨i, hi, hs⟩
                      | bad => rw [ht] at hpos; simp [tkLen] at hpos
                    obtain ⟨i, hi, hsz⟩ := hi
                    have hlen := r4.length_eq
                    have hlc := t1.length_eq
                    have hst := run_storeVar (P := P) (w := w) (t := T) (b := b) (o := off) (T := T') hi (v := zv) rfl (by rw [hsz, hlc]) r2 r3 (by omega) (t1.ones t2)
                    have hw : RS E { s with ob := s.ob.set k (.box T' (splice cs off z'.cells)) } ρ B a (setBlk w b (.cells (vs.take off ++ zv.cells.toList ++ vs.drop (off + zv.cells.toList.length)).toArray T' fz)) := by
                      obtain ⟨p1, p2, p3⟩ := hs.rw_.prv k _ _ b hk rfl r1 rfl
                      have hB : ∀ b', B b' → (setBlk w b (.cells (vs.take off ++ zv.cells.toList ++ vs.drop (off + zv.cells.toList.length)).toArray T' fz)).heap[b']? = w.heap[b']? := fun b' hb' => by
                        rw [setBlk_get _ _ _ _ p2, if_neg (by rintro rfl; exact p1 hb')]
                      refine hs.write (b := b) hk rfl r1 rfl ⟨b, _, fz, r1, by rw [setBlk_get _ _ _ _ p2, if_pos rfl], ?_, (r4.splice t1 off).mono (fun _ h => h) hB (Nat.le_refl _) (fun _ _ h => h), ?_⟩
                      · have : (vs.take off ++ zv.cells.toList ++ vs.drop (off + zv.cells.toList.length)).length = vs.length := by simp only [List.length_append, List.length_take, List.length_drop]; omega
                        rw [this]; exact r3
                      · intro c hc
                        simp only [splice, List.mem_append] at hc
                        rcases hc with (hc | hc) | hc
                        · exact r5 c (List.mem_of_mem_take hc)
                        · exact AV.oc_of (t2 c hc)
                        · exact r5 c (List.mem_of_mem_drop hc)
                    cases a2 with
                    | ptr hp =>
                      rw [r1] at hp
                      simp only [Option.some.injEq, Value.pointer.injEq, Addr.mk.injEq, and_true] at hp
                      subst hp
                      refine ⟨.tuple #[], _, ρ, B, ?_, hw, .val _⟩
                      rw [run_call_nat he ho (eval_func f), show (#[x, y] : Array Operand).map a.eval = #[a.eval x, a.eval y] by simp, hq, hq2]
                      exact congrArg (fun r : Result Value => r.andThen fun v w' => (Result.ok (Next.value v) w' : Result Next)) (hr _ _ _ _ _ l1 hst)
theorem AWp.loop2 {c : Code} (h : ∀ K : AS → Prop, (∀ s', AWp P c s' (thenQ (fun _ => False) R) → K s') → AWp P c s (thenQ K R)) : AWp P (.loop c) s R := by
  refine AWp.loop (α := Nat) (fun n s' => (n = 1 ∧ s' = s) ∨ (n = 0 ∧ AWp P c s' (thenQ (fun _ => False) R))) (fun n => n) 1 (.inl ⟨rfl, rfl⟩) ?_
  rintro n s' (⟨rfl, rfl⟩ | ⟨rfl, hk⟩)
  · refine (h (fun s' => AWp P c s' (thenQ (fun _ => False) R)) fun _ hk => hk).mono ?_
    intro e s2 q
    cases e with
    | normal => exact ⟨0, .inr ⟨rfl, q⟩, Nat.zero_lt_one⟩
    | _ => exact q
  · refine hk.mono ?_
    intro e s2 q
    cases e with
    | normal => exact q.elim
    | _ => exact q
theorem ARun2.invCM {g : FuncId} {e : Array Value → Sem Value} {recv : Operand} {name : String} {args : Array Operand} {ts : Array TypeId} {RT : TypeId} {pp pp' : Value} {p : List Oper × AS} (vs : List Value) (v : Value) (he : NatOk P g e) (hm : ∀ w, (Go.method (P.types.size + Made.depth) RT pp name).run P w = .ok (g, pp') w)
    (hr : ∀ w, (e (pp' :: vs).toArray).run P w = .ok v w) (K : ARun2 P ops p Q) (ho : o.op = .call { callee := .invoke recv name, args := args, argTypes := ts } := by rfl)
    (hg : gd ops s o = some true := by exact Go.Abs.evT) (hx : s.ev recv = .val (.iface RT pp) := by exact Go.Abs.evT) (hv : args.toList.map s.ev = vs.map AV.val := by exact Go.Abs.evT) (h : srun P ops rest (s.put o.dst (.val v)) = p := by
        exact Go.Abs.evE) : ARun2 P ops (o :: rest, s) Q :=
  ARun.exec hg (AOp.invC he hm hr ho hx hv (ARun.srun (h ▸ K)))
theorem ARun2.natVM {f : FuncId} {e : Array Value → Sem Value} {x : Operand} {ts : Array TypeId} {hh fl : Value} {nw : Bool} {y : AV} {p : List Oper × AS} (r : AV) (he : NatOk P f e)
    (hr : ∀ (w : World) (B : Nat → Prop) (bs : Nat) (ρ : List Value) (b o : Nat), RelCells w B bs ρ nw b o y.cells → ∃ v, (e #[.agg #[hh, .pointer (some ⟨b, o, none⟩), fl]]).run P w = .ok v w ∧ Rel w B bs ρ r v) (K : ARun2 P ops p Q)
    (ho : o.op = .call { callee := .value (.func f), args := #[x], argTypes := ts } := by rfl) (hg : gd ops s o = some true := by exact Go.Abs.evT) (hx : s.ev x = .agg [.val hh, .ref nw y, .val fl] := by exact Go.Abs.evT) (h : srun P ops rest (s.put o.dst r) = p := by
        exact Go.Abs.evE) : ARun2 P ops (o :: rest, s) Q :=
  ARun.exec hg (AOp.natV he ho hx hr (ARun.srun (h ▸ K)))
theorem ARun2.valueOfM {f : FuncId} {e : Array Value → Sem Value} {x : Operand} {ts : Array TypeId} {T : TypeId} {hh fl : Value} {y : AV} {p : List Oper × AS} (he : NatOk P f e)
    (hr : ∀ (w : World) (B : Nat → Prop) (bs : Nat) (ρ : List Value) (v : Value), Rel w B bs ρ y v → (e #[.iface T v]).run P w = .ok (.agg #[hh, .pointer (some ⟨w.heap.size, 0, none⟩), fl]) (w.alloc (.cells (List.toArray v.cells.toList) T))) (K : ARun2 P ops p Q)
    (ho : o.op = .call { callee := .value (.func f), args := #[x], argTypes := ts } := by rfl) (hg : gd ops s o = some true := by exact Go.Abs.evT) (hx : s.ev x = .ifc T y := by exact Go.Abs.evT) (hf : y.flat = true := by exact Go.Abs.evT) (hne : y.cells.isEmpty = false := by exact Go.Abs.evT)
    (h : srun P ops rest (s.put o.dst (.agg [.val hh, .ref true y, .val fl])) = p := by
        exact Go.Abs.evE) : ARun2 P ops (o :: rest, s) Q :=
  ARun.exec hg (AOp.valueOf he ho hx hf (by intro e; rw [e] at hne; cases hne) hr (ARun.srun (h ▸ K)))
theorem ARun2.natSetM {f : FuncId} {e : Array Value → Sem Value} {x y : Operand} {ts : Array TypeId} {T T' : TypeId} {h1 f1 h2 f2 : Value} {k off : Nat} {nw : Bool} {z z' : AV} {cs : List AV} {p : List Oper × AS} (he : NatOk P f e)
    (hr : ∀ (ta b : Addr) (w w' : World) (v : Value), (loadVar T b).run P w = .ok v w → (storeVar T ta v).run P w = .ok () w' → (e #[.agg #[h1, .pointer (some ta), f1], .agg #[h2, .pointer (some b), f2]]).run P w = .ok (.tuple #[]) w') (K : ARun2 P ops p Q)
    (ho : o.op = .call { callee := .value (.func f), args := #[x, y], argTypes := ts } := by rfl) (hg : gd ops s o = some true := by exact Go.Abs.evT) (hx : s.ev x = .agg [.val h1, .ptr k off, .val f1] := by exact Go.Abs.evT) (hy : s.ev y = .agg [.val h2, .ref nw z, .val f2] := by exact Go.Abs.evT) (hk : s.ob[k]? = some (.box T' cs) := by exact Go.Abs.evT)
    (hz : part' z.cells 0 (tk P T) = some z' := by exact Go.Abs.evT) (hf : z'.flat = true := by exact Go.Abs.evT) (hl : (decide (z'.cells.length = tkLen (tk P T)) && decide (0 < tkLen (tk P T)) && decide (off + z'.cells.length ≤ cs.length)) = true := by exact Go.Abs.evT)
    (h : srun P ops rest (({ s with ob := s.ob.set k (.box T' (splice cs off z'.cells)) } : AS).put o.dst (.val (.tuple #[]))) = p := by
        exact Go.Abs.evE) : ARun2 P ops (o :: rest, s) Q := by
  simp only [Bool.and_eq_true, decide_eq_true_eq] at hl
  exact ARun.exec hg (AOp.natSet he ho hx hy hk hz hf hl.1.1 hl.1.2 hl.2 hr (ARun.srun (h ▸ K)))
theorem AOp.invCall {g : FuncId} {recv : Operand} {name : String} {args : Array Operand} {ts : Array TypeId} {T : TypeId} {y r : AV} {ys : List AV} (ho : o.op = .call { callee := .invoke recv name, args := args, argTypes := ts }) (hx : s.ev recv = .ifc T y)
    (hm : ∀ v w, (Go.method (P.types.size + Made.depth) T v name).run P w = .ok (g, v) w) (hc : callable P g = true) (hp : PC P g ys r) (hsub : SubL (y :: args.toList.map s.ev) ys) (K : ARun P ops rest (s.put o.dst r) Q) : AOp P ops o rest s Q := by
  intro E hE ρ B a w hs Q' hQ
  have hxr := hs.ev recv
  rw [hx] at hxr
  generalize hq : a.eval recv = u at hxr
  cases hxr with
  | ifc h1 =>
    rename_i v
    have he : (execOp a.eval o).run P w = .ok (.enter g (v :: args.toList.map a.eval).toArray) w := by
      have h4 : (#[a.eval recv] ++ args.map a.eval)[0]? = some (.iface T v) := by rw [hq, Array.getElem?_append_left (by simp)]; rfl
      have h5 : (#[a.eval recv] ++ args.map a.eval).extract 1 (#[a.eval recv] ++ args.map a.eval).size = args.map a.eval := by
        apply Array.ext'; simp
        exact List.take_of_length_le (by simp)
      have hp : (program : Sem Program).run P w = .ok P w := rfl
      simp only [execOp, ho, resolve, Sem.run_bind, Sem.run_pure, Result.andThen_ok, invoke, h4, h5, callMethod, hp, hm]
      have := callFunc_run hc (#[v] ++ args.map a.eval) w
      rw [show (v :: args.toList.map a.eval).toArray = #[v] ++ args.map a.eval by apply Array.ext'; simp]
      exact this
    have hrel : RelL w B E.bs ρ (y :: args.toList.map s.ev) (v :: args.toList.map a.eval) := .cons h1 (RelL.map_ev hs _)
    refine owp_enter he ?_
    refine hp.2 E.bs w [] B _ (hE.glb.call hs.rw_ (fun _ h => h) (by intro v hv; simp at hv)) hs.rw_.callee (hsub.rel (Nat.le_refl _) hrel) _ ?_
    rintro r' v' τ' ρ' B' w' ⟨rfl, rfl⟩ hw hv
    have hρ : ρ' = [] := by have := hw.len; simpa using this
    subst hρ
    have hs' := hs.back hw
    refine ⟨v', rfl, K E hE ρ B' _ w' (hs'.put o.dst ?_) Q' hQ⟩
    refine (hv.mono (fun _ h => h) (fun _ _ => rfl) (Nat.le_refl _) (fun _ _ h => h)).ids (p := fun _ => false) ?_ hp.1
    intro _ _ h; simp at h
theorem ARun2.invCallM {g : FuncId} {recv : Operand} {name : String} {args : Array Operand} {ts : Array TypeId} {T : TypeId} {y r : AV} {ys : List AV} {p : List Oper × AS} (hp : PC P g ys r) (hm : ∀ v w, (Go.method (P.types.size + Made.depth) T v name).run P w = .ok (g, v) w) (K : ARun2 P ops p Q)
    (ho : o.op = .call { callee := .invoke recv name, args := args, argTypes := ts } := by rfl) (hg : gd ops s o = some true := by exact Go.Abs.evT) (hx : s.ev recv = .ifc T y := by exact Go.Abs.evT) (hc : callable P g = true := by exact Go.Abs.evT)
    (hsub : HandL [] (y :: args.toList.map s.ev) ys := by
      exact Go.Abs.evH)
    (h : srun P ops rest (s.put o.dst r) = p := by
        exact Go.Abs.evE) : ARun2 P ops (o :: rest, s) Q := ARun.exec hg (AOp.invCall ho hx hm hc hp (SubL.of hsub) (ARun.srun (h ▸ K)))
theorem ARun2.assertM {x : Operand} {xT aT T : TypeId} {y r : AV} {p : List Oper × AS} (F : Value → Value) (hr : ∀ v w, (Instr.typeAssert (.iface T v) xT aT true).run P w = .ok (F v) w) (hF : ∀ (w : World) (B : Nat → Prop) (bs : Nat) (ρ : List Value) (v : Value), Rel w B bs ρ (.ifc T y) (.iface T v) → Rel w B bs ρ r (F v)) (K : ARun2 P ops p Q)
    (ho : o.op = .typeAssert x xT aT true := by rfl) (hg : gd ops s o = some true := by exact Go.Abs.evT) (hx : s.ev x = .ifc T y := by exact Go.Abs.evT) (h : srun P ops rest (s.put o.dst r) = p := by
        exact Go.Abs.evE) : ARun2 P ops (o :: rest, s) Q := by
  refine ARun.exec hg (AOp.pure1 (fun E ρ B a w hs => ?_) (ARun.srun (h ▸ K)))
  have hxr := hs.ev x
  rw [hx] at hxr
  generalize hq : a.eval x = u at hxr
  have hxr' := hxr
  cases hxr with
  | ifc h1 =>
    rename_i v
    refine ⟨F v, ?_, hF _ _ _ _ _ hxr'⟩
    simp only [execOp, ho, hq]
    exact val_run (hr v w)
theorem ARun2.gloadM {T : TypeId} {g : Nat} {p : List Oper × AS} (v : Value) (hv : (g, [v]) ∈ glb) (ht : tk P T = .scal) (K : ARun2 P ops p Q) (ho : o.op = .load T (.global g) := by rfl) (hg : gd ops s o = some true := by exact Go.Abs.evT)
    (h : srun P ops rest (s.put o.dst (.val v)) = p := by
        exact Go.Abs.evE) : ARun2 P ops (o :: rest, s) Q := by
  refine ARun.exec hg ?_
  intro E hE ρ B a w hs Q' hQ
  obtain ⟨_, h2⟩ := hE.glb.now hs.rw_ _ hv
  have hcell := h2 0 v rfl
  have hl := run_loadVar_scal (P := P) ht hcell
  have hr : (execOp a.eval o).run P w = .ok (.value v) w := by
    simp only [execOp, ho]
    refine val_run ?_
    have e : a.eval (.global g) = .pointer (some ⟨g, 0, none⟩) := rfl
    simpa [Instr.loadAt, Instr.sureAddr, e] using hl
  exact owp_value hr ((ARun.srun (h ▸ K)) E hE ρ B _ w (hs.put o.dst (.val v)) Q' hQ)
theorem ARun2.natVM1 {f : FuncId} {e : Array Value → Sem Value} {x : Operand} {ts : Array TypeId} {T : TypeId} {y : AV} {v : Value} {p : List Oper × AS} (he : NatOk P f e) (hr : ∀ u w, (e #[.iface T u]).run P w = .ok v w) (K : ARun2 P ops p Q)
    (ho : o.op = .call { callee := .value (.func f), args := #[x], argTypes := ts } := by rfl) (hg : gd ops s o = some true := by exact Go.Abs.evT) (hx : s.ev x = .ifc T y := by exact Go.Abs.evT) (h : srun P ops rest (s.put o.dst (.val v)) = p := by
        exact Go.Abs.evE) : ARun2 P ops (o :: rest, s) Q := by
  refine ARun.exec hg (AOp.pure1 (fun E ρ B a w hs => ⟨v, ?_, .val _⟩) (ARun.srun (h ▸ K)))
  have hxr := hs.ev x
  rw [hx] at hxr
  generalize hq : a.eval x = u at hxr
  cases hxr with
  | ifc h1 =>
    rw [run_call_nat he ho (eval_func f), show (#[x] : Array Operand).map a.eval = #[a.eval x] by simp, hq, hr]; rfl
end
end Go.Abs
namespace Go.Proofs.YtokbbdodbjiciaaGreatDoor.C
open Go.Abs Go.Extern
abbrev HT (t : Nat) : Value := .pointer (some ⟨4, t, none⟩)
abbrev RTY (t : Nat) : Value := .iface 265 (.agg #[HT t])
theorem nat_valueOf : NatOk Tryz.prog 178 (fun args => ReflectliteValue.unpack (args.getD 0 (.tuple #[]))) := fun vs w => run_callFunc_extern (e := fun args => ReflectliteValue.unpack (args.getD 0 (.tuple #[]))) Tryz.func178 (by kernel_rfl) (by kernel_rfl) (by kernel_rfl) (by kernel_rfl) vs w
theorem nat_type : NatOk Tryz.prog 179 (ReflectliteValue.methodAny (ReflectliteValue.valueError "reflectlite.Value.Type" 0) (fun t _ _ _ => ReflectliteType.toType t)) := fun vs w => run_callFunc_extern Tryz.func179 (by kernel_rfl) (by kernel_rfl) (by kernel_rfl) (by kernel_rfl) vs w
theorem nat_isNil : NatOk Tryz.prog 180 (ReflectliteValue.method (ReflectliteValue.valueError "reflectlite.Value.IsNil" 0) ReflectliteValue.isNil) := fun vs w => run_callFunc_extern Tryz.func180 (by kernel_rfl) (by kernel_rfl) (by kernel_rfl) (by kernel_rfl) vs w
theorem nat_kind : NatOk Tryz.prog 219 (ReflectliteType.abiMethod fun t => do pure (.int .u8 (← Rtype.kind t))) := fun vs w => run_callFunc_extern Tryz.func219 (by kernel_rfl) (by kernel_rfl) (by kernel_rfl) (by kernel_rfl) vs w
theorem nat_elem : NatOk Tryz.prog 232 (ReflectliteType.method ReflectliteType.elem) := fun vs w => run_callFunc_extern Tryz.func232 (by kernel_rfl) (by kernel_rfl) (by kernel_rfl) (by kernel_rfl) vs w
theorem nat_implements : NatOk Tryz.prog 233 (ReflectliteType.relation "Implements" ReflectliteType.implements_) := fun vs w => run_callFunc_extern Tryz.func233 (by kernel_rfl) (by kernel_rfl) (by kernel_rfl) (by kernel_rfl) vs w
theorem nat_typeOf : NatOk Tryz.prog 191 ReflectliteType.typeOf := fun vs w => run_callFunc_extern Tryz.func191 (by kernel_rfl) (by kernel_rfl) (by kernel_rfl) (by kernel_rfl) vs w
theorem nat_assignable : NatOk Tryz.prog 230 (ReflectliteType.relation "AssignableTo" ReflectliteType.assignableTo) := fun vs w => run_callFunc_extern Tryz.func230 (by kernel_rfl) (by kernel_rfl) (by kernel_rfl) (by kernel_rfl) vs w
theorem nat_elemV : NatOk Tryz.prog 192 (ReflectliteValue.method (ReflectliteValue.valueError "reflectlite.Value.Elem" 0) ReflectliteValue.elem) := fun vs w => run_callFunc_extern Tryz.func192 (by kernel_rfl) (by kernel_rfl) (by kernel_rfl) (by kernel_rfl) vs w
theorem nat_set : NatOk Tryz.prog 193 ReflectliteValue.set := fun vs w => run_callFunc_extern Tryz.func193 (by kernel_rfl) (by kernel_rfl) (by kernel_rfl) (by kernel_rfl) vs w
theorem m_kind (h : Value) (w : World) : (Go.method (Tryz.prog.types.size + Made.depth) 265 (.agg #[h]) "Kind").run Tryz.prog w = .ok (219, h) w := by kernel_rfl
theorem m_elem (h : Value) (w : World) : (Go.method (Tryz.prog.types.size + Made.depth) 265 (.agg #[h]) "Elem").run Tryz.prog w = .ok (232, .agg #[h]) w := by kernel_rfl
theorem m_implements (h : Value) (w : World) : (Go.method (Tryz.prog.types.size + Made.depth) 265 (.agg #[h]) "Implements").run Tryz.prog w = .ok (233, .agg #[h]) w := by kernel_rfl
theorem m_assignable (h : Value) (w : World) : (Go.method (Tryz.prog.types.size + Made.depth) 265 (.agg #[h]) "AssignableTo").run Tryz.prog w = .ok (230, .agg #[h]) w := by kernel_rfl
theorem rlm (z : Sem Value) (f : TypeId → Addr → Nat → Nat → Sem Value) (v : Value) :
    ReflectliteValue.method z f #[v] = (do match ← ReflectliteValue.parts v with | none => z | some (t, a, fl) => f t a fl (fl % 32)) := rfl
theorem rls (v x : Value) : ReflectliteValue.set #[v, x] = (do
    let (some (dst, a, fl), some (src, b, _)) := (← ReflectliteValue.parts v, ← ReflectliteValue.parts x)
      | unsupported (.noEntry "extern/(internal/reflectlite.Value).Set.zeroValue")
    if fl / ReflectliteValue.flagAddr % 2 == 0 then unsupported (.noEntry "extern/(internal/reflectlite.Value).Set.unaddressable")
    let val ← loadVar src b
    if ← Rtype.directlyAssignable dst src then storeVar dst a val
    else if ← Rtype.implements dst src then
      if (← Rtype.kind src) == 20 then
        match val with
        | .nilIface => unsupported (.noEntry "extern/reflectlite: a nil value of one interface type handed on as a value of another")
        | _ => storeVar dst a val
      else storeVar dst a (.iface src val)
    else panicString ("reflectlite.Set: value of type " ++ (← Rtype.spelt src) ++ " is not assignable to type " ++ (← Rtype.spelt dst))
    pure (.tuple #[])) := rfl
theorem pv_Code (w : World) (B : Nat → Prop) (bs : Nat) (ρ : List Value) (k off : Nat) (v : Value) (h : Rel w B bs ρ (.ptr k off) v) : ((fun args : Array Value => ReflectliteValue.unpack (args.getD 0 (.tuple #[]))) #[.iface 217 v]).run Tryz.prog w = .ok (.agg #[HT 217, .pointer (some ⟨w.heap.size, 0, none⟩), .int .u64 150]) (w.alloc (.cells (List.toArray v.cells.toList) 217)) := by
  cases h; kernel_rfl
theorem ty_Code (a : Addr) (w : World) : (ReflectliteValue.methodAny (ReflectliteValue.valueError "reflectlite.Value.Type" 0) (fun t _ _ _ => ReflectliteType.toType t) #[.agg #[HT 217, .pointer (some a), .int .u64 150]]).run Tryz.prog w = .ok (RTY 217) w := by kernel_rfl
theorem pk_Code (w : World) : ((ReflectliteType.abiMethod fun t => do pure (.int .u8 (← Rtype.kind t))) #[HT 217]).run Tryz.prog w = .ok (.int .u8 22) w := by kernel_rfl
theorem kd_Code (w : World) : ((ReflectliteType.abiMethod fun t => do pure (.int .u8 (← Rtype.kind t))) #[HT 136]).run Tryz.prog w = .ok (.int .u8 2) w := by kernel_rfl
theorem el_Code (w : World) : (ReflectliteType.method ReflectliteType.elem #[.agg #[HT 217]]).run Tryz.prog w = .ok (RTY 136) w := by kernel_rfl
theorem im_Code (w : World) : (ReflectliteType.relation "Implements" ReflectliteType.implements_ #[.agg #[HT 136], RTY 76]).run Tryz.prog w = .ok (.bool true) w := by kernel_rfl
theorem to_Code (v : Value) (w : World) : (ReflectliteType.typeOf #[.iface 136 v]).run Tryz.prog w = .ok (RTY 136) w := by kernel_rfl
theorem as_Code (w : World) : (ReflectliteType.relation "AssignableTo" ReflectliteType.assignableTo #[.agg #[HT 136], RTY 136]).run Tryz.prog w = .ok (.bool true) w := by kernel_rfl
theorem parts_Code (a : Addr) (w : World) : (ReflectliteValue.parts (.agg #[HT 217, .pointer (some a), .int .u64 150])).run Tryz.prog w = .ok (some (217, a, 150)) w := by kernel_rfl
theorem partsA_Code (a : Addr) (w : World) : (ReflectliteValue.parts (.agg #[HT 136, .pointer (some a), .int .u64 386])).run Tryz.prog w = .ok (some (136, a, 386)) w := by kernel_rfl
theorem partsV_Code (a : Addr) (w : World) : (ReflectliteValue.parts (.agg #[HT 136, .pointer (some a), .int .u64 130])).run Tryz.prog w = .ok (some (136, a, 130)) w := by kernel_rfl
theorem direct_Code (w : World) : (Rtype.directlyAssignable 136 136).run Tryz.prog w = .ok true w := by kernel_rfl
theorem elemOf_Code (w : World) : (Rtype.elem? 217).run Tryz.prog w = .ok (some 136) w := by kernel_rfl
theorem mk_Code (p : Addr) (w : World) : (ReflectliteValue.mk 136 p ReflectliteValue.flagAddr).run Tryz.prog w = .ok (.agg #[HT 136, .pointer (some p), .int .u64 386]) w := by kernel_rfl
theorem ty1_Code (y : AV) (nw : Bool) (w : World) (B : Nat → Prop) (bs : Nat) (ρ : List Value) (b o : Nat) (h : RelCells w B bs ρ nw b o y.cells) : ∃ v, (ReflectliteValue.methodAny (ReflectliteValue.valueError "reflectlite.Value.Type" 0) (fun t _ _ _ => ReflectliteType.toType t) #[.agg #[HT 217, .pointer (some ⟨b, o, none⟩), .int .u64 150]]).run Tryz.prog w = .ok v w ∧ Rel w B bs ρ (.val (RTY 217)) v :=
  ⟨_, ty_Code _ w, .val _⟩
theorem nil_Code (k off : Nat) (nw : Bool) (w : World) (B : Nat → Prop) (bs : Nat) (ρ : List Value) (b o : Nat) (h : RelCells w B bs ρ nw b o (AV.ptr k off).cells) : ∃ v, (ReflectliteValue.method (ReflectliteValue.valueError "reflectlite.Value.IsNil" 0) ReflectliteValue.isNil #[.agg #[HT 217, .pointer (some ⟨b, o, none⟩), .int .u64 150]]).run Tryz.prog w = .ok v w ∧ Rel w B bs ρ (.val (.bool false)) v := by
  cases h with
  | cons h1 h2 h3 h4 h5 h6 =>
    cases h5 with
    | ptr hp =>
      refine ⟨.bool false, ?_, .val _⟩
      rw [rlm]
      simp only [Sem.run_bind, parts_Code, Result.andThen]
      simp [ReflectliteValue.isNil, loadVar, isAgg, underlying, Tryz.underlying217, h3, Result.andThen]
theorem ev_Code (k off : Nat) (nw : Bool) (w : World) (B : Nat → Prop) (bs : Nat) (ρ : List Value) (b o : Nat) (h : RelCells w B bs ρ nw b o (AV.ptr k off).cells) : ∃ v, (ReflectliteValue.method (ReflectliteValue.valueError "reflectlite.Value.Elem" 0) ReflectliteValue.elem #[.agg #[HT 217, .pointer (some ⟨b, o, none⟩), .int .u64 150]]).run Tryz.prog w = .ok v w ∧ Rel w B bs ρ (.agg [.val (HT 136), .ptr k off, .val (.int .u64 386)]) v := by
  cases h with
  | cons h1 h2 h3 h4 h5 h6 =>
    cases h5 with
    | ptr hp =>
      refine ⟨_, ?_, .agg (.cons (.val _) (.cons (.ptr hp) (.cons (.val _) .nil)))⟩
      rw [rlm]
      simp only [Sem.run_bind, parts_Code, Result.andThen]
      simp [ReflectliteValue.elem, loadVar, isAgg, underlying, Tryz.underlying217, h3, Result.andThen, elemOf_Code, mk_Code]
theorem set_Code (ta b : Addr) (w w' : World) (v : Value) (h1 : (loadVar 136 b).run Tryz.prog w = .ok v w) (h2 : (storeVar 136 ta v).run Tryz.prog w = .ok () w') :
    (ReflectliteValue.set #[.agg #[HT 136, .pointer (some ta), .int .u64 386], .agg #[HT 136, .pointer (some b), .int .u64 130]]).run Tryz.prog w = .ok (.tuple #[]) w' := by
  rw [rls]
  simp only [Sem.run_bind, partsA_Code, partsV_Code, Result.andThen]
  simp [ReflectliteValue.flagAddr, h1, Result.andThen, direct_Code, h2]
theorem pv_Fault (w : World) (B : Nat → Prop) (bs : Nat) (ρ : List Value) (k off : Nat) (v : Value) (h : Rel w B bs ρ (.ptr k off) v) : ((fun args : Array Value => ReflectliteValue.unpack (args.getD 0 (.tuple #[]))) #[.iface 218 v]).run Tryz.prog w = .ok (.agg #[HT 218, .pointer (some ⟨w.heap.size, 0, none⟩), .int .u64 150]) (w.alloc (.cells (List.toArray v.cells.toList) 218)) := by
  cases h; kernel_rfl
theorem ty_Fault (a : Addr) (w : World) : (ReflectliteValue.methodAny (ReflectliteValue.valueError "reflectlite.Value.Type" 0) (fun t _ _ _ => ReflectliteType.toType t) #[.agg #[HT 218, .pointer (some a), .int .u64 150]]).run Tryz.prog w = .ok (RTY 218) w := by kernel_rfl
theorem pk_Fault (w : World) : ((ReflectliteType.abiMethod fun t => do pure (.int .u8 (← Rtype.kind t))) #[HT 218]).run Tryz.prog w = .ok (.int .u8 22) w := by kernel_rfl
theorem kd_Fault (w : World) : ((ReflectliteType.abiMethod fun t => do pure (.int .u8 (← Rtype.kind t))) #[HT 187]).run Tryz.prog w = .ok (.int .u8 25) w := by kernel_rfl
theorem el_Fault (w : World) : (ReflectliteType.method ReflectliteType.elem #[.agg #[HT 218]]).run Tryz.prog w = .ok (RTY 187) w := by kernel_rfl
theorem im_Fault (w : World) : (ReflectliteType.relation "Implements" ReflectliteType.implements_ #[.agg #[HT 187], RTY 76]).run Tryz.prog w = .ok (.bool true) w := by kernel_rfl
theorem to_Fault (v : Value) (w : World) : (ReflectliteType.typeOf #[.iface 187 v]).run Tryz.prog w = .ok (RTY 187) w := by kernel_rfl
theorem as_Fault (w : World) : (ReflectliteType.relation "AssignableTo" ReflectliteType.assignableTo #[.agg #[HT 187], RTY 187]).run Tryz.prog w = .ok (.bool true) w := by kernel_rfl
theorem parts_Fault (a : Addr) (w : World) : (ReflectliteValue.parts (.agg #[HT 218, .pointer (some a), .int .u64 150])).run Tryz.prog w = .ok (some (218, a, 150)) w := by kernel_rfl
theorem partsA_Fault (a : Addr) (w : World) : (ReflectliteValue.parts (.agg #[HT 187, .pointer (some a), .int .u64 409])).run Tryz.prog w = .ok (some (187, a, 409)) w := by kernel_rfl
theorem partsV_Fault (a : Addr) (w : World) : (ReflectliteValue.parts (.agg #[HT 187, .pointer (some a), .int .u64 153])).run Tryz.prog w = .ok (some (187, a, 153)) w := by kernel_rfl
theorem direct_Fault (w : World) : (Rtype.directlyAssignable 187 187).run Tryz.prog w = .ok true w := by kernel_rfl
theorem elemOf_Fault (w : World) : (Rtype.elem? 218).run Tryz.prog w = .ok (some 187) w := by kernel_rfl
theorem mk_Fault (p : Addr) (w : World) : (ReflectliteValue.mk 187 p ReflectliteValue.flagAddr).run Tryz.prog w = .ok (.agg #[HT 187, .pointer (some p), .int .u64 409]) w := by kernel_rfl
theorem ty1_Fault (y : AV) (nw : Bool) (w : World) (B : Nat → Prop) (bs : Nat) (ρ : List Value) (b o : Nat) (h : RelCells w B bs ρ nw b o y.cells) : ∃ v, (ReflectliteValue.methodAny (ReflectliteValue.valueError "reflectlite.Value.Type" 0) (fun t _ _ _ => ReflectliteType.toType t) #[.agg #[HT 218, .pointer (some ⟨b, o, none⟩), .int .u64 150]]).run Tryz.prog w = .ok v w ∧ Rel w B bs ρ (.val (RTY 218)) v :=
  ⟨_, ty_Fault _ w, .val _⟩
theorem nil_Fault (k off : Nat) (nw : Bool) (w : World) (B : Nat → Prop) (bs : Nat) (ρ : List Value) (b o : Nat) (h : RelCells w B bs ρ nw b o (AV.ptr k off).cells) : ∃ v, (ReflectliteValue.method (ReflectliteValue.valueError "reflectlite.Value.IsNil" 0) ReflectliteValue.isNil #[.agg #[HT 218, .pointer (some ⟨b, o, none⟩), .int .u64 150]]).run Tryz.prog w = .ok v w ∧ Rel w B bs ρ (.val (.bool false)) v := by
  cases h with
  | cons h1 h2 h3 h4 h5 h6 =>
    cases h5 with
    | ptr hp =>
      refine ⟨.bool false, ?_, .val _⟩
      rw [rlm]
      simp only [Sem.run_bind, parts_Fault, Result.andThen]
      simp [ReflectliteValue.isNil, loadVar, isAgg, underlying, Tryz.underlying218, h3, Result.andThen]
theorem ev_Fault (k off : Nat) (nw : Bool) (w : World) (B : Nat → Prop) (bs : Nat) (ρ : List Value) (b o : Nat) (h : RelCells w B bs ρ nw b o (AV.ptr k off).cells) : ∃ v, (ReflectliteValue.method (ReflectliteValue.valueError "reflectlite.Value.Elem" 0) ReflectliteValue.elem #[.agg #[HT 218, .pointer (some ⟨b, o, none⟩), .int .u64 150]]).run Tryz.prog w = .ok v w ∧ Rel w B bs ρ (.agg [.val (HT 187), .ptr k off, .val (.int .u64 409)]) v := by
  cases h with
  | cons h1 h2 h3 h4 h5 h6 =>
    cases h5 with
    | ptr hp =>
      refine ⟨_, ?_, .agg (.cons (.val _) (.cons (.ptr hp) (.cons (.val _) .nil)))⟩
      rw [rlm]
      simp only [Sem.run_bind, parts_Fault, Result.andThen]
      simp [ReflectliteValue.elem, loadVar, isAgg, underlying, Tryz.underlying218, h3, Result.andThen, elemOf_Fault, mk_Fault]
theorem set_Fault (ta b : Addr) (w w' : World) (v : Value) (h1 : (loadVar 187 b).run Tryz.prog w = .ok v w) (h2 : (storeVar 187 ta v).run Tryz.prog w = .ok () w') :
    (ReflectliteValue.set #[.agg #[HT 187, .pointer (some ta), .int .u64 409], .agg #[HT 187, .pointer (some b), .int .u64 153]]).run Tryz.prog w = .ok (.tuple #[]) w' := by
  rw [rls]
  simp only [Sem.run_bind, partsA_Fault, partsV_Fault, Result.andThen]
  simp [ReflectliteValue.flagAddr, h1, Result.andThen, direct_Fault, h2]
theorem as_mix (w : World) : (ReflectliteType.relation "AssignableTo" ReflectliteType.assignableTo #[.agg #[HT 187], RTY 136]).run Tryz.prog w = .ok (.bool false) w := by kernel_rfl
theorem as_mix2 (w : World) : (ReflectliteType.relation "AssignableTo" ReflectliteType.assignableTo #[.agg #[HT 136], RTY 187]).run Tryz.prog w = .ok (.bool false) w := by kernel_rfl
theorem vv_Code (c : Nat) (w : World) (B : Nat → Prop) (bs : Nat) (ρ : List Value) (v : Value) (h : Rel w B bs ρ (nat c) v) : ((fun args : Array Value => ReflectliteValue.unpack (args.getD 0 (.tuple #[]))) #[.iface 136 v]).run Tryz.prog w = .ok (.agg #[HT 136, .pointer (some ⟨w.heap.size, 0, none⟩), .int .u64 130]) (w.alloc (.cells (List.toArray v.cells.toList) 136)) := by
  cases h; kernel_rfl
theorem vv_Fault (c i : Nat) (w : World) (B : Nat → Prop) (bs : Nat) (ρ : List Value) (v : Value) (h : Rel w B bs ρ (.agg [nat c, nat i]) v) : ((fun args : Array Value => ReflectliteValue.unpack (args.getD 0 (.tuple #[]))) #[.iface 187 v]).run Tryz.prog w = .ok (.agg #[HT 187, .pointer (some ⟨w.heap.size, 0, none⟩), .int .u64 153]) (w.alloc (.cells (List.toArray v.cells.toList) 187)) := by
  cases h with
  | agg h => cases h with
    | cons a h => cases h with
      | cons b h => cases h; cases a; cases b; kernel_rfl
end Go.Proofs.YtokbbdodbjiciaaGreatDoor.C
