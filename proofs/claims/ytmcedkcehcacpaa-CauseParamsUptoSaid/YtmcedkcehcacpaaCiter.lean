/- wire: iterators. -/
import Derived.Test.YtmcedkcehcacpaaCwire
set_option linter.unusedVariables false
set_option linter.unusedSimpArgs false
namespace Go.Proofs.Ytmcedkcehcacpaa.C
open Go.Abs

def cdiv (n k : Nat) : Nat := (n + k - 1) / k
def chunks (k : Nat) (l : List UInt8) : List (List UInt8) := (List.range (cdiv l.length k)).map fun i => (l.drop (i * k)).take k
def chunkYs (k : Nat) (l : List UInt8) : List (List AV) := (chunks k l).map fun c => [.sl false 1 (bys c)]

theorem cdiv_lt {n k i : Nat} (hk : 0 < k) : i < cdiv n k ↔ i * k < n := by
  unfold cdiv
  rw [Nat.lt_div_iff_mul_lt hk]
  constructor <;> intro h <;> omega

theorem chunk_eq (k : Nat) (l : List UInt8) (i : Nat) : (l.take (i * k + min k (l.length - i * k))).drop (i * k) = (l.drop (i * k)).take k := by
  rw [List.drop_take, Nat.add_sub_cancel_left, ← List.length_drop]
  rcases Nat.le_total k (l.drop (i * k)).length with h | h
  · rw [Nat.min_eq_left h]
  · rw [Nat.min_eq_right h, List.take_of_length_le (Nat.le_refl _), List.take_of_length_le h]

theorem chunkYs_get {k : Nat} {l : List UInt8} {i : Nat} (h : i < cdiv l.length k) : (chunkYs k l)[i]? = some [.sl false 1 (bys ((l.drop (i * k)).take k))] := by
  simp [chunkYs, chunks, h]

theorem chunkYs_split {k : Nat} {l : List UInt8} {i : Nat} (h : i < cdiv l.length k) : chunkYs k l = (chunkYs k l).take i ++ [.sl false 1 (bys ((l.drop (i * k)).take k))] :: (chunkYs k l).drop (i + 1) := by
  obtain ⟨h1, h2⟩ := List.getElem?_eq_some_iff.1 (chunkYs_get h)
  rw [← h2, ← List.drop_eq_getElem_cons h1, List.take_append_drop]

theorem chunk_iter (k : Nat) (l : List UInt8) (hk0 : 0 < k) (hk : k ≤ 2 ^ 60) (hl : l.length ≤ 2 ^ 40) :
    IterC Try.prog 61 [.ref false (.agg [.sl false 1 (bys l)]), .ref false (.agg [nat k])] (chunkYs k l) := by
  refine IterC.of_body Try.func61 rfl (by rw [Try.ntmps61]; simp) fun lb => ?_
  refine AWp.regionW ?_
  refine AWp.block ?_
  refine AWp.loopKT [0, 1, 2] (fun (i : Nat) => [(4, nat (i * k))]) (fun i => []) (fun i => (chunkYs k l).take i) (fun i => i ≤ cdiv l.length k) (fun i => cdiv l.length k - i) (0) ?_ (Nat.zero_le _) ?_
  · skip
    refine Le.m 0 ?_ ?_ ?_
    · first | with_reducible rfl | (simp only [push_cast, reduceIte, Nat.reduceEqDiff, Nat.reduceLT, Nat.reduceAdd, Nat.reduceSub, Nat.reduceMul, Nat.reduceLeDiff, Nat.reducePow, Int.reduceLT, Int.reduceToNat, reduceCtorEq, Int.reduceNeg, Int.reduceEq, Nat.reduceBEq, Nat.reduceBNe, Int.reduceBEq, Int.reduceBNe, String.reduceEq]; first | done | rfl | (simp (disch := omega) only [w_nat, w_add, w_addl, w_addr, w_sub, w_subl, w_mul, w_mull, w_mulr, w_u32, w_u16, w_u8, w_u32a, N_zero]; first | done | rfl))
    · simp only [push_cast, reduceIte, Nat.reduceEqDiff, Nat.reduceLT, Nat.reduceAdd, Nat.reduceSub, Nat.reduceMul, Nat.reduceLeDiff, Nat.reducePow, Int.reduceLT, Int.reduceToNat, reduceCtorEq, Int.reduceNeg, Int.reduceEq, Nat.reduceBEq, Nat.reduceBNe, Int.reduceBEq, Int.reduceBNe, String.reduceEq]
      try simp (disch := omega) only [w_nat, w_add, w_addl, w_addr, w_sub, w_subl, w_mul, w_mull, w_mulr, w_u32, w_u16, w_u8, w_u32a, N_zero]
      simp only [Nat.zero_mul]; rfl
    · exact ⟨rfl, rfl, rfl, rfl, by simp, rfl⟩
  · intro i hi K1 hK1
    refine AWp.seqK fun K2 hK2 => ?_
    refine AWp.regionW ?_
    refine AWp.condLM (fun c0 => ?_) (fun c0 => ?_)
    · skip
      have hil : i * k < l.length := of_decide_eq_true c0
      have hi' : i < cdiv l.length k := (cdiv_lt hk0).2 hil
      refine AWp.skip ?_
      refine hK2 _ ?_
      refine AWp.seqK fun K3 hK3 => ?_
      refine AWp.block ?_
      refine AWp.drS [[(2, none)], [(1, none)], [(4, none)], [(14, some 1), (15, some 2)], [(16, some 3)], [(13, some 0), (17, some 4)], [(18, some 5)]] fun G hG => ?_
      refine Dr.sim ?_
      refine Dr.sim ?_
      refine Dr.sim ?_
      refine Dr.sliceLo (i * k) ?_ ?_
      · rw [bys_len]; omega
      refine Dr.sim ?_
      refine Dr.imin ?_
      refine Dr.sim ?_
      refine Dr.finM (n := 7) [(5, 6)] [0, 1, 2, 4] hG Ytmcedkcehcacpaa.Facts.mixed fun KD hKD => ?_
      refine ARun2.endm (hKD _ ?_); clear hKD KD hG G
      refine AWp.regionM fun K4 hK4 => ?_
      refine ARun2.slice3M (i * k) (i * k + min k (l.length - i * k)) ?_ ?_ ?_
      · omega
      · rw [bys_len]; omega
      rw [chunk_eq k l i]
      refine ARun2.yieldM (x := [.sl false 1 (bys ((l.drop (i * k)).take k))]) ((chunkYs k l).drop (i + 1)) (chunkYs_split hi') fun b => ?_
      refine ARun2.endm (hK4 _ ?_)
      refine AWp.condLM (fun c1 => ?_) (fun c1 => ?_)
      · skip
        have hb : b = false := by simpa using c1
        subst hb
        refine AWp.ret ?_
        try simp only [thenQ, blockQ]
        refine bodyQ.m ?_
        clear hK4 K4 hK3 K3 hK2 K2 hK1 K1
        exact ⟨fun h => (by cases h), fun _ => ⟨(chunkYs k l).drop (i + 1), (chunkYs_split hi').trans (by simp [AS.lit])⟩⟩
      · skip
        have hb : b = true := by simpa using c1
        subst hb
        refine AWp.skip ?_
        refine hK3 _ ?_
        refine AWp.regionV ?_
        refine hK1 _ (i + 1) (hi') (by omega) ?_
        refine Le.m 0 ?_ ?_ ?_
        · first | with_reducible rfl | (simp only [push_cast, reduceIte, Nat.reduceEqDiff, Nat.reduceLT, Nat.reduceAdd, Nat.reduceSub, Nat.reduceMul, Nat.reduceLeDiff, Nat.reducePow, Int.reduceLT, Int.reduceToNat, reduceCtorEq, Int.reduceNeg, Int.reduceEq, Nat.reduceBEq, Nat.reduceBNe, Int.reduceBEq, Int.reduceBNe, String.reduceEq]; first | done | rfl | (simp (disch := omega) only [w_nat, w_add, w_addl, w_addr, w_sub, w_subl, w_mul, w_mull, w_mulr, w_u32, w_u16, w_u8, w_u32a, N_zero]; first | done | rfl))
        · simp only [push_cast, reduceIte, Nat.reduceEqDiff, Nat.reduceLT, Nat.reduceAdd, Nat.reduceSub, Nat.reduceMul, Nat.reduceLeDiff, Nat.reducePow, Int.reduceLT, Int.reduceToNat, reduceCtorEq, Int.reduceNeg, Int.reduceEq, Nat.reduceBEq, Nat.reduceBNe, Int.reduceBEq, Int.reduceBNe, String.reduceEq]
          try simp (disch := omega) only [w_nat, w_add, w_addl, w_addr, w_sub, w_subl, w_mul, w_mull, w_mulr, w_u32, w_u16, w_u8, w_u32a, N_zero]
          rw [Nat.add_mul, Nat.one_mul]
        · refine ⟨rfl, rfl, rfl, rfl, ?_, rfl⟩
          show (chunkYs k l).take (i + 1) = (chunkYs k l).take i ++ [_]
          obtain ⟨h1, h2⟩ := List.getElem?_eq_some_iff.1 (chunkYs_get hi')
          rw [List.take_succ_eq_append_getElem h1, h2]
    · skip
      have hie : i = cdiv l.length k := by
        have h1 : ¬ i * k < l.length := of_decide_eq_false c0
        have := mt (cdiv_lt hk0 (n := l.length) (i := i)).1 h1
        omega
      subst hie
      refine AWp.exit ?_
      simp only [thenQ, blockQ, reduceIte, Nat.reduceEqDiff]
      try simp only [thenQ, blockQ]
      refine bodyQ.n ?_
      clear hK2 K2 hK1 K1
      exact ⟨fun _ => List.take_of_length_le (by simp [chunkYs, chunks]), fun h => (by cases h)⟩

theorem chunk_c (k : Nat) (l : List UInt8) (hk : 0 < k) : PC Try.prog 53 [.sl false 1 (bys l), nat k] (.fn (.func 61) [] [.ref true (.agg [.sl false 1 (bys l)]), .ref true (.agg [nat k])]) := by
  refine PC.of_body (by simp only [push_cast]) Try.func53 rfl (by rw [Try.ntmps53]; simp) ?_
  refine AWp.regionW ?_
  refine AWp.seqK fun K1 hK1 => ?_
  refine AWp.regionW ?_
  refine AWp.condF ?_ (by simp only [push_cast, reduceIte, Nat.reduceEqDiff, Nat.reduceLT, Nat.reduceAdd, Nat.reduceSub, Nat.reduceMul, Nat.reduceLeDiff, Nat.reducePow, Int.reduceLT, Int.reduceToNat, reduceCtorEq, Int.reduceNeg, Int.reduceEq, Nat.reduceBEq, Nat.reduceBNe, Int.reduceBEq, Int.reduceBNe, String.reduceEq]; rw [decide_eq_false (by omega)])
  refine AWp.skip ?_
  refine hK1 _ ?_
  refine AWp.regionW ?_
  refine AWp.pubBox 0 rfl (Nat.le_refl _) rfl (by simp) ?_
  refine AWp.pubBox 1 rfl (Nat.zero_le _) rfl (by simp) ?_
  simp only [push_cast, reduceIte, Nat.reduceEqDiff, Nat.reduceLT, Nat.reduceAdd, Nat.reduceSub, Nat.reduceMul, Nat.reduceLeDiff, Nat.reducePow, Int.reduceLT, Int.reduceToNat, reduceCtorEq, Int.reduceNeg, Int.reduceEq, Nat.reduceBEq, Nat.reduceBNe, Int.reduceBEq, Int.reduceBNe, String.reduceEq]
  refine AWp.ret ?_
  try simp only [thenQ, blockQ]
  refine bodyQ.m ?_
  clear hK1 K1
  rfl

theorem numbers_c (k : Nat) (l : List UInt8) : PC Try.prog 43 [nat k, .sl false 1 (bys l)] (.fn (.func 52) [] [.ref true (.agg [.sl false 1 (bys l)]), .ref true (.agg [nat k])]) := by
  refine PC.of_body (by simp only [push_cast]) Try.func43 rfl (by rw [Try.ntmps43]; simp) ?_
  refine AWp.regionW ?_
  refine AWp.regionW ?_
  refine AWp.pubBox 0 rfl (Nat.le_refl _) rfl (by simp) ?_
  refine AWp.pubBox 1 rfl (Nat.zero_le _) rfl (by simp) ?_
  simp only [push_cast, reduceIte, Nat.reduceEqDiff, Nat.reduceLT, Nat.reduceAdd, Nat.reduceSub, Nat.reduceMul, Nat.reduceLeDiff, Nat.reducePow, Int.reduceLT, Int.reduceToNat, reduceCtorEq, Int.reduceNeg, Int.reduceEq, Nat.reduceBEq, Nat.reduceBNe, Int.reduceBEq, Int.reduceBNe, String.reduceEq]
  refine AWp.ret ?_
  try simp only [thenQ, blockQ]
  refine bodyQ.m ?_
  rfl

/-- the number that bytes are, the greatest first -/
def beN (l : List UInt8) : Nat := l.foldl (fun x b => x * 256 + b.toNat) 0
/-- the numbers in bytes -/
def numsOf (k : Nat) (l : List UInt8) : List Nat := (List.range (l.length / k)).map fun i => beN ((l.drop (i * k)).take k)
def numYs (k : Nat) (l : List UInt8) : List (List AV) := (numsOf k l).map fun n => [u32 n]

theorem shl8 {x : Nat} (h : x < 2 ^ 24) : IntKind.u32.wrap (N x * 2 ^ min 8 IntKind.u32.bits) = N (x * 256) := by
  have h2 : IntKind.u32.bits = 32 := rfl
  rw [h2, IntKind.wrap_u32]
  have : (2 : Int) ^ min 8 32 = 256 := rfl
  rw [this]
  unfold N
  omega

theorem or8 {x : Nat} {b : UInt8} (h : x < 2 ^ 24) : bitsV .or .u32 (N (x * 256)) (N b.toNat) = N (x * 256 + b.toNat) := by
  have hb : b.toNat < 256 := b.toNat_lt
  unfold N
  have h1 : (BitVec.ofInt 32 ((x * 256 : Nat) : Int)).toNat = x * 256 := by rw [BitVec.toNat_ofInt]; omega
  have h2 : (BitVec.ofInt 32 (b.toNat : Int)).toNat = b.toNat := by rw [BitVec.toNat_ofInt]; omega
  show IntKind.u32.wrap ((BitVec.ofInt 32 ((x * 256 : Nat) : Int) ||| BitVec.ofInt 32 (b.toNat : Int)).toNat : Nat) = _
  rw [BitVec.toNat_or, h1, h2]
  have h3 : x * 256 ||| b.toNat = x * 256 + b.toNat := by
    have := Nat.shiftLeft_add_eq_or_of_lt (i := 8) (b := b.toNat) (by omega) x
    rw [Nat.shiftLeft_eq, show (2 : Nat) ^ 8 = 256 from rfl] at this
    omega
  rw [h3, IntKind.wrap_u32]
  omega

theorem beN_lt : ∀ (l : List UInt8), beN l < 256 ^ l.length := by
  intro l
  have key : ∀ (l : List UInt8) (x : Nat), l.foldl (fun x b => x * 256 + b.toNat) x + 1 ≤ (x + 1) * 256 ^ l.length := by
    intro l
    induction l with
    | nil => intro x; simp
    | cons b l ih =>
      intro x
      have hb : b.toNat < 256 := b.toNat_lt
      refine Nat.le_trans (ih _) ?_
      rw [List.length_cons, Nat.pow_succ, Nat.mul_comm (256 ^ l.length) 256, ← Nat.mul_assoc]
      refine Nat.mul_le_mul_right _ ?_
      show x * 256 + b.toNat + 1 ≤ (x + 1) * 256
      omega
  have := key l 0
  simp only [beN]; omega

theorem beN_snoc (l : List UInt8) (b : UInt8) : beN (l ++ [b]) = beN l * 256 + b.toNat := by simp [beN]

theorem numYs_len (k : Nat) (l : List UInt8) : (numYs k l).length = (numsOf k l).length := by simp [numYs]
theorem chunkYs_len (k : Nat) (l : List UInt8) : (chunkYs k l).length = cdiv l.length k := by simp [chunkYs, chunks]
theorem nums_len (k : Nat) (l : List UInt8) : (numsOf k l).length = l.length / k := by simp [numsOf]
theorem nums_le (k : Nat) (l : List UInt8) (hk : 0 < k) : (numsOf k l).length ≤ cdiv l.length k := by
  rw [nums_len]; exact Nat.div_le_div_right (by omega)
theorem numYs_get {k : Nat} {l : List UInt8} {i : Nat} (h : i < l.length / k) : (numYs k l)[i]? = some [u32 (beN ((l.drop (i * k)).take k))] := by
  simp [numYs, numsOf, h]
theorem numYs_split {k : Nat} {l : List UInt8} {i : Nat} (h : i < l.length / k) : numYs k l = (numYs k l).take i ++ [u32 (beN ((l.drop (i * k)).take k))] :: (numYs k l).drop (i + 1) := by
  obtain ⟨h1, h2⟩ := List.getElem?_eq_some_iff.1 (numYs_get h)
  rw [← h2, ← List.drop_eq_getElem_cons h1, List.take_append_drop]

theorem numbers_iter (k : Nat) (l : List UInt8) (hk : k = 1 ∨ k = 2 ∨ k = 4) (hl : l.length ≤ 2 ^ 40) :
    IterC Try.prog 52 [.ref false (.agg [.sl false 1 (bys l)]), .ref false (.agg [nat k])] (numYs k l) := by
  have hk0 : 0 < k := by omega
  refine IterC.of_body Try.func52 rfl (by rw [Try.ntmps52]; simp) fun lb => ?_
  refine AWp.regionW ?_
  refine AWp.regionM fun K1 hK1 => ?_
  refine ARun2.callM (chunk_c k l hk0) ?_
  refine ARun2.endm (hK1 _ ?_)
  refine AWp.block ?_
  refine AWp.rangeFuncM (chunk_iter k l hk0 (by omega) hl) [2, 3] (fun pre ob tr go => ob = [.box 84 [.val (.func (.yield lb) #[] #[])]] ∧ go = true ∧ tr = (numYs k l).take pre.length ∧ pre.length ≤ cdiv l.length k) (fun e ob tr go => e = .ret ∧ ob = [.box 84 [.val (.func (.yield lb) #[] #[])]] ∧ Fin (numYs k l) tr go) ?_ ?_ ?_ ?_ ?_
  · intro x hx
    simp only [chunkYs, List.mem_map] at hx
    obtain ⟨c, _, rfl⟩ := hx
    rfl
  · exact ⟨rfl, rfl, rfl, Nat.zero_le _⟩
  · rintro pre x post ob tr go hxs ⟨rfl, rfl, rfl, hle⟩
    have hpl : pre.length < cdiv l.length k := by rw [← chunkYs_len k l, hxs]; simp
    have hx : (chunkYs k l)[pre.length]? = some x := by rw [hxs]; simp
    rw [chunkYs_get hpl] at hx
    simp only [Option.some.injEq] at hx
    subst hx
    generalize hch : (l.drop (pre.length * k)).take k = c at hxs ⊢
    have hcl : c.length ≤ k := by rw [← hch]; exact List.length_take_le _ _
    have hcl2 : c.length = min k (l.length - pre.length * k) := by rw [← hch, List.length_take, List.length_drop]
    refine AWp.regionV ?_
    change AWp _ _ _ _
    refine AWp.block ?_
    refine AWp.regionW ?_
    refine AWp.seqK fun K2 hK2 => ?_
    refine AWp.regionW ?_
    refine AWp.block ?_
    refine AWp.loopK0 [2, 3, 4, 12, 13] (fun (j : Nat) => [(14, nat j), (5, u32 (beN (c.take j)))]) (fun j => j ≤ c.length) (fun j => c.length - j) (0) ?_ (Nat.zero_le _) ?_
    · skip
      refine Le.m 1 ?_ ?_
      · first | with_reducible rfl | (simp only [push_cast, reduceIte, Nat.reduceEqDiff, Nat.reduceLT, Nat.reduceAdd, Nat.reduceSub, Nat.reduceMul, Nat.reduceLeDiff, Nat.reducePow, Int.reduceLT, Int.reduceToNat, reduceCtorEq, Int.reduceNeg, Int.reduceEq, Nat.reduceBEq, Nat.reduceBNe, Int.reduceBEq, Int.reduceBNe, String.reduceEq]; first | done | rfl | (simp (disch := omega) only [w_nat, w_add, w_addl, w_addr, w_sub, w_subl, w_mul, w_mull, w_mulr, w_u32, w_u16, w_u8, w_u32a, N_zero]; first | done | rfl))
      · first | (simp only [push_cast, reduceIte, Nat.reduceEqDiff, Nat.reduceLT, Nat.reduceAdd, Nat.reduceSub, Nat.reduceMul, Nat.reduceLeDiff, Nat.reducePow, Int.reduceLT, Int.reduceToNat, reduceCtorEq, Int.reduceNeg, Int.reduceEq, Nat.reduceBEq, Nat.reduceBNe, Int.reduceBEq, Int.reduceBNe, String.reduceEq]; first | done | rfl | (simp (disch := omega) only [w_nat, w_add, w_addl, w_addr, w_sub, w_subl, w_mul, w_mull, w_mulr, w_u32, w_u16, w_u8, w_u32a, N_zero]; first | done | rfl))
    · intro j hj K3 hK3
      refine AWp.regionW ?_
      refine AWp.seqK fun K4 hK4 => ?_
      refine AWp.condLM (fun c0 => ?_) (fun c0 => ?_)
      · skip
        have hjl : j < c.length := of_decide_eq_true c0
        have hx24 : beN (c.take j) < 2 ^ 24 := by
          have h1 := beN_lt (c.take j)
          rw [List.length_take, Nat.min_eq_left (by omega)] at h1
          have h2 : 256 ^ j ≤ 256 ^ 3 := Nat.pow_le_pow_right (by omega) (by omega)
          omega
        have hsn : beN (c.take (j + 1)) = beN (c.take j) * 256 + c[j].toNat := by rw [List.take_succ_eq_append_getElem hjl, beN_snoc]
        refine AWp.skip ?_
        refine hK4 _ ?_
        refine AWp.seqK fun K5 hK5 => ?_
        refine AWp.block ?_
        refine AWp.regionM fun K6 hK6 => ?_
        refine ARun2.indexM (j) (.val (.int .u8 (N c[j].toNat))) ?_ ?_
        · rw [bys_get, List.getElem?_eq_getElem hjl]; rfl
        refine ARun2.endm (hK6 _ ?_)
        refine AWp.regionV ?_
        rw [shl8 hx24, or8 hx24, ← hsn]
        refine hK5 _ ?_
        refine AWp.regionV ?_
        refine hK3 _ (j + 1) (by omega) (by omega) ?_
        refine Le.m 1 ?_ ?_
        · first | with_reducible rfl | (simp only [push_cast, reduceIte, Nat.reduceEqDiff, Nat.reduceLT, Nat.reduceAdd, Nat.reduceSub, Nat.reduceMul, Nat.reduceLeDiff, Nat.reducePow, Int.reduceLT, Int.reduceToNat, reduceCtorEq, Int.reduceNeg, Int.reduceEq, Nat.reduceBEq, Nat.reduceBNe, Int.reduceBEq, Int.reduceBNe, String.reduceEq]; first | done | rfl | (simp (disch := omega) only [w_nat, w_add, w_addl, w_addr, w_sub, w_subl, w_mul, w_mull, w_mulr, w_u32, w_u16, w_u8, w_u32a, N_zero]; first | done | rfl))
        · first | (simp only [push_cast, reduceIte, Nat.reduceEqDiff, Nat.reduceLT, Nat.reduceAdd, Nat.reduceSub, Nat.reduceMul, Nat.reduceLeDiff, Nat.reducePow, Int.reduceLT, Int.reduceToNat, reduceCtorEq, Int.reduceNeg, Int.reduceEq, Nat.reduceBEq, Nat.reduceBNe, Int.reduceBEq, Int.reduceBNe, String.reduceEq]; first | done | rfl | (simp (disch := omega) only [w_nat, w_add, w_addl, w_addr, w_sub, w_subl, w_mul, w_mull, w_mulr, w_u32, w_u16, w_u8, w_u32a, N_zero]; first | done | rfl))
      · skip
        have hjc : j = c.length := by have h := of_decide_eq_false c0; omega
        subst hjc
        refine AWp.exit ?_
        simp only [thenQ, blockQ, reduceIte, Nat.reduceEqDiff]
        refine hK2 _ ?_
        cases hcd : decide (c.length < k) with
        | true =>
          have hlt : c.length < k := of_decide_eq_true hcd
          refine AWp.regionS fun K hK => ?_
          simp only [push_cast, reduceIte, Nat.reduceEqDiff, Nat.reduceLT, Nat.reduceAdd, Nat.reduceSub, Nat.reduceMul, Nat.reduceLeDiff, Nat.reducePow, Int.reduceLT, Int.reduceToNat, reduceCtorEq, Int.reduceNeg, Int.reduceEq, Nat.reduceBEq, Nat.reduceBNe, Int.reduceBEq, Int.reduceBNe, String.reduceEq, hcd, List.take_length]
          refine ARun2.nil (hK _ ?_)
          refine AWp.condT ?_
          refine AWp.ret ⟨_, Le.refl _, rfl, rfl, fun _ => ?_, fun h => by cases h⟩
          refine List.take_of_length_le ?_
          rw [numYs_len, nums_len]
          have : ¬ pre.length < l.length / k := by
            rw [Nat.lt_div_iff_mul_lt hk0]
            omega
          omega
        | false =>
          have hfull : c.length = k := by have := of_decide_eq_false hcd; omega
          have hid : pre.length < l.length / k := by
            rw [Nat.lt_div_iff_mul_lt hk0]
            omega
          have hsp := numYs_split hid
          rw [hch] at hsp
          refine AWp.regionS fun K hK => ?_
          simp only [push_cast, reduceIte, Nat.reduceEqDiff, Nat.reduceLT, Nat.reduceAdd, Nat.reduceSub, Nat.reduceMul, Nat.reduceLeDiff, Nat.reducePow, Int.reduceLT, Int.reduceToNat, reduceCtorEq, Int.reduceNeg, Int.reduceEq, Nat.reduceBEq, Nat.reduceBNe, Int.reduceBEq, Int.reduceBNe, String.reduceEq, hcd, List.take_length]
          refine ARun2.yieldM (x := [u32 (beN c)]) ((numYs k l).drop (pre.length + 1)) hsp fun b => ?_
          refine ARun2.nil (hK _ ?_)
          refine AWp.condM (fun hc2 => ?_) (fun hc2 => ?_)
          · refine AWp.ret ⟨_, Le.refl _, rfl, rfl, fun h => ?_, fun _ => ?_⟩
            · cases b <;> simp at hc2 h
            · exact ⟨(numYs k l).drop (pre.length + 1), hsp.trans (by rw [List.append_assoc]; rfl)⟩
          · have hb : b = true := by cases b <;> simp at hc2 ⊢
            subst hb
            refine AWp.skip ⟨_, Le.refl _, rfl, rfl, ?_, ?_⟩
            · rw [List.length_append, List.length_cons, List.length_nil]
              obtain ⟨h1, h2⟩ := List.getElem?_eq_some_iff.1 (numYs_get hid)
              rw [hch] at h2
              rw [List.take_succ_eq_append_getElem h1, h2]
            · rw [List.length_append, List.length_cons, List.length_nil]; omega
  · rintro ob tr go df ⟨rfl, rfl, rfl, _⟩
    try simp only [thenQ, blockQ]
    refine bodyQ.n ?_
    clear hK1 K1
    exact ⟨fun _ => List.take_of_length_le (by rw [numYs_len, chunkYs_len]; exact nums_le k l hk0), fun h => by simp at h⟩
  · rintro e ob tr go df ⟨rfl, rfl, hfin⟩
    exact ⟨_, rfl, hfin⟩
end Go.Proofs.Ytmcedkcehcacpaa.C
