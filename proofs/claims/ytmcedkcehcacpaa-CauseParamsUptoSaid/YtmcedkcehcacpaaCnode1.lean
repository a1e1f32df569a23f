/- node: counted, Size. -/
import Derived.Test.YtmcedkcehcacpaaCcursor
set_option linter.unusedVariables false
set_option linter.unusedSimpArgs false
namespace Go.Proofs.Ytmcedkcehcacpaa.C
open Go.Abs

theorem peekN_lt (k : Nat) (l : List UInt8) (i : Nat) (hk : k ≤ 4) : peekN k l i < 2 ^ 32 := by
  unfold peekN
  split
  · refine Nat.lt_of_lt_of_le (beN_lt _) ?_
    have h : ((l.drop i).take k).length ≤ 4 := Nat.le_trans (List.length_take_le _ _) hk
    exact Nat.le_trans (Nat.pow_le_pow_right (by omega) h) (by decide)
  · decide

/-- is the number in the data wrong? -/
def countedN (c t : Nat) (d : List UInt8) : Bool := c == 2 && (t == 2 && (!decide (4 ≤ d.length) || peekN 4 d 0 != (d.length - 4) / 2))

theorem counted_c (c t : Nat) (d : List UInt8) (hl : d.length ≤ 2 ^ 40) : PC Try.prog 58 [nat c, u16 t, .sl false 1 (bys d)] (bool (countedN c t d)) := by
  have hp := peekN_lt 4 d 0 (by omega)
  refine PC.of_bodyW (by simp only [push_cast]) Try.func58 rfl (by rw [Try.ntmps58]; simp) ?_
  refine AWp.regionW ?_
  refine AWp.regionM fun K1 hK1 => ?_
  refine ARun2.callOM [] (new_c d hl) ?_
  refine ARun2.callOM [0] (number_c 4 d 0 (by omega) (by omega) hl) ?_
  refine ARun2.endm (hK1 _ ?_)
  refine AWp.regionA fun K2 hK2 => ?_
  refine ARun.segm 3 fun KS hKS => ?_
  refine ARun2.endm (hKS _ ?_); clear hKS KS
  apply ARun.grpM 2 2 true 19 [2, 7, 8, 17]
  · intro g2 KG hKG
    refine ARun2.gom ?_
    exact ARun2.endm (hKG _ Le.grpM)
  refine ARun.segm 2 fun KS hKS => ?_
  refine ARun2.endm (hKS _ ?_); clear hKS KS
  apply ARun.grpM 11 6 true 32 [21]
  · intro g6 KG hKG
    refine ARun.segm 3 fun KS hKS => ?_
    refine ARun2.endm (hKS _ ?_); clear hKS KS
    apply ARun.grpM 7 9 false 31 [21, 24]
    · intro g9 KG hKG
      have h4 : 4 ≤ d.length := by simpa using g9
      refine ARun2.gom ?_
      exact ARun2.endm (hKG _ Le.grpM)
    refine ARun2.gom ?_
    exact ARun2.endm (hKG _ Le.grpM)
  refine ARun2.gom ?_
  refine ARun2.endm (hK2 _ ?_)
  refine AWp.ret ?_
  try simp only [thenQ, blockQ]
  refine bodyQ.m ?_
  clear hK2 K2 hK1 K1
  simp only [countedN, Nat.zero_add, Bool.and_assoc]
  first | done | exact Hand.go

/-- the size of a list of frames' values -/
def tlvSize (l : List Nat) : Nat := sumUp 0 (l.map (4 + ·))

/-- a frame -/
structure Frm where
  ty : Nat
  val : List UInt8
@[push_cast] def frmA (b : Bool) (f : Frm) : AV := .agg [u16 f.ty, .sl b 1 (bys f.val)]
def frmsA (b : Bool) (l : List Frm) : List AV := l.map (frmA b)
@[push_cast] theorem frmsA_len (b : Bool) (l : List Frm) : (frmsA b l).length = l.length := by simp [frmsA]
theorem frmsA_at (b : Bool) (l : List Frm) (i : Nat) (h : i < l.length) : (frmsA b l)[i]? = some (frmA b l[i]) := by simp [frmsA, h]
@[push_cast] theorem frmsA_ids (b : Bool) (p : Nat → Bool) (l : List Frm) : AV.idsOkL p (frmsA b l) = true := by
  rw [AV.idsOkL_iff]; intro x hx; simp only [frmsA, List.mem_map] at hx; obtain ⟨f, _, rfl⟩ := hx; simp [frmA, AV.idsOk, AV.idsOkL, bys_ids]
@[push_cast] theorem frmsA_hand (ids : List Nat) (b : Bool) (l : List Frm) : AV.handL ids (frmsA b l) = frmsA false l := by
  rw [AV.handL_map]; simp [frmsA, frmA, AV.hand, AV.handL, bys_hand]

theorem sizes_le : ∀ (l : List Nat) (s : Nat), sumUp s l ≤ s + l.sum + 3 * l.length
  | [], s => by simp [sumUp]
  | n :: l, s => by
    have := sizes_le l (upN s + n)
    have h := gapN_le s
    simp only [sumUp, List.sum_cons, List.length_cons, upN] at *
    omega

theorem tlvSize_c (l : List Frm) (h : tlvSize (l.map fun f => f.val.length) < 2 ^ 61) (hl : l.length ≤ 2 ^ 40) (hv : ∀ f ∈ l, f.val.length ≤ 2 ^ 40) : PC Try.prog 65 [.sl false 2 (frmsA false l)] (nat (tlvSize (l.map fun f => f.val.length))) := by
  refine PC.of_bodyW (by simp only [push_cast]) Try.func65 rfl (by rw [Try.ntmps65]; simp) ?_
  refine AWp.regionW ?_
  refine AWp.regionW ?_
  refine AWp.seqK fun K1 hK1 => ?_
  refine AWp.regionW ?_
  refine AWp.block ?_
  -- SLOTS THAT TURN AND ARE NOT TOLD: [3]
  refine AWp.nilOwn 3 3 1 (by simp only [push_cast, reduceIte, Nat.reduceEqDiff, Nat.reduceLT, Nat.reduceAdd, Nat.reduceSub, Nat.reduceMul, Nat.reduceLeDiff, Nat.reducePow, Int.reduceLT, Int.reduceToNat, reduceCtorEq, Int.reduceNeg, Int.reduceEq, Nat.reduceBEq, Nat.reduceBNe, Int.reduceBEq, Int.reduceBNe, String.reduceEq]) ?_
  simp only [push_cast, reduceIte, Nat.reduceEqDiff, Nat.reduceLT, Nat.reduceAdd, Nat.reduceSub, Nat.reduceMul, Nat.reduceLeDiff, Nat.reducePow, Int.reduceLT, Int.reduceToNat, reduceCtorEq, Int.reduceNeg, Int.reduceEq, Nat.reduceBEq, Nat.reduceBNe, Int.reduceBEq, Int.reduceBNe, String.reduceEq]
  refine AWp.loopK [3, 6, 7] (fun (i : Nat) => [(8, nat i)]) (fun i => [.row 3 1 (nats ((l.take i).map fun f => 4 + f.val.length))]) (fun i => i ≤ l.length) (fun i => l.length - i) (0) ?_ (Nat.zero_le _) ?_
  · skip
    refine Le.m 1 ?_ ?_
    · try simp only [push_cast, reduceIte, Nat.reduceEqDiff, Nat.reduceLT, Nat.reduceAdd, Nat.reduceSub, Nat.reduceMul, Nat.reduceLeDiff, Nat.reducePow, Int.reduceLT, Int.reduceToNat, reduceCtorEq, Int.reduceNeg, Int.reduceEq, Nat.reduceBEq, Nat.reduceBNe, Int.reduceBEq, Int.reduceBNe, String.reduceEq]
      try simp (disch := omega) only [w_nat, w_add, w_addl, w_addr, w_sub, w_subl, w_mul, w_mull, w_mulr, w_u32, w_u16, w_u8, w_u32a, N_zero]
      first | done | skip
      rfl
    · first | (simp only [push_cast, reduceIte, Nat.reduceEqDiff, Nat.reduceLT, Nat.reduceAdd, Nat.reduceSub, Nat.reduceMul, Nat.reduceLeDiff, Nat.reducePow, Int.reduceLT, Int.reduceToNat, reduceCtorEq, Int.reduceNeg, Int.reduceEq, Nat.reduceBEq, Nat.reduceBNe, Int.reduceBEq, Int.reduceBNe, String.reduceEq]; first | done | rfl | (simp (disch := omega) only [w_nat, w_add, w_addl, w_addr, w_sub, w_subl, w_mul, w_mull, w_mulr, w_u32, w_u16, w_u8, w_u32a, N_zero]; first | done | rfl))
  · intro i hi K2 hK2
    refine AWp.regionW ?_
    refine AWp.seqK fun K3 hK3 => ?_
    refine AWp.condLM (fun c0 => ?_) (fun c0 => ?_)
    · skip
      have hil : i < l.length := by simpa using c0
      have hvi := hv l[i] (List.getElem_mem hil)
      refine AWp.skip ?_
      refine hK3 _ ?_
      refine AWp.seqK fun K4 hK4 => ?_
      refine AWp.block ?_
      refine AWp.regionM fun K5 hK5 => ?_
      refine ARun2.indexM (i) (frmA false l[i]) ?_ ?_
      · exact frmsA_at _ _ _ hil
      refine ARun2.endm (hK5 _ ?_)
      refine AWp.regionN fun K6 hK6 => ?_
      refine ARun2.appendM ?_ ?_ ?_
      · rw [Ytmcedkcehcacpaa.Facts.eb112, nats_len, List.length_map, List.length_take, List.length_cons, List.length_nil]; omega
      · rw [nats_len, List.length_map, List.length_take, List.length_cons, List.length_nil]; omega
      refine ARun2.endm (hK6 _ ?_)
      refine hK4 _ ?_
      refine AWp.regionV ?_
      refine hK2 _ (i + 1) (by omega) (by omega) ?_
      refine Le.m 1 ?_ ?_
      · try simp only [push_cast, reduceIte, Nat.reduceEqDiff, Nat.reduceLT, Nat.reduceAdd, Nat.reduceSub, Nat.reduceMul, Nat.reduceLeDiff, Nat.reducePow, Int.reduceLT, Int.reduceToNat, reduceCtorEq, Int.reduceNeg, Int.reduceEq, Nat.reduceBEq, Nat.reduceBNe, Int.reduceBEq, Int.reduceBNe, String.reduceEq]
        try simp (disch := omega) only [w_nat, w_add, w_addl, w_addr, w_sub, w_subl, w_mul, w_mull, w_mulr, w_u32, w_u16, w_u8, w_u32a, N_zero]
        first | done | skip
        rw [List.take_succ_eq_append_getElem hil, List.map_append]; simp [nats]
      · first | (simp only [push_cast, reduceIte, Nat.reduceEqDiff, Nat.reduceLT, Nat.reduceAdd, Nat.reduceSub, Nat.reduceMul, Nat.reduceLeDiff, Nat.reducePow, Int.reduceLT, Int.reduceToNat, reduceCtorEq, Int.reduceNeg, Int.reduceEq, Nat.reduceBEq, Nat.reduceBNe, Int.reduceBEq, Int.reduceBNe, String.reduceEq]; first | done | rfl | (simp (disch := omega) only [w_nat, w_add, w_addl, w_addr, w_sub, w_subl, w_mul, w_mull, w_mulr, w_u32, w_u16, w_u8, w_u32a, N_zero]; first | done | rfl))
    · skip
      have hil : i = l.length := by simp at c0; omega
      subst hil
      refine AWp.exit ?_
      simp only [thenQ, blockQ, reduceIte, Nat.reduceEqDiff]
      refine hK1 _ ?_
      refine AWp.pub 0 rfl (Nat.le_refl _) ?_
      simp only [push_cast, reduceIte, Nat.reduceEqDiff, Nat.reduceLT, Nat.reduceAdd, Nat.reduceSub, Nat.reduceMul, Nat.reduceLeDiff, Nat.reducePow, Int.reduceLT, Int.reduceToNat, reduceCtorEq, Int.reduceNeg, Int.reduceEq, Nat.reduceBEq, Nat.reduceBNe, Int.reduceBEq, Int.reduceBNe, String.reduceEq, List.take_length]
      refine AWp.regionM fun K7 hK7 => ?_
      refine ARun2.callM (pad_sizes (l.map fun f => 4 + f.val.length) (by simpa [tlvSize, List.map_map, Function.comp_def] using h) (by rw [List.length_map]; omega)) ?_
      refine ARun2.endm (hK7 _ ?_)
      refine AWp.ret ?_
      try simp only [thenQ, blockQ]
      refine bodyQ.m ?_
      clear hK7 K7 hK3 K3 hK2 K2 hK1 K1
      simp only [tlvSize, List.map_map, Function.comp_def]
      first | done | exact Hand.go
end Go.Proofs.Ytmcedkcehcacpaa.C
