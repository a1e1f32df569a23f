/- wire: the cursor. -/
import Derived.Test.YtmcedkcehcacpaaGreatDoorM2
import Derived.Lib.ConvBytes
import Derived.Lib.AppendZerosOnto
import Derived.Laws.Append
import Derived.Laws.Externs
import GoSem.Extern.ReflectliteValue
import Derived.KernelRfl
import Derived.Stop.Asserts
set_option linter.unusedVariables false
set_option linter.unusedSimpArgs false
namespace Go.Proofs.YtmcedkcehcacpaaGreatDoor.C
open Go.Abs
/-- a cursor: its bytes, and how many were read -/
abbrev cur (l : List UInt8) (i : Nat) : Ob := .box 146 [.sl false 1 (bys l), nat i]
theorem new_c (l : List UInt8) (hl : l.length ≤ 2 ^ 40) : OC Tryz.prog 63 [.sl false 1 (bys l)] [] (.ptr 0 0) [cur l 0] := by
  refine OC.of_body [0] (by intro k hk; simp at hk) Tryz.func63 rfl (by rw [Tryz.ntmps63]; simp) ?_
  refine AWp.regionW ?_
  refine AWp.regionM fun K1 hK1 => ?_
  refine ARun2.callM (clone_c l hl) ?_
  refine ARun2.endm (hK1 _ ?_)
  refine AWp.ret ?_
  try simp only [thenQ, blockQ, noGo]
  refine bodyQ.m ?_
  clear hK1 K1
  refine endO.m ?_ ?_
  · rfl
  · skip
    first | done | exact Hand.go
theorem left_c (l : List UInt8) (i : Nat) (hi : i ≤ l.length) (hl : l.length ≤ 2 ^ 40) : OC Tryz.prog 87 [.ptr 0 0] [cur l i] (nat (l.length - i)) [cur l i] := by
  refine OC.of_body [0] (by intro k hk; simp at hk; subst hk; rfl) Tryz.func87 rfl (by rw [Tryz.ntmps87]; simp) ?_
  refine AWp.regionW ?_
  refine AWp.seqK fun K1 hK1 => ?_
  refine AWp.regionW ?_
  refine AWp.condF ?_
  refine AWp.skip ?_
  refine hK1 _ ?_
  refine AWp.drS [[(0, none)], [(5, some 0)], [(6, some 1)], [(7, some 2)], [(8, some 3)], [(0, none)], [(10, some 5)], [(11, some 6)], [(12, some 7)], [(9, some 4), (13, some 8)], [(14, some 9)]] fun G hG => ?_
  refine Dr.sim ?_
  try simp only [List.cons_append, List.nil_append]
  refine Dr.sim ?_
  try simp only [List.cons_append, List.nil_append]
  refine Dr.sim ?_
  try simp only [List.cons_append, List.nil_append]
  refine Dr.sim ?_
  try simp only [List.cons_append, List.nil_append]
  refine Dr.sim ?_
  try simp only [List.cons_append, List.nil_append]
  refine Dr.sim ?_
  try simp only [List.cons_append, List.nil_append]
  refine Dr.sim ?_
  try simp only [List.cons_append, List.nil_append]
  refine Dr.sim ?_
  try simp only [List.cons_append, List.nil_append]
  refine Dr.sim ?_
  try simp only [List.cons_append, List.nil_append]
  refine Dr.sim ?_
  try simp only [List.cons_append, List.nil_append]
  refine Dr.sim ?_
  try simp only [List.cons_append, List.nil_append]
  refine Dr.finM (n := 11) [(2, 10)] [] hG YtmcedkcehcacpaaGreatDoor.Facts.mixed fun KD hKD => ?_
  refine ARun2.endm (hKD _ ?_); clear hKD KD hG G
  refine AWp.ret ?_
  try simp only [thenQ, blockQ, noGo]
  refine bodyQ.m ?_
  clear hK1 K1
  refine endO.m ?_ ?_
  · rfl
  · skip
    try simp only [bys_len]
    first | done | exact Hand.go
/-- the next number of a cursor -/
def peekN (k : Nat) (l : List UInt8) (i : Nat) : Nat := if i + k ≤ l.length then beN ((l.drop i).take k) else 0
theorem peek_c (k : Nat) (l : List UInt8) (i : Nat) (hk : k = 1 ∨ k = 2 ∨ k = 4) (hi : i ≤ l.length) (hl : l.length ≤ 2 ^ 40) :
    OC Tryz.prog 79 [.ptr 0 0, nat k] [cur l i] (.tup [u32 (peekN k l i), bool (decide (i + k ≤ l.length))]) [cur l i] := by
  have hr : (k == 1 || k == 2 || k == 4) = true := by rcases hk with rfl | rfl | rfl <;> rfl
  have hil : (l.drop i).length = l.length - i := List.length_drop
  refine OC.of_body [0] (by intro k hk; simp at hk; subst hk; rfl) Tryz.func79 rfl (by rw [Tryz.ntmps79]; simp) ?_
  refine AWp.regionW ?_
  refine AWp.seqK fun K1 hK1 => ?_
  refine AWp.regionM fun K2 hK2 => ?_
  refine ARun2.callM (hr ▸ wire_right k) ?_
  refine ARun2.callOM [0] (left_c l i hi hl) ?_
  refine ARun2.endm (hK2 _ ?_)
  refine AWp.condLM (fun c0 => ?_) (fun c0 => ?_)
  · skip
    have hno : ¬ i + k ≤ l.length := by simp at c0; omega
    refine AWp.regionW ?_
    refine AWp.ret ?_
    try simp only [thenQ, blockQ, noGo]
    refine bodyQ.m ?_
    clear hK2 K2 hK1 K1
    refine endO.m ?_ ?_
    · rfl
    · skip
      simp only [peekN, hno, if_false, decide_false]
      first | done | exact Hand.go
  · skip
    have hyes : i + k ≤ l.length := by simp at c0; omega
    have hpos : 0 < (l.drop i).length / k := by rw [hil]; exact Nat.div_pos (by omega) (by omega)
    refine AWp.skip ?_
    refine hK1 _ ?_
    refine AWp.seqK fun K3 hK3 => ?_
    refine AWp.drS [[(1, none)], [(0, none)], [(17, some 1)], [(18, some 2)], [(19, some 3)], [(0, none)], [(21, some 5)], [(22, some 6)], [(23, some 7)], [(20, some 4), (24, some 8)], [(16, some 0), (25, some 9)]] fun G hG => ?_
    refine Dr.sim ?_
    try simp only [List.cons_append, List.nil_append]
    refine Dr.sim ?_
    try simp only [List.cons_append, List.nil_append]
    refine Dr.sim ?_
    try simp only [List.cons_append, List.nil_append]
    refine Dr.sim ?_
    try simp only [List.cons_append, List.nil_append]
    refine Dr.sim ?_
    try simp only [List.cons_append, List.nil_append]
    refine Dr.sim ?_
    try simp only [List.cons_append, List.nil_append]
    refine Dr.sim ?_
    try simp only [List.cons_append, List.nil_append]
    refine Dr.sim ?_
    try simp only [List.cons_append, List.nil_append]
    refine Dr.sim ?_
    try simp only [List.cons_append, List.nil_append]
    refine Dr.sliceLo (i) ?_ ?_
    · rw [bys_len]; omega
    try simp only [List.cons_append, List.nil_append]
    refine Dr.call (numbers_c k (l.drop i)) ?_
    try simp only [List.cons_append, List.nil_append]
    refine Dr.finM (n := 11) [(26, 10)] [4, 5] hG YtmcedkcehcacpaaGreatDoor.Facts.mixed fun KD hKD => ?_
    refine ARun2.endm (hKD _ ?_); clear hKD KD hG G
    refine AWp.block ?_
    refine AWp.rangeFuncM (numbers_iter k (l.drop i) hk (by omega)) [4, 5] (fun pre ob tr go => pre = [] ∧ ob = [cur l i, .box 99 [.val (.int .u32 0)], .box 4 [.val (.bool false)]]) (fun e ob tr go => e = .ret ∧ ob = [cur l i, .box 99 [u32 (beN ((l.drop i).take k))], .box 4 [.val (.bool true)]]) ?_ ?_ ?_ ?_ ?_
    · exact numYs_ps _
    · exact ⟨rfl, rfl⟩
    · rintro pre x post ob tr go hxs ⟨rfl, rfl⟩
      have hx : (numYs k (l.drop i))[0]? = some x := by rw [hxs]; rfl
      rw [numYs_get hpos] at hx
      simp only [Option.some.injEq, Nat.zero_mul, List.drop_zero] at hx
      subst hx
      refine AWp.regionV ?_
      change AWp _ _ _ _
      refine AWp.block ?_
      refine AWp.regionW ?_
      refine AWp.ret ?_
      try simp only [thenQ, blockQ, noGo]
      refine ⟨_, Le.refl _, ?_⟩
      exact ⟨rfl, rfl⟩
    · rintro ob tr go df ⟨h, _⟩
      have := congrArg List.length h
      rw [numYs_len, nums_len] at this
      simp at this
      omega
    · rintro e ob tr go df ⟨rfl, rfl⟩
      refine bodyQ.m ?_
      refine endO.m ?_ ?_
      · rfl
      · simp only [peekN, hyes, if_true, decide_true]
        exact Hand.go
/-- a number is read -/
theorem number_c (k : Nat) (l : List UInt8) (i : Nat) (hk : k = 1 ∨ k = 2 ∨ k = 4) (hi : i ≤ l.length) (hl : l.length ≤ 2 ^ 40) :
    OC Tryz.prog 64 [.ptr 0 0, nat k] [cur l i] (.tup [u32 (peekN k l i), bool (decide (i + k ≤ l.length))]) [cur l (if i + k ≤ l.length then i + k else i)] := by
  refine OC.of_body [0] (by intro k hk; simp at hk; subst hk; rfl) Tryz.func64 rfl (by rw [Tryz.ntmps64]; simp) ?_
  refine AWp.regionW ?_
  refine AWp.regionM fun K1 hK1 => ?_
  refine ARun2.callOM [0] (peek_c k l i hk hi hl) ?_
  refine ARun2.endm (hK1 _ ?_)
  refine AWp.seqK fun K2 hK2 => ?_
  refine AWp.regionW ?_
  refine AWp.condLM (fun c0 => ?_) (fun c0 => ?_)
  · skip
    have hyes : i + k ≤ l.length := of_decide_eq_true c0
    refine AWp.regionV ?_
    refine hK2 _ ?_
    refine AWp.regionW ?_
    refine AWp.ret ?_
    try simp only [thenQ, blockQ, noGo]
    refine bodyQ.m ?_
    clear hK2 K2 hK1 K1
    refine endO.m ?_ ?_
    · first | (rw [if_pos (by assumption)]) | (rw [if_neg (by assumption)])
    · skip
      first | done | exact Hand.go
  · skip
    have hno : ¬ i + k ≤ l.length := of_decide_eq_false c0
    refine AWp.skip ?_
    refine hK2 _ ?_
    refine AWp.regionW ?_
    refine AWp.ret ?_
    try simp only [thenQ, blockQ, noGo]
    refine bodyQ.m ?_
    clear hK2 K2 hK1 K1
    refine endO.m ?_ ?_
    · first | (rw [if_pos (by assumption)]) | (rw [if_neg (by assumption)])
    · skip
      first | done | exact Hand.go
end Go.Proofs.YtmcedkcehcacpaaGreatDoor.C
/- node: counted, Size. -/
set_option linter.unusedVariables false
set_option linter.unusedSimpArgs false
namespace Go.Proofs.YtmcedkcehcacpaaGreatDoor.C
open Go.Abs
theorem peekN_lt (k : Nat) (l : List UInt8) (i : Nat) (hk : k ≤ 4) : peekN k l i < 2 ^ 32 := by
  unfold peekN
  split
  · refine Nat.lt_of_lt_of_le (beN_lt _) ?_
    have h : ((l.drop i).take k).length ≤ 4 := Nat.le_trans (List.length_take_le _ _) hk
    exact Nat.le_trans (Nat.pow_le_pow_right (by omega) h) (by decide)
  · decide
/-- is the number in the data wrong? -/
def countedN (c t : Nat) (d : List UInt8) : Bool := c == 2 && (t == 2 && (!decide (4 ≤ d.length) || peekN 4 d 0 != (d.length - 4) / 2))
theorem counted_c (c t : Nat) (d : List UInt8) (hl : d.length ≤ 2 ^ 40) : PC Tryz.prog 48 [nat c, u16 t, .sl false 1 (bys d)] (bool (countedN c t d)) := by
  have hp := peekN_lt 4 d 0 (by omega)
  refine PC.of_bodyW (by simp only [push_cast]) Tryz.func48 rfl (by rw [Tryz.ntmps48]; simp) ?_
  refine AWp.regionW ?_
  refine AWp.regionM fun K1 hK1 => ?_
  refine ARun2.callOM [] (new_c d hl) ?_
  refine ARun2.callOM [0] (number_c 4 d 0 (by omega) (by omega) hl) ?_
  refine ARun2.endm (hK1 _ ?_)
  refine AWp.regionA fun K2 hK2 => ?_
  refine ARun.segm 3 fun KS hKS => ?_
  refine ARun2.endm (hKS _ ?_); clear hKS KS
  apply ARun.grpM 2 2 true 19 [2, 7, 8, 17]
  · intro g2 KG hKG
    refine ARun2.gom ?_
    exact ARun2.endm (hKG _ Le.grpM)
  refine ARun.segm 2 fun KS hKS => ?_
  refine ARun2.endm (hKS _ ?_); clear hKS KS
  apply ARun.grpM 11 6 true 32 [21]
  · intro g6 KG hKG
    refine ARun.segm 3 fun KS hKS => ?_
    refine ARun2.endm (hKS _ ?_); clear hKS KS
    apply ARun.grpM 7 9 false 31 [21, 24]
    · intro g9 KG hKG
      have h4 : 4 ≤ d.length := by simpa using g9
      refine ARun2.gom ?_
      exact ARun2.endm (hKG _ Le.grpM)
    refine ARun2.gom ?_
    exact ARun2.endm (hKG _ Le.grpM)
  refine ARun2.gom ?_
  refine ARun2.endm (hK2 _ ?_)
  refine AWp.ret ?_
  try simp only [thenQ, blockQ, noGo]
  refine bodyQ.m ?_
  clear hK2 K2 hK1 K1
  simp only [countedN, Nat.zero_add, Bool.and_assoc]
  first | done | exact Hand.go
/-- the size of a list of frames' values -/
def tlvSize (l : List Nat) : Nat := sumUp 0 (l.map (4 + ·))
/-- a frame -/
structure Frm where
  ty : Nat
  val : List UInt8
@[push_cast] def frmA (b : Bool) (f : Frm) : AV := .agg [u16 f.ty, .sl b 1 (bys f.val)]
def frmsA (b : Bool) (l : List Frm) : List AV := l.map (frmA b)
@[push_cast] theorem frmsA_len (b : Bool) (l : List Frm) : (frmsA b l).length = l.length := by simp [frmsA]
theorem frmsA_at (b : Bool) (l : List Frm) (i : Nat) (h : i < l.length) : (frmsA b l)[i]? = some (frmA b l[i]) := by simp [frmsA, h]
@[push_cast] theorem frmsA_ids (b : Bool) (p : Nat → Bool) (l : List Frm) : AV.idsOkL p (frmsA b l) = true := by
  rw [AV.idsOkL_iff]; intro x hx; simp only [frmsA, List.mem_map] at hx; obtain ⟨f, _, rfl⟩ := hx; simp [frmA, AV.idsOk, AV.idsOkL, bys_ids]
@[push_cast] theorem frmsA_hand (ids : List Nat) (b : Bool) (l : List Frm) : AV.handL ids (frmsA b l) = frmsA false l := by
  rw [AV.handL_map]; simp [frmsA, frmA, AV.hand, AV.handL, bys_hand]
theorem tlvSize_c (l : List Frm) (h : tlvSize (l.map fun f => f.val.length) < 2 ^ 61) (hl : l.length ≤ 2 ^ 40) (hv : ∀ f ∈ l, f.val.length ≤ 2 ^ 40) : PC Tryz.prog 33 [.sl false 2 (frmsA false l)] (nat (tlvSize (l.map fun f => f.val.length))) := by
  refine PC.of_bodyW (by simp only [push_cast]) Tryz.func33 rfl (by rw [Tryz.ntmps33]; simp) ?_
  refine AWp.regionW ?_
  refine AWp.regionW ?_
  refine AWp.seqK fun K1 hK1 => ?_
  refine AWp.regionW ?_
  refine AWp.block ?_
  -- SLOTS THAT TURN AND ARE NOT TOLD: [3]
  refine AWp.nilOwn 3 3 1 (by simp only [push_cast, reduceIte, Nat.reduceEqDiff, Nat.reduceLT, Nat.reduceAdd, Nat.reduceSub, Nat.reduceMul, Nat.reduceLeDiff, Nat.reducePow, Int.reduceLT, Int.reduceToNat, reduceCtorEq, Int.reduceNeg, Int.reduceEq, Nat.reduceBEq, Nat.reduceBNe, Int.reduceBEq, Int.reduceBNe, String.reduceEq]) ?_
  simp only [push_cast, reduceIte, Nat.reduceEqDiff, Nat.reduceLT, Nat.reduceAdd, Nat.reduceSub, Nat.reduceMul, Nat.reduceLeDiff, Nat.reducePow, Int.reduceLT, Int.reduceToNat, reduceCtorEq, Int.reduceNeg, Int.reduceEq, Nat.reduceBEq, Nat.reduceBNe, Int.reduceBEq, Int.reduceBNe, String.reduceEq]
  refine AWp.loopK [3, 6, 7] (fun (i : Nat) => [(8, nat i)]) (fun i => [.row 3 1 (nats ((l.take i).map fun f => 4 + f.val.length))]) (fun i => i ≤ l.length) (fun i => l.length - i) (0) ?_ (Nat.zero_le _) ?_
  · skip
    refine Le.m 1 ?_ ?_
    · try simp only [push_cast, reduceIte, Nat.reduceEqDiff, Nat.reduceLT, Nat.reduceAdd, Nat.reduceSub, Nat.reduceMul, Nat.reduceLeDiff, Nat.reducePow, Int.reduceLT, Int.reduceToNat, reduceCtorEq, Int.reduceNeg, Int.reduceEq, Nat.reduceBEq, Nat.reduceBNe, Int.reduceBEq, Int.reduceBNe, String.reduceEq]
      try simp (disch := omega) only [w_nat, w_add, w_addl, w_addr, w_sub, w_subl, w_mul, w_mull, w_mulr, w_u32, w_u16, w_u8, w_u32a, N_zero]
      first | done | skip
      rfl
    · first | (simp only [push_cast, reduceIte, Nat.reduceEqDiff, Nat.reduceLT, Nat.reduceAdd, Nat.reduceSub, Nat.reduceMul, Nat.reduceLeDiff, Nat.reducePow, Int.reduceLT, Int.reduceToNat, reduceCtorEq, Int.reduceNeg, Int.reduceEq, Nat.reduceBEq, Nat.reduceBNe, Int.reduceBEq, Int.reduceBNe, String.reduceEq]; first | done | rfl | (simp (disch := omega) only [w_nat, w_add, w_addl, w_addr, w_sub, w_subl, w_mul, w_mull, w_mulr, w_u32, w_u16, w_u8, w_u32a, N_zero]; first | done | rfl))
  · intro i hi K2 hK2
    refine AWp.regionW ?_
    refine AWp.seqK fun K3 hK3 => ?_
    refine AWp.condLM (fun c0 => ?_) (fun c0 => ?_)
    · skip
      have hil : i < l.length := by simpa using c0
      have hvi := hv l[i] (List.getElem_mem hil)
      refine AWp.skip ?_
      refine hK3 _ ?_
      refine AWp.seqK fun K4 hK4 => ?_
      refine AWp.block ?_
      refine AWp.regionM fun K5 hK5 => ?_
      refine ARun2.indexM (i) (frmA false l[i]) ?_ ?_
      · exact frmsA_at _ _ _ hil
      refine ARun2.endm (hK5 _ ?_)
      refine AWp.regionN fun K6 hK6 => ?_
      refine ARun2.appendM ?_ ?_ ?_
      · rw [YtmcedkcehcacpaaGreatDoor.Facts.eb77, nats_len, List.length_map, List.length_take, List.length_cons, List.length_nil]; omega
      · rw [nats_len, List.length_map, List.length_take, List.length_cons, List.length_nil]; omega
      refine ARun2.endm (hK6 _ ?_)
      refine hK4 _ ?_
      refine AWp.regionV ?_
      refine hK2 _ (i + 1) (by omega) (by omega) ?_
      refine Le.m 1 ?_ ?_
      · try simp only [push_cast, reduceIte, Nat.reduceEqDiff, Nat.reduceLT, Nat.reduceAdd, Nat.reduceSub, Nat.reduceMul, Nat.reduceLeDiff, Nat.reducePow, Int.reduceLT, Int.reduceToNat, reduceCtorEq, Int.reduceNeg, Int.reduceEq, Nat.reduceBEq, Nat.reduceBNe, Int.reduceBEq, Int.reduceBNe, String.reduceEq]
        try simp (disch := omega) only [w_nat, w_add, w_addl, w_addr, w_sub, w_subl, w_mul, w_mull, w_mulr, w_u32, w_u16, w_u8, w_u32a, N_zero]
        first | done | skip
        rw [List.take_succ_eq_append_getElem hil, List.map_append]; simp [nats]
      · first | (simp only [push_cast, reduceIte, Nat.reduceEqDiff, Nat.reduceLT, Nat.reduceAdd, Nat.reduceSub, Nat.reduceMul, Nat.reduceLeDiff, Nat.reducePow, Int.reduceLT, Int.reduceToNat, reduceCtorEq, Int.reduceNeg, Int.reduceEq, Nat.reduceBEq, Nat.reduceBNe, Int.reduceBEq, Int.reduceBNe, String.reduceEq]; first | done | rfl | (simp (disch := omega) only [w_nat, w_add, w_addl, w_addr, w_sub, w_subl, w_mul, w_mull, w_mulr, w_u32, w_u16, w_u8, w_u32a, N_zero]; first | done | rfl))
    · skip
      have hil : i = l.length := by simp at c0; omega
      subst hil
      refine AWp.exit ?_
      try simp only [thenQ, blockQ, noGo, reduceIte, Nat.reduceEqDiff]
      refine hK1 _ ?_
      refine AWp.pub 0 rfl (Nat.le_refl _) ?_
      simp only [push_cast, reduceIte, Nat.reduceEqDiff, Nat.reduceLT, Nat.reduceAdd, Nat.reduceSub, Nat.reduceMul, Nat.reduceLeDiff, Nat.reducePow, Int.reduceLT, Int.reduceToNat, reduceCtorEq, Int.reduceNeg, Int.reduceEq, Nat.reduceBEq, Nat.reduceBNe, Int.reduceBEq, Int.reduceBNe, String.reduceEq, List.take_length]
      refine AWp.regionM fun K7 hK7 => ?_
      refine ARun2.callM (pad_sizes (l.map fun f => 4 + f.val.length) (by simpa [tlvSize, List.map_map, Function.comp_def] using h) (by rw [List.length_map]; omega)) ?_
      refine ARun2.endm (hK7 _ ?_)
      refine AWp.ret ?_
      try simp only [thenQ, blockQ, noGo]
      refine bodyQ.m ?_
      clear hK7 K7 hK3 K3 hK2 K2 hK1 K1
      simp only [tlvSize, List.map_map, Function.comp_def]
      first | done | exact Hand.go
end Go.Proofs.YtmcedkcehcacpaaGreatDoor.C
/- shape: the table of forms. -/
set_option linter.unusedVariables false
set_option linter.unusedSimpArgs false
namespace Go.Abs
/-- the parameters' forms: type, name, least, most, unit, kids -/
def paramForms : List ShForm := [⟨0, 1, ⟨#[104, 101, 97, 114, 116, 98, 101, 97, 116, 45, 105, 110, 102, 111]⟩, 0, 65531, 1, 0⟩,
  ⟨0, 5, ⟨#[105, 112, 118, 52]⟩, 4, 4, 1, 0⟩,
  ⟨0, 6, ⟨#[105, 112, 118, 54]⟩, 16, 16, 1, 0⟩,
  ⟨0, 7, ⟨#[115, 116, 97, 116, 101, 45, 99, 111, 111, 107, 105, 101]⟩, 0, 65531, 1, 0⟩,
  ⟨0, 8, ⟨#[117, 110, 114, 101, 99, 111, 103, 110, 105, 122, 101, 100]⟩, 0, 0, 1, 1⟩,
  ⟨0, 9, ⟨#[99, 111, 111, 107, 105, 101, 45, 112, 114, 101, 115, 101, 114, 118, 97, 116, 105, 118, 101]⟩, 4, 4, 1, 0⟩,
  ⟨0, 11, ⟨#[104, 111, 115, 116, 45, 110, 97, 109, 101]⟩, 1, 65531, 1, 0⟩,
  ⟨0, 12, ⟨#[97, 100, 100, 114, 101, 115, 115, 45, 116, 121, 112, 101, 115]⟩, 2, 65531, 2, 0⟩,
  ⟨0, 13, ⟨#[111, 117, 116, 103, 111, 105, 110, 103, 45, 114, 101, 115, 101, 116]⟩, 12, 65531, 2, 0⟩,
  ⟨0, 14, ⟨#[105, 110, 99, 111, 109, 105, 110, 103, 45, 114, 101, 115, 101, 116]⟩, 4, 65531, 2, 0⟩,
  ⟨0, 15, ⟨#[116, 115, 110, 45, 114, 101, 115, 101, 116]⟩, 4, 4, 1, 0⟩,
  ⟨0, 16, ⟨#[114, 101, 99, 111, 110, 102, 105, 103, 45, 114, 101, 115, 112, 111, 110, 115, 101]⟩, 8, 16, 8, 0⟩,
  ⟨0, 17, ⟨#[97, 100, 100, 45, 111, 117, 116, 103, 111, 105, 110, 103]⟩, 8, 8, 1, 0⟩,
  ⟨0, 18, ⟨#[97, 100, 100, 45, 105, 110, 99, 111, 109, 105, 110, 103]⟩, 8, 8, 1, 0⟩,
  ⟨0, 32768, ⟨#[101, 99, 110]⟩, 0, 0, 1, 0⟩,
  ⟨0, 32770, ⟨#[114, 97, 110, 100, 111, 109]⟩, 1, 65531, 1, 0⟩,
  ⟨0, 32771, ⟨#[99, 104, 117, 110, 107, 45, 108, 105, 115, 116]⟩, 0, 65531, 1, 0⟩,
  ⟨0, 32772, ⟨#[104, 109, 97, 99, 45, 97, 108, 103, 111, 114, 105, 116, 104, 109, 115]⟩, 2, 65531, 2, 0⟩,
  ⟨0, 32773, ⟨#[112, 97, 100, 100, 105, 110, 103]⟩, 0, 65531, 1, 0⟩,
  ⟨0, 32776, ⟨#[101, 120, 116, 101, 110, 115, 105, 111, 110, 115]⟩, 0, 65531, 1, 0⟩,
  ⟨0, 49152, ⟨#[102, 111, 114, 119, 97, 114, 100, 45, 116, 115, 110]⟩, 0, 0, 1, 0⟩,
  ⟨0, 49153, ⟨#[97, 100, 100, 45, 105, 112]⟩, 4, 4, 1, 4⟩,
  ⟨0, 49154, ⟨#[100, 101, 108, 101, 116, 101, 45, 105, 112]⟩, 4, 4, 1, 4⟩,
  ⟨0, 49155, ⟨#[101, 114, 114, 111, 114, 45, 105, 110, 100, 105, 99, 97, 116, 105, 111, 110]⟩, 4, 4, 1, 3⟩,
  ⟨0, 49156, ⟨#[115, 101, 116, 45, 112, 114, 105, 109, 97, 114, 121]⟩, 4, 4, 1, 4⟩,
  ⟨0, 49157, ⟨#[115, 117, 99, 99, 101, 115, 115]⟩, 4, 4, 1, 0⟩,
  ⟨0, 49158, ⟨#[97, 100, 97, 112, 116, 97, 116, 105, 111, 110]⟩, 4, 4, 1, 0⟩]
/-- the causes' forms -/
def causeForms : List ShForm := [⟨0, 1, ⟨#[105, 110, 118, 97, 108, 105, 100, 45, 115, 116, 114, 101, 97, 109]⟩, 4, 4, 1, 0⟩,
  ⟨0, 2, ⟨#[109, 105, 115, 115, 105, 110, 103, 45, 112, 97, 114, 97, 109, 101, 116, 101, 114]⟩, 6, 65531, 2, 0⟩,
  ⟨0, 3, ⟨#[115, 116, 97, 108, 101, 45, 99, 111, 111, 107, 105, 101]⟩, 4, 4, 1, 0⟩,
  ⟨0, 4, ⟨#[111, 117, 116, 45, 111, 102, 45, 114, 101, 115, 111, 117, 114, 99, 101]⟩, 0, 0, 1, 0⟩,
  ⟨0, 5, ⟨#[117, 110, 114, 101, 115, 111, 108, 118, 97, 98, 108, 101, 45, 97, 100, 100, 114, 101, 115, 115]⟩, 0, 0, 1, 1⟩,
  ⟨0, 6, ⟨#[117, 110, 114, 101, 99, 111, 103, 110, 105, 122, 101, 100, 45, 99, 104, 117, 110, 107]⟩, 4, 65531, 1, 0⟩,
  ⟨0, 7, ⟨#[105, 110, 118, 97, 108, 105, 100, 45, 112, 97, 114, 97, 109, 101, 116, 101, 114]⟩, 0, 0, 1, 0⟩,
  ⟨0, 8, ⟨#[117, 110, 114, 101, 99, 111, 103, 110, 105, 122, 101, 100, 45, 112, 97, 114, 97, 109, 101, 116, 101, 114, 115]⟩, 0, 0, 1, 2⟩,
  ⟨0, 9, ⟨#[110, 111, 45, 117, 115, 101, 114, 45, 100, 97, 116, 97]⟩, 4, 4, 1, 0⟩,
  ⟨0, 10, ⟨#[99, 111, 111, 107, 105, 101, 45, 119, 104, 105, 108, 101, 45, 115, 104, 117, 116, 116, 105, 110, 103, 45, 100, 111, 119, 110]⟩, 0, 0, 1, 0⟩,
  ⟨0, 11, ⟨#[114, 101, 115, 116, 97, 114, 116]⟩, 0, 0, 1, 2⟩,
  ⟨0, 12, ⟨#[117, 115, 101, 114, 45, 97, 98, 111, 114, 116]⟩, 0, 65531, 1, 0⟩,
  ⟨0, 13, ⟨#[112, 114, 111, 116, 111, 99, 111, 108, 45, 118, 105, 111, 108, 97, 116, 105, 111, 110]⟩, 0, 65531, 1, 0⟩,
  ⟨0, 160, ⟨#[100, 101, 108, 101, 116, 101, 45, 108, 97, 115, 116, 45, 97, 100, 100, 114, 101, 115, 115]⟩, 0, 0, 1, 1⟩,
  ⟨0, 161, ⟨#[114, 101, 115, 111, 117, 114, 99, 101, 45, 115, 104, 111, 114, 116, 97, 103, 101]⟩, 0, 65531, 1, 0⟩,
  ⟨0, 162, ⟨#[100, 101, 108, 101, 116, 101, 45, 115, 111, 117, 114, 99, 101, 45, 97, 100, 100, 114, 101, 115, 115]⟩, 0, 0, 1, 1⟩,
  ⟨0, 163, ⟨#[105, 108, 108, 101, 103, 97, 108, 45, 97, 115, 99, 111, 110, 102, 45, 97, 99, 107]⟩, 0, 65531, 1, 0⟩,
  ⟨0, 164, ⟨#[110, 111, 45, 97, 117, 116, 104, 111, 114, 105, 122, 97, 116, 105, 111, 110]⟩, 0, 65531, 1, 0⟩,
  ⟨0, 261, ⟨#[117, 110, 115, 117, 112, 112, 111, 114, 116, 101, 100, 45, 104, 109, 97, 99]⟩, 2, 2, 1, 0⟩]
def formsN : Nat → List ShForm
  | 1 => paramForms
  | 2 => causeForms
  | _ => []
def formsA (l : List ShForm) : List AV := l.map formA
@[push_cast] theorem formsA_len (l : List ShForm) : (formsA l).length = l.length := by simp [formsA]
theorem formsA_at (l : List ShForm) (i : Nat) (h : i < l.length) : (formsA l)[i]? = some (formA l[i]) := by simp [formsA, h]
@[push_cast] theorem formsA_ids (p : Nat → Bool) (l : List ShForm) : AV.idsOkL p (formsA l) = true := by
  rw [AV.idsOkL_iff]; intro x hx; simp only [formsA, List.mem_map] at hx; obtain ⟨f, _, rfl⟩ := hx; rfl
@[push_cast] theorem formsA_hand (ids : List Nat) (l : List ShForm) : AV.handL ids (formsA l) = formsA l := by
  rw [AV.handL_map, formsA, List.map_map]; rfl
/-- a form as a value -/
def formV (c : Nat) (f : ShForm) : Value := .agg #[.int .i64 (N c), .int .u16 (N f.ty), .string f.name, .int .i64 (N f.least), .int .i64 (N f.most), .int .i64 (N f.unit), .int .i64 (N f.kids)]
def entryV (c : Nat) (f : ShForm) : Value × Value := (.int .u16 (N f.ty), formV c f)
def zeroForm : ShForm := ⟨0, 0, ⟨#[]⟩, 0, 0, 0, 0⟩
/-- the form of a type; a zero form if there is none -/
def shapeOf (c t : Nat) : ShForm := (((formsN c).find? fun f => f.ty == t).map fun f => { f with cls := c }).getD zeroForm
def shapeHas (c t : Nat) : Bool := ((formsN c).find? fun f => f.ty == t).isSome
theorem mpFree_entries (c n : Nat) : ∀ l : List ShForm, (∀ f ∈ l, f.ty ≠ n) → mpFree .u16 (N n) (l.map (entryV c)) = true
  | [], _ => rfl
  | f :: l, h => by
    simp only [List.map_cons, entryV, mpFree, Bool.and_eq_true, decide_eq_true_eq]
    refine ⟨⟨trivial, ?_⟩, mpFree_entries c n l fun g hg => h g (by simp [hg])⟩
    rw [ne_eq, N_inj]; exact h f (by simp)
theorem mpFind_entries (c n : Nat) : ∀ l : List ShForm, mpFind .u16 (N n) (l.map (entryV c)) = some ((l.find? fun f => f.ty == n).map (formV c))
  | [] => rfl
  | f :: l => by
    simp only [List.map_cons, entryV, mpFind, if_true, N_inj, List.find?_cons]
    by_cases h : f.ty = n
    · simp [h]
    · have h' : (f.ty == n) = false := by simpa using h
      simp only [h, if_false, h', mpFind_entries c n l]
theorem forms_nodup (c : Nat) : ((formsN c).map (·.ty)).Nodup := by
  match c with
  | 0 => decide
  | 1 => decide
  | 2 => decide
  | _ + 3 => exact List.nodup_nil
theorem forms_free (c i : Nat) (h : i < (formsN c).length) : ∀ f ∈ (formsN c).take i, f.ty ≠ (formsN c)[i].ty := by
  intro f hf he
  have hn := forms_nodup c
  obtain ⟨j, hj, rfl⟩ := List.getElem_of_mem hf
  rw [List.length_take] at hj
  rw [List.getElem_take] at he
  have h1 : j = i := (List.getElem_inj (xs := (formsN c).map (·.ty)) (i := j) (j := i) (h₀ := by simp; omega) (h₁ := by simpa using h) hn).1 (by simpa using he)
  omega
end Go.Abs
namespace Go.Proofs.YtmcedkcehcacpaaGreatDoor.C
open Go.Abs
set_option maxRecDepth 100000 in
set_option maxHeartbeats 1000000 in
theorem table_c : PC Tryz.prog 78 [] (.agg [.val (.slice none 0 0), .sl false 7 (formsA paramForms), .sl false 7 (formsA causeForms)]) := by
  refine PC.of_bodyW (by simp only [push_cast]) Tryz.func78 rfl (by rw [Tryz.ntmps78]; simp) ?_
  refine AWp.regionW ?_
  refine AWp.regionW ?_
  refine AWp.ret ?_
  try simp only [thenQ, blockQ, noGo]
  refine bodyQ.m ?_
  simp only [formsA, paramForms, causeForms, List.map_cons, List.map_nil]
  first | done | exact Hand.go
theorem forms_c (c : Nat) (hc : c = 1 ∨ c = 2) : OC Tryz.prog 62 [nat c] [] (.own 0) [.mp ((formsN c).map (entryV c))] := by
  have hc3 : c < 3 := by omega
  have hl : (formsN c).length < 2 ^ 60 := by rcases hc with rfl | rfl <;> decide
  refine OC.of_body [0] (by intro k hk; simp at hk) Tryz.func62 rfl (by rw [Tryz.ntmps62]; simp) ?_
  refine AWp.regionW ?_
  refine AWp.regionM fun K1 hK1 => ?_
  refine ARun2.makeMapM ?_
  refine ARun2.endm (hK1 _ ?_)
  refine AWp.seqK fun K2 hK2 => ?_
  refine AWp.regionM fun K3 hK3 => ?_
  refine ARun2.callM (table_c) ?_
  refine ARun2.endm (hK3 _ ?_)
  refine AWp.condF ?_ (by simp only [push_cast, reduceIte, Nat.reduceEqDiff, Nat.reduceLT, Nat.reduceAdd, Nat.reduceSub, Nat.reduceMul, Nat.reduceLeDiff, Nat.reducePow, Int.reduceLT, Int.reduceToNat, reduceCtorEq, Int.reduceNeg, Int.reduceEq, Nat.reduceBEq, Nat.reduceBNe, Int.reduceBEq, Int.reduceBNe, String.reduceEq]; rw [decide_eq_false (by omega)])
  refine AWp.skip ?_
  refine hK2 _ ?_
  refine AWp.seqK fun K4 hK4 => ?_
  refine AWp.regionM fun K5 hK5 => ?_
  refine ARun2.callM (table_c) ?_
  refine ARun2.aindexM (c) (.sl false 7 (formsA (formsN c))) ?_ ?_
  · rw [YtmcedkcehcacpaaGreatDoor.Facts.tk142]; rcases hc with rfl | rfl <;> rfl
  refine ARun2.endm (hK5 _ ?_)
  refine AWp.block ?_
  refine AWp.loopK [0, 3, 18, 19] (fun (i : Nat) => [(20, nat i)]) (fun i => [.mp (((formsN c).take i).map (entryV c))]) (fun i => i ≤ (formsN c).length) (fun i => (formsN c).length - i) (0) ?_ (Nat.zero_le _) ?_
  · skip
    refine Le.m 1 ?_ ?_
    · first | with_reducible rfl | (simp only [push_cast, reduceIte, Nat.reduceEqDiff, Nat.reduceLT, Nat.reduceAdd, Nat.reduceSub, Nat.reduceMul, Nat.reduceLeDiff, Nat.reducePow, Int.reduceLT, Int.reduceToNat, reduceCtorEq, Int.reduceNeg, Int.reduceEq, Nat.reduceBEq, Nat.reduceBNe, Int.reduceBEq, Int.reduceBNe, String.reduceEq]; first | done | rfl | (simp (disch := omega) only [w_nat, w_add, w_addl, w_addr, w_sub, w_subl, w_mul, w_mull, w_mulr, w_u32, w_u16, w_u8, w_u32a, N_zero]; first | done | rfl))
    · first | (simp only [push_cast, reduceIte, Nat.reduceEqDiff, Nat.reduceLT, Nat.reduceAdd, Nat.reduceSub, Nat.reduceMul, Nat.reduceLeDiff, Nat.reducePow, Int.reduceLT, Int.reduceToNat, reduceCtorEq, Int.reduceNeg, Int.reduceEq, Nat.reduceBEq, Nat.reduceBNe, Int.reduceBEq, Int.reduceBNe, String.reduceEq]; first | done | rfl | (simp (disch := omega) only [w_nat, w_add, w_addl, w_addr, w_sub, w_subl, w_mul, w_mull, w_mulr, w_u32, w_u16, w_u8, w_u32a, N_zero]; first | done | rfl))
  · intro i hi K6 hK6
    refine AWp.regionW ?_
    refine AWp.seqK fun K7 hK7 => ?_
    refine AWp.condLM (fun c1 => ?_) (fun c1 => ?_)
    · skip
      have hil : i < (formsN c).length := by simpa using c1
      refine AWp.skip ?_
      refine hK7 _ ?_
      refine AWp.seqK fun K8 hK8 => ?_
      refine AWp.block ?_
      refine AWp.regionM fun K9 hK9 => ?_
      refine ARun2.indexM (i) (formA (formsN c)[i]) ?_ ?_
      · exact formsA_at _ _ hil
      refine ARun2.endm (hK9 _ ?_)
      refine AWp.regionW ?_
      refine AWp.regionN fun K10 hK10 => ?_
      refine ARun2.mapUpdateM ?_ ?_
      · exact mpFree_entries c _ _ (forms_free c i hil)
      refine ARun2.endm (hK10 _ ?_)
      refine hK8 _ ?_
      refine AWp.regionV ?_
      refine hK6 _ (i + 1) (by omega) (by omega) ?_
      refine Le.m 1 ?_ ?_
      · try simp only [push_cast, reduceIte, Nat.reduceEqDiff, Nat.reduceLT, Nat.reduceAdd, Nat.reduceSub, Nat.reduceMul, Nat.reduceLeDiff, Nat.reducePow, Int.reduceLT, Int.reduceToNat, reduceCtorEq, Int.reduceNeg, Int.reduceEq, Nat.reduceBEq, Nat.reduceBNe, Int.reduceBEq, Int.reduceBNe, String.reduceEq]
        try simp (disch := omega) only [w_nat, w_add, w_addl, w_addr, w_sub, w_subl, w_mul, w_mull, w_mulr, w_u32, w_u16, w_u8, w_u32a, N_zero]
        first | done | skip
        rw [List.take_succ_eq_append_getElem hil, List.map_append]; rfl
      · first | (simp only [push_cast, reduceIte, Nat.reduceEqDiff, Nat.reduceLT, Nat.reduceAdd, Nat.reduceSub, Nat.reduceMul, Nat.reduceLeDiff, Nat.reducePow, Int.reduceLT, Int.reduceToNat, reduceCtorEq, Int.reduceNeg, Int.reduceEq, Nat.reduceBEq, Nat.reduceBNe, Int.reduceBEq, Int.reduceBNe, String.reduceEq]; first | done | rfl | (simp (disch := omega) only [w_nat, w_add, w_addl, w_addr, w_sub, w_subl, w_mul, w_mull, w_mulr, w_u32, w_u16, w_u8, w_u32a, N_zero]; first | done | rfl))
    · skip
      have hil : i = (formsN c).length := by simp at c1; omega
      refine AWp.exit ?_
      try simp only [thenQ, blockQ, noGo, reduceIte, Nat.reduceEqDiff]
      refine hK4 _ ?_
      refine AWp.regionW ?_
      refine AWp.ret ?_
      try simp only [thenQ, blockQ, noGo]
      refine bodyQ.m ?_
      clear hK7 K7 hK6 K6 hK5 K5 hK4 K4 hK3 K3 hK2 K2 hK1 K1
      refine endO.m ?_ ?_
      · rw [hil, List.take_length]
      · skip
        first | done | exact Hand.go
theorem of_c (c t : Nat) (hc : c = 1 ∨ c = 2) : PC Tryz.prog 45 [nat c, u16 t] (.tup [formA (shapeOf c t), bool (shapeHas c t)]) := by
  refine PC.of_bodyW (by simp only [push_cast]) Tryz.func45 rfl (by rw [Tryz.ntmps45]; simp) ?_
  refine AWp.regionW ?_
  refine AWp.regionM fun K1 hK1 => ?_
  refine ARun2.callOM [] (forms_c c hc) ?_
  refine ARun2.lookupM (((formsN c).find? fun f => f.ty == t).map (formV c)) (formA (shapeOf c t)) ?_ ?_ ?_
  · exact mpFind_entries c t _
  · simp only [shapeOf]; cases (formsN c).find? (fun f => f.ty == t) <;> rfl
  refine ARun2.endm (hK1 _ ?_)
  refine AWp.regionW ?_
  refine AWp.ret ?_
  try simp only [thenQ, blockQ, noGo]
  refine bodyQ.m ?_
  clear hK1 K1
  simp only [shapeHas, Option.isSome_map]
  first | done | exact Hand.go
end Go.Proofs.YtmcedkcehcacpaaGreatDoor.C
/- node: Size. -/
set_option linter.unusedVariables false
set_option linter.unusedSimpArgs false
namespace Go.Abs
mutual
def GNode.wt : GNode → Nat
  | .mk _ _ k => wts k + 1
def wts : List GNode → Nat
  | [] => 0
  | n :: l => n.wt + wts l
end
theorem GNode.wt_eq (n : GNode) : n.wt = wts n.kids + 1 := by cases n; simp [GNode.wt, GNode.kids]
theorem wts_mem : ∀ {l : List GNode} {n : GNode}, n ∈ l → n.wt ≤ wts l
  | [], n, h => by simp at h
  | m :: l, n, h => by
    rcases List.mem_cons.1 h with h | h
    · subst h; simp only [wts]; omega
    · have := wts_mem h; simp only [wts]; omega
theorem kids_lt {l : List GNode} {n : GNode} (h : n ∈ l) : wts n.kids < wts l := by
  have := wts_mem h; rw [GNode.wt_eq] at this; omega
end Go.Abs
namespace Go.Proofs.YtmcedkcehcacpaaGreatDoor.C
open Go.Abs
mutual
/-- the length of a node's value -/
def vlen : GNode → Nat
  | .mk _ d k => d.length + tlvSize (nLens k)
def nLens : List GNode → List Nat
  | [] => []
  | n :: l => vlen n :: nLens l
end
/-- the size of a list of nodes -/
def nSize (l : List GNode) : Nat := tlvSize (nLens l)
theorem nLens_map : ∀ l : List GNode, nLens l = l.map vlen
  | [] => by simp [nLens]
  | n :: l => by simp [nLens, nLens_map l]
theorem vlen_eq (n : GNode) : vlen n = n.data.length + nSize n.kids := by cases n; simp [vlen, nSize, GNode.data, GNode.kids]
theorem sumUp_mem : ∀ {l : List Nat} {s n : Nat}, n ∈ l → n ≤ sumUp s l
  | [], s, n, h => by simp at h
  | m :: l, s, n, h => by
    simp only [sumUp]
    rcases List.mem_cons.1 h with h | h
    · subst h; exact Nat.le_trans (by omega) (le_sumUp l _)
    · exact sumUp_mem h
theorem sumUp_len : ∀ (l : List Nat) (s : Nat), s + 4 * l.length ≤ sumUp s (l.map (4 + ·))
  | [], s => by simp [sumUp]
  | n :: l, s => by
    have := sumUp_len l (upN s + (4 + n))
    simp only [List.map_cons, sumUp, List.length_cons, upN] at *
    omega
theorem tlvSize_mem {l : List Nat} {n : Nat} (h : n ∈ l) : 4 + n ≤ tlvSize l := sumUp_mem (List.mem_map.2 ⟨n, h, rfl⟩)
theorem tlvSize_len (l : List Nat) : 4 * l.length ≤ tlvSize l := by have := sumUp_len l 0; simpa [tlvSize] using this
theorem vlen_mem {l : List GNode} {n : GNode} (h : n ∈ l) : 4 + vlen n ≤ nSize l := tlvSize_mem (by rw [nLens_map]; exact List.mem_map.2 ⟨n, h, rfl⟩)
theorem nSize_len (l : List GNode) : 4 * l.length ≤ nSize l := by have := tlvSize_len (nLens l); rw [nLens_map, List.length_map] at this; rw [nSize, nLens_map]; exact this
theorem nSize_kids {l : List GNode} {n : GNode} (h : n ∈ l) : nSize n.kids ≤ nSize l := by have := vlen_mem h; rw [vlen_eq] at this; omega
/-- a frame of zeros in place of a node -/
def zf (n : GNode) : Frm := ⟨0, List.replicate (vlen n) 0⟩
theorem size_step (w : Nat) (ih : ∀ l : List GNode, wts l < w → nSize l ≤ 2 ^ 30 → PC Tryz.prog 13 [.sl false 3 (nodesA false l)] (nat (nSize l))) (l : List GNode) (hw : wts l ≤ w) (hs : nSize l ≤ 2 ^ 30) :
    PC Tryz.prog 13 [.sl false 3 (nodesA false l)] (nat (nSize l)) := by
  have hlen := nSize_len l
  refine PC.of_bodyW (by simp only [push_cast]) Tryz.func13 rfl (by rw [Tryz.ntmps13]; simp) ?_
  refine AWp.regionW ?_
  refine AWp.regionW ?_
  refine AWp.seqK fun K1 hK1 => ?_
  refine AWp.regionW ?_
  refine AWp.block ?_
  -- SLOTS THAT TURN AND ARE NOT TOLD: [3]
  refine AWp.nilOwn 3 71 2 (by simp only [push_cast, reduceIte, Nat.reduceEqDiff, Nat.reduceLT, Nat.reduceAdd, Nat.reduceSub, Nat.reduceMul, Nat.reduceLeDiff, Nat.reducePow, Int.reduceLT, Int.reduceToNat, reduceCtorEq, Int.reduceNeg, Int.reduceEq, Nat.reduceBEq, Nat.reduceBNe, Int.reduceBEq, Int.reduceBNe, String.reduceEq]) ?_
  simp only [push_cast, reduceIte, Nat.reduceEqDiff, Nat.reduceLT, Nat.reduceAdd, Nat.reduceSub, Nat.reduceMul, Nat.reduceLeDiff, Nat.reducePow, Int.reduceLT, Int.reduceToNat, reduceCtorEq, Int.reduceNeg, Int.reduceEq, Nat.reduceBEq, Nat.reduceBNe, Int.reduceBEq, Int.reduceBNe, String.reduceEq]
  refine AWp.loopK [3, 6, 7] (fun (i : Nat) => [(8, nat i)]) (fun i => [.row 71 2 (frmsA true ((l.take i).map zf))]) (fun i => i ≤ l.length) (fun i => l.length - i) (0) ?_ (Nat.zero_le _) ?_
  · skip
    refine Le.m 1 ?_ ?_
    · try simp only [push_cast, reduceIte, Nat.reduceEqDiff, Nat.reduceLT, Nat.reduceAdd, Nat.reduceSub, Nat.reduceMul, Nat.reduceLeDiff, Nat.reducePow, Int.reduceLT, Int.reduceToNat, reduceCtorEq, Int.reduceNeg, Int.reduceEq, Nat.reduceBEq, Nat.reduceBNe, Int.reduceBEq, Int.reduceBNe, String.reduceEq]
      try simp (disch := omega) only [w_nat, w_add, w_addl, w_addr, w_sub, w_subl, w_mul, w_mull, w_mulr, w_u32, w_u16, w_u8, w_u32a, N_zero]
      first | done | skip
      rfl
    · first | (simp only [push_cast, reduceIte, Nat.reduceEqDiff, Nat.reduceLT, Nat.reduceAdd, Nat.reduceSub, Nat.reduceMul, Nat.reduceLeDiff, Nat.reducePow, Int.reduceLT, Int.reduceToNat, reduceCtorEq, Int.reduceNeg, Int.reduceEq, Nat.reduceBEq, Nat.reduceBNe, Int.reduceBEq, Int.reduceBNe, String.reduceEq]; first | done | rfl | (simp (disch := omega) only [w_nat, w_add, w_addl, w_addr, w_sub, w_subl, w_mul, w_mull, w_mulr, w_u32, w_u16, w_u8, w_u32a, N_zero]; first | done | rfl))
  · intro i hi K2 hK2
    refine AWp.regionW ?_
    refine AWp.seqK fun K3 hK3 => ?_
    refine AWp.condLM (fun c0 => ?_) (fun c0 => ?_)
    · skip
      have hil : i < l.length := by simpa using c0
      have hm := List.getElem_mem hil
      have hv := vlen_mem hm
      have he := vlen_eq l[i]
      have hk := nSize_kids hm
      refine AWp.skip ?_
      refine hK3 _ ?_
      refine AWp.seqK fun K4 hK4 => ?_
      refine AWp.block ?_
      refine AWp.regionM fun K5 hK5 => ?_
      refine ARun2.indexM (i) (nodeA false l[i]) ?_ ?_
      · exact nodesA_at _ _ _ hil
      refine ARun2.endm (hK5 _ ?_)
      refine AWp.drE [[(3, none)], [(5, none)], [(13, some 1)], [(14, some 2)], [(5, none)], [(16, some 4)], [(17, some 5)], [(15, some 3), (18, some 6)], [(19, some 7)], [(20, some 8)], [(21, some 9)]] fun G hG => ?_
      refine Dr.sim ?_
      try simp only [List.cons_append, List.nil_append]
      refine Dr.sim ?_
      try simp only [List.cons_append, List.nil_append]
      refine Dr.sim ?_
      try simp only [List.cons_append, List.nil_append]
      refine Dr.sim ?_
      try simp only [List.cons_append, List.nil_append]
      refine Dr.sim ?_
      try simp only [List.cons_append, List.nil_append]
      refine Dr.sim ?_
      try simp only [List.cons_append, List.nil_append]
      refine Dr.call (ih l[i].kids (by have := kids_lt hm; omega) (by omega)) ?_
      try simp only [List.cons_append, List.nil_append]
      refine Dr.sim ?_
      try simp only [List.cons_append, List.nil_append]
      rw [← he]
      refine Dr.make (vlen l[i]) ?_ ?_
      · omega
      try simp only [List.cons_append, List.nil_append]
      refine Dr.sim ?_
      try simp only [List.cons_append, List.nil_append]
      refine Dr.build ?_
      try simp only [List.cons_append, List.nil_append]
      refine Dr.finN (n := 11) [(12, 0), (22, 10)] [6, 7, 8] hG YtmcedkcehcacpaaGreatDoor.Facts.mixed fun KD hKD => ?_
      refine ARun2.appendM ?_ ?_ ?_
      · rw [YtmcedkcehcacpaaGreatDoor.Facts.eb68, frmsA_len, List.length_map, List.length_take, List.length_cons, List.length_nil]; omega
      · rw [frmsA_len, List.length_map, List.length_take, List.length_cons, List.length_nil]; omega
      refine ARun2.endm (hKD _ ?_); clear hKD KD hG G
      refine hK4 _ ?_
      refine AWp.regionV ?_
      refine hK2 _ (i + 1) (by omega) (by omega) ?_
      refine Le.m 1 ?_ ?_
      · try simp only [push_cast, reduceIte, Nat.reduceEqDiff, Nat.reduceLT, Nat.reduceAdd, Nat.reduceSub, Nat.reduceMul, Nat.reduceLeDiff, Nat.reducePow, Int.reduceLT, Int.reduceToNat, reduceCtorEq, Int.reduceNeg, Int.reduceEq, Nat.reduceBEq, Nat.reduceBNe, Int.reduceBEq, Int.reduceBNe, String.reduceEq]
        try simp (disch := omega) only [w_nat, w_add, w_addl, w_addr, w_sub, w_subl, w_mul, w_mull, w_mulr, w_u32, w_u16, w_u8, w_u32a, N_zero]
        first | done | skip
        rw [List.take_succ_eq_append_getElem hil, List.map_append]; simp [frmsA, frmA, zf, N]
      · first | (simp only [push_cast, reduceIte, Nat.reduceEqDiff, Nat.reduceLT, Nat.reduceAdd, Nat.reduceSub, Nat.reduceMul, Nat.reduceLeDiff, Nat.reducePow, Int.reduceLT, Int.reduceToNat, reduceCtorEq, Int.reduceNeg, Int.reduceEq, Nat.reduceBEq, Nat.reduceBNe, Int.reduceBEq, Int.reduceBNe, String.reduceEq]; first | done | rfl | (simp (disch := omega) only [w_nat, w_add, w_addl, w_addr, w_sub, w_subl, w_mul, w_mull, w_mulr, w_u32, w_u16, w_u8, w_u32a, N_zero]; first | done | rfl))
    · skip
      have hil : i = l.length := by simp at c0; omega
      subst hil
      refine AWp.exit ?_
      try simp only [thenQ, blockQ, noGo, reduceIte, Nat.reduceEqDiff]
      refine hK1 _ ?_
      refine AWp.pub 0 rfl (Nat.le_refl _) ?_
      simp only [push_cast, reduceIte, Nat.reduceEqDiff, Nat.reduceLT, Nat.reduceAdd, Nat.reduceSub, Nat.reduceMul, Nat.reduceLeDiff, Nat.reducePow, Int.reduceLT, Int.reduceToNat, reduceCtorEq, Int.reduceNeg, Int.reduceEq, Nat.reduceBEq, Nat.reduceBNe, Int.reduceBEq, Int.reduceBNe, String.reduceEq, List.take_length]
      refine AWp.regionM fun K6 hK6 => ?_
      have hz : tlvSize ((l.map zf).map fun f => f.val.length) = nSize l := by rw [nSize, nLens_map]; simp [List.map_map, Function.comp_def, zf]
      refine ARun2.callM (tlvSize_c (l.map zf) (by have := hz; omega) (by rw [List.length_map]; omega) (by intro f hf; obtain ⟨n, hn, rfl⟩ := List.mem_map.1 hf; have := vlen_mem hn; simp [zf]; omega)) ?_
      refine ARun2.endm (hK6 _ ?_)
      refine AWp.ret ?_
      try simp only [thenQ, blockQ, noGo]
      refine bodyQ.m ?_
      clear hK6 K6 hK3 K3 hK2 K2 hK1 K1
      rw [hz]
      first | done | exact Hand.go
theorem size_w : ∀ (w : Nat) (l : List GNode), wts l ≤ w → nSize l ≤ 2 ^ 30 → PC Tryz.prog 13 [.sl false 3 (nodesA false l)] (nat (nSize l)) := by
  intro w
  induction w with
  | zero => exact size_step 0 (fun l h => by omega)
  | succ w ih => exact size_step (w + 1) (fun l h => ih l (by omega))
theorem size_c (l : List GNode) (hs : nSize l ≤ 2 ^ 30) : PC Tryz.prog 13 [.sl false 3 (nodesA false l)] (nat (nSize l)) := size_w _ l (Nat.le_refl _) hs
end Go.Proofs.YtmcedkcehcacpaaGreatDoor.C
/- node: check. -/
set_option linter.unusedVariables false
set_option linter.unusedSimpArgs false
namespace Go.Proofs.YtmcedkcehcacpaaGreatDoor.C
open Go.Abs
/-- an error that is a code; 0: none -/
def errA (e : Nat) : AV := bif e == 0 then .val .nilIface else .ifc 57 (.val (.int .i64 (N e)))
@[push_cast] theorem nilIs_err (e : Nat) : nilIs .ifc (errA e) = some (e == 0) := by
  unfold errA; cases e == 0 <;> rfl
@[push_cast] theorem err_ids (p : Nat → Bool) (e : Nat) : (errA e).idsOk p = true := by unfold errA; cases e == 0 <;> rfl
@[push_cast] theorem err_hand (ids : List Nat) (e : Nat) : (errA e).hand ids = errA e := by unfold errA; cases e == 0 <;> rfl
@[push_cast] theorem err_one (e : Nat) : (errA e).one = true := by unfold errA; cases e == 0 <;> rfl
@[push_cast] theorem err_flat (e : Nat) : (errA e).flat = true := by unfold errA; cases e == 0 <;> rfl
@[push_cast] theorem err_cells (e : Nat) : (errA e).cells = [errA e] := by unfold errA; cases e == 0 <;> rfl
/-- is the form of a node wrong? -/
def badN (c t len : Nat) (k : List GNode) : Bool :=
  (!shapeHas c t && decide (0 < k.length)) || (shapeHas c t && (!fitsN (shapeOf c t) len || !kidsOk (shapeOf c t) k))
mutual
/-- the code of a node's error; 0: none -/
def checkN (c dp : Nat) : GNode → Nat
  | .mk t d k =>
    if 4 < dp then 9 else if badN c t d.length k = true then 7 else if countedN c t d = true then 8
    else if checkL (insideN (shapeOf c t).kids).1 (dp + 1) k ≠ 0 then checkL (insideN (shapeOf c t).kids).1 (dp + 1) k
    else if 65535 < nSize [.mk t d k] then 4 else 0
/-- the first error of some nodes -/
def checkL (c dp : Nat) : List GNode → Nat
  | [] => 0
  | n :: l => if checkN c dp n ≠ 0 then checkN c dp n else checkL c dp l
end
theorem checkN_eq (c dp : Nat) (n : GNode) : checkN c dp n =
    if 4 < dp then 9 else if badN c n.ty n.data.length n.kids = true then 7 else if countedN c n.ty n.data = true then 8
    else if checkL (insideN (shapeOf c n.ty).kids).1 (dp + 1) n.kids ≠ 0 then checkL (insideN (shapeOf c n.ty).kids).1 (dp + 1) n.kids
    else if 65535 < nSize [n] then 4 else 0 := by
  cases n; simp only [checkN, GNode.ty, GNode.data, GNode.kids]; rfl
theorem checkL_snoc (c dp : Nat) (n : GNode) : ∀ l : List GNode, checkL c dp (l ++ [n]) = if checkL c dp l ≠ 0 then checkL c dp l else checkN c dp n
  | [] => by
    simp only [List.nil_append, checkL]
    by_cases h : checkN c dp n = 0 <;> simp [h]
  | m :: l => by
    simp only [List.cons_append, checkL, checkL_snoc c dp n l]
    by_cases h : checkN c dp m = 0 <;> simp [h]
theorem checkL_app (c dp : Nat) (r : List GNode) : ∀ l : List GNode, checkL c dp l ≠ 0 → checkL c dp (l ++ r) = checkL c dp l
  | [], h => by simp [checkL] at h
  | m :: l, h => by
    simp only [List.cons_append, checkL] at h ⊢
    by_cases hm : checkN c dp m = 0
    · simp only [hm, ne_eq, not_true_eq_false, if_false] at h ⊢
      exact checkL_app c dp r l h
    · simp [hm]
theorem checkL_at (c dp : Nat) (l : List GNode) (i : Nat) (hil : i < l.length) (h0 : checkL c dp (l.take i) = 0) (h : checkN c dp l[i] ≠ 0) : checkL c dp l = checkN c dp l[i] := by
  have e := checkL_snoc c dp l[i] (l.take i)
  rw [h0, ← List.take_succ_eq_append_getElem hil] at e
  simp only [ne_eq, not_true_eq_false, if_false] at e
  have e2 := checkL_app c dp (l.drop (i + 1)) (l.take (i + 1)) (by rw [e]; exact h)
  rw [List.take_append_drop] at e2
  exact e2.trans e
theorem form_ok (c t : Nat) (h : shapeHas c t = true) : 0 < (shapeOf c t).unit ∧ (shapeOf c t).unit < 2 ^ 60 ∧ (shapeOf c t).least < 2 ^ 60 := by
  have key : ∀ l : List ShForm, (∀ f ∈ l, 0 < f.unit ∧ f.unit < 2 ^ 60 ∧ f.least < 2 ^ 60) → (l.find? fun f => f.ty == t).isSome = true →
      0 < (((l.find? fun f => f.ty == t).map fun f => { f with cls := c }).getD zeroForm).unit ∧ (((l.find? fun f => f.ty == t).map fun f => { f with cls := c }).getD zeroForm).unit < 2 ^ 60 ∧ (((l.find? fun f => f.ty == t).map fun f => { f with cls := c }).getD zeroForm).least < 2 ^ 60 := by
    intro l hl hs
    cases hf : l.find? (fun f => f.ty == t) with
    | none => simp [hf] at hs
    | some f => simpa using hl f (List.mem_of_find?_eq_some hf)
  refine key (formsN c) ?_ h
  match c with
  | 0 => intro f hf; simp [formsN] at hf
  | 1 => decide
  | 2 => decide
  | _ + 3 => intro f hf; simp [formsN] at hf
theorem form_kids (c t : Nat) : (shapeOf c t).kids < 2 ^ 60 := by
  have key : ∀ l : List ShForm, (∀ f ∈ l, f.kids < 2 ^ 60) → (((l.find? fun f => f.ty == t).map fun f => { f with cls := c }).getD zeroForm).kids < 2 ^ 60 := by
    intro l hl
    cases hf : l.find? (fun f => f.ty == t) with
    | none => simp [zeroForm]
    | some f => simpa using hl f (List.mem_of_find?_eq_some hf)
  refine key (formsN c) ?_
  match c with
  | 0 => intro f hf; simp [formsN] at hf
  | 1 => decide
  | 2 => decide
  | _ + 3 => intro f hf; simp [formsN] at hf
/-- right nodes with nodes inside say what class these have -/
theorem inside_class (c t len : Nat) (k : List GNode) (h : badN c t len k = false) (hk : 0 < k.length) : (insideN (shapeOf c t).kids).1 = 1 ∨ (insideN (shapeOf c t).kids).1 = 2 := by
  unfold badN at h
  have hd : decide (0 < k.length) = true := by simpa using hk
  rw [hd] at h
  cases hs : shapeHas c t with
  | false => simp [hs] at h
  | true =>
    simp only [hs, Bool.not_true, Bool.false_and, Bool.false_or, Bool.true_and, Bool.or_eq_false_iff, Bool.not_eq_false'] at h
    have hkk := h.2
    unfold kidsOk insideN at hkk
    unfold insideN
    by_cases h1 : (shapeOf c t).kids = 1 ∨ (shapeOf c t).kids = 4
    · simp [h1]
    · by_cases h2 : (shapeOf c t).kids = 2
      · simp [h2]
      · by_cases h3 : (shapeOf c t).kids = 3
        · simp [h3]
        · simp [h1, h2, h3] at hkk
          rw [hkk.1] at hk
          simp at hk
theorem nSize_kids1 (n : GNode) : nSize n.kids ≤ nSize [n] := nSize_kids (by simp)
theorem nSize_one {l : List GNode} {n : GNode} (h : n ∈ l) : nSize [n] ≤ nSize l := by
  have := vlen_mem h
  have e : nSize [n] = 4 + vlen n := by simp [nSize, nLens, tlvSize, sumUp, upN, gapN]
  omega
theorem nSize_data (n : GNode) : n.data.length ≤ nSize [n] := by
  have e : nSize [n] = 4 + vlen n := by simp [nSize, nLens, tlvSize, sumUp, upN, gapN]
  rw [vlen_eq] at e; omega
theorem check_step (w : Nat) (ih : ∀ (c dp : Nat) (n : GNode), n.wt < w → (c = 1 ∨ c = 2) → dp < 2 ^ 60 → nSize [n] ≤ 2 ^ 30 → PC Tryz.prog 25 [nat c, nodeA false n, nat dp] (errA (checkN c dp n)))
    (c dp : Nat) (n : GNode) (hw : n.wt ≤ w) (hc : c = 1 ∨ c = 2) (hdp : dp < 2 ^ 60) (hs : nSize [n] ≤ 2 ^ 30) : PC Tryz.prog 25 [nat c, nodeA false n, nat dp] (errA (checkN c dp n)) := by
  have hkl := nSize_len n.kids
  have hk1 := nSize_kids1 n
  have hdl := nSize_data n
  refine PC.of_bodyW (by simp only [push_cast]) Tryz.func25 rfl (by rw [Tryz.ntmps25]; simp) ?_
  refine AWp.regionW ?_
  refine AWp.seqK fun K1 hK1 => ?_
  refine AWp.regionW ?_
  refine AWp.condLM (fun c0 => ?_) (fun c0 => ?_)
  · skip
    have h0 : 4 < dp := by simpa using c0
    refine AWp.regionW ?_
    refine AWp.ret ?_
    try simp only [thenQ, blockQ, noGo]
    refine bodyQ.m ?_
    clear hK1 K1
    rw [checkN_eq, if_pos h0]
    first | done | exact Hand.go
  · skip
    have h0 : ¬ 4 < dp := by simpa using c0
    refine AWp.skip ?_
    refine hK1 _ ?_
    refine AWp.regionM fun K2 hK2 => ?_
    refine ARun2.callM (of_c c n.ty hc) ?_
    refine ARun2.endm (hK2 _ ?_)
    refine AWp.seqK fun K3 hK3 => ?_
    refine AWp.block ?_
    refine AWp.seqK fun K4 hK4 => ?_
    refine AWp.regionA fun K5 hK5 => ?_
    refine ARun.segm 3 fun KS hKS => ?_
    refine ARun2.endm (hKS _ ?_); clear hKS KS
    apply ARun.grpM 4 2 true 32 [0, 2, 4, 7, 8, 28]
    · intro g2 KG hKG
      refine ARun2.gom ?_
      exact ARun2.endm (hKG _ Le.grpM)
    refine ARun2.gom ?_
    refine ARun2.endm (hK5 _ ?_)
    refine AWp.condLM (fun c1 => ?_) (fun c1 => ?_)
    · skip
      refine AWp.skip ?_
      refine hK4 _ ?_
      refine AWp.condT ?_
      have hb : badN c n.ty n.data.length n.kids = true := by unfold badN; simp_all
      refine AWp.regionW ?_
      refine AWp.ret ?_
      try simp only [thenQ, blockQ, noGo]
      refine bodyQ.m ?_
      clear hK5 K5 hK4 K4 hK3 K3 hK2 K2 hK1 K1
      rw [checkN_eq, if_neg h0, if_pos hb]
      first | done | exact Hand.go
    · skip
      refine AWp.regionB fun K6 hK6 => ?_
      refine ARun.segm 2 fun KS hKS => ?_
      refine ARun2.endm (hKS _ ?_); clear hKS KS
      apply ARun.grpM 13 1 true 48 [0, 2, 4, 7, 35]
      · intro g1 KG hKG
        have hf := form_ok c n.ty g1
        refine ARun.segm 7 fun KS hKS => ?_
        refine ARun2.callM (fits_c (shapeOf c n.ty) n.data.length (by omega) hf.2.2 hf.1 hf.2.1) ?_
        refine ARun2.endm (hKS _ ?_); clear hKS KS
        apply ARun.grpM 5 8 false 47 [0, 2, 4, 7, 35, 42]
        · intro g8 KG hKG
          refine ARun2.gom ?_
          refine ARun2.callM (kids_c (shapeOf c n.ty) n.kids (by omega) (form_kids c n.ty)) ?_
          exact ARun2.endm (hKG _ Le.grpM)
        refine ARun2.gom ?_
        exact ARun2.endm (hKG _ Le.grpM)
      refine ARun2.gom ?_
      refine ARun2.endm (hK6 _ ?_)
      refine hK4 _ ?_
      refine AWp.condLM (fun c2 => ?_) (fun c2 => ?_)
      · skip
        have hb : badN c n.ty n.data.length n.kids = true := by unfold badN; simp_all
        refine AWp.regionW ?_
        refine AWp.ret ?_
        try simp only [thenQ, blockQ, noGo]
        refine bodyQ.m ?_
        clear hK6 K6 hK5 K5 hK4 K4 hK3 K3 hK2 K2 hK1 K1
        rw [checkN_eq, if_neg h0, if_pos hb]
        first | done | exact Hand.go
      · skip
        have hb : badN c n.ty n.data.length n.kids = false := by unfold badN; simp_all
        have hb' : ¬ badN c n.ty n.data.length n.kids = true := by rw [hb]; simp
        refine AWp.regionM fun K7 hK7 => ?_
        refine ARun2.callM (counted_c c n.ty n.data (by omega)) ?_
        refine ARun2.endm (hK7 _ ?_)
        refine AWp.condLM (fun c3 => ?_) (fun c3 => ?_)
        · skip
          have h3 : countedN c n.ty n.data = true := c3
          refine AWp.regionW ?_
          refine AWp.ret ?_
          try simp only [thenQ, blockQ, noGo]
          refine bodyQ.m ?_
          clear hK7 K7 hK6 K6 hK5 K5 hK4 K4 hK3 K3 hK2 K2 hK1 K1
          rw [checkN_eq, if_neg h0, if_neg hb', if_pos h3]
          first | done | exact Hand.go
        · skip
          have h3 : ¬ countedN c n.ty n.data = true := by rw [c3]; simp
          refine AWp.skip ?_
          refine hK3 _ ?_
          refine AWp.regionM fun K8 hK8 => ?_
          refine ARun2.callM (inside_c (shapeOf c n.ty).kids (form_kids c n.ty)) ?_
          refine ARun2.endm (hK8 _ ?_)
          refine AWp.seqK fun K9 hK9 => ?_
          refine AWp.regionW ?_
          refine AWp.block ?_
          refine AWp.loopK0 [2, 4, 9, 67, 68] (fun (i : Nat) => [(69, nat i)]) (fun i => i ≤ n.kids.length ∧ checkL (insideN (shapeOf c n.ty).kids).1 (dp + 1) (n.kids.take i) = 0) (fun i => n.kids.length - i) (0) ?_ ⟨Nat.zero_le _, rfl⟩ ?_
          · skip
            refine Le.m 2 ?_ ?_
            · first | with_reducible rfl | (simp only [push_cast, reduceIte, Nat.reduceEqDiff, Nat.reduceLT, Nat.reduceAdd, Nat.reduceSub, Nat.reduceMul, Nat.reduceLeDiff, Nat.reducePow, Int.reduceLT, Int.reduceToNat, reduceCtorEq, Int.reduceNeg, Int.reduceEq, Nat.reduceBEq, Nat.reduceBNe, Int.reduceBEq, Int.reduceBNe, String.reduceEq]; first | done | rfl | (simp (disch := omega) only [w_nat, w_add, w_addl, w_addr, w_sub, w_subl, w_mul, w_mull, w_mulr, w_u32, w_u16, w_u8, w_u32a, N_zero]; first | done | rfl))
            · first | (simp only [push_cast, reduceIte, Nat.reduceEqDiff, Nat.reduceLT, Nat.reduceAdd, Nat.reduceSub, Nat.reduceMul, Nat.reduceLeDiff, Nat.reducePow, Int.reduceLT, Int.reduceToNat, reduceCtorEq, Int.reduceNeg, Int.reduceEq, Nat.reduceBEq, Nat.reduceBNe, Int.reduceBEq, Int.reduceBNe, String.reduceEq]; first | done | rfl | (simp (disch := omega) only [w_nat, w_add, w_addl, w_addr, w_sub, w_subl, w_mul, w_mull, w_mulr, w_u32, w_u16, w_u8, w_u32a, N_zero]; first | done | rfl))
          · intro i hi K10 hK10
            refine AWp.regionW ?_
            refine AWp.seqK fun K11 hK11 => ?_
            refine AWp.condLM (fun c4 => ?_) (fun c4 => ?_)
            · skip
              have hil : i < n.kids.length := by simpa using c4
              have hm := List.getElem_mem hil
              have hcl := inside_class c n.ty n.data.length n.kids hb (by omega)
              refine AWp.skip ?_
              refine hK11 _ ?_
              refine AWp.seqK fun K12 hK12 => ?_
              refine AWp.block ?_
              refine AWp.regionM fun K13 hK13 => ?_
              refine ARun2.indexM (i) (nodeA false n.kids[i]) ?_ ?_
              · exact nodesA_at _ _ _ hil
              refine ARun2.endm (hK13 _ ?_)
              refine AWp.regionM fun K14 hK14 => ?_
              refine ARun2.callM (ih (insideN (shapeOf c n.ty).kids).1 (dp + 1) n.kids[i] (by have := wts_mem hm; rw [GNode.wt_eq] at hw; omega) hcl (by omega) (by have := nSize_one hm; omega)) ?_
              refine ARun2.endm (hK14 _ ?_)
              refine AWp.regionW ?_
              refine AWp.condLM (fun c5 => ?_) (fun c5 => ?_)
              · skip
                have h5 : checkN (insideN (shapeOf c n.ty).kids).1 (dp + 1) n.kids[i] ≠ 0 := by simpa using c5
                refine AWp.regionW ?_
                refine AWp.ret ?_
                try simp only [thenQ, blockQ, noGo]
                refine bodyQ.m ?_
                clear hK14 K14 hK13 K13 hK12 K12 hK11 K11 hK10 K10 hK9 K9 hK8 K8 hK7 K7 hK6 K6 hK5 K5 hK4 K4 hK3 K3 hK2 K2 hK1 K1
                have hL := checkL_at _ _ n.kids i hil hi.2 h5
                rw [checkN_eq c dp n, if_neg h0, if_neg hb', if_neg h3, if_pos (by rw [hL]; exact h5), hL]
                first | done | exact Hand.go
              · skip
                have h5 : checkN (insideN (shapeOf c n.ty).kids).1 (dp + 1) n.kids[i] = 0 := by simpa using c5
                refine AWp.skip ?_
                refine hK12 _ ?_
                refine AWp.regionV ?_
                refine hK10 _ (i + 1) (⟨by omega, by rw [List.take_succ_eq_append_getElem hil, checkL_snoc, hi.2]; simpa using h5⟩) (by omega) ?_
                refine Le.m 2 ?_ ?_
                · first | with_reducible rfl | (simp only [push_cast, reduceIte, Nat.reduceEqDiff, Nat.reduceLT, Nat.reduceAdd, Nat.reduceSub, Nat.reduceMul, Nat.reduceLeDiff, Nat.reducePow, Int.reduceLT, Int.reduceToNat, reduceCtorEq, Int.reduceNeg, Int.reduceEq, Nat.reduceBEq, Nat.reduceBNe, Int.reduceBEq, Int.reduceBNe, String.reduceEq]; first | done | rfl | (simp (disch := omega) only [w_nat, w_add, w_addl, w_addr, w_sub, w_subl, w_mul, w_mull, w_mulr, w_u32, w_u16, w_u8, w_u32a, N_zero]; first | done | rfl))
                · first | (simp only [push_cast, reduceIte, Nat.reduceEqDiff, Nat.reduceLT, Nat.reduceAdd, Nat.reduceSub, Nat.reduceMul, Nat.reduceLeDiff, Nat.reducePow, Int.reduceLT, Int.reduceToNat, reduceCtorEq, Int.reduceNeg, Int.reduceEq, Nat.reduceBEq, Nat.reduceBNe, Int.reduceBEq, Int.reduceBNe, String.reduceEq]; first | done | rfl | (simp (disch := omega) only [w_nat, w_add, w_addl, w_addr, w_sub, w_subl, w_mul, w_mull, w_mulr, w_u32, w_u16, w_u8, w_u32a, N_zero]; first | done | rfl))
            · skip
              have hil : i = n.kids.length := by have := hi.1; simp at c4; omega
              have hL : checkL (insideN (shapeOf c n.ty).kids).1 (dp + 1) n.kids = 0 := by have := hi.2; rwa [hil, List.take_length] at this
              subst hil
              refine AWp.exit ?_
              try simp only [thenQ, blockQ, noGo, reduceIte, Nat.reduceEqDiff]
              refine hK9 _ ?_
              refine AWp.seqK fun K15 hK15 => ?_
              refine AWp.regionM fun K16 hK16 => ?_
              refine ARun2.callM (size_c [n] hs) ?_
              refine ARun2.endm (hK16 _ ?_)
              refine AWp.condLM (fun c6 => ?_) (fun c6 => ?_)
              · skip
                have h6 : 65535 < nSize [n] := by simpa using c6
                refine AWp.regionW ?_
                refine AWp.ret ?_
                try simp only [thenQ, blockQ, noGo]
                refine bodyQ.m ?_
                clear hK16 K16 hK15 K15 hK11 K11 hK10 K10 hK9 K9 hK8 K8 hK7 K7 hK6 K6 hK5 K5 hK4 K4 hK3 K3 hK2 K2 hK1 K1
                rw [checkN_eq, if_neg h0, if_neg hb', if_neg h3, if_neg (by rw [hL]; simp), if_pos h6]
                first | done | exact Hand.go
              · skip
                have h6 : ¬ 65535 < nSize [n] := by simpa using c6
                refine AWp.skip ?_
                refine hK15 _ ?_
                refine AWp.regionW ?_
                refine AWp.ret ?_
                try simp only [thenQ, blockQ, noGo]
                refine bodyQ.m ?_
                clear hK16 K16 hK15 K15 hK11 K11 hK10 K10 hK9 K9 hK8 K8 hK7 K7 hK6 K6 hK5 K5 hK4 K4 hK3 K3 hK2 K2 hK1 K1
                rw [checkN_eq, if_neg h0, if_neg hb', if_neg h3, if_neg (by rw [hL]; simp), if_neg h6]
                first | done | exact Hand.go
theorem check_w : ∀ (w c dp : Nat) (n : GNode), n.wt ≤ w → (c = 1 ∨ c = 2) → dp < 2 ^ 60 → nSize [n] ≤ 2 ^ 30 → PC Tryz.prog 25 [nat c, nodeA false n, nat dp] (errA (checkN c dp n)) := by
  intro w
  induction w with
  | zero => exact check_step 0 (fun c dp n h => by omega)
  | succ w ih => exact check_step (w + 1) (fun c dp n h => ih c dp n (by omega))
theorem check_c (c : Nat) (n : GNode) (hc : c = 1 ∨ c = 2) (hs : nSize [n] ≤ 2 ^ 30) : PC Tryz.prog 9 [nat c, nodeA false n] (errA (checkN c 1 n)) := by
  refine PC.of_bodyW (by simp only [push_cast]) Tryz.func9 rfl (by rw [Tryz.ntmps9]; simp) ?_
  refine AWp.regionW ?_
  refine AWp.regionM fun K1 hK1 => ?_
  refine ARun2.callM (check_w n.wt c 1 n (Nat.le_refl _) hc (by omega) hs) ?_
  refine ARun2.endm (hK1 _ ?_)
  refine AWp.ret ?_
  try simp only [thenQ, blockQ, noGo]
  refine bodyQ.m ?_
  clear hK1 K1
  first | done | exact Hand.go
end Go.Proofs.YtmcedkcehcacpaaGreatDoor.C
/- Truth values compared. No condition. -/
namespace Go.Abs
set_option linter.unusedVariables false
set_option linter.unusedSectionVars false
set_option linter.unusedSimpArgs false
section
variable {P : Program} {ops : Array Oper} {E : Env} {s s' : AS} {ρ : List Value} {B : Nat → Prop} {a : Act} {w w' : World} {o : Oper} {rest : List Oper} {Q : AS → Prop} {R : Exit → AS → Prop}
end
attribute [push_cast] bne_self_eq_false
end Go.Abs
/- Rows of the call's own that a callee reads, and that change later; a string's bytes. No condition. -/
namespace Go.Abs
set_option linter.unusedVariables false
set_option linter.unusedSectionVars false
set_option linter.unusedSimpArgs false
set_option linter.unnecessarySimpa false
mutual
/-- all that it leads to was made since the call began -/
def AV.fresh : AV → Bool
  | .val _ => true
  | .any => false
  | .agg l | .tup l => AV.freshL l
  | .sl nw _ xs => nw && AV.freshL xs
  | .own _ | .ptr _ _ | .ept _ _ => false
  | .ref nw x => nw && x.fresh
  | .ifc _ x => x.fresh
  | .fn _ l m => AV.freshL l && AV.freshL m
def AV.freshL : List AV → Bool
  | [] => true
  | x :: xs => x.fresh && AV.freshL xs
end
theorem AV.freshL_cells (x : AV) : AV.freshL x.cells = x.fresh := by
  cases x <;> simp [AV.cells, AV.fresh, AV.freshL]
section fresh
variable {w : World} {B : Nat → Prop} {bs : Nat} {ρ : List Value}
mutual
theorem Rel.fresh : ∀ {x : AV} {v : Value}, Rel w B bs ρ x v → x.fresh = true → Rel w (fun b => B b ∧ bs ≤ b) bs ρ x v
  | _, _, .val v, _ => .val v
  | _, _, .agg h, e => .agg (h.fresh (by simpa [AV.fresh] using e))
  | _, _, .tup h, e => .tup (h.fresh (by simpa [AV.fresh] using e))
  | _, _, .slE nw sz A cap, _ => .slE nw sz A cap
  | _, _, .sl h hc, e => by
    simp only [AV.fresh, Bool.and_eq_true] at e
    exact .sl (RelRow.fresh' h e.1 e.2) hc
  | _, _, .own h h1, e => by simp [AV.fresh] at e
  | _, _, .ptr h, e => by simp [AV.fresh] at e
  | _, _, .ept h, e => by simp [AV.fresh] at e
  | _, _, .ref (x := x) h hn, e => by
    simp only [AV.fresh, Bool.and_eq_true] at e
    exact .ref (RelCells.fresh h e.1 (by rw [AV.freshL_cells]; exact e.2)) hn
  | _, _, .ifc h, e => .ifc (h.fresh (by simpa [AV.fresh] using e))
  | _, _, .fn h h2, e => .fn (h.fresh (by simp only [AV.fresh, Bool.and_eq_true] at e; exact e.1)) (h2.fresh (by simp only [AV.fresh, Bool.and_eq_true] at e; exact e.2))
  | _, _, .any v, e => by simp [AV.fresh] at e
theorem RelL.fresh : ∀ {xs : List AV} {vs : List Value}, RelL w B bs ρ xs vs → AV.freshL xs = true → RelL w (fun b => B b ∧ bs ≤ b) bs ρ xs vs
  | _, _, .nil, _ => .nil
  | _, _, .cons h h2, e => .cons (h.fresh (by simp only [AV.freshL, Bool.and_eq_true] at e; exact e.1)) (h2.fresh (by simp only [AV.freshL, Bool.and_eq_true] at e; exact e.2))
theorem RelCells.fresh : ∀ {nw : Bool} {b o : Nat} {xs : List AV}, RelCells w B bs ρ nw b o xs → nw = true → AV.freshL xs = true → RelCells w (fun b => B b ∧ bs ≤ b) bs ρ nw b o xs
  | _, _, _, _, .nil, _, _ => .nil
  | _, _, _, _, .cons h1 h2 h3 h4 h5 h6, g, e => .cons ⟨h1, h2 g⟩ h2 h3 h4 (h5.fresh (by simp only [AV.freshL, Bool.and_eq_true] at e; exact e.1)) (RelCells.fresh h6 g (by simp only [AV.freshL, Bool.and_eq_true] at e; exact e.2))
theorem RelRow.fresh' : ∀ {nw : Bool} {b sz o : Nat} {xs : List AV}, RelRow w B bs ρ nw b sz o xs → nw = true → AV.freshL xs = true → RelRow w (fun b => B b ∧ bs ≤ b) bs ρ nw b sz o xs
  | _, _, _, _, _, .nil, _, _ => .nil
  | _, _, _, _, _, .cons (x := x) h1 h2 h3, g, e => .cons (RelCells.fresh h1 g (by rw [AV.freshL_cells]; simp only [AV.freshL, Bool.and_eq_true] at e; exact e.1)) h2 (RelRow.fresh' h3 g (by simp only [AV.freshL, Bool.and_eq_true] at e; exact e.2))
end
end fresh
section
variable {P : Program} {ops : Array Oper} {E : Env} {s s' : AS} {ρ σ : List Value} {B : Nat → Prop} {a : Act} {w w' : World} {o : Oper} {rest : List Oper} {Q : AS → Prop} {R : Exit → AS → Prop}
/-! ### an element of a row of the call's own (elements of one cell) -/
theorem flat_ones : ∀ {xs : List AV}, xs.all AV.one = true → xs.flatMap AV.cells = xs
  | [], _ => rfl
  | x :: xs, h => by
    simp only [List.all_cons, Bool.and_eq_true] at h
    rw [List.flatMap_cons, one_cells h.1, flat_ones h.2]; rfl
/-! ### make, as a row of the call's own -/
/-! ### a string's bytes -/
/-! ### a result told with less, but with what is new in it -/
def Wk (x y : AV) : Prop := ∀ (w : World) (B : Nat → Prop) (bs : Nat) (ρ : List Value) (v : Value), Rel w B bs ρ x v → Rel w B bs ρ y v
def WkL (xs ys : List AV) : Prop := ∀ (w : World) (B : Nat → Prop) (bs : Nat) (ρ : List Value) (vs : List Value), RelL w B bs ρ xs vs → RelL w B bs ρ ys vs
theorem Wk.eq {x y : AV} (h : x = y) : Wk x y := by subst h; exact fun _ _ _ _ _ h => h
theorem Wk.nil {nw : Bool} {sz : Nat} : Wk (.val (.slice none 0 0)) (.sl nw sz []) := by
  intro w B bs ρ v h; cases h; exact .slE _ _ _ _
theorem WkL.nil : WkL [] [] := fun _ _ _ _ _ h => h
theorem WkL.cons {x y : AV} {xs ys : List AV} (h : Wk x y) (h2 : WkL xs ys) : WkL (x :: xs) (y :: ys) := by
  intro w B bs ρ v hr; cases hr with | cons a b => exact .cons (h _ _ _ _ _ a) (h2 _ _ _ _ _ b)
theorem Wk.agg {xs ys : List AV} (h : WkL xs ys) : Wk (.agg xs) (.agg ys) := by
  intro w B bs ρ v hr; cases hr with | agg a => exact .agg (h _ _ _ _ _ a)
theorem Wk.tup {xs ys : List AV} (h : WkL xs ys) : Wk (.tup xs) (.tup ys) := by
  intro w B bs ρ v hr; cases hr with | tup a => exact .tup (h _ _ _ _ _ a)
theorem Wk.go {x y : AV} (h : Wk x y := by
      try simp only [push_cast, reduceIte, Nat.reduceEqDiff, Nat.reduceLT, Nat.reduceAdd, Nat.reduceSub, Nat.reduceMul, Nat.reduceLeDiff, Nat.reducePow, Int.reduceLT, Int.reduceToNat, reduceCtorEq, Int.reduceNeg, Int.reduceEq, Nat.reduceBEq, Nat.reduceBNe, Int.reduceBEq, Int.reduceBNe, String.reduceEq]
      try simp (disch := omega) only [w_nat, w_add, w_addl, w_addr, w_sub, w_subl, w_mul, w_mull, w_mulr, w_u32, w_u16, w_u8, w_u32a, N_zero]
      repeat' (first | assumption | exact WkL.nil | exact Wk.nil | exact Wk.eq (by first | with_reducible rfl | (simp only [push_cast, reduceIte, Nat.reduceEqDiff, Nat.reduceLT, Nat.reduceAdd, Nat.reduceSub, Nat.reduceMul, Nat.reduceLeDiff, Nat.reducePow, Int.reduceLT, Int.reduceToNat, reduceCtorEq, Int.reduceNeg, Int.reduceEq, Nat.reduceBEq, Nat.reduceBNe, Int.reduceBEq, Int.reduceBNe, String.reduceEq]; first | done | rfl | (simp (disch := omega) only [w_nat, w_add, w_addl, w_addr, w_sub, w_subl, w_mul, w_mull, w_mulr, w_u32, w_u16, w_u8, w_u32a, N_zero]; first | done | rfl | (simp only [push_cast, reduceIte, Nat.reduceEqDiff, Nat.reduceLT, Nat.reduceAdd, Nat.reduceSub, Nat.reduceMul, Nat.reduceLeDiff, Nat.reducePow, Int.reduceLT, Int.reduceToNat, reduceCtorEq, Int.reduceNeg, Int.reduceEq, Nat.reduceBEq, Nat.reduceBNe, Int.reduceBEq, Int.reduceBNe, String.reduceEq]; first | done | rfl)))) | refine WkL.cons ?_ ?_ | refine Wk.agg ?_ | refine Wk.tup ?_)) : Wk x y := h
theorem PC.of_bodyK {f : FuncId} {fn : Func} {c : Code} {args : List AV} {r : AV} (hr : r.idsOk (fun _ => false) = true) (hf : P.funcs[f]? = some fn) (hb : fn.body = some c) (hn : args.length ≤ fn.ntmps)
    (h : AWp P c { n := fn.ntmps, m := 0, fr := frOf 0 args, ob := [] } (bodyQ P fn fun r' _ => Wk r' r)) : PC P f args r := by
  refine ⟨hr, ?_⟩
  intro w ρ B vs hg hw hrel R' hR'
  refine ACalls.of_body (τ := []) (R := fun r' _ => Wk r' r) hf hb hn h w ρ B vs hg hw hrel R' ?_
  rintro r' v τ' ρ' B' w' hh hw' hv
  have hρ : ρ = [] := by have := hw.len; simpa using this
  subst hρ
  refine hR' _ v [] [] B' w' ⟨rfl, rfl⟩ ?_ ((hh _ _ _ _ _ hv).ids (p := fun _ => false) (by intro _ _ h; simp at h) hr)
  have := hw'.cut (n := 0) (by simp) (by intro k o h; simp at h)
  simpa using this
end
attribute [push_cast] AV.fresh AV.freshL
end Go.Abs
/- Rows of the call's own: zeros behind nil; the front of a row. No condition. -/
namespace Go.Abs
set_option linter.unusedVariables false
set_option linter.unusedSectionVars false
set_option linter.unusedSimpArgs false
set_option linter.unnecessarySimpa false
section
variable {P : Program} {ops : Array Oper} {E : Env} {s s' : AS} {ρ σ : List Value} {B : Nat → Prop} {a : Act} {w w' : World} {o : Oper} {rest : List Oper} {Q : AS → Prop} {R : Exit → AS → Prop}
theorem zeros_one {z : Value} {zv : Value} (h : zv.cells = #[z]) (n : Nat) : Builtin.zeroCells zv.cells n = (List.replicate n z).toArray := by
  apply Array.ext'
  simp only [Builtin.zeroCells, h]
  apply List.ext_getElem
  · simp
  · intro j h1 h2
    simp [Nat.mod_one]
/-- n zeros behind nil -/
theorem AOp.appendZeros {T T2 e : TypeId} {x y : Operand} {k1 kn : IntKind} {n : Nat} {z : Value} (ho : o.op = .call { callee := .builtin .append, args := #[x, y], argTypes := #[T, T2] }) (hx : s.ev x = .val (.slice none 0 0)) (hy : s.ev y = .val (.int k1 (N n)))
    (hz : elSz P T = some 1) (he : elT P T = some e) (hzc : zc P e = some [z]) (hT2 : ikd P T2 = some kn) (h0 : 0 < n) (hn : n ≤ 2 ^ 40) (hb : elB P T ≤ 2 ^ 6)
    (K : ARun P ops rest (({ s with ob := s.ob ++ [Ob.row e 1 (List.replicate n (.val z))] } : AS).put o.dst (.own s.ob.length)) Q) : AOp P ops o rest s Q := by
  refine AOp.value (s' := { s with ob := s.ob ++ [.row e 1 (List.replicate n (.val z))] }) (fun E ρ B a w hs => ?_) K
  obtain ⟨e', i, zv, hu, hi, hsz, hzz, hzl, hz1⟩ := elSz_spec hz
  have hee : e' = e := by have := elT_spec he; rw [hu] at this; simpa using this
  subst hee
  have hzv : zv.cells = #[z] := by
    simp only [zc, hi, hzz, Option.bind_some] at hzc
    split at hzc <;> simp only [Option.some.injEq, reduceCtorEq] at hzc
    apply Array.ext'; simpa using hzc
  have h4 : (AV.val z).one = true := by
    have := hz1 z (by rw [hzv]; simp)
    exact this
  have hbe : elB P T = i.bytes := elB_spec hu hi
  have hxv := (hx ▸ hs.ev x : Rel w B E.bs ρ (.val (.slice none 0 0)) (a.eval x)).val_eq
  have hyv := (hy ▸ hs.ev y : Rel w B E.bs ρ (.val (.int k1 (N n))) (a.eval y)).val_eq
  have hmul : n * i.bytes ≤ 2 ^ 40 * 2 ^ 6 := Nat.mul_le_mul hn (hbe ▸ hb)
  have hrun := Go.Lib.run_append_grow_zeros (P := P) w T T2 o.type e' i zv k1 kn hu (ikd_spec hT2) hi hzz none 0 0 [] (by simp [Builtin.firstCells]) n h0 (by omega) (by omega) (by omega) (by omega) (growslice_fits (by omega) (by rw [Nat.zero_add]; omega))
  rw [Nat.zero_add, zeros_one hzv, zeros_one hzv] at hrun
  have hcap : n ≤ grownCap w n 0 e' := by simp [grownCap, Question.cut]
  generalize hc : grownCap w n 0 e' = cap at hrun hcap
  have hsame : Same w (w.drew.alloc (.cells (List.toArray [] ++ (List.replicate n z).toArray ++ (List.replicate (cap - n) z).toArray) e')) := by
    have h1 := same_alloc w.drew (.cells (List.toArray [] ++ (List.replicate n z).toArray ++ (List.replicate (cap - n) z).toArray) e')
    exact ⟨h1.os, h1.tape, h1.output, h1.size, h1.block⟩
  have hnew : (w.drew.alloc (.cells (List.toArray [] ++ (List.replicate n z).toArray ++ (List.replicate (cap - n) z).toArray) e')).heap[w.heap.size]? = some (.cells (List.toArray (List.replicate n z ++ List.replicate (cap - n) z)) e') := by
    have := alloc_get w.drew (.cells (List.toArray [] ++ (List.replicate n z).toArray ++ (List.replicate (cap - n) z).toArray) e')
    have hs0 : w.drew.heap.size = w.heap.size := rfl
    rw [hs0] at this
    rw [this]
    simp
  have hall : (List.replicate n (AV.val z)).all AV.one = true := by
    rw [List.all_eq_true]; intro c hc; rw [(List.mem_replicate.1 hc).2]; exact h4
  have hrl : ∀ (m : Nat) (W : World) (B1 : Nat → Prop) (ρ1 : List Value), RelL W B1 E.bs ρ1 (List.replicate m (AV.val z)) (List.replicate m z) := by
    intro m W B1 ρ1
    induction m with
    | zero => exact .nil
    | succ m ih => exact .cons (.val _) ih
  refine ⟨.slice (some ⟨w.heap.size, 0, none⟩) n cap, _, ρ ++ [.slice (some ⟨w.heap.size, 0, none⟩) n cap], B, ?_, hs.new hsame ⟨?_, .inr ⟨w.heap.size, cap, List.replicate n z, List.replicate (cap - n) z, (0, 0), ?_, hnew, ?_, ?_, .inl (Nat.le_refl _), ?_⟩⟩ ?_, .own ?_ rfl⟩
  · have hrun' : (Builtin.append_ #[T, T2] o.type #[.slice none 0 0, .int k1 (N n)]).run P w = _ := hrun
    simp [execOp, ho, resolve, invoke, builtin, hxv, hyv, hrun']
  · intro c hc
    have := List.all_eq_true.1 hall c hc
    rw [one_cells this]
    exact ⟨rfl, fun u hu => by simp at hu; subst hu; exact this⟩
  · rw [List.length_replicate, ← hs.rw_.len, List.getElem?_append_right (Nat.le_refl _), Nat.sub_self]; rfl
  · simp; omega
  · simpa using hcap
  · rw [flat_ones hall]; exact hrl n _ _ _
  · intro b hb
    simp only [blk, Option.some.injEq] at hb
    subst hb
    refine ⟨Nat.le_refl _, ?_⟩
    simp [World.alloc]
  · rw [← hs.rw_.len, List.getElem?_append_right (Nat.le_refl _), Nat.sub_self]; rfl
theorem ARun2.appendZerosM {T T2 e : TypeId} {x y : Operand} {k1 kn : IntKind} {z : Value} {p : List Oper × AS} (n : Nat) (h0 : 0 < n) (hn : n ≤ 2 ^ 40) (K : ARun2 P ops p Q)
    (ho : o.op = .call { callee := .builtin .append, args := #[x, y], argTypes := #[T, T2] } := by rfl) (hg : gd ops s o = some true := by first | with_reducible rfl | (simp only [push_cast, reduceIte, Nat.reduceEqDiff, Nat.reduceLT, Nat.reduceAdd, Nat.reduceSub, Nat.reduceMul, Nat.reduceLeDiff, Nat.reducePow, Int.reduceLT, Int.reduceToNat, reduceCtorEq, Int.reduceNeg, Int.reduceEq, Nat.reduceBEq, Nat.reduceBNe, Int.reduceBEq, Int.reduceBNe, String.reduceEq]; first | done | rfl | (simp (disch := omega) only [w_nat, w_add, w_addl, w_addr, w_sub, w_subl, w_mul, w_mull, w_mulr, w_u32, w_u16, w_u8, w_u32a, N_zero]; first | done | rfl | (simp only [push_cast, reduceIte, Nat.reduceEqDiff, Nat.reduceLT, Nat.reduceAdd, Nat.reduceSub, Nat.reduceMul, Nat.reduceLeDiff, Nat.reducePow, Int.reduceLT, Int.reduceToNat, reduceCtorEq, Int.reduceNeg, Int.reduceEq, Nat.reduceBEq, Nat.reduceBNe, Int.reduceBEq, Int.reduceBNe, String.reduceEq]; first | done | rfl)))) (hx : s.ev x = .val (.slice none 0 0) := by first | with_reducible rfl | (simp only [push_cast, reduceIte, Nat.reduceEqDiff, Nat.reduceLT, Nat.reduceAdd, Nat.reduceSub, Nat.reduceMul, Nat.reduceLeDiff, Nat.reducePow, Int.reduceLT, Int.reduceToNat, reduceCtorEq, Int.reduceNeg, Int.reduceEq, Nat.reduceBEq, Nat.reduceBNe, Int.reduceBEq, Int.reduceBNe, String.reduceEq]; first | done | rfl | (simp (disch := omega) only [w_nat, w_add, w_addl, w_addr, w_sub, w_subl, w_mul, w_mull, w_mulr, w_u32, w_u16, w_u8, w_u32a, N_zero]; first | done | rfl | (simp only [push_cast, reduceIte, Nat.reduceEqDiff, Nat.reduceLT, Nat.reduceAdd, Nat.reduceSub, Nat.reduceMul, Nat.reduceLeDiff, Nat.reducePow, Int.reduceLT, Int.reduceToNat, reduceCtorEq, Int.reduceNeg, Int.reduceEq, Nat.reduceBEq, Nat.reduceBNe, Int.reduceBEq, Int.reduceBNe, String.reduceEq]; first | done | rfl)))) (hy : s.ev y = .val (.int k1 (N n)) := by first | with_reducible rfl | (simp only [push_cast, reduceIte, Nat.reduceEqDiff, Nat.reduceLT, Nat.reduceAdd, Nat.reduceSub, Nat.reduceMul, Nat.reduceLeDiff, Nat.reducePow, Int.reduceLT, Int.reduceToNat, reduceCtorEq, Int.reduceNeg, Int.reduceEq, Nat.reduceBEq, Nat.reduceBNe, Int.reduceBEq, Int.reduceBNe, String.reduceEq]; first | done | rfl | (simp (disch := omega) only [w_nat, w_add, w_addl, w_addr, w_sub, w_subl, w_mul, w_mull, w_mulr, w_u32, w_u16, w_u8, w_u32a, N_zero]; first | done | rfl | (simp only [push_cast, reduceIte, Nat.reduceEqDiff, Nat.reduceLT, Nat.reduceAdd, Nat.reduceSub, Nat.reduceMul, Nat.reduceLeDiff, Nat.reducePow, Int.reduceLT, Int.reduceToNat, reduceCtorEq, Int.reduceNeg, Int.reduceEq, Nat.reduceBEq, Nat.reduceBNe, Int.reduceBEq, Int.reduceBNe, String.reduceEq]; first | done | rfl))))
    (hz : elSz P T = some 1 := by first | with_reducible rfl | (simp only [push_cast, reduceIte, Nat.reduceEqDiff, Nat.reduceLT, Nat.reduceAdd, Nat.reduceSub, Nat.reduceMul, Nat.reduceLeDiff, Nat.reducePow, Int.reduceLT, Int.reduceToNat, reduceCtorEq, Int.reduceNeg, Int.reduceEq, Nat.reduceBEq, Nat.reduceBNe, Int.reduceBEq, Int.reduceBNe, String.reduceEq]; first | done | rfl | (simp (disch := omega) only [w_nat, w_add, w_addl, w_addr, w_sub, w_subl, w_mul, w_mull, w_mulr, w_u32, w_u16, w_u8, w_u32a, N_zero]; first | done | rfl | (simp only [push_cast, reduceIte, Nat.reduceEqDiff, Nat.reduceLT, Nat.reduceAdd, Nat.reduceSub, Nat.reduceMul, Nat.reduceLeDiff, Nat.reducePow, Int.reduceLT, Int.reduceToNat, reduceCtorEq, Int.reduceNeg, Int.reduceEq, Nat.reduceBEq, Nat.reduceBNe, Int.reduceBEq, Int.reduceBNe, String.reduceEq]; first | done | rfl)))) (he : elT P T = some e := by first | with_reducible rfl | (simp only [push_cast, reduceIte, Nat.reduceEqDiff, Nat.reduceLT, Nat.reduceAdd, Nat.reduceSub, Nat.reduceMul, Nat.reduceLeDiff, Nat.reducePow, Int.reduceLT, Int.reduceToNat, reduceCtorEq, Int.reduceNeg, Int.reduceEq, Nat.reduceBEq, Nat.reduceBNe, Int.reduceBEq, Int.reduceBNe, String.reduceEq]; first | done | rfl | (simp (disch := omega) only [w_nat, w_add, w_addl, w_addr, w_sub, w_subl, w_mul, w_mull, w_mulr, w_u32, w_u16, w_u8, w_u32a, N_zero]; first | done | rfl | (simp only [push_cast, reduceIte, Nat.reduceEqDiff, Nat.reduceLT, Nat.reduceAdd, Nat.reduceSub, Nat.reduceMul, Nat.reduceLeDiff, Nat.reducePow, Int.reduceLT, Int.reduceToNat, reduceCtorEq, Int.reduceNeg, Int.reduceEq, Nat.reduceBEq, Nat.reduceBNe, Int.reduceBEq, Int.reduceBNe, String.reduceEq]; first | done | rfl)))) (hzc : zc P e = some [z] := by first | with_reducible rfl | (simp only [push_cast, reduceIte, Nat.reduceEqDiff, Nat.reduceLT, Nat.reduceAdd, Nat.reduceSub, Nat.reduceMul, Nat.reduceLeDiff, Nat.reducePow, Int.reduceLT, Int.reduceToNat, reduceCtorEq, Int.reduceNeg, Int.reduceEq, Nat.reduceBEq, Nat.reduceBNe, Int.reduceBEq, Int.reduceBNe, String.reduceEq]; first | done | rfl | (simp (disch := omega) only [w_nat, w_add, w_addl, w_addr, w_sub, w_subl, w_mul, w_mull, w_mulr, w_u32, w_u16, w_u8, w_u32a, N_zero]; first | done | rfl | (simp only [push_cast, reduceIte, Nat.reduceEqDiff, Nat.reduceLT, Nat.reduceAdd, Nat.reduceSub, Nat.reduceMul, Nat.reduceLeDiff, Nat.reducePow, Int.reduceLT, Int.reduceToNat, reduceCtorEq, Int.reduceNeg, Int.reduceEq, Nat.reduceBEq, Nat.reduceBNe, Int.reduceBEq, Int.reduceBNe, String.reduceEq]; first | done | rfl)))) (hT2 : ikd P T2 = some kn := by first | with_reducible rfl | (simp only [push_cast, reduceIte, Nat.reduceEqDiff, Nat.reduceLT, Nat.reduceAdd, Nat.reduceSub, Nat.reduceMul, Nat.reduceLeDiff, Nat.reducePow, Int.reduceLT, Int.reduceToNat, reduceCtorEq, Int.reduceNeg, Int.reduceEq, Nat.reduceBEq, Nat.reduceBNe, Int.reduceBEq, Int.reduceBNe, String.reduceEq]; first | done | rfl | (simp (disch := omega) only [w_nat, w_add, w_addl, w_addr, w_sub, w_subl, w_mul, w_mull, w_mulr, w_u32, w_u16, w_u8, w_u32a, N_zero]; first | done | rfl | (simp only [push_cast, reduceIte, Nat.reduceEqDiff, Nat.reduceLT, Nat.reduceAdd, Nat.reduceSub, Nat.reduceMul, Nat.reduceLeDiff, Nat.reducePow, Int.reduceLT, Int.reduceToNat, reduceCtorEq, Int.reduceNeg, Int.reduceEq, Nat.reduceBEq, Nat.reduceBNe, Int.reduceBEq, Int.reduceBNe, String.reduceEq]; first | done | rfl)))) (hb : decide (elB P T ≤ 2 ^ 6) = true := by first | with_reducible rfl | (simp only [push_cast, reduceIte, Nat.reduceEqDiff, Nat.reduceLT, Nat.reduceAdd, Nat.reduceSub, Nat.reduceMul, Nat.reduceLeDiff, Nat.reducePow, Int.reduceLT, Int.reduceToNat, reduceCtorEq, Int.reduceNeg, Int.reduceEq, Nat.reduceBEq, Nat.reduceBNe, Int.reduceBEq, Int.reduceBNe, String.reduceEq]; first | done | rfl | (simp (disch := omega) only [w_nat, w_add, w_addl, w_addr, w_sub, w_subl, w_mul, w_mull, w_mulr, w_u32, w_u16, w_u8, w_u32a, N_zero]; first | done | rfl | (simp only [push_cast, reduceIte, Nat.reduceEqDiff, Nat.reduceLT, Nat.reduceAdd, Nat.reduceSub, Nat.reduceMul, Nat.reduceLeDiff, Nat.reducePow, Int.reduceLT, Int.reduceToNat, reduceCtorEq, Int.reduceNeg, Int.reduceEq, Nat.reduceBEq, Nat.reduceBNe, Int.reduceBEq, Int.reduceBNe, String.reduceEq]; first | done | rfl))))
    (h : srun P ops rest (({ s with ob := s.ob ++ [Ob.row e 1 (List.replicate n (.val z))] } : AS).put o.dst (.own s.ob.length)) = p := by
        try simp only [push_cast, reduceIte, Nat.reduceEqDiff, Nat.reduceLT, Nat.reduceAdd, Nat.reduceSub, Nat.reduceMul, Nat.reduceLeDiff, Nat.reducePow, Int.reduceLT, Int.reduceToNat, reduceCtorEq, Int.reduceNeg, Int.reduceEq, Nat.reduceBEq, Nat.reduceBNe, Int.reduceBEq, Int.reduceBNe, String.reduceEq]
        try simp (disch := omega) only [w_nat, w_add, w_addl, w_addr, w_sub, w_subl, w_mul, w_mull, w_mulr, w_u32, w_u16, w_u8, w_u32a, N_zero]
        try simp only [push_cast, reduceIte, Nat.reduceEqDiff, Nat.reduceLT, Nat.reduceAdd, Nat.reduceSub, Nat.reduceMul, Nat.reduceLeDiff, Nat.reducePow, Int.reduceLT, Int.reduceToNat, reduceCtorEq, Int.reduceNeg, Int.reduceEq, Nat.reduceBEq, Nat.reduceBNe, Int.reduceBEq, Int.reduceBNe, String.reduceEq]
        rfl) : ARun2 P ops (o :: rest, s) Q :=
  ARun.exec hg (AOp.appendZeros ho hx hy hz he hzc hT2 h0 hn (of_decide_eq_true hb) (ARun.srun (h ▸ K)))
/-- the front of a row of the call's own -/
theorem AOp.frontOwn {T e : TypeId} {x hi : Operand} {k sz m : Nat} {xs : List AV} {kk : IntKind} (ho : o.op = .slice T x none (some hi) none) (hx : s.ev x = .own k) (hk : s.ob[k]? = some (.row e sz xs)) (hh : s.ev hi = .val (.int kk (N m)))
    (hz : elSz P T = some sz) (hm : m ≤ xs.length) (hid : AV.idsOkL (· != k) xs = true)
    (K : ARun P ops rest (({ s with ob := (s.ob.map (Ob.inval k)).set k (.row e sz (xs.take m)), fr := frInval k s.fr } : AS).put o.dst (.own k)) Q) : AOp P ops o rest s Q := by
  refine AOp.value (s' := { s with ob := (s.ob.map (Ob.inval k)).set k (.row e sz (xs.take m)), fr := frInval k s.fr }) (fun E ρ B a w hs => ?_) K
  obtain ⟨e', ti, zv, hu, hti, hsz, _⟩ := elSz_spec hz
  have hxr := hs.ev x
  rw [hx] at hxr
  have hhv := (hh ▸ hs.ev hi : Rel w B E.bs ρ (.val (.int kk (N m))) (a.eval hi)).val_eq
  generalize hq : a.eval x = u at hxr
  have hob := hs.rw_.obs k _ hk
  obtain ⟨h0, hob⟩ := hob
  have hkl := get_lt hk
  have hkr : k < ρ.length := by rw [hs.rw_.len]; exact hkl
  have hids : ∀ (i : Nat) (u' v' : Value), (i != k) = true → ρ[i]? = some u' → (ρ.set k v')[i]? = some u' := by
    intro i u' v' hi' hu'
    have hne : k ≠ i := by have : i ≠ k := by simpa using hi'
                           exact this.symm
    rw [List.getElem?_set_ne hne]; exact hu'
  have hidc : AV.idsOkL (· != k) ((xs.take m).flatMap AV.cells) = true := by
    rw [AV.idsOkL_iff] at hid ⊢
    intro c hc
    simp only [List.mem_flatMap] at hc
    obtain ⟨x', hx', hc⟩ := hc
    have := hid x' (List.mem_of_mem_take hx')
    rw [← AV.idsOkL_cells, AV.idsOkL_iff] at this
    exact this c hc
  have h0' : ∀ y ∈ xs.take m, y.cells.length = sz ∧ ∀ c ∈ y.cells, c.one = true := fun y hy => h0 y (List.mem_of_mem_take hy)
  cases hxr with
  | own hp h1 =>
    rcases hob with ⟨rfl, hr⟩ | ⟨b, cap, vs, ws, fz, r1, r2, r3, r4, r5, r6⟩
    · have hv : u = .slice none 0 0 := by rw [hr] at hp; exact (Option.some.inj hp).symm
      subst hv
      obtain rfl : m = 0 := by simpa using hm
      have hb := run_bounds (P := P) (w := w) (lo := none) (hi := some (.int kk (N 0))) (l := 0) (h := 0) (n := 0) (c := 0) true rfl rfl (Int.le_refl _) (Int.le_refl _) (Int.le_refl _) (Nat.le_refl _)
      refine ⟨.slice none 0 0, w, ρ.set k (.slice none 0 0), B, ?_, hs.regrow hk hp rfl rfl rfl rfl (Nat.le_refl _) (fun _ _ _ => rfl) (fun b hb => by simp [blk] at hb) ⟨by simp, .inl ⟨by simp, by rw [List.getElem?_set_self hkr]⟩⟩, .own (by rw [List.getElem?_set_self hkr]) rfl⟩
      simp only [execOp, ho]
      refine val_run ?_
      simp only [Instr.sliceAt, Sem.run_bind, run_underlying hu, Result.andThen_ok, Instr.slice, hq, hhv, Option.map_some, Option.map_none, hb, run_sizeOf hti, hsz, Sem.run_pure]
      simp
    · have hv : u = .slice (some ⟨b, 0, none⟩) xs.length cap := by rw [r1] at hp; exact (Option.some.inj hp).symm
      subst hv
      have hb := run_bounds (P := P) (w := w) (lo := none) (hi := some (.int kk (N m))) (l := 0) (h := N m) (n := xs.length) (c := cap) true rfl rfl (Int.le_refl _) (Int.natCast_nonneg m) (Int.ofNat_le.2 hm) r4
      have hvl : vs.length = xs.length * sz := by
        have := r6.length_eq
        rw [← this]
        exact flat_len fun y hy => (h0 y hy).1
      have htl : ((xs.take m).flatMap AV.cells).length = m * sz := by
        rw [flat_len (fun y hy => (h0' y hy).1), List.length_take, Nat.min_eq_left hm]
      have hle : m * sz ≤ xs.length * sz := Nat.mul_le_mul_right _ hm
      have hsplit : xs.flatMap AV.cells = (xs.take m).flatMap AV.cells ++ (xs.drop m).flatMap AV.cells := by
        rw [← List.flatMap_append, List.take_append_drop]
      have hrel := r6.take (m * sz)
      rw [hsplit, List.take_left' htl] at hrel
      refine ⟨.slice (some ⟨b, 0, none⟩) m cap, w, ρ.set k (.slice (some ⟨b, 0, none⟩) m cap), B, ?_, hs.regrow hk hp rfl rfl rfl rfl (Nat.le_refl _) (fun _ _ _ => rfl) (fun b' hb' => .inl hb')
        ⟨h0', .inr ⟨b, cap, vs.take (m * sz), vs.drop (m * sz) ++ ws, fz, ?_, ?_, ?_, ?_, ?_, hrel.ids (fun i u' hi' hu' => hids i u' _ hi' hu') hidc⟩⟩, .own (by rw [List.getElem?_set_self hkr]) rfl⟩
      · simp only [execOp, ho]
        refine val_run ?_
        simp only [Instr.sliceAt, Sem.run_bind, run_underlying hu, Result.andThen_ok, Instr.slice, hq, hhv, Option.map_some, Option.map_none, hb, run_sizeOf hti, hsz, Sem.run_pure]
        simp [N]
        intro _; rfl
      · rw [List.getElem?_set_self hkr, List.length_take, Nat.min_eq_left hm]
      · rw [← List.append_assoc, List.take_append_drop]; exact r2
      · rw [← List.append_assoc, List.take_append_drop]; exact r3
      · rw [List.length_take]; omega
      · rw [← List.append_assoc, List.take_append_drop]; exact r5
theorem ARun2.frontOwnM {T e : TypeId} {x hi : Operand} {k sz : Nat} {xs : List AV} {kk : IntKind} {p : List Oper × AS} (m : Nat) (hm : m ≤ xs.length) (K : ARun2 P ops p Q) (ho : o.op = .slice T x none (some hi) none := by rfl) (hg : gd ops s o = some true := by first | with_reducible rfl | (simp only [push_cast, reduceIte, Nat.reduceEqDiff, Nat.reduceLT, Nat.reduceAdd, Nat.reduceSub, Nat.reduceMul, Nat.reduceLeDiff, Nat.reducePow, Int.reduceLT, Int.reduceToNat, reduceCtorEq, Int.reduceNeg, Int.reduceEq, Nat.reduceBEq, Nat.reduceBNe, Int.reduceBEq, Int.reduceBNe, String.reduceEq]; first | done | rfl | (simp (disch := omega) only [w_nat, w_add, w_addl, w_addr, w_sub, w_subl, w_mul, w_mull, w_mulr, w_u32, w_u16, w_u8, w_u32a, N_zero]; first | done | rfl | (simp only [push_cast, reduceIte, Nat.reduceEqDiff, Nat.reduceLT, Nat.reduceAdd, Nat.reduceSub, Nat.reduceMul, Nat.reduceLeDiff, Nat.reducePow, Int.reduceLT, Int.reduceToNat, reduceCtorEq, Int.reduceNeg, Int.reduceEq, Nat.reduceBEq, Nat.reduceBNe, Int.reduceBEq, Int.reduceBNe, String.reduceEq]; first | done | rfl))))
    (hx : s.ev x = .own k := by first | with_reducible rfl | (simp only [push_cast, reduceIte, Nat.reduceEqDiff, Nat.reduceLT, Nat.reduceAdd, Nat.reduceSub, Nat.reduceMul, Nat.reduceLeDiff, Nat.reducePow, Int.reduceLT, Int.reduceToNat, reduceCtorEq, Int.reduceNeg, Int.reduceEq, Nat.reduceBEq, Nat.reduceBNe, Int.reduceBEq, Int.reduceBNe, String.reduceEq]; first | done | rfl | (simp (disch := omega) only [w_nat, w_add, w_addl, w_addr, w_sub, w_subl, w_mul, w_mull, w_mulr, w_u32, w_u16, w_u8, w_u32a, N_zero]; first | done | rfl | (simp only [push_cast, reduceIte, Nat.reduceEqDiff, Nat.reduceLT, Nat.reduceAdd, Nat.reduceSub, Nat.reduceMul, Nat.reduceLeDiff, Nat.reducePow, Int.reduceLT, Int.reduceToNat, reduceCtorEq, Int.reduceNeg, Int.reduceEq, Nat.reduceBEq, Nat.reduceBNe, Int.reduceBEq, Int.reduceBNe, String.reduceEq]; first | done | rfl)))) (hk : s.ob[k]? = some (.row e sz xs) := by first | with_reducible rfl | (simp only [push_cast, reduceIte, Nat.reduceEqDiff, Nat.reduceLT, Nat.reduceAdd, Nat.reduceSub, Nat.reduceMul, Nat.reduceLeDiff, Nat.reducePow, Int.reduceLT, Int.reduceToNat, reduceCtorEq, Int.reduceNeg, Int.reduceEq, Nat.reduceBEq, Nat.reduceBNe, Int.reduceBEq, Int.reduceBNe, String.reduceEq]; first | done | rfl | (simp (disch := omega) only [w_nat, w_add, w_addl, w_addr, w_sub, w_subl, w_mul, w_mull, w_mulr, w_u32, w_u16, w_u8, w_u32a, N_zero]; first | done | rfl | (simp only [push_cast, reduceIte, Nat.reduceEqDiff, Nat.reduceLT, Nat.reduceAdd, Nat.reduceSub, Nat.reduceMul, Nat.reduceLeDiff, Nat.reducePow, Int.reduceLT, Int.reduceToNat, reduceCtorEq, Int.reduceNeg, Int.reduceEq, Nat.reduceBEq, Nat.reduceBNe, Int.reduceBEq, Int.reduceBNe, String.reduceEq]; first | done | rfl)))) (hh : s.ev hi = .val (.int kk (N m)) := by first | with_reducible rfl | (simp only [push_cast, reduceIte, Nat.reduceEqDiff, Nat.reduceLT, Nat.reduceAdd, Nat.reduceSub, Nat.reduceMul, Nat.reduceLeDiff, Nat.reducePow, Int.reduceLT, Int.reduceToNat, reduceCtorEq, Int.reduceNeg, Int.reduceEq, Nat.reduceBEq, Nat.reduceBNe, Int.reduceBEq, Int.reduceBNe, String.reduceEq]; first | done | rfl | (simp (disch := omega) only [w_nat, w_add, w_addl, w_addr, w_sub, w_subl, w_mul, w_mull, w_mulr, w_u32, w_u16, w_u8, w_u32a, N_zero]; first | done | rfl | (simp only [push_cast, reduceIte, Nat.reduceEqDiff, Nat.reduceLT, Nat.reduceAdd, Nat.reduceSub, Nat.reduceMul, Nat.reduceLeDiff, Nat.reducePow, Int.reduceLT, Int.reduceToNat, reduceCtorEq, Int.reduceNeg, Int.reduceEq, Nat.reduceBEq, Nat.reduceBNe, Int.reduceBEq, Int.reduceBNe, String.reduceEq]; first | done | rfl)))) (hz : elSz P T = some sz := by first | with_reducible rfl | (simp only [push_cast, reduceIte, Nat.reduceEqDiff, Nat.reduceLT, Nat.reduceAdd, Nat.reduceSub, Nat.reduceMul, Nat.reduceLeDiff, Nat.reducePow, Int.reduceLT, Int.reduceToNat, reduceCtorEq, Int.reduceNeg, Int.reduceEq, Nat.reduceBEq, Nat.reduceBNe, Int.reduceBEq, Int.reduceBNe, String.reduceEq]; first | done | rfl | (simp (disch := omega) only [w_nat, w_add, w_addl, w_addr, w_sub, w_subl, w_mul, w_mull, w_mulr, w_u32, w_u16, w_u8, w_u32a, N_zero]; first | done | rfl | (simp only [push_cast, reduceIte, Nat.reduceEqDiff, Nat.reduceLT, Nat.reduceAdd, Nat.reduceSub, Nat.reduceMul, Nat.reduceLeDiff, Nat.reducePow, Int.reduceLT, Int.reduceToNat, reduceCtorEq, Int.reduceNeg, Int.reduceEq, Nat.reduceBEq, Nat.reduceBNe, Int.reduceBEq, Int.reduceBNe, String.reduceEq]; first | done | rfl)))) (hid : AV.idsOkL (· != k) xs = true := by first | with_reducible rfl | (simp only [push_cast, reduceIte, Nat.reduceEqDiff, Nat.reduceLT, Nat.reduceAdd, Nat.reduceSub, Nat.reduceMul, Nat.reduceLeDiff, Nat.reducePow, Int.reduceLT, Int.reduceToNat, reduceCtorEq, Int.reduceNeg, Int.reduceEq, Nat.reduceBEq, Nat.reduceBNe, Int.reduceBEq, Int.reduceBNe, String.reduceEq]; first | done | rfl | (simp (disch := omega) only [w_nat, w_add, w_addl, w_addr, w_sub, w_subl, w_mul, w_mull, w_mulr, w_u32, w_u16, w_u8, w_u32a, N_zero]; first | done | rfl | (simp only [push_cast, reduceIte, Nat.reduceEqDiff, Nat.reduceLT, Nat.reduceAdd, Nat.reduceSub, Nat.reduceMul, Nat.reduceLeDiff, Nat.reducePow, Int.reduceLT, Int.reduceToNat, reduceCtorEq, Int.reduceNeg, Int.reduceEq, Nat.reduceBEq, Nat.reduceBNe, Int.reduceBEq, Int.reduceBNe, String.reduceEq]; first | done | rfl))))
    (h : srun P ops rest (({ s with ob := (s.ob.map (Ob.inval k)).set k (.row e sz (xs.take m)), fr := frInval k s.fr } : AS).put o.dst (.own k)) = p := by
        try simp only [push_cast, reduceIte, Nat.reduceEqDiff, Nat.reduceLT, Nat.reduceAdd, Nat.reduceSub, Nat.reduceMul, Nat.reduceLeDiff, Nat.reducePow, Int.reduceLT, Int.reduceToNat, reduceCtorEq, Int.reduceNeg, Int.reduceEq, Nat.reduceBEq, Nat.reduceBNe, Int.reduceBEq, Int.reduceBNe, String.reduceEq]
        try simp (disch := omega) only [w_nat, w_add, w_addl, w_addr, w_sub, w_subl, w_mul, w_mull, w_mulr, w_u32, w_u16, w_u8, w_u32a, N_zero]
        try simp only [push_cast, reduceIte, Nat.reduceEqDiff, Nat.reduceLT, Nat.reduceAdd, Nat.reduceSub, Nat.reduceMul, Nat.reduceLeDiff, Nat.reducePow, Int.reduceLT, Int.reduceToNat, reduceCtorEq, Int.reduceNeg, Int.reduceEq, Nat.reduceBEq, Nat.reduceBNe, Int.reduceBEq, Int.reduceBNe, String.reduceEq]
        rfl) : ARun2 P ops (o :: rest, s) Q :=
  ARun.exec hg (AOp.frontOwn ho hx hk hh hz hm hid (ARun.srun (h ▸ K)))
/-- the front of nil -/
theorem ARun2.frontNilM {T : TypeId} {x hi : Operand} {kk : IntKind} {p : List Oper × AS} (K : ARun2 P ops p Q) (ho : o.op = .slice T x none (some hi) none := by rfl) (hg : gd ops s o = some true := by first | with_reducible rfl | (simp only [push_cast, reduceIte, Nat.reduceEqDiff, Nat.reduceLT, Nat.reduceAdd, Nat.reduceSub, Nat.reduceMul, Nat.reduceLeDiff, Nat.reducePow, Int.reduceLT, Int.reduceToNat, reduceCtorEq, Int.reduceNeg, Int.reduceEq, Nat.reduceBEq, Nat.reduceBNe, Int.reduceBEq, Int.reduceBNe, String.reduceEq]; first | done | rfl | (simp (disch := omega) only [w_nat, w_add, w_addl, w_addr, w_sub, w_subl, w_mul, w_mull, w_mulr, w_u32, w_u16, w_u8, w_u32a, N_zero]; first | done | rfl | (simp only [push_cast, reduceIte, Nat.reduceEqDiff, Nat.reduceLT, Nat.reduceAdd, Nat.reduceSub, Nat.reduceMul, Nat.reduceLeDiff, Nat.reducePow, Int.reduceLT, Int.reduceToNat, reduceCtorEq, Int.reduceNeg, Int.reduceEq, Nat.reduceBEq, Nat.reduceBNe, Int.reduceBEq, Int.reduceBNe, String.reduceEq]; first | done | rfl))))
    (hx : s.ev x = .val (.slice none 0 0) := by first | with_reducible rfl | (simp only [push_cast, reduceIte, Nat.reduceEqDiff, Nat.reduceLT, Nat.reduceAdd, Nat.reduceSub, Nat.reduceMul, Nat.reduceLeDiff, Nat.reducePow, Int.reduceLT, Int.reduceToNat, reduceCtorEq, Int.reduceNeg, Int.reduceEq, Nat.reduceBEq, Nat.reduceBNe, Int.reduceBEq, Int.reduceBNe, String.reduceEq]; first | done | rfl | (simp (disch := omega) only [w_nat, w_add, w_addl, w_addr, w_sub, w_subl, w_mul, w_mull, w_mulr, w_u32, w_u16, w_u8, w_u32a, N_zero]; first | done | rfl | (simp only [push_cast, reduceIte, Nat.reduceEqDiff, Nat.reduceLT, Nat.reduceAdd, Nat.reduceSub, Nat.reduceMul, Nat.reduceLeDiff, Nat.reducePow, Int.reduceLT, Int.reduceToNat, reduceCtorEq, Int.reduceNeg, Int.reduceEq, Nat.reduceBEq, Nat.reduceBNe, Int.reduceBEq, Int.reduceBNe, String.reduceEq]; first | done | rfl)))) (hh : s.ev hi = .val (.int kk 0) := by first | with_reducible rfl | (simp only [push_cast, reduceIte, Nat.reduceEqDiff, Nat.reduceLT, Nat.reduceAdd, Nat.reduceSub, Nat.reduceMul, Nat.reduceLeDiff, Nat.reducePow, Int.reduceLT, Int.reduceToNat, reduceCtorEq, Int.reduceNeg, Int.reduceEq, Nat.reduceBEq, Nat.reduceBNe, Int.reduceBEq, Int.reduceBNe, String.reduceEq]; first | done | rfl | (simp (disch := omega) only [w_nat, w_add, w_addl, w_addr, w_sub, w_subl, w_mul, w_mull, w_mulr, w_u32, w_u16, w_u8, w_u32a, N_zero]; first | done | rfl | (simp only [push_cast, reduceIte, Nat.reduceEqDiff, Nat.reduceLT, Nat.reduceAdd, Nat.reduceSub, Nat.reduceMul, Nat.reduceLeDiff, Nat.reducePow, Int.reduceLT, Int.reduceToNat, reduceCtorEq, Int.reduceNeg, Int.reduceEq, Nat.reduceBEq, Nat.reduceBNe, Int.reduceBEq, Int.reduceBNe, String.reduceEq]; first | done | rfl)))) (hz : (elSz P T).isSome = true := by first | with_reducible rfl | (simp only [push_cast, reduceIte, Nat.reduceEqDiff, Nat.reduceLT, Nat.reduceAdd, Nat.reduceSub, Nat.reduceMul, Nat.reduceLeDiff, Nat.reducePow, Int.reduceLT, Int.reduceToNat, reduceCtorEq, Int.reduceNeg, Int.reduceEq, Nat.reduceBEq, Nat.reduceBNe, Int.reduceBEq, Int.reduceBNe, String.reduceEq]; first | done | rfl | (simp (disch := omega) only [w_nat, w_add, w_addl, w_addr, w_sub, w_subl, w_mul, w_mull, w_mulr, w_u32, w_u16, w_u8, w_u32a, N_zero]; first | done | rfl | (simp only [push_cast, reduceIte, Nat.reduceEqDiff, Nat.reduceLT, Nat.reduceAdd, Nat.reduceSub, Nat.reduceMul, Nat.reduceLeDiff, Nat.reducePow, Int.reduceLT, Int.reduceToNat, reduceCtorEq, Int.reduceNeg, Int.reduceEq, Nat.reduceBEq, Nat.reduceBNe, Int.reduceBEq, Int.reduceBNe, String.reduceEq]; first | done | rfl))))
    (h : srun P ops rest (s.put o.dst (.val (.slice none 0 0))) = p := by
        try simp only [push_cast, reduceIte, Nat.reduceEqDiff, Nat.reduceLT, Nat.reduceAdd, Nat.reduceSub, Nat.reduceMul, Nat.reduceLeDiff, Nat.reducePow, Int.reduceLT, Int.reduceToNat, reduceCtorEq, Int.reduceNeg, Int.reduceEq, Nat.reduceBEq, Nat.reduceBNe, Int.reduceBEq, Int.reduceBNe, String.reduceEq]
        try simp (disch := omega) only [w_nat, w_add, w_addl, w_addr, w_sub, w_subl, w_mul, w_mull, w_mulr, w_u32, w_u16, w_u8, w_u32a, N_zero]
        try simp only [push_cast, reduceIte, Nat.reduceEqDiff, Nat.reduceLT, Nat.reduceAdd, Nat.reduceSub, Nat.reduceMul, Nat.reduceLeDiff, Nat.reducePow, Int.reduceLT, Int.reduceToNat, reduceCtorEq, Int.reduceNeg, Int.reduceEq, Nat.reduceBEq, Nat.reduceBNe, Int.reduceBEq, Int.reduceBNe, String.reduceEq]
        rfl) : ARun2 P ops (o :: rest, s) Q := by
  refine ARun.exec hg (AOp.pure1 (fun E ρ B a w hs => ?_) (ARun.srun (h ▸ K)))
  obtain ⟨sz, hz⟩ := Option.isSome_iff_exists.1 hz
  obtain ⟨e', ti, zv, hu, hti, hsz, _⟩ := elSz_spec hz
  have hxv := (hx ▸ hs.ev x : Rel w B E.bs ρ (.val (.slice none 0 0)) (a.eval x)).val_eq
  have hhv := (hh ▸ hs.ev hi : Rel w B E.bs ρ (.val (.int kk 0)) (a.eval hi)).val_eq
  have hb := run_bounds (P := P) (w := w) (lo := none) (hi := some (.int kk 0)) (l := 0) (h := 0) (n := 0) (c := 0) true rfl rfl (Int.le_refl _) (Int.le_refl _) (Int.le_refl _) (Nat.le_refl _)
  refine ⟨.slice none 0 0, ?_, .val _⟩
  simp only [execOp, ho]
  refine val_run ?_
  simp only [Instr.sliceAt, Sem.run_bind, run_underlying hu, Result.andThen_ok, Instr.slice, hxv, hhv, Option.map_some, Option.map_none, hb, run_sizeOf hti, hsz, Sem.run_pure]
  simp
/-- the capacity of nil -/
theorem ARun2.capNilM {T : TypeId} {x : Operand} {p : List Oper × AS} (K : ARun2 P ops p Q) (ho : o.op = .call { callee := .builtin .cap, args := #[x], argTypes := #[T] } := by rfl) (hg : gd ops s o = some true := by first | with_reducible rfl | (simp only [push_cast, reduceIte, Nat.reduceEqDiff, Nat.reduceLT, Nat.reduceAdd, Nat.reduceSub, Nat.reduceMul, Nat.reduceLeDiff, Nat.reducePow, Int.reduceLT, Int.reduceToNat, reduceCtorEq, Int.reduceNeg, Int.reduceEq, Nat.reduceBEq, Nat.reduceBNe, Int.reduceBEq, Int.reduceBNe, String.reduceEq]; first | done | rfl | (simp (disch := omega) only [w_nat, w_add, w_addl, w_addr, w_sub, w_subl, w_mul, w_mull, w_mulr, w_u32, w_u16, w_u8, w_u32a, N_zero]; first | done | rfl | (simp only [push_cast, reduceIte, Nat.reduceEqDiff, Nat.reduceLT, Nat.reduceAdd, Nat.reduceSub, Nat.reduceMul, Nat.reduceLeDiff, Nat.reducePow, Int.reduceLT, Int.reduceToNat, reduceCtorEq, Int.reduceNeg, Int.reduceEq, Nat.reduceBEq, Nat.reduceBNe, Int.reduceBEq, Int.reduceBNe, String.reduceEq]; first | done | rfl))))
    (hx : s.ev x = .val (.slice none 0 0) := by first | with_reducible rfl | (simp only [push_cast, reduceIte, Nat.reduceEqDiff, Nat.reduceLT, Nat.reduceAdd, Nat.reduceSub, Nat.reduceMul, Nat.reduceLeDiff, Nat.reducePow, Int.reduceLT, Int.reduceToNat, reduceCtorEq, Int.reduceNeg, Int.reduceEq, Nat.reduceBEq, Nat.reduceBNe, Int.reduceBEq, Int.reduceBNe, String.reduceEq]; first | done | rfl | (simp (disch := omega) only [w_nat, w_add, w_addl, w_addr, w_sub, w_subl, w_mul, w_mull, w_mulr, w_u32, w_u16, w_u8, w_u32a, N_zero]; first | done | rfl | (simp only [push_cast, reduceIte, Nat.reduceEqDiff, Nat.reduceLT, Nat.reduceAdd, Nat.reduceSub, Nat.reduceMul, Nat.reduceLeDiff, Nat.reducePow, Int.reduceLT, Int.reduceToNat, reduceCtorEq, Int.reduceNeg, Int.reduceEq, Nat.reduceBEq, Nat.reduceBNe, Int.reduceBEq, Int.reduceBNe, String.reduceEq]; first | done | rfl)))) (hz : (elSz P T).isSome = true := by first | with_reducible rfl | (simp only [push_cast, reduceIte, Nat.reduceEqDiff, Nat.reduceLT, Nat.reduceAdd, Nat.reduceSub, Nat.reduceMul, Nat.reduceLeDiff, Nat.reducePow, Int.reduceLT, Int.reduceToNat, reduceCtorEq, Int.reduceNeg, Int.reduceEq, Nat.reduceBEq, Nat.reduceBNe, Int.reduceBEq, Int.reduceBNe, String.reduceEq]; first | done | rfl | (simp (disch := omega) only [w_nat, w_add, w_addl, w_addr, w_sub, w_subl, w_mul, w_mull, w_mulr, w_u32, w_u16, w_u8, w_u32a, N_zero]; first | done | rfl | (simp only [push_cast, reduceIte, Nat.reduceEqDiff, Nat.reduceLT, Nat.reduceAdd, Nat.reduceSub, Nat.reduceMul, Nat.reduceLeDiff, Nat.reducePow, Int.reduceLT, Int.reduceToNat, reduceCtorEq, Int.reduceNeg, Int.reduceEq, Nat.reduceBEq, Nat.reduceBNe, Int.reduceBEq, Int.reduceBNe, String.reduceEq]; first | done | rfl))))
    (h : srun P ops rest (s.put o.dst (.val (.int .i64 0))) = p := by
        try simp only [push_cast, reduceIte, Nat.reduceEqDiff, Nat.reduceLT, Nat.reduceAdd, Nat.reduceSub, Nat.reduceMul, Nat.reduceLeDiff, Nat.reducePow, Int.reduceLT, Int.reduceToNat, reduceCtorEq, Int.reduceNeg, Int.reduceEq, Nat.reduceBEq, Nat.reduceBNe, Int.reduceBEq, Int.reduceBNe, String.reduceEq]
        try simp (disch := omega) only [w_nat, w_add, w_addl, w_addr, w_sub, w_subl, w_mul, w_mull, w_mulr, w_u32, w_u16, w_u8, w_u32a, N_zero]
        try simp only [push_cast, reduceIte, Nat.reduceEqDiff, Nat.reduceLT, Nat.reduceAdd, Nat.reduceSub, Nat.reduceMul, Nat.reduceLeDiff, Nat.reducePow, Int.reduceLT, Int.reduceToNat, reduceCtorEq, Int.reduceNeg, Int.reduceEq, Nat.reduceBEq, Nat.reduceBNe, Int.reduceBEq, Int.reduceBNe, String.reduceEq]
        rfl) : ARun2 P ops (o :: rest, s) Q := by
  refine ARun.exec hg (AOp.pure1 (fun E ρ B a w hs => ?_) (ARun.srun (h ▸ K)))
  obtain ⟨sz, hz⟩ := Option.isSome_iff_exists.1 hz
  obtain ⟨e', ti, zv, hu, hti, hsz, _⟩ := elSz_spec hz
  have hxv := (hx ▸ hs.ev x : Rel w B E.bs ρ (.val (.slice none 0 0)) (a.eval x)).val_eq
  refine ⟨.int .i64 0, ?_, .val _⟩
  simp [execOp, ho, resolve, invoke, builtin, hxv, Builtin.cap_, run_underlying hu, goInt]
/-! ### a body with objects whose result keeps what is new in it -/
def Ho (ids : List Nat) (x y : AV) : Prop := ∀ (w : World) (B : Nat → Prop) (bs : Nat) (ρ σ : List Value) (v : Value), (∀ i k : Nat, ids[i]? = some k → σ[i]? = ρ[k]?) → Rel w B bs ρ x v → Rel w B bs σ y v
def HoL (ids : List Nat) (xs ys : List AV) : Prop := ∀ (w : World) (B : Nat → Prop) (bs : Nat) (ρ σ : List Value) (vs : List Value), (∀ i k : Nat, ids[i]? = some k → σ[i]? = ρ[k]?) → RelL w B bs ρ xs vs → RelL w B bs σ ys vs
theorem Ho.hand {ids : List Nat} {x y : AV} (h : Hand ids x y) : Ho ids x y := fun w B bs ρ σ v hi hr => h w B bs bs ρ σ v hi hr
theorem Ho.eq {ids : List Nat} {x y : AV} (h : x = y) (hp : x.idsOk (fun _ => false) = true) : Ho ids x y := by
  subst h
  exact fun w B bs ρ σ v hi hr => hr.ids (p := fun _ => false) (by intro _ _ h; simp at h) hp
theorem HoL.nil {ids : List Nat} : HoL ids [] [] := fun _ _ _ _ _ _ _ h => by cases h; exact .nil
theorem HoL.cons {ids : List Nat} {x y : AV} {xs ys : List AV} (h : Ho ids x y) (h2 : HoL ids xs ys) : HoL ids (x :: xs) (y :: ys) := by
  intro w B bs ρ σ v hi hr; cases hr with | cons a b => exact .cons (h _ _ _ _ _ _ hi a) (h2 _ _ _ _ _ _ hi b)
theorem Ho.agg {ids : List Nat} {xs ys : List AV} (h : HoL ids xs ys) : Ho ids (.agg xs) (.agg ys) := by
  intro w B bs ρ σ v hi hr; cases hr with | agg a => exact .agg (h _ _ _ _ _ _ hi a)
theorem Ho.tup {ids : List Nat} {xs ys : List AV} (h : HoL ids xs ys) : Ho ids (.tup xs) (.tup ys) := by
  intro w B bs ρ σ v hi hr; cases hr with | tup a => exact .tup (h _ _ _ _ _ _ hi a)
theorem Ho.nilS {ids : List Nat} {nw : Bool} {sz : Nat} : Ho ids (.val (.slice none 0 0)) (.sl nw sz []) := by
  intro w B bs ρ σ v _ h; cases h; exact .slE _ _ _ _
theorem Ho.go {ids : List Nat} {x y : AV} (h : Ho ids x y := by
      try simp only [push_cast, reduceIte, Nat.reduceEqDiff, Nat.reduceLT, Nat.reduceAdd, Nat.reduceSub, Nat.reduceMul, Nat.reduceLeDiff, Nat.reducePow, Int.reduceLT, Int.reduceToNat, reduceCtorEq, Int.reduceNeg, Int.reduceEq, Nat.reduceBEq, Nat.reduceBNe, Int.reduceBEq, Int.reduceBNe, String.reduceEq]
      try simp (disch := omega) only [w_nat, w_add, w_addl, w_addr, w_sub, w_subl, w_mul, w_mull, w_mulr, w_u32, w_u16, w_u8, w_u32a, N_zero]
      repeat' (first | assumption | exact HoL.nil | exact Ho.nilS | exact Ho.eq (by first | with_reducible rfl | (simp only [push_cast, reduceIte, Nat.reduceEqDiff, Nat.reduceLT, Nat.reduceAdd, Nat.reduceSub, Nat.reduceMul, Nat.reduceLeDiff, Nat.reducePow, Int.reduceLT, Int.reduceToNat, reduceCtorEq, Int.reduceNeg, Int.reduceEq, Nat.reduceBEq, Nat.reduceBNe, Int.reduceBEq, Int.reduceBNe, String.reduceEq]; first | done | rfl | (simp (disch := omega) only [w_nat, w_add, w_addl, w_addr, w_sub, w_subl, w_mul, w_mull, w_mulr, w_u32, w_u16, w_u8, w_u32a, N_zero]; first | done | rfl | (simp only [push_cast, reduceIte, Nat.reduceEqDiff, Nat.reduceLT, Nat.reduceAdd, Nat.reduceSub, Nat.reduceMul, Nat.reduceLeDiff, Nat.reducePow, Int.reduceLT, Int.reduceToNat, reduceCtorEq, Int.reduceNeg, Int.reduceEq, Nat.reduceBEq, Nat.reduceBNe, Int.reduceBEq, Int.reduceBNe, String.reduceEq]; first | done | rfl)))) (by first | with_reducible rfl | (simp only [push_cast, reduceIte, Nat.reduceEqDiff, Nat.reduceLT, Nat.reduceAdd, Nat.reduceSub, Nat.reduceMul, Nat.reduceLeDiff, Nat.reducePow, Int.reduceLT, Int.reduceToNat, reduceCtorEq, Int.reduceNeg, Int.reduceEq, Nat.reduceBEq, Nat.reduceBNe, Int.reduceBEq, Int.reduceBNe, String.reduceEq]; first | done | rfl | (simp (disch := omega) only [w_nat, w_add, w_addl, w_addr, w_sub, w_subl, w_mul, w_mull, w_mulr, w_u32, w_u16, w_u8, w_u32a, N_zero]; first | done | rfl | (simp only [push_cast, reduceIte, Nat.reduceEqDiff, Nat.reduceLT, Nat.reduceAdd, Nat.reduceSub, Nat.reduceMul, Nat.reduceLeDiff, Nat.reducePow, Int.reduceLT, Int.reduceToNat, reduceCtorEq, Int.reduceNeg, Int.reduceEq, Nat.reduceBEq, Nat.reduceBNe, Int.reduceBEq, Int.reduceBNe, String.reduceEq]; first | done | rfl)))) | exact Ho.hand (Hand.eq (by first | with_reducible rfl | (simp only [push_cast, reduceIte, Nat.reduceEqDiff, Nat.reduceLT, Nat.reduceAdd, Nat.reduceSub, Nat.reduceMul, Nat.reduceLeDiff, Nat.reducePow, Int.reduceLT, Int.reduceToNat, reduceCtorEq, Int.reduceNeg, Int.reduceEq, Nat.reduceBEq, Nat.reduceBNe, Int.reduceBEq, Int.reduceBNe, String.reduceEq]; first | done | rfl | (simp (disch := omega) only [w_nat, w_add, w_addl, w_addr, w_sub, w_subl, w_mul, w_mull, w_mulr, w_u32, w_u16, w_u8, w_u32a, N_zero]; first | done | rfl | (simp only [push_cast, reduceIte, Nat.reduceEqDiff, Nat.reduceLT, Nat.reduceAdd, Nat.reduceSub, Nat.reduceMul, Nat.reduceLeDiff, Nat.reducePow, Int.reduceLT, Int.reduceToNat, reduceCtorEq, Int.reduceNeg, Int.reduceEq, Nat.reduceBEq, Nat.reduceBNe, Int.reduceBEq, Int.reduceBNe, String.reduceEq]; first | done | rfl)))) (by first | with_reducible rfl | (simp only [push_cast, reduceIte, Nat.reduceEqDiff, Nat.reduceLT, Nat.reduceAdd, Nat.reduceSub, Nat.reduceMul, Nat.reduceLeDiff, Nat.reducePow, Int.reduceLT, Int.reduceToNat, reduceCtorEq, Int.reduceNeg, Int.reduceEq, Nat.reduceBEq, Nat.reduceBNe, Int.reduceBEq, Int.reduceBNe, String.reduceEq]; first | done | rfl | (simp (disch := omega) only [w_nat, w_add, w_addl, w_addr, w_sub, w_subl, w_mul, w_mull, w_mulr, w_u32, w_u16, w_u8, w_u32a, N_zero]; first | done | rfl | (simp only [push_cast, reduceIte, Nat.reduceEqDiff, Nat.reduceLT, Nat.reduceAdd, Nat.reduceSub, Nat.reduceMul, Nat.reduceLeDiff, Nat.reducePow, Int.reduceLT, Int.reduceToNat, reduceCtorEq, Int.reduceNeg, Int.reduceEq, Nat.reduceBEq, Nat.reduceBNe, Int.reduceBEq, Int.reduceBNe, String.reduceEq]; first | done | rfl))))) | refine HoL.cons ?_ ?_ | refine Ho.agg ?_ | refine Ho.tup ?_)) : Ho ids x y := h
def endK (ids : List Nat) (r0 : AV) (τ' : List Ob) (r : AV) (s : AS) : Prop := ids.Nodup ∧ SubOL ids s.ob ids τ' ∧ Ho ids r r0
theorem endK.m {ids : List Nat} {r0 r : AV} {τ' τ : List Ob} (hτ : τ = τ') (hr : Ho ids r r0) (hn : ids.Nodup := by first | rfl | decide) (hok : handObsOk ids s.ob ids = true := by first | with_reducible rfl | (simp only [push_cast, reduceIte, Nat.reduceEqDiff, Nat.reduceLT, Nat.reduceAdd, Nat.reduceSub, Nat.reduceMul, Nat.reduceLeDiff, Nat.reducePow, Int.reduceLT, Int.reduceToNat, reduceCtorEq, Int.reduceNeg, Int.reduceEq, Nat.reduceBEq, Nat.reduceBNe, Int.reduceBEq, Int.reduceBNe, String.reduceEq]; first | done | rfl | (simp (disch := omega) only [w_nat, w_add, w_addl, w_addr, w_sub, w_subl, w_mul, w_mull, w_mulr, w_u32, w_u16, w_u8, w_u32a, N_zero]; first | done | rfl | (simp only [push_cast, reduceIte, Nat.reduceEqDiff, Nat.reduceLT, Nat.reduceAdd, Nat.reduceSub, Nat.reduceMul, Nat.reduceLeDiff, Nat.reducePow, Int.reduceLT, Int.reduceToNat, reduceCtorEq, Int.reduceNeg, Int.reduceEq, Nat.reduceBEq, Nat.reduceBNe, Int.reduceBEq, Int.reduceBNe, String.reduceEq]; first | done | rfl)))) (hh : handObs ids s.ob ids = τ := by
        try simp only [push_cast, reduceIte, Nat.reduceEqDiff, Nat.reduceLT, Nat.reduceAdd, Nat.reduceSub, Nat.reduceMul, Nat.reduceLeDiff, Nat.reducePow, Int.reduceLT, Int.reduceToNat, reduceCtorEq, Int.reduceNeg, Int.reduceEq, Nat.reduceBEq, Nat.reduceBNe, Int.reduceBEq, Int.reduceBNe, String.reduceEq]
        try simp (disch := omega) only [w_nat, w_add, w_addl, w_addr, w_sub, w_subl, w_mul, w_mull, w_mulr, w_u32, w_u16, w_u8, w_u32a, N_zero]
        try simp only [push_cast, reduceIte, Nat.reduceEqDiff, Nat.reduceLT, Nat.reduceAdd, Nat.reduceSub, Nat.reduceMul, Nat.reduceLeDiff, Nat.reducePow, Int.reduceLT, Int.reduceToNat, reduceCtorEq, Int.reduceNeg, Int.reduceEq, Nat.reduceBEq, Nat.reduceBNe, Int.reduceBEq, Int.reduceBNe, String.reduceEq]
        rfl) : endK ids r0 τ' r s :=
  ⟨hn, (hh.trans hτ) ▸ SubOL.hand hok, hr⟩
theorem OC.of_bodyK {f : FuncId} {fn : Func} {c : Code} {args : List AV} {τ τ' : List Ob} {r0 : AV} (ids : List Nat) (h0 : ∀ k, k < τ.length → ids[k]? = some k) (hf : P.funcs[f]? = some fn) (hb : fn.body = some c) (hn : args.length ≤ fn.ntmps)
    (h : AWp P c { n := fn.ntmps, m := τ.length, fr := frOf 0 args, ob := τ } (bodyQ P fn (endK ids r0 τ'))) : OC P f args τ r0 τ' := by
  intro w ρ B vs hg hw hr R' hR'
  have hs := RS.init (n := fn.ntmps) hw hr (by rw [← hr.length_eq]; exact hn)
  refine calls_body (E0.ok w B ρ P hg) rfl hf hb (by simpa using hs) h ?_
  rintro r v s' ρ' B' a' w' ⟨e1, e2, e3⟩ hs' hv
  refine hR' r0 v τ' (pick ρ' ids) B' w' ⟨rfl, rfl⟩ (hs'.rw_.sel e1 e2 (fun k hk => h0 k (by simpa [hw.len] using hk))) ?_
  exact e3 _ _ _ _ _ _ (fun i k hi => pick_at hs'.rw_ e2 hi) hv
/-! ### code with labels that nothing jumps to -/
theorem stepR_scope {b : Frame} {a : Act} {k : List Item} {cs : List Frame} {w : World} {c : Code} : step P (lone (b.atR a (.code (.scope c) :: k)) cs w) = .next (lone (b.atR a (.code c :: .inScope c :: k)) cs w) :=
  step_lone_go (by simp [stepG, stepG.exec, Frame.atR])
theorem stepR_inScope {b : Frame} {a : Act} {k : List Item} {cs : List Frame} {w : World} {c : Code} : step P (lone (b.atR a (.inScope c :: k)) cs w) = .next (lone (b.atR a k) cs w) :=
  step_lone_go (by simp [stepG, stepG.exec, Frame.atR])
theorem wpIn_scope {F : Fence} {n : Nat} {c : Code} {Q : Exit → Act → World → Prop} {a : Act} {w : World} (hg : ∀ l a w, ¬ Q (.goto l) a w) (h : c.wpIn F n P Q a w) : (Code.scope c).wpIn F n P Q a w := by
  intro b k cs hro hb hr
  have h0 : (lone (b.atR a (.code (.scope c) :: k)) cs w).fenced P F := fenced_calm hb hr rfl
  obtain ⟨e, a₁, w₁, hq, harr⟩ := h b (.inScope c :: k) cs hro hb hr
  cases e with
  | normal => exact ⟨.normal, a₁, w₁, hq, .head h0 stepR_scope (StepsIn.trans harr (.one (fenced_calm hb hr rfl) stepR_inScope))⟩
  | exit id =>
    have hx : exitTo id (.inScope c :: k) = exitTo id k := by simp [exitTo]
    exact ⟨.exit id, a₁, w₁, hq, fun k' hk => .head h0 stepR_scope (harr.1 k' (by rw [hx]; exact hk)),
      fun hr' hk => let ⟨k₁, h1, h2⟩ := harr.2 hr' (by rw [hx]; exact hk); ⟨k₁, h1, .head h0 stepR_scope h2⟩⟩
  | goto l => exact absurd hq (hg _ _ _)
  | ret => exact ⟨_, a₁, w₁, hq, .of_steps (.one h0 stepR_scope) harr⟩
  | panic ch => exact ⟨_, a₁, w₁, hq, .of_steps (.one h0 stepR_scope) harr⟩
  | outgrown => exact ⟨_, a₁, w₁, hq, .of_steps (.one h0 stepR_scope) harr⟩
theorem AWp.scope {c : Code} (h : AWp P c s (noGo R)) : AWp P (.scope c) s R := by
  intro E hE ρ B a w hs Q' hQ
  have := h E hE ρ B a w hs (fun e a w => (∀ l, e ≠ .goto l) ∧ Q' e a w) fun e s' ρ' B' a' w' hq hs' => by
    cases e with
    | goto l => exact hq.elim
    | _ => exact ⟨(by rintro l ⟨⟩), hQ _ _ _ _ _ _ hq hs'⟩
  exact wpIn_mono (wpIn_scope (fun l a w hq => hq.1 l rfl) this) fun e a w hq => hq.2
end
end Go.Abs
/- From a row that a call makes to what it answers; nil as an empty slice. No condition. -/
namespace Go.Abs
set_option linter.unusedVariables false
set_option linter.unusedSectionVars false
set_option linter.unusedSimpArgs false
set_option linter.unnecessarySimpa false
section
variable {P : Program} {ops : Array Oper} {E : Env} {s s' : AS} {ρ σ : List Value} {B : Nat → Prop} {a : Act} {w w' : World} {o : Oper} {rest : List Oper} {Q : AS → Prop} {R : Exit → AS → Prop}
/-- a row that is made and handed back, as a slice that is read -/
theorem PC.of_own {f : FuncId} {ys : List AV} {e : TypeId} {sz : Nat} {xs : List AV} (h : OC P f ys [] (.own 0) [.row e sz xs]) (hx : AV.idsOkL (fun _ => false) xs = true := by simp only [push_cast]) : PC P f ys (.sl true sz xs) := by
  refine ⟨by simpa [AV.idsOk] using hx, fun w ρ B vs hg hw hr R' hR' => ?_⟩
  refine h w ρ B vs hg hw hr R' ?_
  rintro r v τ' ρ' B' w' ⟨rfl, rfl⟩ hw' hv
  have hρ : ρ = [] := by have := hw.len; simpa using this
  subst hρ
  obtain ⟨B2, u, k1, k2, k3, k4, _⟩ := hw'.publish (k := 0) rfl (Nat.zero_le _)
  have hu : u = v := by
    cases hv with
    | own hp _ => rw [k2] at hp; exact Option.some.inj hp
  subst hu
  have hc := k3.cut (n := 0) (by simp) (by intro k o h; simp at h)
  refine hR' _ u [] [] B2 w' ⟨rfl, rfl⟩ (by simpa using hc) (k4.ids (p := fun _ => false) (by intro _ _ h; simp at h) (by simpa [AV.idsOk] using hx))
theorem Le.nilSl (t : Nat) (nw : Bool) (sz : Nat) (h : lk s.fr t = .val (.slice none 0 0)) : Le s { s with fr := (t, .sl nw sz []) :: del s.fr t } := by
  intro E ρ B a w hs
  refine ⟨ρ, B, hs.rw_, hs.m, hs.n, hs.df, hs.jj, ?_⟩
  intro u x hm
  rcases List.mem_cons.1 hm with e | hm
  · have e1 : u = t := congrArg Prod.fst e
    have e2 : x = .sl nw sz [] := congrArg Prod.snd e
    subst e1; subst e2
    have hg := hs.get u
    rw [h] at hg
    refine ⟨?_, ?_⟩
    · rcases lk_mem h with hx | hx
      · cases hx
      · exact (hs.rf u _ hx).1
    · rw [hg.val_eq]; exact .slE _ _ _ _
  · exact hs.rf u x (del_mem hm).1
/-- a slot that holds nil, as an empty slice -/
theorem AWp.nilSl {c : Code} (t : Nat) (nw : Bool) (sz : Nat) {s' : AS} (K : AWp P c s' R) (h : lk s.fr t = .val (.slice none 0 0) := by first | with_reducible rfl | (simp only [push_cast, reduceIte, Nat.reduceEqDiff, Nat.reduceLT, Nat.reduceAdd, Nat.reduceSub, Nat.reduceMul, Nat.reduceLeDiff, Nat.reducePow, Int.reduceLT, Int.reduceToNat, reduceCtorEq, Int.reduceNeg, Int.reduceEq, Nat.reduceBEq, Nat.reduceBNe, Int.reduceBEq, Int.reduceBNe, String.reduceEq]; first | done | rfl | (simp (disch := omega) only [w_nat, w_add, w_addl, w_addr, w_sub, w_subl, w_mul, w_mull, w_mulr, w_u32, w_u16, w_u8, w_u32a, N_zero]; first | done | rfl | (simp only [push_cast, reduceIte, Nat.reduceEqDiff, Nat.reduceLT, Nat.reduceAdd, Nat.reduceSub, Nat.reduceMul, Nat.reduceLeDiff, Nat.reducePow, Int.reduceLT, Int.reduceToNat, reduceCtorEq, Int.reduceNeg, Int.reduceEq, Nat.reduceBEq, Nat.reduceBNe, Int.reduceBEq, Int.reduceBNe, String.reduceEq]; first | done | rfl)))) (hs' : { s with fr := (t, .sl nw sz []) :: del s.fr t } = s' := by
        try simp only [push_cast, reduceIte, Nat.reduceEqDiff, Nat.reduceLT, Nat.reduceAdd, Nat.reduceSub, Nat.reduceMul, Nat.reduceLeDiff, Nat.reducePow, Int.reduceLT, Int.reduceToNat, reduceCtorEq, Int.reduceNeg, Int.reduceEq, Nat.reduceBEq, Nat.reduceBNe, Int.reduceBEq, Int.reduceBNe, String.reduceEq]
        try simp (disch := omega) only [w_nat, w_add, w_addl, w_addr, w_sub, w_subl, w_mul, w_mull, w_mulr, w_u32, w_u16, w_u8, w_u32a, N_zero]
        try simp only [push_cast, reduceIte, Nat.reduceEqDiff, Nat.reduceLT, Nat.reduceAdd, Nat.reduceSub, Nat.reduceMul, Nat.reduceLeDiff, Nat.reducePow, Int.reduceLT, Int.reduceToNat, reduceCtorEq, Int.reduceNeg, Int.reduceEq, Nat.reduceBEq, Nat.reduceBNe, Int.reduceBEq, Int.reduceBNe, String.reduceEq]
        rfl) : AWp P c s R :=
  AWp.weak (Le.nilSl t nw sz h) (hs' ▸ K)
end
end Go.Abs
/- Bytes: slices.Grow, slices.Concat, wire.Join, pad.Bytes. -/
set_option linter.unusedVariables false
set_option linter.unusedSimpArgs false
namespace Go.Proofs.YtmcedkcehcacpaaGreatDoor.C
open Go.Abs
/-- slices of bytes, as elements -/
def rowsA (ls : List (List UInt8)) : List AV := ls.map fun l => .sl false 1 (bys l)
@[push_cast] theorem rowsA_len (l : List (List UInt8)) : (rowsA l).length = l.length := by simp [rowsA]
theorem rowsA_at (l : List (List UInt8)) (i : Nat) (h : i < l.length) : (rowsA l)[i]? = some (.sl false 1 (bys l[i])) := by simp [rowsA, h]
@[push_cast] theorem rowsA_nil : rowsA [] = [] := rfl
@[push_cast] theorem rowsA_cons (a : List UInt8) (l : List (List UInt8)) : rowsA (a :: l) = .sl false 1 (bys a) :: rowsA l := rfl
@[push_cast] theorem rowsA_ids (p : Nat → Bool) (l : List (List UInt8)) : AV.idsOkL p (rowsA l) = true := by
  rw [AV.idsOkL_iff]; intro x hx; simp only [rowsA, List.mem_map] at hx; obtain ⟨b, _, rfl⟩ := hx; simp only [push_cast]
@[push_cast] theorem rowsA_hand (ids : List Nat) (l : List (List UInt8)) : AV.handL ids (rowsA l) = rowsA l := by
  rw [AV.handL_map]; simp only [rowsA, List.map_map]
  refine List.map_congr_left fun x _ => ?_
  simp only [Function.comp, AV.hand, bys_hand]
/-- how many bytes they are -/
def lens (ls : List (List UInt8)) : Nat := (ls.map List.length).sum
theorem lens_take (ls : List (List UInt8)) : ∀ i, lens (ls.take i) ≤ lens ls := by
  unfold lens
  induction ls with
  | nil => intro i; simp
  | cons a ls ih => intro i; cases i with
    | zero => simp
    | succ i => have := ih i; simp only [List.take_succ_cons, List.map_cons, List.sum_cons]; omega
theorem lens_snoc (ls : List (List UInt8)) (a : List UInt8) : lens (ls ++ [a]) = lens ls + a.length := by simp [lens]
theorem lens_flat (ls : List (List UInt8)) : ls.flatten.length = lens ls := by simp [lens, List.length_flatten]
theorem grow_c (n : Nat) (hn : n ≤ 2 ^ 40) : OC Tryz.prog 81 [.val (.slice none 0 0), nat n] [] (.own 0) [.row 5 1 []] := by
  refine OC.of_body [0] (by intro k hk; simp at hk) Tryz.func81 rfl (by rw [Tryz.ntmps81]; simp) ?_
  refine AWp.regionW ?_
  refine AWp.seqK fun K1 hK1 => ?_
  refine AWp.regionW ?_
  refine AWp.condF ?_
  refine AWp.skip ?_
  refine hK1 _ ?_
  refine AWp.seqK fun K2 hK2 => ?_
  refine AWp.regionM fun K3 hK3 => ?_
  refine ARun2.capNilM ?_
  refine ARun2.endm (hK3 _ ?_)
  rw [show IntKind.i64.wrap (0 - 0) = 0 from rfl, Int.sub_zero, w_nat n (by omega)]
  refine AWp.regionW ?_
  refine AWp.condLM (fun c1 => ?_) (fun c1 => ?_)
  · skip
    have h0 : 0 < n := by simpa using c1
    refine AWp.regionN fun K4 hK4 => ?_
    refine ARun2.capNilM ?_
    refine ARun2.frontNilM ?_
    refine ARun2.appendZerosM n h0 hn ?_
    refine ARun2.frontOwnM 0 (Nat.zero_le _) ?_
    refine ARun2.endm (hK4 _ ?_)
    refine hK2 _ ?_
    refine AWp.regionW ?_
    refine AWp.ret ?_
    try simp only [thenQ, blockQ, noGo]
    refine bodyQ.m ?_
    clear hK4 K4 hK3 K3 hK2 K2 hK1 K1
    refine endO.m ?_ ?_
    · first | rfl | simp
    · skip
      first | done | exact Hand.go
  · skip
    refine AWp.skip ?_
    refine hK2 _ ?_
    refine AWp.nilOwn 0 5 1 (by simp only [push_cast, reduceIte, Nat.reduceEqDiff, Nat.reduceLT, Nat.reduceAdd, Nat.reduceSub, Nat.reduceMul, Nat.reduceLeDiff, Nat.reducePow, Int.reduceLT, Int.reduceToNat, reduceCtorEq, Int.reduceNeg, Int.reduceEq, Nat.reduceBEq, Nat.reduceBNe, Int.reduceBEq, Int.reduceBNe, String.reduceEq]) ?_
    simp only [push_cast, reduceIte, Nat.reduceEqDiff, Nat.reduceLT, Nat.reduceAdd, Nat.reduceSub, Nat.reduceMul, Nat.reduceLeDiff, Nat.reducePow, Int.reduceLT, Int.reduceToNat, reduceCtorEq, Int.reduceNeg, Int.reduceEq, Nat.reduceBEq, Nat.reduceBNe, Int.reduceBEq, Int.reduceBNe, String.reduceEq]
    refine AWp.regionW ?_
    refine AWp.ret ?_
    try simp only [thenQ, blockQ, noGo]
    refine bodyQ.m ?_
    clear hK3 K3 hK2 K2 hK1 K1
    refine endO.m ?_ ?_
    · first | rfl | simp
    · skip
      first | done | exact Hand.go
theorem concat_o (ls : List (List UInt8)) (hl : lens ls ≤ 2 ^ 40) (hn : ls.length ≤ 2 ^ 40) : OC Tryz.prog 67 [.sl false 1 (rowsA ls)] [] (.own 0) [.row 5 1 (bys ls.flatten)] := by
  refine OC.of_body [0] (by intro k hk; simp at hk) Tryz.func67 rfl (by rw [Tryz.ntmps67]; simp) ?_
  refine AWp.regionW ?_
  refine AWp.regionW ?_
  refine AWp.seqK fun K1 hK1 => ?_
  refine AWp.regionW ?_
  refine AWp.block ?_
  refine AWp.loopK0 [0, 9, 10] (fun (i : Nat) => [(3, nat (lens (ls.take i))), (11, nat i)]) (fun i => i ≤ ls.length) (fun i => ls.length - i) (0) ?_ (Nat.zero_le _) ?_
  · skip
    refine Le.m 0 ?_ ?_
    · first | with_reducible rfl | (simp only [push_cast, reduceIte, Nat.reduceEqDiff, Nat.reduceLT, Nat.reduceAdd, Nat.reduceSub, Nat.reduceMul, Nat.reduceLeDiff, Nat.reducePow, Int.reduceLT, Int.reduceToNat, reduceCtorEq, Int.reduceNeg, Int.reduceEq, Nat.reduceBEq, Nat.reduceBNe, Int.reduceBEq, Int.reduceBNe, String.reduceEq]; first | done | rfl | (simp (disch := omega) only [w_nat, w_add, w_addl, w_addr, w_sub, w_subl, w_mul, w_mull, w_mulr, w_u32, w_u16, w_u8, w_u32a, N_zero]; first | done | rfl))
    · first | (simp only [push_cast, reduceIte, Nat.reduceEqDiff, Nat.reduceLT, Nat.reduceAdd, Nat.reduceSub, Nat.reduceMul, Nat.reduceLeDiff, Nat.reducePow, Int.reduceLT, Int.reduceToNat, reduceCtorEq, Int.reduceNeg, Int.reduceEq, Nat.reduceBEq, Nat.reduceBNe, Int.reduceBEq, Int.reduceBNe, String.reduceEq]; first | done | rfl | (simp (disch := omega) only [w_nat, w_add, w_addl, w_addr, w_sub, w_subl, w_mul, w_mull, w_mulr, w_u32, w_u16, w_u8, w_u32a, N_zero]; first | done | rfl))
  · intro i hi K2 hK2
    refine AWp.regionW ?_
    refine AWp.seqK fun K3 hK3 => ?_
    refine AWp.condLM (fun c0 => ?_) (fun c0 => ?_)
    · skip
      have hil : i < ls.length := by simpa using c0
      have hlt := lens_take ls (i + 1)
      rw [List.take_succ_eq_append_getElem hil, lens_snoc] at hlt
      refine AWp.skip ?_
      refine hK3 _ ?_
      refine AWp.seqK fun K4 hK4 => ?_
      refine AWp.block ?_
      refine AWp.regionM fun K5 hK5 => ?_
      refine ARun2.indexM (i) (.sl false 1 (bys ls[i])) ?_ ?_
      · exact rowsA_at _ _ hil
      refine ARun2.endm (hK5 _ ?_)
      refine AWp.regionW ?_
      refine AWp.regionW ?_
      refine AWp.condF ?_
      refine AWp.skip ?_
      refine hK4 _ ?_
      refine AWp.regionV ?_
      refine hK2 _ (i + 1) (by omega) (by omega) ?_
      refine Le.m 0 ?_ ?_
      · first | with_reducible rfl | (simp only [push_cast, reduceIte, Nat.reduceEqDiff, Nat.reduceLT, Nat.reduceAdd, Nat.reduceSub, Nat.reduceMul, Nat.reduceLeDiff, Nat.reducePow, Int.reduceLT, Int.reduceToNat, reduceCtorEq, Int.reduceNeg, Int.reduceEq, Nat.reduceBEq, Nat.reduceBNe, Int.reduceBEq, Int.reduceBNe, String.reduceEq]; first | done | rfl | (simp (disch := omega) only [w_nat, w_add, w_addl, w_addr, w_sub, w_subl, w_mul, w_mull, w_mulr, w_u32, w_u16, w_u8, w_u32a, N_zero]; first | done | rfl))
      · simp only [push_cast, reduceIte, Nat.reduceEqDiff, Nat.reduceLT, Nat.reduceAdd, Nat.reduceSub, Nat.reduceMul, Nat.reduceLeDiff, Nat.reducePow, Int.reduceLT, Int.reduceToNat, reduceCtorEq, Int.reduceNeg, Int.reduceEq, Nat.reduceBEq, Nat.reduceBNe, Int.reduceBEq, Int.reduceBNe, String.reduceEq]
        try simp (disch := omega) only [w_nat, w_add, w_addl, w_addr, w_sub, w_subl, w_mul, w_mull, w_mulr, w_u32, w_u16, w_u8, w_u32a, N_zero]
        rw [List.take_succ_eq_append_getElem hil, lens_snoc]
    · skip
      have hil : i = ls.length := by simp at c0; omega
      subst hil
      rw [List.take_length]
      refine AWp.exit ?_
      try simp only [thenQ, blockQ, noGo, reduceIte, Nat.reduceEqDiff]
      refine hK1 _ ?_
      refine AWp.regionM fun K6 hK6 => ?_
      refine ARun2.callOM [] (grow_c (lens ls) hl) ?_
      refine ARun2.endm (hK6 _ ?_)
      refine AWp.seqK fun K7 hK7 => ?_
      refine AWp.regionW ?_
      refine AWp.block ?_
      -- SLOTS THAT TURN AND ARE NOT TOLD: [6]
      refine AWp.loopK [6, 25, 26] (fun (i : Nat) => [(27, nat i)]) (fun i => [.row 5 1 (bys (ls.take i).flatten)]) (fun i => i ≤ ls.length) (fun i => ls.length - i) (0) ?_ (Nat.zero_le _) ?_
      · skip
        refine Le.m 1 ?_ ?_
        · first | with_reducible rfl | (simp only [push_cast, reduceIte, Nat.reduceEqDiff, Nat.reduceLT, Nat.reduceAdd, Nat.reduceSub, Nat.reduceMul, Nat.reduceLeDiff, Nat.reducePow, Int.reduceLT, Int.reduceToNat, reduceCtorEq, Int.reduceNeg, Int.reduceEq, Nat.reduceBEq, Nat.reduceBNe, Int.reduceBEq, Int.reduceBNe, String.reduceEq]; first | done | rfl | (simp (disch := omega) only [w_nat, w_add, w_addl, w_addr, w_sub, w_subl, w_mul, w_mull, w_mulr, w_u32, w_u16, w_u8, w_u32a, N_zero]; first | done | rfl))
        · first | (simp only [push_cast, reduceIte, Nat.reduceEqDiff, Nat.reduceLT, Nat.reduceAdd, Nat.reduceSub, Nat.reduceMul, Nat.reduceLeDiff, Nat.reducePow, Int.reduceLT, Int.reduceToNat, reduceCtorEq, Int.reduceNeg, Int.reduceEq, Nat.reduceBEq, Nat.reduceBNe, Int.reduceBEq, Int.reduceBNe, String.reduceEq]; first | done | rfl | (simp (disch := omega) only [w_nat, w_add, w_addl, w_addr, w_sub, w_subl, w_mul, w_mull, w_mulr, w_u32, w_u16, w_u8, w_u32a, N_zero]; first | done | rfl))
      · intro i hi K8 hK8
        refine AWp.regionW ?_
        refine AWp.seqK fun K9 hK9 => ?_
        refine AWp.condLM (fun c2 => ?_) (fun c2 => ?_)
        · skip
          have hil : i < ls.length := by simpa using c2
          have hlt := lens_take ls (i + 1)
          rw [List.take_succ_eq_append_getElem hil, lens_snoc, ← lens_flat] at hlt
          refine AWp.skip ?_
          refine hK9 _ ?_
          refine AWp.seqK fun K10 hK10 => ?_
          refine AWp.block ?_
          refine AWp.regionM fun K11 hK11 => ?_
          refine ARun2.indexM (i) (.sl false 1 (bys ls[i])) ?_ ?_
          · exact rowsA_at _ _ hil
          refine ARun2.endm (hK11 _ ?_)
          refine AWp.regionN fun K12 hK12 => ?_
          refine ARun2.appendM ?_ ?_ ?_
          · rw [YtmcedkcehcacpaaGreatDoor.Facts.eb31, bys_len, bys_len]; omega
          · rw [bys_len, bys_len]; omega
          refine ARun2.endm (hK12 _ ?_)
          refine hK10 _ ?_
          refine AWp.regionV ?_
          refine hK8 _ (i + 1) (by omega) (by omega) ?_
          refine Le.m 1 ?_ ?_
          · try simp only [push_cast, reduceIte, Nat.reduceEqDiff, Nat.reduceLT, Nat.reduceAdd, Nat.reduceSub, Nat.reduceMul, Nat.reduceLeDiff, Nat.reducePow, Int.reduceLT, Int.reduceToNat, reduceCtorEq, Int.reduceNeg, Int.reduceEq, Nat.reduceBEq, Nat.reduceBNe, Int.reduceBEq, Int.reduceBNe, String.reduceEq]
            try simp (disch := omega) only [w_nat, w_add, w_addl, w_addr, w_sub, w_subl, w_mul, w_mull, w_mulr, w_u32, w_u16, w_u8, w_u32a, N_zero]
            first | done | skip
            rw [List.take_succ_eq_append_getElem hil, List.flatten_append, bys_append]; simp
          · first | (simp only [push_cast, reduceIte, Nat.reduceEqDiff, Nat.reduceLT, Nat.reduceAdd, Nat.reduceSub, Nat.reduceMul, Nat.reduceLeDiff, Nat.reducePow, Int.reduceLT, Int.reduceToNat, reduceCtorEq, Int.reduceNeg, Int.reduceEq, Nat.reduceBEq, Nat.reduceBNe, Int.reduceBEq, Int.reduceBNe, String.reduceEq]; first | done | rfl | (simp (disch := omega) only [w_nat, w_add, w_addl, w_addr, w_sub, w_subl, w_mul, w_mull, w_mulr, w_u32, w_u16, w_u8, w_u32a, N_zero]; first | done | rfl))
        · skip
          have hil : i = ls.length := by simp at c2; omega
          subst hil
          refine AWp.exit ?_
          try simp only [thenQ, blockQ, noGo, reduceIte, Nat.reduceEqDiff]
          refine hK7 _ ?_
          refine AWp.regionW ?_
          refine AWp.ret ?_
          try simp only [thenQ, blockQ, noGo]
          refine bodyQ.m ?_
          clear hK9 K9 hK8 K8 hK7 K7 hK6 K6 hK3 K3 hK2 K2 hK1 K1
          refine endO.m ?_ ?_
          · rw [List.take_length]
          · skip
            first | done | exact Hand.go
theorem wjoin_o (ls : List (List UInt8)) (hl : lens ls ≤ 2 ^ 40) (hn : ls.length ≤ 2 ^ 40) : OC Tryz.prog 54 [.sl false 1 (rowsA ls)] [] (.own 0) [.row 5 1 (bys ls.flatten)] := by
  refine OC.of_body [0] (by intro k hk; simp at hk) Tryz.func54 rfl (by rw [Tryz.ntmps54]; simp) ?_
  refine AWp.regionW ?_
  refine AWp.regionM fun K1 hK1 => ?_
  refine ARun2.callOM [] (concat_o ls hl hn) ?_
  refine ARun2.endm (hK1 _ ?_)
  refine AWp.ret ?_
  try simp only [thenQ, blockQ, noGo]
  refine bodyQ.m ?_
  clear hK1 K1
  refine endO.m ?_ ?_
  · rfl
  · skip
    first | done | exact Hand.go
theorem wjoin_c (ls : List (List UInt8)) (hl : lens ls ≤ 2 ^ 40) (hn : ls.length ≤ 2 ^ 40) : PC Tryz.prog 54 [.sl false 1 (rowsA ls)] (.sl true 1 (bys ls.flatten)) := PC.of_own (wjoin_o ls hl hn)
/-- bytes with their padding -/
def padB (l : List UInt8) : List UInt8 := l ++ List.replicate (gapN l.length) 0
theorem padB_len (l : List UInt8) : (padB l).length = upN l.length := by simp [padB, upN]
theorem padBytes_o (l : List UInt8) (hl : l.length ≤ 2 ^ 39) : OC Tryz.prog 53 [.sl false 1 (bys l)] [] (.own 0) [.row 5 1 (bys (padB l))] := by
  have hg := gapN_le l.length
  have hc := concat_o [l, List.replicate (gapN l.length) 0] (by simp [lens]; omega) (by simp)
  rw [show [l, List.replicate (gapN l.length) 0].flatten = padB l by simp [padB]] at hc
  refine OC.of_body [0] (by intro k hk; simp at hk) Tryz.func53 rfl (by rw [Tryz.ntmps53]; simp) ?_
  refine AWp.regionW ?_
  refine AWp.regionM fun K1 hK1 => ?_
  refine ARun2.callM (pad_gap l.length (by omega)) ?_
  refine ARun2.makeM (gapN l.length) ?_ ?_
  · omega
  refine ARun2.callOM [] (hc) ?_
  refine ARun2.endm (hK1 _ ?_)
  refine AWp.ret ?_
  try simp only [thenQ, blockQ, noGo]
  refine bodyQ.m ?_
  clear hK1 K1
  refine endO.m ?_ ?_
  · rfl
  · skip
    first | done | exact Hand.go
end Go.Proofs.YtmcedkcehcacpaaGreatDoor.C
/- Errors as values; frames read and written: pad.Next, Cursor.Take, tlv. -/
set_option linter.unusedVariables false
set_option linter.unusedSimpArgs false
namespace Go.Proofs.YtmcedkcehcacpaaGreatDoor.C
open Go.Abs
/-- an error: none, a code, a fault -/
inductive Er where
  | ok
  | code (c : Nat)
  | flt (c i : Nat)
  deriving DecidableEq
def Er.isOk : Er → Bool
  | .ok => true
  | _ => false
@[push_cast] theorem isOk_ok : Er.ok.isOk = true := rfl
@[push_cast] theorem isOk_code (c : Nat) : (Er.code c).isOk = false := rfl
@[push_cast] theorem isOk_flt (c i : Nat) : (Er.flt c i).isOk = false := rfl
def erA : Er → AV
  | .ok => .val .nilIface
  | .code c => .ifc 57 (nat c)
  | .flt c i => .ifc 116 (.agg [nat c, nat i])
@[push_cast] theorem erA_ok : erA .ok = .val .nilIface := rfl
@[push_cast] theorem nilIs_er (e : Er) : nilIs .ifc (erA e) = some e.isOk := by cases e <;> rfl
@[push_cast] theorem er_ids (p : Nat → Bool) (e : Er) : (erA e).idsOk p = true := by cases e <;> rfl
@[push_cast] theorem er_hand (ids : List Nat) (e : Er) : (erA e).hand ids = erA e := by cases e <;> rfl
@[push_cast] theorem er_one (e : Er) : (erA e).one = true := by cases e <;> rfl
@[push_cast] theorem er_flat (e : Er) : (erA e).flat = true := by cases e <;> rfl
@[push_cast] theorem er_cells (e : Er) : (erA e).cells = [erA e] := by cases e <;> rfl
@[push_cast] theorem er_fresh (e : Er) : (erA e).fresh = true := by cases e <;> rfl
theorem fnew_c (c i : Nat) : PC Tryz.prog 72 [nat c, nat i] (erA (.flt c i)) := by
  refine PC.of_bodyK (by simp only [push_cast]) Tryz.func72 rfl (by rw [Tryz.ntmps72]; simp) ?_
  refine AWp.regionW ?_
  refine AWp.regionW ?_
  refine AWp.ret ?_
  try simp only [thenQ, blockQ, noGo]
  refine bodyQ.m ?_
  exact Wk.eq rfl
  first | done | exact Wk.go
/-! ### padding -/
def nzIdx (l : List UInt8) : Int := match l.findIdx? (· != 0) with
  | some i => N i
  | none => -1
theorem zero1_c (b : UInt8) : PC Tryz.prog 93 [.val (.int .u8 (N b.toNat))] (bool (b != 0)) := by
  have hb : (b.toNat != 0) = (b != 0) := by
    rw [Bool.eq_iff_iff]
    simp only [bne_iff_ne, ne_eq, ← UInt8.toNat_inj]; rfl
  refine PC.of_bodyW (by simp only [push_cast]) Tryz.func93 rfl (by rw [Tryz.ntmps93]; simp) ?_
  refine AWp.regionW ?_
  refine AWp.regionW ?_
  refine AWp.ret ?_
  try simp only [thenQ, blockQ, noGo]
  refine bodyQ.m ?_
  rw [hb]
  first | done | exact Hand.go
theorem nzIdx_hit {l : List UInt8} {i : Nat} (h : i < l.length) (h0 : ∀ j (hj : j < i), l[j]'(by omega) = 0) (hi : l[i] ≠ 0) : nzIdx l = N i := by
  unfold nzIdx
  rw [show l.findIdx? (· != 0) = some i from List.findIdx?_eq_some_iff_getElem.2 ⟨h, by simpa using hi, fun j hj => by simpa using h0 j hj⟩]
theorem nzIdx_none {l : List UInt8} (h0 : ∀ j (hj : j < l.length), l[j] = 0) : nzIdx l = -1 := by
  unfold nzIdx
  rw [show l.findIdx? (· != 0) = none from List.findIdx?_eq_none_iff.2 fun x hx => by
    obtain ⟨j, hj, rfl⟩ := List.getElem_of_mem hx
    simp [h0 j hj]]
theorem indexFunc_c (l : List UInt8) (hl : l.length ≤ 2 ^ 40) : PC Tryz.prog 95 [.sl false 1 (bys l), .fn (.func 93) [] []] (.val (.int .i64 (nzIdx l))) := by
  refine PC.of_bodyW (by simp only [push_cast]) Tryz.func95 rfl (by rw [Tryz.ntmps95]; simp) ?_
  refine AWp.regionW ?_
  refine AWp.seqK fun K1 hK1 => ?_
  refine AWp.regionW ?_
  refine AWp.block ?_
  refine AWp.loopK0 [0, 1, 7] (fun (i : Nat) => [(8, nat i)]) (fun i => i ≤ l.length ∧ ∀ j (hj : j < l.length), j < i → l[j] = 0) (fun i => l.length - i) (0) ?_ ⟨Nat.zero_le _, fun j _ hj => by omega⟩ ?_
  · skip
    refine Le.m 0 ?_ ?_
    · first | with_reducible rfl | (simp only [push_cast, reduceIte, Nat.reduceEqDiff, Nat.reduceLT, Nat.reduceAdd, Nat.reduceSub, Nat.reduceMul, Nat.reduceLeDiff, Nat.reducePow, Int.reduceLT, Int.reduceToNat, reduceCtorEq, Int.reduceNeg, Int.reduceEq, Nat.reduceBEq, Nat.reduceBNe, Int.reduceBEq, Int.reduceBNe, String.reduceEq]; first | done | rfl | (simp (disch := omega) only [w_nat, w_add, w_addl, w_addr, w_sub, w_subl, w_mul, w_mull, w_mulr, w_u32, w_u16, w_u8, w_u32a, N_zero]; first | done | rfl))
    · first | (simp only [push_cast, reduceIte, Nat.reduceEqDiff, Nat.reduceLT, Nat.reduceAdd, Nat.reduceSub, Nat.reduceMul, Nat.reduceLeDiff, Nat.reducePow, Int.reduceLT, Int.reduceToNat, reduceCtorEq, Int.reduceNeg, Int.reduceEq, Nat.reduceBEq, Nat.reduceBNe, Int.reduceBEq, Int.reduceBNe, String.reduceEq]; first | done | rfl | (simp (disch := omega) only [w_nat, w_add, w_addl, w_addr, w_sub, w_subl, w_mul, w_mull, w_mulr, w_u32, w_u16, w_u8, w_u32a, N_zero]; first | done | rfl))
  · intro i hi K2 hK2
    refine AWp.regionW ?_
    refine AWp.seqK fun K3 hK3 => ?_
    refine AWp.condLM (fun c0 => ?_) (fun c0 => ?_)
    · skip
      have hil : i < l.length := by simpa using c0
      refine AWp.skip ?_
      refine hK3 _ ?_
      refine AWp.seqK fun K4 hK4 => ?_
      refine AWp.block ?_
      refine AWp.regionW ?_
      refine AWp.regionM fun K5 hK5 => ?_
      refine ARun2.indexM (i) (.val (.int .u8 (N l[i].toNat))) ?_ ?_
      · rw [bys_get, List.getElem?_eq_getElem hil]; rfl
      refine ARun2.callVM (zero1_c l[i]) ?_
      refine ARun2.endm (hK5 _ ?_)
      refine AWp.condLM (fun c1 => ?_) (fun c1 => ?_)
      · skip
        have hne : l[i] ≠ 0 := by simpa using c1
        have hz := nzIdx_hit hil (fun j hj => hi.2 j (by omega) hj) hne
        refine AWp.regionW ?_
        refine AWp.ret ?_
        try simp only [thenQ, blockQ, noGo]
        refine bodyQ.m ?_
        clear hK5 K5 hK4 K4 hK3 K3 hK2 K2 hK1 K1
        rw [hz]
        first | done | exact Hand.go
      · skip
        have heq : l[i] = 0 := by simpa using c1
        refine AWp.skip ?_
        refine hK4 _ ?_
        refine AWp.regionV ?_
        refine hK2 _ (i + 1) (⟨hil, fun j hj hji => (Nat.lt_or_ge j i).elim (fun h => hi.2 j hj h) (fun h => by have e : j = i := (by omega); subst e; exact heq)⟩) (by omega) ?_
        refine Le.m 0 ?_ ?_
        · first | with_reducible rfl | (simp only [push_cast, reduceIte, Nat.reduceEqDiff, Nat.reduceLT, Nat.reduceAdd, Nat.reduceSub, Nat.reduceMul, Nat.reduceLeDiff, Nat.reducePow, Int.reduceLT, Int.reduceToNat, reduceCtorEq, Int.reduceNeg, Int.reduceEq, Nat.reduceBEq, Nat.reduceBNe, Int.reduceBEq, Int.reduceBNe, String.reduceEq]; first | done | rfl | (simp (disch := omega) only [w_nat, w_add, w_addl, w_addr, w_sub, w_subl, w_mul, w_mull, w_mulr, w_u32, w_u16, w_u8, w_u32a, N_zero]; first | done | rfl))
        · first | (simp only [push_cast, reduceIte, Nat.reduceEqDiff, Nat.reduceLT, Nat.reduceAdd, Nat.reduceSub, Nat.reduceMul, Nat.reduceLeDiff, Nat.reducePow, Int.reduceLT, Int.reduceToNat, reduceCtorEq, Int.reduceNeg, Int.reduceEq, Nat.reduceBEq, Nat.reduceBNe, Int.reduceBEq, Int.reduceBNe, String.reduceEq]; first | done | rfl | (simp (disch := omega) only [w_nat, w_add, w_addl, w_addr, w_sub, w_subl, w_mul, w_mull, w_mulr, w_u32, w_u16, w_u8, w_u32a, N_zero]; first | done | rfl))
    · skip
      have hil : i = l.length := by have := hi.1; simp at c0; omega
      have hz := nzIdx_none (l := l) fun j hj => hi.2 j hj (by omega)
      refine AWp.exit ?_
      try simp only [thenQ, blockQ, noGo, reduceIte, Nat.reduceEqDiff]
      refine hK1 _ ?_
      refine AWp.regionW ?_
      refine AWp.ret ?_
      try simp only [thenQ, blockQ, noGo]
      refine bodyQ.m ?_
      clear hK3 K3 hK2 K2 hK1 K1
      rw [hz]
      first | done | exact Hand.go
/-- are all of these bytes 0? -/
def zeroB (l : List UInt8) : Bool := l.all (· == 0)
theorem nzIdx_zero (l : List UInt8) : (!decide (0 ≤ nzIdx l)) = zeroB l := by
  unfold nzIdx zeroB
  cases h : l.findIdx? (· != 0) with
  | some i =>
    obtain ⟨h1, h2, _⟩ := List.findIdx?_eq_some_iff_getElem.1 h
    have : l.all (· == 0) = false := by
      rw [List.all_eq_false]; exact ⟨l[i], List.getElem_mem h1, by simpa using h2⟩
    rw [this]
    simp [N]
  | none =>
    have h1 := List.findIdx?_eq_none_iff.1 h
    have : l.all (· == 0) = true := by rw [List.all_eq_true]; intro x hx; have := h1 x hx; simpa using this
    rw [this]; decide
theorem containsFunc_c (l : List UInt8) (hl : l.length ≤ 2 ^ 40) : PC Tryz.prog 92 [.sl false 1 (bys l), .fn (.func 93) [] []] (bool (decide (0 ≤ nzIdx l))) := by
  refine PC.of_bodyW (by simp only [push_cast]) Tryz.func92 rfl (by rw [Tryz.ntmps92]; simp) ?_
  refine AWp.regionW ?_
  refine AWp.regionM fun K1 hK1 => ?_
  refine ARun2.callM (indexFunc_c l hl) ?_
  refine ARun2.endm (hK1 _ ?_)
  refine AWp.ret ?_
  try simp only [thenQ, blockQ, noGo]
  refine bodyQ.m ?_
  clear hK1 K1
  first | done | exact Hand.go
theorem zero_c (l : List UInt8) (hl : l.length ≤ 2 ^ 40) : PC Tryz.prog 89 [.sl false 1 (bys l)] (bool (zeroB l)) := by
  refine PC.of_bodyW (by simp only [push_cast]) Tryz.func89 rfl (by rw [Tryz.ntmps89]; simp) ?_
  refine AWp.regionW ?_
  refine AWp.regionM fun K1 hK1 => ?_
  refine ARun2.callM (containsFunc_c l hl) ?_
  refine ARun2.endm (hK1 _ ?_)
  refine AWp.ret ?_
  try simp only [thenQ, blockQ, noGo]
  refine bodyQ.m ?_
  clear hK1 K1
  rw [nzIdx_zero]
  first | done | exact Hand.go
/-- the end of the padding behind n -/
def nextN (b : List UInt8) (n : Nat) : Option Nat := if n ≤ b.length ∧ upN n ≤ b.length ∧ zeroB ((b.take (upN n)).drop n) = true then some (upN n) else none
theorem next_c (b : List UInt8) (n : Nat) (hl : b.length ≤ 2 ^ 40) (hn : n ≤ 2 ^ 41) : PC Tryz.prog 83 [.sl false 1 (bys b), nat n] (.tup [nat ((nextN b n).getD 0), bool (nextN b n).isSome]) := by
  have hu : upN n ≤ n + 3 := by have := gapN_le n; unfold upN; omega
  have hu2 : n ≤ upN n := by unfold upN; omega
  refine PC.of_bodyW (by simp only [push_cast]) Tryz.func83 rfl (by rw [Tryz.ntmps83]; simp) ?_
  refine AWp.regionW ?_
  refine AWp.seqK fun K1 hK1 => ?_
  refine AWp.regionA fun K2 hK2 => ?_
  refine ARun.segm 3 fun KS hKS => ?_
  refine ARun2.endm (hKS _ ?_); clear hKS KS
  apply ARun.grpM 4 2 false 12 [0, 1, 8]
  · intro g2 KG hKG
    refine ARun2.gom ?_
    exact ARun2.endm (hKG _ Le.grpM)
  refine ARun.segm 2 fun KS hKS => ?_
  refine ARun2.endm (hKS _ ?_); clear hKS KS
  apply ARun.grpM 5 8 false 19 [0, 1, 14]
  · intro g8 KG hKG
    refine ARun2.gom ?_
    refine ARun2.callM (pad_up n (by omega)) ?_
    exact ARun2.endm (hKG _ Le.grpM)
  refine ARun.segm 2 fun KS hKS => ?_
  refine ARun2.endm (hKS _ ?_); clear hKS KS
  apply ARun.grpM 7 15 false 28 [1, 21]
  · intro g15 KG hKG
    have hub : upN n ≤ b.length := by simp at g15; omega
    refine ARun2.gom ?_
    refine ARun2.callM (pad_up n (by omega)) ?_
    refine ARun2.sliceM (n) (upN n) ?_ ?_ ?_
    · omega
    · rw [bys_len]; omega
    refine ARun2.callM (zero_c ((b.take (upN n)).drop n) (by rw [List.length_drop, List.length_take]; omega)) ?_
    exact ARun2.endm (hKG _ Le.grpM)
  refine ARun2.gom ?_
  refine ARun2.endm (hK2 _ ?_)
  refine AWp.condLM (fun c0 => ?_) (fun c0 => ?_)
  · skip
    have hno : nextN b n = none := by
      unfold nextN; rw [if_neg]; rintro ⟨h1, h2, h3⟩; simp [h1, h2, h3] at c0; omega
    refine AWp.regionW ?_
    refine AWp.ret ?_
    try simp only [thenQ, blockQ, noGo]
    refine bodyQ.m ?_
    clear hK2 K2 hK1 K1
    first | rw [hno] | rw [hyes]
    first | done | exact Hand.go
  · skip
    have hyes : nextN b n = some (upN n) := by
      unfold nextN; rw [if_pos]; simp at c0; refine ⟨by omega, by omega, ?_⟩; simp_all
    refine AWp.skip ?_
    refine hK1 _ ?_
    refine AWp.regionM fun K3 hK3 => ?_
    refine ARun2.callM (pad_up n (by omega)) ?_
    refine ARun2.endm (hK3 _ ?_)
    refine AWp.ret ?_
    try simp only [thenQ, blockQ, noGo]
    refine bodyQ.m ?_
    clear hK3 K3 hK2 K2 hK1 K1
    first | rw [hno] | rw [hyes]
    first | done | exact Hand.go
end Go.Proofs.YtmcedkcehcacpaaGreatDoor.C
/- Calls of functions that the model answers itself (reflectlite, as errors.As comes to it). No condition. -/
namespace Go.Abs
open Go.Extern
set_option linter.unusedVariables false
set_option linter.unusedSectionVars false
set_option linter.unusedSimpArgs false
set_option linter.unnecessarySimpa false
/-- function f is answered by e -/
def NatOk (P : Program) (f : FuncId) (e : Array Value → Sem Value) : Prop := ∀ vs w, (callFunc f vs).run P w = ((e vs).run P w).andThen fun v w' => .ok (.value v) w'
section
variable {P : Program} {ops : Array Oper} {E : Env} {s s' : AS} {ρ σ : List Value} {B : Nat → Prop} {a : Act} {w w' : World} {o : Oper} {rest : List Oper} {Q : AS → Prop} {R : Exit → AS → Prop}
theorem run_call_nat {f : FuncId} {e : Array Value → Sem Value} {args : Array Operand} {ts : Array TypeId} (he : NatOk P f e) (ho : o.op = .call { callee := .value (.func f), args := args, argTypes := ts }) {ρe : Operand → Value} (hf : ρe (.func f) = .func (.func f) #[] #[]) :
    (execOp ρe o).run P w = ((e (args.map ρe)).run P w).andThen fun v w' => .ok (.value v) w' := by
  have := he (args.map ρe) w
  simp [execOp, ho, resolve, hf, Deferred.ofValue, invoke, this]
theorem run_inv_nat {g : FuncId} {e : Array Value → Sem Value} {recv : Operand} {name : String} {args : Array Operand} {ts : Array TypeId} {RT : TypeId} {p p' : Value} (he : NatOk P g e)
    (hm : ∀ w, (Go.method (P.types.size + Made.depth) RT p name).run P w = .ok (g, p') w) (ho : o.op = .call { callee := .invoke recv name, args := args, argTypes := ts }) {ρe : Operand → Value} (hr : ρe recv = .iface RT p) :
    (execOp ρe o).run P w = ((e (#[p'] ++ args.map ρe)).run P w).andThen fun v w' => .ok (.value v) w' := by
  have h1 := he (#[p'] ++ args.map ρe) w
  have h2 := hm w
  have h3 : (callMethod (.iface RT p) name (args.map ρe)).run P w = ((e (#[p'] ++ args.map ρe)).run P w).andThen fun v w' => .ok (.value v) w' := by
    have hp : (program : Sem Program).run P w = .ok P w := rfl
    simp only [callMethod, Sem.run_bind, hp, Result.andThen_ok, h2]
    exact h1
  have h4 : (#[ρe recv] ++ args.map ρe)[0]? = some (.iface RT p) := by rw [hr, Array.getElem?_append_left (by simp)]; rfl
  have h5 : (#[ρe recv] ++ args.map ρe).extract 1 (#[ρe recv] ++ args.map ρe).size = args.map ρe := by
    apply Array.ext'; simp
    exact List.take_of_length_le (by simp)
  simp only [execOp, ho, resolve, Sem.run_bind, Sem.run_pure, Result.andThen_ok, invoke, h4, h5]
  exact h3
theorem args_vals {l : List Operand} {vs : List Value} (hs : RS E s ρ B a w) (h : l.map s.ev = vs.map AV.val) : l.map a.eval = vs := by
  have hr := RelL.map_ev hs l
  rw [h] at hr
  generalize l.map a.eval = us at hr
  clear h
  induction vs generalizing us with
  | nil => cases hr; rfl
  | cons v vs ih => cases hr with | cons h1 h2 => rw [h1.val_eq, ih _ h2]
theorem eval_func (f : FuncId) : a.eval (.func f) = .func (.func f) #[] #[] := rfl
theorem AOp.invC {g : FuncId} {e : Array Value → Sem Value} {recv : Operand} {name : String} {args : Array Operand} {ts : Array TypeId} {RT : TypeId} {p p' : Value} {vs : List Value} {v : Value} (he : NatOk P g e) (hm : ∀ w, (Go.method (P.types.size + Made.depth) RT p name).run P w = .ok (g, p') w)
    (hr : ∀ w, (e (p' :: vs).toArray).run P w = .ok v w) (ho : o.op = .call { callee := .invoke recv name, args := args, argTypes := ts }) (hx : s.ev recv = .val (.iface RT p)) (hv : args.toList.map s.ev = vs.map AV.val) (K : ARun P ops rest (s.put o.dst (.val v)) Q) : AOp P ops o rest s Q := by
  refine AOp.pure1 (fun E ρ B a w hs => ⟨v, ?_, .val _⟩) K
  have ha : args.map a.eval = vs.toArray := by apply Array.ext'; simpa using args_vals hs hv
  have hxv := (hx ▸ hs.ev recv : Rel w B E.bs ρ (.val (.iface RT p)) (a.eval recv)).val_eq
  rw [run_inv_nat he hm ho hxv, ha, show #[p'] ++ vs.toArray = (p' :: vs).toArray by simp, hr]; rfl
/-- a Value's cell, by what is known of it -/
theorem AOp.natV {f : FuncId} {e : Array Value → Sem Value} {x : Operand} {ts : Array TypeId} {h fl : Value} {nw : Bool} {y r : AV} (he : NatOk P f e) (ho : o.op = .call { callee := .value (.func f), args := #[x], argTypes := ts }) (hx : s.ev x = .agg [.val h, .ref nw y, .val fl])
    (hr : ∀ (w : World) (B : Nat → Prop) (bs : Nat) (ρ : List Value) (b o : Nat), RelCells w B bs ρ nw b o y.cells → ∃ v, (e #[.agg #[h, .pointer (some ⟨b, o, none⟩), fl]]).run P w = .ok v w ∧ Rel w B bs ρ r v)
    (K : ARun P ops rest (s.put o.dst r) Q) : AOp P ops o rest s Q := by
  refine AOp.pure1 (fun E ρ B a w hs => ?_) K
  have hxr := hs.ev x
  rw [hx] at hxr
  generalize hq : a.eval x = u at hxr
  cases hxr with
  | agg h1 =>
    cases h1 with
    | cons a1 h1 => cases h1 with
      | cons a2 h1 => cases h1 with
        | cons a3 h1 =>
          cases h1
          have e1 := a1.val_eq
          have e3 := a3.val_eq
          subst e1; subst e3
          cases a2 with
          | ref hc hn =>
            obtain ⟨v, k1, k2⟩ := hr w B E.bs ρ _ _ hc
            refine ⟨v, ?_, k2⟩
            rw [run_call_nat he ho (eval_func f), show (#[x] : Array Operand).map a.eval = #[a.eval x] by simp, hq]
            have k1' := congrArg (fun r : Result Value => r.andThen fun v w' => (Result.ok (Next.value v) w' : Result Next)) k1
            exact k1'
/-- ValueOf: what the interface value holds, in a cell of its own -/
theorem AOp.valueOf {f : FuncId} {e : Array Value → Sem Value} {x : Operand} {ts : Array TypeId} {T : TypeId} {h fl : Value} {y : AV} (he : NatOk P f e) (ho : o.op = .call { callee := .value (.func f), args := #[x], argTypes := ts }) (hx : s.ev x = .ifc T y) (hf : y.flat = true) (hne : y.cells ≠ [])
    (hr : ∀ (w : World) (B : Nat → Prop) (bs : Nat) (ρ : List Value) (v : Value), Rel w B bs ρ y v → (e #[.iface T v]).run P w = .ok (.agg #[h, .pointer (some ⟨w.heap.size, 0, none⟩), fl]) (w.alloc (.cells (List.toArray v.cells.toList) T)))
    (K : ARun P ops rest (s.put o.dst (.agg [.val h, .ref true y, .val fl])) Q) : AOp P ops o rest s Q := by
  refine AOp.value (s' := s) (fun E ρ B a w hs => ?_) K
  have hxr := hs.ev x
  rw [hx] at hxr
  generalize hq : a.eval x = u at hxr
  cases hxr with
  | ifc h1 =>
    rename_i v
    have hrun := hr w B E.bs ρ v h1
    obtain ⟨c1, c2⟩ := h1.toCells hf
    have hsame := same_alloc w (.cells (List.toArray v.cells.toList) T)
    refine ⟨.agg #[h, .pointer (some ⟨w.heap.size, 0, none⟩), fl], w.alloc (.cells (List.toArray v.cells.toList) T), ρ, _, ?_, hs.pubNew hsame (Nat.le_refl _) (by simp), .agg (.cons (.val _) (.cons (.ref (RelCells.mk (vs := v.cells.toList) (.inr rfl) (fun _ => hs.rw_.size) (c1.mono (fun _ h => .inl h) (fun b hb => hsame.block b (hs.rw_.blt b hb)) (Nat.le_refl _) (fun _ _ h => h)) c2 ?_) hne) (.cons (.val _) .nil)))⟩
    · rw [run_call_nat he ho (eval_func f), show (#[x] : Array Operand).map a.eval = #[a.eval x] by simp, hq]
      exact congrArg (fun r : Result Value => r.andThen fun v w' => (Result.ok (Next.value v) w' : Result Next)) hrun
    · intro j u hj
      exact block_cell (alloc_get w _) 0 j u (by simpa using hj)
/-- Set -/
theorem AOp.natSet {f : FuncId} {e : Array Value → Sem Value} {x y : Operand} {ts : Array TypeId} {T T' : TypeId} {h1 f1 h2 f2 : Value} {k off : Nat} {nw : Bool} {z z' : AV} {cs : List AV} (he : NatOk P f e) (ho : o.op = .call { callee := .value (.func f), args := #[x, y], argTypes := ts })
    (hx : s.ev x = .agg [.val h1, .ptr k off, .val f1]) (hy : s.ev y = .agg [.val h2, .ref nw z, .val f2]) (hk : s.ob[k]? = some (.box T' cs)) (hz : part' z.cells 0 (tk P T) = some z') (hf : z'.flat = true) (hl : z'.cells.length = tkLen (tk P T)) (hpos : 0 < tkLen (tk P T)) (hle : off + z'.cells.length ≤ cs.length)
    (hr : ∀ (ta b : Addr) (w w' : World) (v : Value), (loadVar T b).run P w = .ok v w → (storeVar T ta v).run P w = .ok () w' → (e #[.agg #[h1, .pointer (some ta), f1], .agg #[h2, .pointer (some b), f2]]).run P w = .ok (.tuple #[]) w')
    (K : ARun P ops rest (({ s with ob := s.ob.set k (.box T' (splice cs off z'.cells)) } : AS).put o.dst (.val (.tuple #[]))) Q) : AOp P ops o rest s Q := by
  refine AOp.value (s' := { s with ob := s.ob.set k (.box T' (splice cs off z'.cells)) }) (fun E ρ B a w hs => ?_) K
  have hxr := hs.ev x
  rw [hx] at hxr
  generalize hq : a.eval x = u at hxr
  have hyr := hs.ev y
  rw [hy] at hyr
  generalize hq2 : a.eval y = u2 at hyr
  cases hxr with
  | agg g1 => cases g1 with
    | cons a1 g1 => cases g1 with
      | cons a2 g1 => cases g1 with
        | cons a3 g1 =>
          cases g1
          have e1 := a1.val_eq
          have e3 := a3.val_eq
          subst e1; subst e3
          cases hyr with
          | agg g2 => cases g2 with
            | cons b1 g2 => cases g2 with
              | cons b2 g2 => cases g2 with
                | cons b3 g2 =>
                  cases g2
                  have d1 := b1.val_eq
                  have d3 := b3.val_eq
                  subst d1; subst d3
                  cases b2 with
                  | ref hc hn =>
                    rename_i bb bo
                    obtain ⟨zs, c1, c2, c3⟩ := hc.get
                    obtain ⟨zv, l1, l2⟩ := run_load_cells (P := P) (T := T) (off := 0) rfl c1 c3 hz
                    obtain ⟨b, vs, fz, r1, r2, r3, r4, r5, r6⟩ := box_cells hs hk (b := 0)
                    obtain ⟨t1, t2⟩ := l2.toCells hf
                    have hi : ∃ i, P.info? T = some i ∧ i.size = z'.cells.length := by
                      rw [hl]
                      cases ht : tk P T with
                      | scal => obtain ⟨d, i, _, hi, hs, _⟩ := tk_scal ht; exact ⟨i, hi, hs⟩
                      | aggr n => obtain ⟨d, i, _, hi, hs, _⟩ := tk_aggr ht; exact ⟨i, hi, hs⟩
                      | bad => rw [ht] at hpos; simp [tkLen] at hpos
                    obtain ⟨i, hi, hsz⟩ := hi
                    have hlen := r4.length_eq
                    have hlc := t1.length_eq
                    have hst := run_storeVar (P := P) (w := w) (t := T) (b := b) (o := off) (T := T') hi (v := zv) rfl (by rw [hsz, hlc]) r2 r3 (by omega) (t1.ones t2)
                    have hw : RS E { s with ob := s.ob.set k (.box T' (splice cs off z'.cells)) } ρ B a (setBlk w b (.cells (vs.take off ++ zv.cells.toList ++ vs.drop (off + zv.cells.toList.length)).toArray T' fz)) := by
                      obtain ⟨p1, p2, p3⟩ := hs.rw_.prv k _ _ b hk rfl r1 rfl
                      have hB : ∀ b', B b' → (setBlk w b (.cells (vs.take off ++ zv.cells.toList ++ vs.drop (off + zv.cells.toList.length)).toArray T' fz)).heap[b']? = w.heap[b']? := fun b' hb' => by
                        rw [setBlk_get _ _ _ _ p2, if_neg (by rintro rfl; exact p1 hb')]
                      refine hs.write (b := b) hk rfl r1 rfl ⟨b, _, fz, r1, by rw [setBlk_get _ _ _ _ p2, if_pos rfl], ?_, (r4.splice t1 off).mono (fun _ h => h) hB (Nat.le_refl _) (fun _ _ h => h), ?_⟩
                      · have : (vs.take off ++ zv.cells.toList ++ vs.drop (off + zv.cells.toList.length)).length = vs.length := by simp only [List.length_append, List.length_take, List.length_drop]; omega
                        rw [this]; exact r3
                      · intro c hc
                        simp only [splice, List.mem_append] at hc
                        rcases hc with (hc | hc) | hc
                        · exact r5 c (List.mem_of_mem_take hc)
                        · exact AV.oc_of (t2 c hc)
                        · exact r5 c (List.mem_of_mem_drop hc)
                    cases a2 with
                    | ptr hp =>
                      rw [r1] at hp
                      simp only [Option.some.injEq, Value.pointer.injEq, Addr.mk.injEq, and_true] at hp
                      subst hp
                      refine ⟨.tuple #[], _, ρ, B, ?_, hw, .val _⟩
                      rw [run_call_nat he ho (eval_func f), show (#[x, y] : Array Operand).map a.eval = #[a.eval x, a.eval y] by simp, hq, hq2]
                      exact congrArg (fun r : Result Value => r.andThen fun v w' => (Result.ok (Next.value v) w' : Result Next)) (hr _ _ _ _ _ l1 hst)
/-- one of a loop's rounds, or two -/
theorem AWp.loop2 {c : Code} (h : ∀ K : AS → Prop, (∀ s', AWp P c s' (thenQ (fun _ => False) R) → K s') → AWp P c s (thenQ K R)) : AWp P (.loop c) s R := by
  refine AWp.loop (α := Nat) (fun n s' => (n = 1 ∧ s' = s) ∨ (n = 0 ∧ AWp P c s' (thenQ (fun _ => False) R))) (fun n => n) 1 (.inl ⟨rfl, rfl⟩) ?_
  rintro n s' (⟨rfl, rfl⟩ | ⟨rfl, hk⟩)
  · refine (h (fun s' => AWp P c s' (thenQ (fun _ => False) R)) fun _ hk => hk).mono ?_
    intro e s2 q
    cases e with
    | normal => exact ⟨0, .inr ⟨rfl, q⟩, Nat.zero_lt_one⟩
    | _ => exact q
  · refine hk.mono ?_
    intro e s2 q
    cases e with
    | normal => exact q.elim
    | _ => exact q
theorem ARun2.invCM {g : FuncId} {e : Array Value → Sem Value} {recv : Operand} {name : String} {args : Array Operand} {ts : Array TypeId} {RT : TypeId} {pp pp' : Value} {p : List Oper × AS} (vs : List Value) (v : Value) (he : NatOk P g e) (hm : ∀ w, (Go.method (P.types.size + Made.depth) RT pp name).run P w = .ok (g, pp') w)
    (hr : ∀ w, (e (pp' :: vs).toArray).run P w = .ok v w) (K : ARun2 P ops p Q) (ho : o.op = .call { callee := .invoke recv name, args := args, argTypes := ts } := by rfl)
    (hg : gd ops s o = some true := by first | with_reducible rfl | (simp only [push_cast, reduceIte, Nat.reduceEqDiff, Nat.reduceLT, Nat.reduceAdd, Nat.reduceSub, Nat.reduceMul, Nat.reduceLeDiff, Nat.reducePow, Int.reduceLT, Int.reduceToNat, reduceCtorEq, Int.reduceNeg, Int.reduceEq, Nat.reduceBEq, Nat.reduceBNe, Int.reduceBEq, Int.reduceBNe, String.reduceEq]; first | done | rfl | (simp (disch := omega) only [w_nat, w_add, w_addl, w_addr, w_sub, w_subl, w_mul, w_mull, w_mulr, w_u32, w_u16, w_u8, w_u32a, N_zero]; first | done | rfl | (simp only [push_cast, reduceIte, Nat.reduceEqDiff, Nat.reduceLT, Nat.reduceAdd, Nat.reduceSub, Nat.reduceMul, Nat.reduceLeDiff, Nat.reducePow, Int.reduceLT, Int.reduceToNat, reduceCtorEq, Int.reduceNeg, Int.reduceEq, Nat.reduceBEq, Nat.reduceBNe, Int.reduceBEq, Int.reduceBNe, String.reduceEq]; first | done | rfl)))) (hx : s.ev recv = .val (.iface RT pp) := by first | with_reducible rfl | (simp only [push_cast, reduceIte, Nat.reduceEqDiff, Nat.reduceLT, Nat.reduceAdd, Nat.reduceSub, Nat.reduceMul, Nat.reduceLeDiff, Nat.reducePow, Int.reduceLT, Int.reduceToNat, reduceCtorEq, Int.reduceNeg, Int.reduceEq, Nat.reduceBEq, Nat.reduceBNe, Int.reduceBEq, Int.reduceBNe, String.reduceEq]; first | done | rfl | (simp (disch := omega) only [w_nat, w_add, w_addl, w_addr, w_sub, w_subl, w_mul, w_mull, w_mulr, w_u32, w_u16, w_u8, w_u32a, N_zero]; first | done | rfl | (simp only [push_cast, reduceIte, Nat.reduceEqDiff, Nat.reduceLT, Nat.reduceAdd, Nat.reduceSub, Nat.reduceMul, Nat.reduceLeDiff, Nat.reducePow, Int.reduceLT, Int.reduceToNat, reduceCtorEq, Int.reduceNeg, Int.reduceEq, Nat.reduceBEq, Nat.reduceBNe, Int.reduceBEq, Int.reduceBNe, String.reduceEq]; first | done | rfl)))) (hv : args.toList.map s.ev = vs.map AV.val := by first | with_reducible rfl | (simp only [push_cast, reduceIte, Nat.reduceEqDiff, Nat.reduceLT, Nat.reduceAdd, Nat.reduceSub, Nat.reduceMul, Nat.reduceLeDiff, Nat.reducePow, Int.reduceLT, Int.reduceToNat, reduceCtorEq, Int.reduceNeg, Int.reduceEq, Nat.reduceBEq, Nat.reduceBNe, Int.reduceBEq, Int.reduceBNe, String.reduceEq]; first | done | rfl | (simp (disch := omega) only [w_nat, w_add, w_addl, w_addr, w_sub, w_subl, w_mul, w_mull, w_mulr, w_u32, w_u16, w_u8, w_u32a, N_zero]; first | done | rfl | (simp only [push_cast, reduceIte, Nat.reduceEqDiff, Nat.reduceLT, Nat.reduceAdd, Nat.reduceSub, Nat.reduceMul, Nat.reduceLeDiff, Nat.reducePow, Int.reduceLT, Int.reduceToNat, reduceCtorEq, Int.reduceNeg, Int.reduceEq, Nat.reduceBEq, Nat.reduceBNe, Int.reduceBEq, Int.reduceBNe, String.reduceEq]; first | done | rfl)))) (h : srun P ops rest (s.put o.dst (.val v)) = p := by
        try simp only [push_cast, reduceIte, Nat.reduceEqDiff, Nat.reduceLT, Nat.reduceAdd, Nat.reduceSub, Nat.reduceMul, Nat.reduceLeDiff, Nat.reducePow, Int.reduceLT, Int.reduceToNat, reduceCtorEq, Int.reduceNeg, Int.reduceEq, Nat.reduceBEq, Nat.reduceBNe, Int.reduceBEq, Int.reduceBNe, String.reduceEq]
        try simp (disch := omega) only [w_nat, w_add, w_addl, w_addr, w_sub, w_subl, w_mul, w_mull, w_mulr, w_u32, w_u16, w_u8, w_u32a, N_zero]
        try simp only [push_cast, reduceIte, Nat.reduceEqDiff, Nat.reduceLT, Nat.reduceAdd, Nat.reduceSub, Nat.reduceMul, Nat.reduceLeDiff, Nat.reducePow, Int.reduceLT, Int.reduceToNat, reduceCtorEq, Int.reduceNeg, Int.reduceEq, Nat.reduceBEq, Nat.reduceBNe, Int.reduceBEq, Int.reduceBNe, String.reduceEq]
        rfl) : ARun2 P ops (o :: rest, s) Q :=
  ARun.exec hg (AOp.invC he hm hr ho hx hv (ARun.srun (h ▸ K)))
theorem ARun2.natVM {f : FuncId} {e : Array Value → Sem Value} {x : Operand} {ts : Array TypeId} {hh fl : Value} {nw : Bool} {y : AV} {p : List Oper × AS} (r : AV) (he : NatOk P f e)
    (hr : ∀ (w : World) (B : Nat → Prop) (bs : Nat) (ρ : List Value) (b o : Nat), RelCells w B bs ρ nw b o y.cells → ∃ v, (e #[.agg #[hh, .pointer (some ⟨b, o, none⟩), fl]]).run P w = .ok v w ∧ Rel w B bs ρ r v) (K : ARun2 P ops p Q)
    (ho : o.op = .call { callee := .value (.func f), args := #[x], argTypes := ts } := by rfl) (hg : gd ops s o = some true := by first | with_reducible rfl | (simp only [push_cast, reduceIte, Nat.reduceEqDiff, Nat.reduceLT, Nat.reduceAdd, Nat.reduceSub, Nat.reduceMul, Nat.reduceLeDiff, Nat.reducePow, Int.reduceLT, Int.reduceToNat, reduceCtorEq, Int.reduceNeg, Int.reduceEq, Nat.reduceBEq, Nat.reduceBNe, Int.reduceBEq, Int.reduceBNe, String.reduceEq]; first | done | rfl | (simp (disch := omega) only [w_nat, w_add, w_addl, w_addr, w_sub, w_subl, w_mul, w_mull, w_mulr, w_u32, w_u16, w_u8, w_u32a, N_zero]; first | done | rfl | (simp only [push_cast, reduceIte, Nat.reduceEqDiff, Nat.reduceLT, Nat.reduceAdd, Nat.reduceSub, Nat.reduceMul, Nat.reduceLeDiff, Nat.reducePow, Int.reduceLT, Int.reduceToNat, reduceCtorEq, Int.reduceNeg, Int.reduceEq, Nat.reduceBEq, Nat.reduceBNe, Int.reduceBEq, Int.reduceBNe, String.reduceEq]; first | done | rfl)))) (hx : s.ev x = .agg [.val hh, .ref nw y, .val fl] := by first | with_reducible rfl | (simp only [push_cast, reduceIte, Nat.reduceEqDiff, Nat.reduceLT, Nat.reduceAdd, Nat.reduceSub, Nat.reduceMul, Nat.reduceLeDiff, Nat.reducePow, Int.reduceLT, Int.reduceToNat, reduceCtorEq, Int.reduceNeg, Int.reduceEq, Nat.reduceBEq, Nat.reduceBNe, Int.reduceBEq, Int.reduceBNe, String.reduceEq]; first | done | rfl | (simp (disch := omega) only [w_nat, w_add, w_addl, w_addr, w_sub, w_subl, w_mul, w_mull, w_mulr, w_u32, w_u16, w_u8, w_u32a, N_zero]; first | done | rfl | (simp only [push_cast, reduceIte, Nat.reduceEqDiff, Nat.reduceLT, Nat.reduceAdd, Nat.reduceSub, Nat.reduceMul, Nat.reduceLeDiff, Nat.reducePow, Int.reduceLT, Int.reduceToNat, reduceCtorEq, Int.reduceNeg, Int.reduceEq, Nat.reduceBEq, Nat.reduceBNe, Int.reduceBEq, Int.reduceBNe, String.reduceEq]; first | done | rfl)))) (h : srun P ops rest (s.put o.dst r) = p := by
        try simp only [push_cast, reduceIte, Nat.reduceEqDiff, Nat.reduceLT, Nat.reduceAdd, Nat.reduceSub, Nat.reduceMul, Nat.reduceLeDiff, Nat.reducePow, Int.reduceLT, Int.reduceToNat, reduceCtorEq, Int.reduceNeg, Int.reduceEq, Nat.reduceBEq, Nat.reduceBNe, Int.reduceBEq, Int.reduceBNe, String.reduceEq]
        try simp (disch := omega) only [w_nat, w_add, w_addl, w_addr, w_sub, w_subl, w_mul, w_mull, w_mulr, w_u32, w_u16, w_u8, w_u32a, N_zero]
        try simp only [push_cast, reduceIte, Nat.reduceEqDiff, Nat.reduceLT, Nat.reduceAdd, Nat.reduceSub, Nat.reduceMul, Nat.reduceLeDiff, Nat.reducePow, Int.reduceLT, Int.reduceToNat, reduceCtorEq, Int.reduceNeg, Int.reduceEq, Nat.reduceBEq, Nat.reduceBNe, Int.reduceBEq, Int.reduceBNe, String.reduceEq]
        rfl) : ARun2 P ops (o :: rest, s) Q :=
  ARun.exec hg (AOp.natV he ho hx hr (ARun.srun (h ▸ K)))
theorem ARun2.valueOfM {f : FuncId} {e : Array Value → Sem Value} {x : Operand} {ts : Array TypeId} {T : TypeId} {hh fl : Value} {y : AV} {p : List Oper × AS} (he : NatOk P f e)
    (hr : ∀ (w : World) (B : Nat → Prop) (bs : Nat) (ρ : List Value) (v : Value), Rel w B bs ρ y v → (e #[.iface T v]).run P w = .ok (.agg #[hh, .pointer (some ⟨w.heap.size, 0, none⟩), fl]) (w.alloc (.cells (List.toArray v.cells.toList) T))) (K : ARun2 P ops p Q)
    (ho : o.op = .call { callee := .value (.func f), args := #[x], argTypes := ts } := by rfl) (hg : gd ops s o = some true := by first | with_reducible rfl | (simp only [push_cast, reduceIte, Nat.reduceEqDiff, Nat.reduceLT, Nat.reduceAdd, Nat.reduceSub, Nat.reduceMul, Nat.reduceLeDiff, Nat.reducePow, Int.reduceLT, Int.reduceToNat, reduceCtorEq, Int.reduceNeg, Int.reduceEq, Nat.reduceBEq, Nat.reduceBNe, Int.reduceBEq, Int.reduceBNe, String.reduceEq]; first | done | rfl | (simp (disch := omega) only [w_nat, w_add, w_addl, w_addr, w_sub, w_subl, w_mul, w_mull, w_mulr, w_u32, w_u16, w_u8, w_u32a, N_zero]; first | done | rfl | (simp only [push_cast, reduceIte, Nat.reduceEqDiff, Nat.reduceLT, Nat.reduceAdd, Nat.reduceSub, Nat.reduceMul, Nat.reduceLeDiff, Nat.reducePow, Int.reduceLT, Int.reduceToNat, reduceCtorEq, Int.reduceNeg, Int.reduceEq, Nat.reduceBEq, Nat.reduceBNe, Int.reduceBEq, Int.reduceBNe, String.reduceEq]; first | done | rfl)))) (hx : s.ev x = .ifc T y := by first | with_reducible rfl | (simp only [push_cast, reduceIte, Nat.reduceEqDiff, Nat.reduceLT, Nat.reduceAdd, Nat.reduceSub, Nat.reduceMul, Nat.reduceLeDiff, Nat.reducePow, Int.reduceLT, Int.reduceToNat, reduceCtorEq, Int.reduceNeg, Int.reduceEq, Nat.reduceBEq, Nat.reduceBNe, Int.reduceBEq, Int.reduceBNe, String.reduceEq]; first | done | rfl | (simp (disch := omega) only [w_nat, w_add, w_addl, w_addr, w_sub, w_subl, w_mul, w_mull, w_mulr, w_u32, w_u16, w_u8, w_u32a, N_zero]; first | done | rfl | (simp only [push_cast, reduceIte, Nat.reduceEqDiff, Nat.reduceLT, Nat.reduceAdd, Nat.reduceSub, Nat.reduceMul, Nat.reduceLeDiff, Nat.reducePow, Int.reduceLT, Int.reduceToNat, reduceCtorEq, Int.reduceNeg, Int.reduceEq, Nat.reduceBEq, Nat.reduceBNe, Int.reduceBEq, Int.reduceBNe, String.reduceEq]; first | done | rfl)))) (hf : y.flat = true := by first | with_reducible rfl | (simp only [push_cast, reduceIte, Nat.reduceEqDiff, Nat.reduceLT, Nat.reduceAdd, Nat.reduceSub, Nat.reduceMul, Nat.reduceLeDiff, Nat.reducePow, Int.reduceLT, Int.reduceToNat, reduceCtorEq, Int.reduceNeg, Int.reduceEq, Nat.reduceBEq, Nat.reduceBNe, Int.reduceBEq, Int.reduceBNe, String.reduceEq]; first | done | rfl | (simp (disch := omega) only [w_nat, w_add, w_addl, w_addr, w_sub, w_subl, w_mul, w_mull, w_mulr, w_u32, w_u16, w_u8, w_u32a, N_zero]; first | done | rfl | (simp only [push_cast, reduceIte, Nat.reduceEqDiff, Nat.reduceLT, Nat.reduceAdd, Nat.reduceSub, Nat.reduceMul, Nat.reduceLeDiff, Nat.reducePow, Int.reduceLT, Int.reduceToNat, reduceCtorEq, Int.reduceNeg, Int.reduceEq, Nat.reduceBEq, Nat.reduceBNe, Int.reduceBEq, Int.reduceBNe, String.reduceEq]; first | done | rfl)))) (hne : y.cells.isEmpty = false := by first | with_reducible rfl | (simp only [push_cast, reduceIte, Nat.reduceEqDiff, Nat.reduceLT, Nat.reduceAdd, Nat.reduceSub, Nat.reduceMul, Nat.reduceLeDiff, Nat.reducePow, Int.reduceLT, Int.reduceToNat, reduceCtorEq, Int.reduceNeg, Int.reduceEq, Nat.reduceBEq, Nat.reduceBNe, Int.reduceBEq, Int.reduceBNe, String.reduceEq]; first | done | rfl | (simp (disch := omega) only [w_nat, w_add, w_addl, w_addr, w_sub, w_subl, w_mul, w_mull, w_mulr, w_u32, w_u16, w_u8, w_u32a, N_zero]; first | done | rfl | (simp only [push_cast, reduceIte, Nat.reduceEqDiff, Nat.reduceLT, Nat.reduceAdd, Nat.reduceSub, Nat.reduceMul, Nat.reduceLeDiff, Nat.reducePow, Int.reduceLT, Int.reduceToNat, reduceCtorEq, Int.reduceNeg, Int.reduceEq, Nat.reduceBEq, Nat.reduceBNe, Int.reduceBEq, Int.reduceBNe, String.reduceEq]; first | done | rfl))))
    (h : srun P ops rest (s.put o.dst (.agg [.val hh, .ref true y, .val fl])) = p := by
        try simp only [push_cast, reduceIte, Nat.reduceEqDiff, Nat.reduceLT, Nat.reduceAdd, Nat.reduceSub, Nat.reduceMul, Nat.reduceLeDiff, Nat.reducePow, Int.reduceLT, Int.reduceToNat, reduceCtorEq, Int.reduceNeg, Int.reduceEq, Nat.reduceBEq, Nat.reduceBNe, Int.reduceBEq, Int.reduceBNe, String.reduceEq]
        try simp (disch := omega) only [w_nat, w_add, w_addl, w_addr, w_sub, w_subl, w_mul, w_mull, w_mulr, w_u32, w_u16, w_u8, w_u32a, N_zero]
        try simp only [push_cast, reduceIte, Nat.reduceEqDiff, Nat.reduceLT, Nat.reduceAdd, Nat.reduceSub, Nat.reduceMul, Nat.reduceLeDiff, Nat.reducePow, Int.reduceLT, Int.reduceToNat, reduceCtorEq, Int.reduceNeg, Int.reduceEq, Nat.reduceBEq, Nat.reduceBNe, Int.reduceBEq, Int.reduceBNe, String.reduceEq]
        rfl) : ARun2 P ops (o :: rest, s) Q :=
  ARun.exec hg (AOp.valueOf he ho hx hf (by intro e; rw [e] at hne; cases hne) hr (ARun.srun (h ▸ K)))
theorem ARun2.natSetM {f : FuncId} {e : Array Value → Sem Value} {x y : Operand} {ts : Array TypeId} {T T' : TypeId} {h1 f1 h2 f2 : Value} {k off : Nat} {nw : Bool} {z z' : AV} {cs : List AV} {p : List Oper × AS} (he : NatOk P f e)
    (hr : ∀ (ta b : Addr) (w w' : World) (v : Value), (loadVar T b).run P w = .ok v w → (storeVar T ta v).run P w = .ok () w' → (e #[.agg #[h1, .pointer (some ta), f1], .agg #[h2, .pointer (some b), f2]]).run P w = .ok (.tuple #[]) w') (K : ARun2 P ops p Q)
    (ho : o.op = .call { callee := .value (.func f), args := #[x, y], argTypes := ts } := by rfl) (hg : gd ops s o = some true := by first | with_reducible rfl | (simp only [push_cast, reduceIte, Nat.reduceEqDiff, Nat.reduceLT, Nat.reduceAdd, Nat.reduceSub, Nat.reduceMul, Nat.reduceLeDiff, Nat.reducePow, Int.reduceLT, Int.reduceToNat, reduceCtorEq, Int.reduceNeg, Int.reduceEq, Nat.reduceBEq, Nat.reduceBNe, Int.reduceBEq, Int.reduceBNe, String.reduceEq]; first | done | rfl | (simp (disch := omega) only [w_nat, w_add, w_addl, w_addr, w_sub, w_subl, w_mul, w_mull, w_mulr, w_u32, w_u16, w_u8, w_u32a, N_zero]; first | done | rfl | (simp only [push_cast, reduceIte, Nat.reduceEqDiff, Nat.reduceLT, Nat.reduceAdd, Nat.reduceSub, Nat.reduceMul, Nat.reduceLeDiff, Nat.reducePow, Int.reduceLT, Int.reduceToNat, reduceCtorEq, Int.reduceNeg, Int.reduceEq, Nat.reduceBEq, Nat.reduceBNe, Int.reduceBEq, Int.reduceBNe, String.reduceEq]; first | done | rfl)))) (hx : s.ev x = .agg [.val h1, .ptr k off, .val f1] := by first | with_reducible rfl | (simp only [push_cast, reduceIte, Nat.reduceEqDiff, Nat.reduceLT, Nat.reduceAdd, Nat.reduceSub, Nat.reduceMul, Nat.reduceLeDiff, Nat.reducePow, Int.reduceLT, Int.reduceToNat, reduceCtorEq, Int.reduceNeg, Int.reduceEq, Nat.reduceBEq, Nat.reduceBNe, Int.reduceBEq, Int.reduceBNe, String.reduceEq]; first | done | rfl | (simp (disch := omega) only [w_nat, w_add, w_addl, w_addr, w_sub, w_subl, w_mul, w_mull, w_mulr, w_u32, w_u16, w_u8, w_u32a, N_zero]; first | done | rfl | (simp only [push_cast, reduceIte, Nat.reduceEqDiff, Nat.reduceLT, Nat.reduceAdd, Nat.reduceSub, Nat.reduceMul, Nat.reduceLeDiff, Nat.reducePow, Int.reduceLT, Int.reduceToNat, reduceCtorEq, Int.reduceNeg, Int.reduceEq, Nat.reduceBEq, Nat.reduceBNe, Int.reduceBEq, Int.reduceBNe, String.reduceEq]; first | done | rfl)))) (hy : s.ev y = .agg [.val h2, .ref nw z, .val f2] := by first | with_reducible rfl | (simp only [push_cast, reduceIte, Nat.reduceEqDiff, Nat.reduceLT, Nat.reduceAdd, Nat.reduceSub, Nat.reduceMul, Nat.reduceLeDiff, Nat.reducePow, Int.reduceLT, Int.reduceToNat, reduceCtorEq, Int.reduceNeg, Int.reduceEq, Nat.reduceBEq, Nat.reduceBNe, Int.reduceBEq, Int.reduceBNe, String.reduceEq]; first | done | rfl | (simp (disch := omega) only [w_nat, w_add, w_addl, w_addr, w_sub, w_subl, w_mul, w_mull, w_mulr, w_u32, w_u16, w_u8, w_u32a, N_zero]; first | done | rfl | (simp only [push_cast, reduceIte, Nat.reduceEqDiff, Nat.reduceLT, Nat.reduceAdd, Nat.reduceSub, Nat.reduceMul, Nat.reduceLeDiff, Nat.reducePow, Int.reduceLT, Int.reduceToNat, reduceCtorEq, Int.reduceNeg, Int.reduceEq, Nat.reduceBEq, Nat.reduceBNe, Int.reduceBEq, Int.reduceBNe, String.reduceEq]; first | done | rfl)))) (hk : s.ob[k]? = some (.box T' cs) := by first | with_reducible rfl | (simp only [push_cast, reduceIte, Nat.reduceEqDiff, Nat.reduceLT, Nat.reduceAdd, Nat.reduceSub, Nat.reduceMul, Nat.reduceLeDiff, Nat.reducePow, Int.reduceLT, Int.reduceToNat, reduceCtorEq, Int.reduceNeg, Int.reduceEq, Nat.reduceBEq, Nat.reduceBNe, Int.reduceBEq, Int.reduceBNe, String.reduceEq]; first | done | rfl | (simp (disch := omega) only [w_nat, w_add, w_addl, w_addr, w_sub, w_subl, w_mul, w_mull, w_mulr, w_u32, w_u16, w_u8, w_u32a, N_zero]; first | done | rfl | (simp only [push_cast, reduceIte, Nat.reduceEqDiff, Nat.reduceLT, Nat.reduceAdd, Nat.reduceSub, Nat.reduceMul, Nat.reduceLeDiff, Nat.reducePow, Int.reduceLT, Int.reduceToNat, reduceCtorEq, Int.reduceNeg, Int.reduceEq, Nat.reduceBEq, Nat.reduceBNe, Int.reduceBEq, Int.reduceBNe, String.reduceEq]; first | done | rfl))))
    (hz : part' z.cells 0 (tk P T) = some z' := by first | with_reducible rfl | (simp only [push_cast, reduceIte, Nat.reduceEqDiff, Nat.reduceLT, Nat.reduceAdd, Nat.reduceSub, Nat.reduceMul, Nat.reduceLeDiff, Nat.reducePow, Int.reduceLT, Int.reduceToNat, reduceCtorEq, Int.reduceNeg, Int.reduceEq, Nat.reduceBEq, Nat.reduceBNe, Int.reduceBEq, Int.reduceBNe, String.reduceEq]; first | done | rfl | (simp (disch := omega) only [w_nat, w_add, w_addl, w_addr, w_sub, w_subl, w_mul, w_mull, w_mulr, w_u32, w_u16, w_u8, w_u32a, N_zero]; first | done | rfl | (simp only [push_cast, reduceIte, Nat.reduceEqDiff, Nat.reduceLT, Nat.reduceAdd, Nat.reduceSub, Nat.reduceMul, Nat.reduceLeDiff, Nat.reducePow, Int.reduceLT, Int.reduceToNat, reduceCtorEq, Int.reduceNeg, Int.reduceEq, Nat.reduceBEq, Nat.reduceBNe, Int.reduceBEq, Int.reduceBNe, String.reduceEq]; first | done | rfl)))) (hf : z'.flat = true := by first | with_reducible rfl | (simp only [push_cast, reduceIte, Nat.reduceEqDiff, Nat.reduceLT, Nat.reduceAdd, Nat.reduceSub, Nat.reduceMul, Nat.reduceLeDiff, Nat.reducePow, Int.reduceLT, Int.reduceToNat, reduceCtorEq, Int.reduceNeg, Int.reduceEq, Nat.reduceBEq, Nat.reduceBNe, Int.reduceBEq, Int.reduceBNe, String.reduceEq]; first | done | rfl | (simp (disch := omega) only [w_nat, w_add, w_addl, w_addr, w_sub, w_subl, w_mul, w_mull, w_mulr, w_u32, w_u16, w_u8, w_u32a, N_zero]; first | done | rfl | (simp only [push_cast, reduceIte, Nat.reduceEqDiff, Nat.reduceLT, Nat.reduceAdd, Nat.reduceSub, Nat.reduceMul, Nat.reduceLeDiff, Nat.reducePow, Int.reduceLT, Int.reduceToNat, reduceCtorEq, Int.reduceNeg, Int.reduceEq, Nat.reduceBEq, Nat.reduceBNe, Int.reduceBEq, Int.reduceBNe, String.reduceEq]; first | done | rfl)))) (hl : (decide (z'.cells.length = tkLen (tk P T)) && decide (0 < tkLen (tk P T)) && decide (off + z'.cells.length ≤ cs.length)) = true := by first | with_reducible rfl | (simp only [push_cast, reduceIte, Nat.reduceEqDiff, Nat.reduceLT, Nat.reduceAdd, Nat.reduceSub, Nat.reduceMul, Nat.reduceLeDiff, Nat.reducePow, Int.reduceLT, Int.reduceToNat, reduceCtorEq, Int.reduceNeg, Int.reduceEq, Nat.reduceBEq, Nat.reduceBNe, Int.reduceBEq, Int.reduceBNe, String.reduceEq]; first | done | rfl | (simp (disch := omega) only [w_nat, w_add, w_addl, w_addr, w_sub, w_subl, w_mul, w_mull, w_mulr, w_u32, w_u16, w_u8, w_u32a, N_zero]; first | done | rfl | (simp only [push_cast, reduceIte, Nat.reduceEqDiff, Nat.reduceLT, Nat.reduceAdd, Nat.reduceSub, Nat.reduceMul, Nat.reduceLeDiff, Nat.reducePow, Int.reduceLT, Int.reduceToNat, reduceCtorEq, Int.reduceNeg, Int.reduceEq, Nat.reduceBEq, Nat.reduceBNe, Int.reduceBEq, Int.reduceBNe, String.reduceEq]; first | done | rfl))))
    (h : srun P ops rest (({ s with ob := s.ob.set k (.box T' (splice cs off z'.cells)) } : AS).put o.dst (.val (.tuple #[]))) = p := by
        try simp only [push_cast, reduceIte, Nat.reduceEqDiff, Nat.reduceLT, Nat.reduceAdd, Nat.reduceSub, Nat.reduceMul, Nat.reduceLeDiff, Nat.reducePow, Int.reduceLT, Int.reduceToNat, reduceCtorEq, Int.reduceNeg, Int.reduceEq, Nat.reduceBEq, Nat.reduceBNe, Int.reduceBEq, Int.reduceBNe, String.reduceEq]
        try simp (disch := omega) only [w_nat, w_add, w_addl, w_addr, w_sub, w_subl, w_mul, w_mull, w_mulr, w_u32, w_u16, w_u8, w_u32a, N_zero]
        try simp only [push_cast, reduceIte, Nat.reduceEqDiff, Nat.reduceLT, Nat.reduceAdd, Nat.reduceSub, Nat.reduceMul, Nat.reduceLeDiff, Nat.reducePow, Int.reduceLT, Int.reduceToNat, reduceCtorEq, Int.reduceNeg, Int.reduceEq, Nat.reduceBEq, Nat.reduceBNe, Int.reduceBEq, Int.reduceBNe, String.reduceEq]
        rfl) : ARun2 P ops (o :: rest, s) Q := by
  simp only [Bool.and_eq_true, decide_eq_true_eq] at hl
  exact ARun.exec hg (AOp.natSet he ho hx hy hk hz hf hl.1.1 hl.1.2 hl.2 hr (ARun.srun (h ▸ K)))
/-! ### methods of a value in an interface -/
theorem AOp.invCall {g : FuncId} {recv : Operand} {name : String} {args : Array Operand} {ts : Array TypeId} {T : TypeId} {y r : AV} {ys : List AV} (ho : o.op = .call { callee := .invoke recv name, args := args, argTypes := ts }) (hx : s.ev recv = .ifc T y)
    (hm : ∀ v w, (Go.method (P.types.size + Made.depth) T v name).run P w = .ok (g, v) w) (hc : callable P g = true) (hp : PC P g ys r) (hsub : SubL (y :: args.toList.map s.ev) ys) (K : ARun P ops rest (s.put o.dst r) Q) : AOp P ops o rest s Q := by
  intro E hE ρ B a w hs Q' hQ
  have hxr := hs.ev recv
  rw [hx] at hxr
  generalize hq : a.eval recv = u at hxr
  cases hxr with
  | ifc h1 =>
    rename_i v
    have he : (execOp a.eval o).run P w = .ok (.enter g (v :: args.toList.map a.eval).toArray) w := by
      have h4 : (#[a.eval recv] ++ args.map a.eval)[0]? = some (.iface T v) := by rw [hq, Array.getElem?_append_left (by simp)]; rfl
      have h5 : (#[a.eval recv] ++ args.map a.eval).extract 1 (#[a.eval recv] ++ args.map a.eval).size = args.map a.eval := by
        apply Array.ext'; simp
        exact List.take_of_length_le (by simp)
      have hp : (program : Sem Program).run P w = .ok P w := rfl
      simp only [execOp, ho, resolve, Sem.run_bind, Sem.run_pure, Result.andThen_ok, invoke, h4, h5, callMethod, hp, hm]
      have := callFunc_run hc (#[v] ++ args.map a.eval) w
      rw [show (v :: args.toList.map a.eval).toArray = #[v] ++ args.map a.eval by apply Array.ext'; simp]
      exact this
    have hrel : RelL w B E.bs ρ (y :: args.toList.map s.ev) (v :: args.toList.map a.eval) := .cons h1 (RelL.map_ev hs _)
    refine owp_enter he ?_
    refine hp.2 w [] B _ (hE.glb.call hs.rw_ (fun _ h => h) (by intro v hv; simp at hv)) hs.rw_.callee (hsub.rel hrel) _ ?_
    rintro r' v' τ' ρ' B' w' ⟨rfl, rfl⟩ hw hv
    have hρ : ρ' = [] := by have := hw.len; simpa using this
    subst hρ
    have hs' := hs.back hw
    refine ⟨v', rfl, K E hE ρ B' _ w' (hs'.put o.dst ?_) Q' hQ⟩
    refine (hv.mono (fun _ h => h) (fun _ _ => rfl) hs.rw_.size (fun _ _ h => h)).ids (p := fun _ => false) ?_ hp.1
    intro _ _ h; simp at h
theorem ARun2.invCallM {g : FuncId} {recv : Operand} {name : String} {args : Array Operand} {ts : Array TypeId} {T : TypeId} {y r : AV} {ys : List AV} {p : List Oper × AS} (hp : PC P g ys r) (hm : ∀ v w, (Go.method (P.types.size + Made.depth) T v name).run P w = .ok (g, v) w) (K : ARun2 P ops p Q)
    (ho : o.op = .call { callee := .invoke recv name, args := args, argTypes := ts } := by rfl) (hg : gd ops s o = some true := by first | with_reducible rfl | (simp only [push_cast, reduceIte, Nat.reduceEqDiff, Nat.reduceLT, Nat.reduceAdd, Nat.reduceSub, Nat.reduceMul, Nat.reduceLeDiff, Nat.reducePow, Int.reduceLT, Int.reduceToNat, reduceCtorEq, Int.reduceNeg, Int.reduceEq, Nat.reduceBEq, Nat.reduceBNe, Int.reduceBEq, Int.reduceBNe, String.reduceEq]; first | done | rfl | (simp (disch := omega) only [w_nat, w_add, w_addl, w_addr, w_sub, w_subl, w_mul, w_mull, w_mulr, w_u32, w_u16, w_u8, w_u32a, N_zero]; first | done | rfl | (simp only [push_cast, reduceIte, Nat.reduceEqDiff, Nat.reduceLT, Nat.reduceAdd, Nat.reduceSub, Nat.reduceMul, Nat.reduceLeDiff, Nat.reducePow, Int.reduceLT, Int.reduceToNat, reduceCtorEq, Int.reduceNeg, Int.reduceEq, Nat.reduceBEq, Nat.reduceBNe, Int.reduceBEq, Int.reduceBNe, String.reduceEq]; first | done | rfl)))) (hx : s.ev recv = .ifc T y := by first | with_reducible rfl | (simp only [push_cast, reduceIte, Nat.reduceEqDiff, Nat.reduceLT, Nat.reduceAdd, Nat.reduceSub, Nat.reduceMul, Nat.reduceLeDiff, Nat.reducePow, Int.reduceLT, Int.reduceToNat, reduceCtorEq, Int.reduceNeg, Int.reduceEq, Nat.reduceBEq, Nat.reduceBNe, Int.reduceBEq, Int.reduceBNe, String.reduceEq]; first | done | rfl | (simp (disch := omega) only [w_nat, w_add, w_addl, w_addr, w_sub, w_subl, w_mul, w_mull, w_mulr, w_u32, w_u16, w_u8, w_u32a, N_zero]; first | done | rfl | (simp only [push_cast, reduceIte, Nat.reduceEqDiff, Nat.reduceLT, Nat.reduceAdd, Nat.reduceSub, Nat.reduceMul, Nat.reduceLeDiff, Nat.reducePow, Int.reduceLT, Int.reduceToNat, reduceCtorEq, Int.reduceNeg, Int.reduceEq, Nat.reduceBEq, Nat.reduceBNe, Int.reduceBEq, Int.reduceBNe, String.reduceEq]; first | done | rfl)))) (hc : callable P g = true := by first | with_reducible rfl | (simp only [push_cast, reduceIte, Nat.reduceEqDiff, Nat.reduceLT, Nat.reduceAdd, Nat.reduceSub, Nat.reduceMul, Nat.reduceLeDiff, Nat.reducePow, Int.reduceLT, Int.reduceToNat, reduceCtorEq, Int.reduceNeg, Int.reduceEq, Nat.reduceBEq, Nat.reduceBNe, Int.reduceBEq, Int.reduceBNe, String.reduceEq]; first | done | rfl | (simp (disch := omega) only [w_nat, w_add, w_addl, w_addr, w_sub, w_subl, w_mul, w_mull, w_mulr, w_u32, w_u16, w_u8, w_u32a, N_zero]; first | done | rfl | (simp only [push_cast, reduceIte, Nat.reduceEqDiff, Nat.reduceLT, Nat.reduceAdd, Nat.reduceSub, Nat.reduceMul, Nat.reduceLeDiff, Nat.reducePow, Int.reduceLT, Int.reduceToNat, reduceCtorEq, Int.reduceNeg, Int.reduceEq, Nat.reduceBEq, Nat.reduceBNe, Int.reduceBEq, Int.reduceBNe, String.reduceEq]; first | done | rfl))))
    (hsub : HandL [] (y :: args.toList.map s.ev) ys := by
      try simp only [push_cast, reduceIte, Nat.reduceEqDiff, Nat.reduceLT, Nat.reduceAdd, Nat.reduceSub, Nat.reduceMul, Nat.reduceLeDiff, Nat.reducePow, Int.reduceLT, Int.reduceToNat, reduceCtorEq, Int.reduceNeg, Int.reduceEq, Nat.reduceBEq, Nat.reduceBNe, Int.reduceBEq, Int.reduceBNe, String.reduceEq]
      try simp (disch := omega) only [w_nat, w_add, w_addl, w_addr, w_sub, w_subl, w_mul, w_mull, w_mulr, w_u32, w_u16, w_u8, w_u32a, N_zero]
      repeat' (first | assumption | exact HandL.nil | exact Hand.nil | exact Hand.any | exact Hand.eq (by first | with_reducible rfl | (simp only [push_cast, reduceIte, Nat.reduceEqDiff, Nat.reduceLT, Nat.reduceAdd, Nat.reduceSub, Nat.reduceMul, Nat.reduceLeDiff, Nat.reducePow, Int.reduceLT, Int.reduceToNat, reduceCtorEq, Int.reduceNeg, Int.reduceEq, Nat.reduceBEq, Nat.reduceBNe, Int.reduceBEq, Int.reduceBNe, String.reduceEq]; first | done | rfl | (simp (disch := omega) only [w_nat, w_add, w_addl, w_addr, w_sub, w_subl, w_mul, w_mull, w_mulr, w_u32, w_u16, w_u8, w_u32a, N_zero]; first | done | rfl | (simp only [push_cast, reduceIte, Nat.reduceEqDiff, Nat.reduceLT, Nat.reduceAdd, Nat.reduceSub, Nat.reduceMul, Nat.reduceLeDiff, Nat.reducePow, Int.reduceLT, Int.reduceToNat, reduceCtorEq, Int.reduceNeg, Int.reduceEq, Nat.reduceBEq, Nat.reduceBNe, Int.reduceBEq, Int.reduceBNe, String.reduceEq]; first | done | rfl)))) (by first | with_reducible rfl | (simp only [push_cast, reduceIte, Nat.reduceEqDiff, Nat.reduceLT, Nat.reduceAdd, Nat.reduceSub, Nat.reduceMul, Nat.reduceLeDiff, Nat.reducePow, Int.reduceLT, Int.reduceToNat, reduceCtorEq, Int.reduceNeg, Int.reduceEq, Nat.reduceBEq, Nat.reduceBNe, Int.reduceBEq, Int.reduceBNe, String.reduceEq]; first | done | rfl | (simp (disch := omega) only [w_nat, w_add, w_addl, w_addr, w_sub, w_subl, w_mul, w_mull, w_mulr, w_u32, w_u16, w_u8, w_u32a, N_zero]; first | done | rfl | (simp only [push_cast, reduceIte, Nat.reduceEqDiff, Nat.reduceLT, Nat.reduceAdd, Nat.reduceSub, Nat.reduceMul, Nat.reduceLeDiff, Nat.reducePow, Int.reduceLT, Int.reduceToNat, reduceCtorEq, Int.reduceNeg, Int.reduceEq, Nat.reduceBEq, Nat.reduceBNe, Int.reduceBEq, Int.reduceBNe, String.reduceEq]; first | done | rfl)))) | refine HandL.cons ?_ ?_ | refine Hand.agg ?_ | refine Hand.tup ?_ | refine Hand.fn ?_ ?_ | exact HandR.nil | exact HandC.nil | refine HandC.cons ?_ ?_ | refine HandR.cons ?_ ?_ | refine Hand.sl ?_))
    (h : srun P ops rest (s.put o.dst r) = p := by
        try simp only [push_cast, reduceIte, Nat.reduceEqDiff, Nat.reduceLT, Nat.reduceAdd, Nat.reduceSub, Nat.reduceMul, Nat.reduceLeDiff, Nat.reducePow, Int.reduceLT, Int.reduceToNat, reduceCtorEq, Int.reduceNeg, Int.reduceEq, Nat.reduceBEq, Nat.reduceBNe, Int.reduceBEq, Int.reduceBNe, String.reduceEq]
        try simp (disch := omega) only [w_nat, w_add, w_addl, w_addr, w_sub, w_subl, w_mul, w_mull, w_mulr, w_u32, w_u16, w_u8, w_u32a, N_zero]
        try simp only [push_cast, reduceIte, Nat.reduceEqDiff, Nat.reduceLT, Nat.reduceAdd, Nat.reduceSub, Nat.reduceMul, Nat.reduceLeDiff, Nat.reducePow, Int.reduceLT, Int.reduceToNat, reduceCtorEq, Int.reduceNeg, Int.reduceEq, Nat.reduceBEq, Nat.reduceBNe, Int.reduceBEq, Int.reduceBNe, String.reduceEq]
        rfl) : ARun2 P ops (o :: rest, s) Q := ARun.exec hg (AOp.invCall ho hx hm hc hp (SubL.of hsub) (ARun.srun (h ▸ K)))
/-- what is asserted of a value in an interface holds, or not, by its type -/
theorem ARun2.assertM {x : Operand} {xT aT T : TypeId} {y r : AV} {p : List Oper × AS} (F : Value → Value) (hr : ∀ v w, (Instr.typeAssert (.iface T v) xT aT true).run P w = .ok (F v) w) (hF : ∀ (w : World) (B : Nat → Prop) (bs : Nat) (ρ : List Value) (v : Value), Rel w B bs ρ (.ifc T y) (.iface T v) → Rel w B bs ρ r (F v)) (K : ARun2 P ops p Q)
    (ho : o.op = .typeAssert x xT aT true := by rfl) (hg : gd ops s o = some true := by first | with_reducible rfl | (simp only [push_cast, reduceIte, Nat.reduceEqDiff, Nat.reduceLT, Nat.reduceAdd, Nat.reduceSub, Nat.reduceMul, Nat.reduceLeDiff, Nat.reducePow, Int.reduceLT, Int.reduceToNat, reduceCtorEq, Int.reduceNeg, Int.reduceEq, Nat.reduceBEq, Nat.reduceBNe, Int.reduceBEq, Int.reduceBNe, String.reduceEq]; first | done | rfl | (simp (disch := omega) only [w_nat, w_add, w_addl, w_addr, w_sub, w_subl, w_mul, w_mull, w_mulr, w_u32, w_u16, w_u8, w_u32a, N_zero]; first | done | rfl | (simp only [push_cast, reduceIte, Nat.reduceEqDiff, Nat.reduceLT, Nat.reduceAdd, Nat.reduceSub, Nat.reduceMul, Nat.reduceLeDiff, Nat.reducePow, Int.reduceLT, Int.reduceToNat, reduceCtorEq, Int.reduceNeg, Int.reduceEq, Nat.reduceBEq, Nat.reduceBNe, Int.reduceBEq, Int.reduceBNe, String.reduceEq]; first | done | rfl)))) (hx : s.ev x = .ifc T y := by first | with_reducible rfl | (simp only [push_cast, reduceIte, Nat.reduceEqDiff, Nat.reduceLT, Nat.reduceAdd, Nat.reduceSub, Nat.reduceMul, Nat.reduceLeDiff, Nat.reducePow, Int.reduceLT, Int.reduceToNat, reduceCtorEq, Int.reduceNeg, Int.reduceEq, Nat.reduceBEq, Nat.reduceBNe, Int.reduceBEq, Int.reduceBNe, String.reduceEq]; first | done | rfl | (simp (disch := omega) only [w_nat, w_add, w_addl, w_addr, w_sub, w_subl, w_mul, w_mull, w_mulr, w_u32, w_u16, w_u8, w_u32a, N_zero]; first | done | rfl | (simp only [push_cast, reduceIte, Nat.reduceEqDiff, Nat.reduceLT, Nat.reduceAdd, Nat.reduceSub, Nat.reduceMul, Nat.reduceLeDiff, Nat.reducePow, Int.reduceLT, Int.reduceToNat, reduceCtorEq, Int.reduceNeg, Int.reduceEq, Nat.reduceBEq, Nat.reduceBNe, Int.reduceBEq, Int.reduceBNe, String.reduceEq]; first | done | rfl)))) (h : srun P ops rest (s.put o.dst r) = p := by
        try simp only [push_cast, reduceIte, Nat.reduceEqDiff, Nat.reduceLT, Nat.reduceAdd, Nat.reduceSub, Nat.reduceMul, Nat.reduceLeDiff, Nat.reducePow, Int.reduceLT, Int.reduceToNat, reduceCtorEq, Int.reduceNeg, Int.reduceEq, Nat.reduceBEq, Nat.reduceBNe, Int.reduceBEq, Int.reduceBNe, String.reduceEq]
        try simp (disch := omega) only [w_nat, w_add, w_addl, w_addr, w_sub, w_subl, w_mul, w_mull, w_mulr, w_u32, w_u16, w_u8, w_u32a, N_zero]
        try simp only [push_cast, reduceIte, Nat.reduceEqDiff, Nat.reduceLT, Nat.reduceAdd, Nat.reduceSub, Nat.reduceMul, Nat.reduceLeDiff, Nat.reducePow, Int.reduceLT, Int.reduceToNat, reduceCtorEq, Int.reduceNeg, Int.reduceEq, Nat.reduceBEq, Nat.reduceBNe, Int.reduceBEq, Int.reduceBNe, String.reduceEq]
        rfl) : ARun2 P ops (o :: rest, s) Q := by
  refine ARun.exec hg (AOp.pure1 (fun E ρ B a w hs => ?_) (ARun.srun (h ▸ K)))
  have hxr := hs.ev x
  rw [hx] at hxr
  generalize hq : a.eval x = u at hxr
  have hxr' := hxr
  cases hxr with
  | ifc h1 =>
    rename_i v
    refine ⟨F v, ?_, hF _ _ _ _ _ hxr'⟩
    simp only [execOp, ho, hq]
    exact val_run (hr v w)
/-- a package-level variable of one cell, loaded -/
theorem ARun2.gloadM {T : TypeId} {g : Nat} {p : List Oper × AS} (v : Value) (hv : (g, [v]) ∈ glb) (ht : tk P T = .scal) (K : ARun2 P ops p Q) (ho : o.op = .load T (.global g) := by rfl) (hg : gd ops s o = some true := by first | with_reducible rfl | (simp only [push_cast, reduceIte, Nat.reduceEqDiff, Nat.reduceLT, Nat.reduceAdd, Nat.reduceSub, Nat.reduceMul, Nat.reduceLeDiff, Nat.reducePow, Int.reduceLT, Int.reduceToNat, reduceCtorEq, Int.reduceNeg, Int.reduceEq, Nat.reduceBEq, Nat.reduceBNe, Int.reduceBEq, Int.reduceBNe, String.reduceEq]; first | done | rfl | (simp (disch := omega) only [w_nat, w_add, w_addl, w_addr, w_sub, w_subl, w_mul, w_mull, w_mulr, w_u32, w_u16, w_u8, w_u32a, N_zero]; first | done | rfl | (simp only [push_cast, reduceIte, Nat.reduceEqDiff, Nat.reduceLT, Nat.reduceAdd, Nat.reduceSub, Nat.reduceMul, Nat.reduceLeDiff, Nat.reducePow, Int.reduceLT, Int.reduceToNat, reduceCtorEq, Int.reduceNeg, Int.reduceEq, Nat.reduceBEq, Nat.reduceBNe, Int.reduceBEq, Int.reduceBNe, String.reduceEq]; first | done | rfl))))
    (h : srun P ops rest (s.put o.dst (.val v)) = p := by
        try simp only [push_cast, reduceIte, Nat.reduceEqDiff, Nat.reduceLT, Nat.reduceAdd, Nat.reduceSub, Nat.reduceMul, Nat.reduceLeDiff, Nat.reducePow, Int.reduceLT, Int.reduceToNat, reduceCtorEq, Int.reduceNeg, Int.reduceEq, Nat.reduceBEq, Nat.reduceBNe, Int.reduceBEq, Int.reduceBNe, String.reduceEq]
        try simp (disch := omega) only [w_nat, w_add, w_addl, w_addr, w_sub, w_subl, w_mul, w_mull, w_mulr, w_u32, w_u16, w_u8, w_u32a, N_zero]
        try simp only [push_cast, reduceIte, Nat.reduceEqDiff, Nat.reduceLT, Nat.reduceAdd, Nat.reduceSub, Nat.reduceMul, Nat.reduceLeDiff, Nat.reducePow, Int.reduceLT, Int.reduceToNat, reduceCtorEq, Int.reduceNeg, Int.reduceEq, Nat.reduceBEq, Nat.reduceBNe, Int.reduceBEq, Int.reduceBNe, String.reduceEq]
        rfl) : ARun2 P ops (o :: rest, s) Q := by
  refine ARun.exec hg ?_
  intro E hE ρ B a w hs Q' hQ
  obtain ⟨_, h2⟩ := hE.glb.now hs.rw_ _ hv
  have hcell := h2 0 v rfl
  have hl := run_loadVar_scal (P := P) ht hcell
  have hr : (execOp a.eval o).run P w = .ok (.value v) w := by
    simp only [execOp, ho]
    refine val_run ?_
    have e : a.eval (.global g) = .pointer (some ⟨g, 0, none⟩) := rfl
    simpa [Instr.loadAt, Instr.sureAddr, e] using hl
  exact owp_value hr ((ARun.srun (h ▸ K)) E hE ρ B _ w (hs.put o.dst (.val v)) Q' hQ)
/-- a call whose answer hangs on the type of what stands in the interface alone -/
theorem ARun2.natVM1 {f : FuncId} {e : Array Value → Sem Value} {x : Operand} {ts : Array TypeId} {T : TypeId} {y : AV} {v : Value} {p : List Oper × AS} (he : NatOk P f e) (hr : ∀ u w, (e #[.iface T u]).run P w = .ok v w) (K : ARun2 P ops p Q)
    (ho : o.op = .call { callee := .value (.func f), args := #[x], argTypes := ts } := by rfl) (hg : gd ops s o = some true := by first | with_reducible rfl | (simp only [push_cast, reduceIte, Nat.reduceEqDiff, Nat.reduceLT, Nat.reduceAdd, Nat.reduceSub, Nat.reduceMul, Nat.reduceLeDiff, Nat.reducePow, Int.reduceLT, Int.reduceToNat, reduceCtorEq, Int.reduceNeg, Int.reduceEq, Nat.reduceBEq, Nat.reduceBNe, Int.reduceBEq, Int.reduceBNe, String.reduceEq]; first | done | rfl | (simp (disch := omega) only [w_nat, w_add, w_addl, w_addr, w_sub, w_subl, w_mul, w_mull, w_mulr, w_u32, w_u16, w_u8, w_u32a, N_zero]; first | done | rfl | (simp only [push_cast, reduceIte, Nat.reduceEqDiff, Nat.reduceLT, Nat.reduceAdd, Nat.reduceSub, Nat.reduceMul, Nat.reduceLeDiff, Nat.reducePow, Int.reduceLT, Int.reduceToNat, reduceCtorEq, Int.reduceNeg, Int.reduceEq, Nat.reduceBEq, Nat.reduceBNe, Int.reduceBEq, Int.reduceBNe, String.reduceEq]; first | done | rfl)))) (hx : s.ev x = .ifc T y := by first | with_reducible rfl | (simp only [push_cast, reduceIte, Nat.reduceEqDiff, Nat.reduceLT, Nat.reduceAdd, Nat.reduceSub, Nat.reduceMul, Nat.reduceLeDiff, Nat.reducePow, Int.reduceLT, Int.reduceToNat, reduceCtorEq, Int.reduceNeg, Int.reduceEq, Nat.reduceBEq, Nat.reduceBNe, Int.reduceBEq, Int.reduceBNe, String.reduceEq]; first | done | rfl | (simp (disch := omega) only [w_nat, w_add, w_addl, w_addr, w_sub, w_subl, w_mul, w_mull, w_mulr, w_u32, w_u16, w_u8, w_u32a, N_zero]; first | done | rfl | (simp only [push_cast, reduceIte, Nat.reduceEqDiff, Nat.reduceLT, Nat.reduceAdd, Nat.reduceSub, Nat.reduceMul, Nat.reduceLeDiff, Nat.reducePow, Int.reduceLT, Int.reduceToNat, reduceCtorEq, Int.reduceNeg, Int.reduceEq, Nat.reduceBEq, Nat.reduceBNe, Int.reduceBEq, Int.reduceBNe, String.reduceEq]; first | done | rfl)))) (h : srun P ops rest (s.put o.dst (.val v)) = p := by
        try simp only [push_cast, reduceIte, Nat.reduceEqDiff, Nat.reduceLT, Nat.reduceAdd, Nat.reduceSub, Nat.reduceMul, Nat.reduceLeDiff, Nat.reducePow, Int.reduceLT, Int.reduceToNat, reduceCtorEq, Int.reduceNeg, Int.reduceEq, Nat.reduceBEq, Nat.reduceBNe, Int.reduceBEq, Int.reduceBNe, String.reduceEq]
        try simp (disch := omega) only [w_nat, w_add, w_addl, w_addr, w_sub, w_subl, w_mul, w_mull, w_mulr, w_u32, w_u16, w_u8, w_u32a, N_zero]
        try simp only [push_cast, reduceIte, Nat.reduceEqDiff, Nat.reduceLT, Nat.reduceAdd, Nat.reduceSub, Nat.reduceMul, Nat.reduceLeDiff, Nat.reducePow, Int.reduceLT, Int.reduceToNat, reduceCtorEq, Int.reduceNeg, Int.reduceEq, Nat.reduceBEq, Nat.reduceBNe, Int.reduceBEq, Int.reduceBNe, String.reduceEq]
        rfl) : ARun2 P ops (o :: rest, s) Q := by
  refine ARun.exec hg (AOp.pure1 (fun E ρ B a w hs => ⟨v, ?_, .val _⟩) (ARun.srun (h ▸ K)))
  have hxr := hs.ev x
  rw [hx] at hxr
  generalize hq : a.eval x = u at hxr
  cases hxr with
  | ifc h1 =>
    rw [run_call_nat he ho (eval_func f), show (#[x] : Array Operand).map a.eval = #[a.eval x] by simp, hq, hr]; rfl
end
end Go.Abs
/- errors.As at the targets *Code and *Fault, and what package fault makes of it. -/
set_option linter.unusedVariables false
set_option linter.unusedSimpArgs false
namespace Go.Proofs.YtmcedkcehcacpaaGreatDoor.C
open Go.Abs Go.Extern
abbrev HT (t : Nat) : Value := .pointer (some ⟨1, t, none⟩)
abbrev RTY (t : Nat) : Value := .iface 152 (.agg #[HT t])
theorem nat_valueOf : NatOk Tryz.prog 74 (fun args => ReflectliteValue.unpack (args.getD 0 (.tuple #[]))) := fun vs w => run_callFunc_extern (e := fun args => ReflectliteValue.unpack (args.getD 0 (.tuple #[]))) Tryz.func74 (by kernel_rfl) (by kernel_rfl) (by kernel_rfl) (by kernel_rfl) vs w
theorem nat_type : NatOk Tryz.prog 75 (ReflectliteValue.methodAny (ReflectliteValue.valueError "reflectlite.Value.Type" 0) (fun t _ _ _ => ReflectliteType.toType t)) := fun vs w => run_callFunc_extern Tryz.func75 (by kernel_rfl) (by kernel_rfl) (by kernel_rfl) (by kernel_rfl) vs w
theorem nat_isNil : NatOk Tryz.prog 76 (ReflectliteValue.method (ReflectliteValue.valueError "reflectlite.Value.IsNil" 0) ReflectliteValue.isNil) := fun vs w => run_callFunc_extern Tryz.func76 (by kernel_rfl) (by kernel_rfl) (by kernel_rfl) (by kernel_rfl) vs w
theorem nat_kind : NatOk Tryz.prog 110 (ReflectliteType.abiMethod fun t => do pure (.int .u8 (← Rtype.kind t))) := fun vs w => run_callFunc_extern Tryz.func110 (by kernel_rfl) (by kernel_rfl) (by kernel_rfl) (by kernel_rfl) vs w
theorem nat_elem : NatOk Tryz.prog 123 (ReflectliteType.method ReflectliteType.elem) := fun vs w => run_callFunc_extern Tryz.func123 (by kernel_rfl) (by kernel_rfl) (by kernel_rfl) (by kernel_rfl) vs w
theorem nat_implements : NatOk Tryz.prog 124 (ReflectliteType.relation "Implements" ReflectliteType.implements_) := fun vs w => run_callFunc_extern Tryz.func124 (by kernel_rfl) (by kernel_rfl) (by kernel_rfl) (by kernel_rfl) vs w
theorem nat_typeOf : NatOk Tryz.prog 84 ReflectliteType.typeOf := fun vs w => run_callFunc_extern Tryz.func84 (by kernel_rfl) (by kernel_rfl) (by kernel_rfl) (by kernel_rfl) vs w
theorem nat_assignable : NatOk Tryz.prog 121 (ReflectliteType.relation "AssignableTo" ReflectliteType.assignableTo) := fun vs w => run_callFunc_extern Tryz.func121 (by kernel_rfl) (by kernel_rfl) (by kernel_rfl) (by kernel_rfl) vs w
theorem nat_elemV : NatOk Tryz.prog 85 (ReflectliteValue.method (ReflectliteValue.valueError "reflectlite.Value.Elem" 0) ReflectliteValue.elem) := fun vs w => run_callFunc_extern Tryz.func85 (by kernel_rfl) (by kernel_rfl) (by kernel_rfl) (by kernel_rfl) vs w
theorem nat_set : NatOk Tryz.prog 86 ReflectliteValue.set := fun vs w => run_callFunc_extern Tryz.func86 (by kernel_rfl) (by kernel_rfl) (by kernel_rfl) (by kernel_rfl) vs w
theorem m_kind (h : Value) (w : World) : (Go.method (Tryz.prog.types.size + Made.depth) 152 (.agg #[h]) "Kind").run Tryz.prog w = .ok (110, h) w := by kernel_rfl
theorem m_elem (h : Value) (w : World) : (Go.method (Tryz.prog.types.size + Made.depth) 152 (.agg #[h]) "Elem").run Tryz.prog w = .ok (123, .agg #[h]) w := by kernel_rfl
theorem m_implements (h : Value) (w : World) : (Go.method (Tryz.prog.types.size + Made.depth) 152 (.agg #[h]) "Implements").run Tryz.prog w = .ok (124, .agg #[h]) w := by kernel_rfl
theorem m_assignable (h : Value) (w : World) : (Go.method (Tryz.prog.types.size + Made.depth) 152 (.agg #[h]) "AssignableTo").run Tryz.prog w = .ok (121, .agg #[h]) w := by kernel_rfl
theorem rlm (z : Sem Value) (f : TypeId → Addr → Nat → Nat → Sem Value) (v : Value) :
    ReflectliteValue.method z f #[v] = (do match ← ReflectliteValue.parts v with | none => z | some (t, a, fl) => f t a fl (fl % 32)) := rfl
theorem rls (v x : Value) : ReflectliteValue.set #[v, x] = (do
    let (some (dst, a, fl), some (src, b, _)) := (← ReflectliteValue.parts v, ← ReflectliteValue.parts x)
      | unsupported (.noEntry "extern/(internal/reflectlite.Value).Set.zeroValue")
    if fl / ReflectliteValue.flagAddr % 2 == 0 then unsupported (.noEntry "extern/(internal/reflectlite.Value).Set.unaddressable")
    let val ← loadVar src b
    if ← Rtype.directlyAssignable dst src then storeVar dst a val
    else if ← Rtype.implements dst src then
      if (← Rtype.kind src) == 20 then
        match val with
        | .nilIface => unsupported (.noEntry "extern/reflectlite: a nil value of one interface type handed on as a value of another")
        | _ => storeVar dst a val
      else storeVar dst a (.iface src val)
    else panicString ("reflectlite.Set: value of type " ++ (← Rtype.spelt src) ++ " is not assignable to type " ++ (← Rtype.spelt dst))
    pure (.tuple #[])) := rfl
/-! ### at *Code -/
theorem pv_Code (w : World) (B : Nat → Prop) (bs : Nat) (ρ : List Value) (k off : Nat) (v : Value) (h : Rel w B bs ρ (.ptr k off) v) : ((fun args : Array Value => ReflectliteValue.unpack (args.getD 0 (.tuple #[]))) #[.iface 114 v]).run Tryz.prog w = .ok (.agg #[HT 114, .pointer (some ⟨w.heap.size, 0, none⟩), .int .u64 150]) (w.alloc (.cells (List.toArray v.cells.toList) 114)) := by
  cases h; kernel_rfl
theorem ty_Code (a : Addr) (w : World) : (ReflectliteValue.methodAny (ReflectliteValue.valueError "reflectlite.Value.Type" 0) (fun t _ _ _ => ReflectliteType.toType t) #[.agg #[HT 114, .pointer (some a), .int .u64 150]]).run Tryz.prog w = .ok (RTY 114) w := by kernel_rfl
theorem pk_Code (w : World) : ((ReflectliteType.abiMethod fun t => do pure (.int .u8 (← Rtype.kind t))) #[HT 114]).run Tryz.prog w = .ok (.int .u8 22) w := by kernel_rfl
theorem kd_Code (w : World) : ((ReflectliteType.abiMethod fun t => do pure (.int .u8 (← Rtype.kind t))) #[HT 57]).run Tryz.prog w = .ok (.int .u8 2) w := by kernel_rfl
theorem el_Code (w : World) : (ReflectliteType.method ReflectliteType.elem #[.agg #[HT 114]]).run Tryz.prog w = .ok (RTY 57) w := by kernel_rfl
theorem im_Code (w : World) : (ReflectliteType.relation "Implements" ReflectliteType.implements_ #[.agg #[HT 57], RTY 28]).run Tryz.prog w = .ok (.bool true) w := by kernel_rfl
theorem to_Code (v : Value) (w : World) : (ReflectliteType.typeOf #[.iface 57 v]).run Tryz.prog w = .ok (RTY 57) w := by kernel_rfl
theorem as_Code (w : World) : (ReflectliteType.relation "AssignableTo" ReflectliteType.assignableTo #[.agg #[HT 57], RTY 57]).run Tryz.prog w = .ok (.bool true) w := by kernel_rfl
theorem parts_Code (a : Addr) (w : World) : (ReflectliteValue.parts (.agg #[HT 114, .pointer (some a), .int .u64 150])).run Tryz.prog w = .ok (some (114, a, 150)) w := by kernel_rfl
theorem partsA_Code (a : Addr) (w : World) : (ReflectliteValue.parts (.agg #[HT 57, .pointer (some a), .int .u64 386])).run Tryz.prog w = .ok (some (57, a, 386)) w := by kernel_rfl
theorem partsV_Code (a : Addr) (w : World) : (ReflectliteValue.parts (.agg #[HT 57, .pointer (some a), .int .u64 130])).run Tryz.prog w = .ok (some (57, a, 130)) w := by kernel_rfl
theorem direct_Code (w : World) : (Rtype.directlyAssignable 57 57).run Tryz.prog w = .ok true w := by kernel_rfl
theorem elemOf_Code (w : World) : (Rtype.elem? 114).run Tryz.prog w = .ok (some 57) w := by kernel_rfl
theorem mk_Code (p : Addr) (w : World) : (ReflectliteValue.mk 57 p ReflectliteValue.flagAddr).run Tryz.prog w = .ok (.agg #[HT 57, .pointer (some p), .int .u64 386]) w := by kernel_rfl
theorem ty1_Code (y : AV) (nw : Bool) (w : World) (B : Nat → Prop) (bs : Nat) (ρ : List Value) (b o : Nat) (h : RelCells w B bs ρ nw b o y.cells) : ∃ v, (ReflectliteValue.methodAny (ReflectliteValue.valueError "reflectlite.Value.Type" 0) (fun t _ _ _ => ReflectliteType.toType t) #[.agg #[HT 114, .pointer (some ⟨b, o, none⟩), .int .u64 150]]).run Tryz.prog w = .ok v w ∧ Rel w B bs ρ (.val (RTY 114)) v :=
  ⟨_, ty_Code _ w, .val _⟩
theorem nil_Code (k off : Nat) (nw : Bool) (w : World) (B : Nat → Prop) (bs : Nat) (ρ : List Value) (b o : Nat) (h : RelCells w B bs ρ nw b o (AV.ptr k off).cells) : ∃ v, (ReflectliteValue.method (ReflectliteValue.valueError "reflectlite.Value.IsNil" 0) ReflectliteValue.isNil #[.agg #[HT 114, .pointer (some ⟨b, o, none⟩), .int .u64 150]]).run Tryz.prog w = .ok v w ∧ Rel w B bs ρ (.val (.bool false)) v := by
  cases h with
  | cons h1 h2 h3 h4 h5 h6 =>
    cases h5 with
    | ptr hp =>
      refine ⟨.bool false, ?_, .val _⟩
      rw [rlm]
      simp only [Sem.run_bind, parts_Code, Result.andThen]
      simp [ReflectliteValue.isNil, loadVar, isAgg, underlying, Tryz.underlying114, h3, Result.andThen]
theorem ev_Code (k off : Nat) (nw : Bool) (w : World) (B : Nat → Prop) (bs : Nat) (ρ : List Value) (b o : Nat) (h : RelCells w B bs ρ nw b o (AV.ptr k off).cells) : ∃ v, (ReflectliteValue.method (ReflectliteValue.valueError "reflectlite.Value.Elem" 0) ReflectliteValue.elem #[.agg #[HT 114, .pointer (some ⟨b, o, none⟩), .int .u64 150]]).run Tryz.prog w = .ok v w ∧ Rel w B bs ρ (.agg [.val (HT 57), .ptr k off, .val (.int .u64 386)]) v := by
  cases h with
  | cons h1 h2 h3 h4 h5 h6 =>
    cases h5 with
    | ptr hp =>
      refine ⟨_, ?_, .agg (.cons (.val _) (.cons (.ptr hp) (.cons (.val _) .nil)))⟩
      rw [rlm]
      simp only [Sem.run_bind, parts_Code, Result.andThen]
      simp [ReflectliteValue.elem, loadVar, isAgg, underlying, Tryz.underlying114, h3, Result.andThen, elemOf_Code, mk_Code]
theorem set_Code (ta b : Addr) (w w' : World) (v : Value) (h1 : (loadVar 57 b).run Tryz.prog w = .ok v w) (h2 : (storeVar 57 ta v).run Tryz.prog w = .ok () w') :
    (ReflectliteValue.set #[.agg #[HT 57, .pointer (some ta), .int .u64 386], .agg #[HT 57, .pointer (some b), .int .u64 130]]).run Tryz.prog w = .ok (.tuple #[]) w' := by
  rw [rls]
  simp only [Sem.run_bind, partsA_Code, partsV_Code, Result.andThen]
  simp [ReflectliteValue.flagAddr, h1, Result.andThen, direct_Code, h2]
/-! ### at *Fault -/
theorem pv_Fault (w : World) (B : Nat → Prop) (bs : Nat) (ρ : List Value) (k off : Nat) (v : Value) (h : Rel w B bs ρ (.ptr k off) v) : ((fun args : Array Value => ReflectliteValue.unpack (args.getD 0 (.tuple #[]))) #[.iface 117 v]).run Tryz.prog w = .ok (.agg #[HT 117, .pointer (some ⟨w.heap.size, 0, none⟩), .int .u64 150]) (w.alloc (.cells (List.toArray v.cells.toList) 117)) := by
  cases h; kernel_rfl
theorem ty_Fault (a : Addr) (w : World) : (ReflectliteValue.methodAny (ReflectliteValue.valueError "reflectlite.Value.Type" 0) (fun t _ _ _ => ReflectliteType.toType t) #[.agg #[HT 117, .pointer (some a), .int .u64 150]]).run Tryz.prog w = .ok (RTY 117) w := by kernel_rfl
theorem pk_Fault (w : World) : ((ReflectliteType.abiMethod fun t => do pure (.int .u8 (← Rtype.kind t))) #[HT 117]).run Tryz.prog w = .ok (.int .u8 22) w := by kernel_rfl
theorem kd_Fault (w : World) : ((ReflectliteType.abiMethod fun t => do pure (.int .u8 (← Rtype.kind t))) #[HT 116]).run Tryz.prog w = .ok (.int .u8 25) w := by kernel_rfl
theorem el_Fault (w : World) : (ReflectliteType.method ReflectliteType.elem #[.agg #[HT 117]]).run Tryz.prog w = .ok (RTY 116) w := by kernel_rfl
theorem im_Fault (w : World) : (ReflectliteType.relation "Implements" ReflectliteType.implements_ #[.agg #[HT 116], RTY 28]).run Tryz.prog w = .ok (.bool true) w := by kernel_rfl
theorem to_Fault (v : Value) (w : World) : (ReflectliteType.typeOf #[.iface 116 v]).run Tryz.prog w = .ok (RTY 116) w := by kernel_rfl
theorem as_Fault (w : World) : (ReflectliteType.relation "AssignableTo" ReflectliteType.assignableTo #[.agg #[HT 116], RTY 116]).run Tryz.prog w = .ok (.bool true) w := by kernel_rfl
theorem parts_Fault (a : Addr) (w : World) : (ReflectliteValue.parts (.agg #[HT 117, .pointer (some a), .int .u64 150])).run Tryz.prog w = .ok (some (117, a, 150)) w := by kernel_rfl
theorem partsA_Fault (a : Addr) (w : World) : (ReflectliteValue.parts (.agg #[HT 116, .pointer (some a), .int .u64 409])).run Tryz.prog w = .ok (some (116, a, 409)) w := by kernel_rfl
theorem partsV_Fault (a : Addr) (w : World) : (ReflectliteValue.parts (.agg #[HT 116, .pointer (some a), .int .u64 153])).run Tryz.prog w = .ok (some (116, a, 153)) w := by kernel_rfl
theorem direct_Fault (w : World) : (Rtype.directlyAssignable 116 116).run Tryz.prog w = .ok true w := by kernel_rfl
theorem elemOf_Fault (w : World) : (Rtype.elem? 117).run Tryz.prog w = .ok (some 116) w := by kernel_rfl
theorem mk_Fault (p : Addr) (w : World) : (ReflectliteValue.mk 116 p ReflectliteValue.flagAddr).run Tryz.prog w = .ok (.agg #[HT 116, .pointer (some p), .int .u64 409]) w := by kernel_rfl
theorem ty1_Fault (y : AV) (nw : Bool) (w : World) (B : Nat → Prop) (bs : Nat) (ρ : List Value) (b o : Nat) (h : RelCells w B bs ρ nw b o y.cells) : ∃ v, (ReflectliteValue.methodAny (ReflectliteValue.valueError "reflectlite.Value.Type" 0) (fun t _ _ _ => ReflectliteType.toType t) #[.agg #[HT 117, .pointer (some ⟨b, o, none⟩), .int .u64 150]]).run Tryz.prog w = .ok v w ∧ Rel w B bs ρ (.val (RTY 117)) v :=
  ⟨_, ty_Fault _ w, .val _⟩
theorem nil_Fault (k off : Nat) (nw : Bool) (w : World) (B : Nat → Prop) (bs : Nat) (ρ : List Value) (b o : Nat) (h : RelCells w B bs ρ nw b o (AV.ptr k off).cells) : ∃ v, (ReflectliteValue.method (ReflectliteValue.valueError "reflectlite.Value.IsNil" 0) ReflectliteValue.isNil #[.agg #[HT 117, .pointer (some ⟨b, o, none⟩), .int .u64 150]]).run Tryz.prog w = .ok v w ∧ Rel w B bs ρ (.val (.bool false)) v := by
  cases h with
  | cons h1 h2 h3 h4 h5 h6 =>
    cases h5 with
    | ptr hp =>
      refine ⟨.bool false, ?_, .val _⟩
      rw [rlm]
      simp only [Sem.run_bind, parts_Fault, Result.andThen]
      simp [ReflectliteValue.isNil, loadVar, isAgg, underlying, Tryz.underlying117, h3, Result.andThen]
theorem ev_Fault (k off : Nat) (nw : Bool) (w : World) (B : Nat → Prop) (bs : Nat) (ρ : List Value) (b o : Nat) (h : RelCells w B bs ρ nw b o (AV.ptr k off).cells) : ∃ v, (ReflectliteValue.method (ReflectliteValue.valueError "reflectlite.Value.Elem" 0) ReflectliteValue.elem #[.agg #[HT 117, .pointer (some ⟨b, o, none⟩), .int .u64 150]]).run Tryz.prog w = .ok v w ∧ Rel w B bs ρ (.agg [.val (HT 116), .ptr k off, .val (.int .u64 409)]) v := by
  cases h with
  | cons h1 h2 h3 h4 h5 h6 =>
    cases h5 with
    | ptr hp =>
      refine ⟨_, ?_, .agg (.cons (.val _) (.cons (.ptr hp) (.cons (.val _) .nil)))⟩
      rw [rlm]
      simp only [Sem.run_bind, parts_Fault, Result.andThen]
      simp [ReflectliteValue.elem, loadVar, isAgg, underlying, Tryz.underlying117, h3, Result.andThen, elemOf_Fault, mk_Fault]
theorem set_Fault (ta b : Addr) (w w' : World) (v : Value) (h1 : (loadVar 116 b).run Tryz.prog w = .ok v w) (h2 : (storeVar 116 ta v).run Tryz.prog w = .ok () w') :
    (ReflectliteValue.set #[.agg #[HT 116, .pointer (some ta), .int .u64 409], .agg #[HT 116, .pointer (some b), .int .u64 153]]).run Tryz.prog w = .ok (.tuple #[]) w' := by
  rw [rls]
  simp only [Sem.run_bind, partsA_Fault, partsV_Fault, Result.andThen]
  simp [ReflectliteValue.flagAddr, h1, Result.andThen, direct_Fault, h2]
theorem as_mix (w : World) : (ReflectliteType.relation "AssignableTo" ReflectliteType.assignableTo #[.agg #[HT 116], RTY 57]).run Tryz.prog w = .ok (.bool false) w := by kernel_rfl
theorem as_mix2 (w : World) : (ReflectliteType.relation "AssignableTo" ReflectliteType.assignableTo #[.agg #[HT 57], RTY 116]).run Tryz.prog w = .ok (.bool false) w := by kernel_rfl
theorem vv_Code (c : Nat) (w : World) (B : Nat → Prop) (bs : Nat) (ρ : List Value) (v : Value) (h : Rel w B bs ρ (nat c) v) : ((fun args : Array Value => ReflectliteValue.unpack (args.getD 0 (.tuple #[]))) #[.iface 57 v]).run Tryz.prog w = .ok (.agg #[HT 57, .pointer (some ⟨w.heap.size, 0, none⟩), .int .u64 130]) (w.alloc (.cells (List.toArray v.cells.toList) 57)) := by
  cases h; kernel_rfl
theorem vv_Fault (c i : Nat) (w : World) (B : Nat → Prop) (bs : Nat) (ρ : List Value) (v : Value) (h : Rel w B bs ρ (.agg [nat c, nat i]) v) : ((fun args : Array Value => ReflectliteValue.unpack (args.getD 0 (.tuple #[]))) #[.iface 116 v]).run Tryz.prog w = .ok (.agg #[HT 116, .pointer (some ⟨w.heap.size, 0, none⟩), .int .u64 153]) (w.alloc (.cells (List.toArray v.cells.toList) 116)) := by
  cases h with
  | agg h => cases h with
    | cons a h => cases h with
      | cons b h => cases h; cases a; cases b; kernel_rfl
end Go.Proofs.YtmcedkcehcacpaaGreatDoor.C
/- errors.As and package fault. -/
set_option linter.unusedVariables false
set_option linter.unusedSimpArgs false
namespace Go.Proofs.YtmcedkcehcacpaaGreatDoor.C
open Go.Abs Go.Extern Go.Stop
theorem glb_err : (0, [RTY 28]) ∈ glb := by
  unfold glb; repeat (first | exact List.mem_cons_self | apply List.mem_cons_of_mem)
theorem unwrap_c (c i : Nat) : PC Tryz.prog 115 [.agg [nat c, nat i]] (erA (.code c)) := by
  refine PC.of_bodyK (by simp only [push_cast]) Tryz.func115 rfl (by rw [Tryz.ntmps115]; simp) ?_
  refine AWp.regionW ?_
  refine AWp.regionW ?_
  refine AWp.ret ?_
  try simp only [thenQ, blockQ, noGo]
  refine bodyQ.m ?_
  exact Wk.eq rfl
  first | done | exact Wk.go
theorem as2_Code (c x : Nat) : OC Tryz.prog 77 [.ifc 57 (nat c), .ifc 114 (.ptr 0 0), .agg [.val (HT 114), .ref false (.ptr 0 0), .val (.int .u64 150)], .val (RTY 57)] [.box 57 [nat x]] (bool true) [.box 57 [nat c]] := by
  refine OC.of_body [0] (by intro k hk; simp at hk; subst hk; rfl) Tryz.func77 rfl (by rw [Tryz.ntmps77]; simp) ?_
  refine AWp.regionW ?_
  refine AWp.block ?_
  refine AWp.loop2 fun KL hKL => ?_
  refine AWp.block ?_
  refine AWp.seqK fun K1 hK1 => ?_
  refine AWp.regionM fun K2 hK2 => ?_
  refine ARun2.natVM1 nat_typeOf (to_Code) ?_
  refine ARun2.invCM [RTY 57] (.bool true) nat_assignable (m_assignable _) as_Code ?_
  refine ARun2.endm (hK2 _ ?_)
  refine AWp.condT ?_
  refine AWp.regionM fun K3 hK3 => ?_
  refine ARun2.natVM _ nat_elemV (ev_Code 0 0 _) ?_
  refine ARun2.valueOfM nat_valueOf (vv_Code c) ?_
  refine ARun2.natSetM nat_set set_Code ?_
  refine ARun2.endm (hK3 _ ?_)
  refine AWp.regionW ?_
  refine AWp.ret ?_
  try simp only [thenQ, blockQ, noGo]
  refine bodyQ.m ?_
  clear hK3 K3 hK2 K2 hK1 K1 hKL KL
  refine endO.m ?_ ?_
  · rfl
  · skip
    first | done | exact Hand.go
theorem as_Code_hit (c x : Nat) : OC Tryz.prog 61 [.ifc 57 (nat c), .ifc 114 (.ptr 0 0)] [.box 57 [nat x]] (bool true) [.box 57 [nat c]] := by
  refine OC.of_body [0] (by intro k hk; simp at hk; subst hk; rfl) Tryz.func61 rfl (by rw [Tryz.ntmps61]; simp) ?_
  refine AWp.regionW ?_
  refine AWp.seqK fun K1 hK1 => ?_
  refine AWp.regionW ?_
  refine AWp.condF ?_
  refine AWp.skip ?_
  refine hK1 _ ?_
  refine AWp.seqK fun K2 hK2 => ?_
  refine AWp.regionW ?_
  refine AWp.condF ?_
  refine AWp.skip ?_
  refine hK2 _ ?_
  refine AWp.regionM fun K3 hK3 => ?_
  refine ARun2.valueOfM nat_valueOf (pv_Code · · · · 0 0) ?_
  refine ARun2.endm (hK3 _ ?_)
  refine AWp.regionM fun K4 hK4 => ?_
  refine ARun2.natVM _ nat_type (ty1_Code _ _) ?_
  refine ARun2.endm (hK4 _ ?_)
  refine AWp.seqK fun K5 hK5 => ?_
  refine AWp.regionM fun K6 hK6 => ?_
  refine ARun2.invCM [] (.int .u8 22) nat_kind (m_kind _) pk_Code ?_
  refine ARun2.natVM _ nat_isNil (nil_Code 0 0 _) ?_
  refine ARun2.endm (hK6 _ ?_)
  refine AWp.condF ?_
  refine AWp.skip ?_
  refine hK5 _ ?_
  refine AWp.regionM fun K7 hK7 => ?_
  refine ARun2.invCM [] (RTY 57) nat_elem (m_elem _) el_Code ?_
  refine ARun2.endm (hK7 _ ?_)
  refine AWp.seqK fun K8 hK8 => ?_
  refine AWp.regionM fun K9 hK9 => ?_
  refine ARun2.invCM [] (.int .u8 2) nat_kind (m_kind _) kd_Code ?_
  refine ARun2.gloadM (g := 0) (RTY 28) glb_err (by kernel_rfl) ?_
  refine ARun2.invCM [RTY 28] (.bool true) nat_implements (m_implements _) im_Code ?_
  refine ARun2.endm (hK9 _ ?_)
  refine AWp.condF ?_
  refine AWp.skip ?_
  refine hK8 _ ?_
  refine AWp.regionM fun K10 hK10 => ?_
  refine ARun2.callOM [0] (as2_Code c x) ?_
  refine ARun2.endm (hK10 _ ?_)
  refine AWp.ret ?_
  try simp only [thenQ, blockQ, noGo]
  refine bodyQ.m ?_
  clear hK10 K10 hK9 K9 hK8 K8 hK7 K7 hK6 K6 hK5 K5 hK4 K4 hK3 K3 hK2 K2 hK1 K1
  refine endO.m ?_ ?_
  · rfl
  · skip
    first | done | exact Hand.go
theorem as2_Fault (c i x z : Nat) : OC Tryz.prog 77 [.ifc 116 (.agg [nat c, nat i]), .ifc 117 (.ptr 0 0), .agg [.val (HT 117), .ref false (.ptr 0 0), .val (.int .u64 150)], .val (RTY 116)] [.box 116 [nat x, nat z]] (bool true) [.box 116 [nat c, nat i]] := by
  refine OC.of_body [0] (by intro k hk; simp at hk; subst hk; rfl) Tryz.func77 rfl (by rw [Tryz.ntmps77]; simp) ?_
  refine AWp.regionW ?_
  refine AWp.block ?_
  refine AWp.loop2 fun KL hKL => ?_
  refine AWp.block ?_
  refine AWp.seqK fun K1 hK1 => ?_
  refine AWp.regionM fun K2 hK2 => ?_
  refine ARun2.natVM1 nat_typeOf (to_Fault) ?_
  refine ARun2.invCM [RTY 116] (.bool true) nat_assignable (m_assignable _) as_Fault ?_
  refine ARun2.endm (hK2 _ ?_)
  refine AWp.condT ?_
  refine AWp.regionM fun K3 hK3 => ?_
  refine ARun2.natVM _ nat_elemV (ev_Fault 0 0 _) ?_
  refine ARun2.valueOfM nat_valueOf (vv_Fault c i) ?_
  refine ARun2.natSetM nat_set set_Fault ?_
  refine ARun2.endm (hK3 _ ?_)
  refine AWp.regionW ?_
  refine AWp.ret ?_
  try simp only [thenQ, blockQ, noGo]
  refine bodyQ.m ?_
  clear hK3 K3 hK2 K2 hK1 K1 hKL KL
  refine endO.m ?_ ?_
  · rfl
  · skip
    first | done | exact Hand.go
theorem as_Fault_hit (c i x z : Nat) : OC Tryz.prog 61 [.ifc 116 (.agg [nat c, nat i]), .ifc 117 (.ptr 0 0)] [.box 116 [nat x, nat z]] (bool true) [.box 116 [nat c, nat i]] := by
  refine OC.of_body [0] (by intro k hk; simp at hk; subst hk; rfl) Tryz.func61 rfl (by rw [Tryz.ntmps61]; simp) ?_
  refine AWp.regionW ?_
  refine AWp.seqK fun K1 hK1 => ?_
  refine AWp.regionW ?_
  refine AWp.condF ?_
  refine AWp.skip ?_
  refine hK1 _ ?_
  refine AWp.seqK fun K2 hK2 => ?_
  refine AWp.regionW ?_
  refine AWp.condF ?_
  refine AWp.skip ?_
  refine hK2 _ ?_
  refine AWp.regionM fun K3 hK3 => ?_
  refine ARun2.valueOfM nat_valueOf (pv_Fault · · · · 0 0) ?_
  refine ARun2.endm (hK3 _ ?_)
  refine AWp.regionM fun K4 hK4 => ?_
  refine ARun2.natVM _ nat_type (ty1_Fault _ _) ?_
  refine ARun2.endm (hK4 _ ?_)
  refine AWp.seqK fun K5 hK5 => ?_
  refine AWp.regionM fun K6 hK6 => ?_
  refine ARun2.invCM [] (.int .u8 22) nat_kind (m_kind _) pk_Fault ?_
  refine ARun2.natVM _ nat_isNil (nil_Fault 0 0 _) ?_
  refine ARun2.endm (hK6 _ ?_)
  refine AWp.condF ?_
  refine AWp.skip ?_
  refine hK5 _ ?_
  refine AWp.regionM fun K7 hK7 => ?_
  refine ARun2.invCM [] (RTY 116) nat_elem (m_elem _) el_Fault ?_
  refine ARun2.endm (hK7 _ ?_)
  refine AWp.seqK fun K8 hK8 => ?_
  refine AWp.regionM fun K9 hK9 => ?_
  refine ARun2.invCM [] (.int .u8 25) nat_kind (m_kind _) kd_Fault ?_
  refine ARun2.gloadM (g := 0) (RTY 28) glb_err (by kernel_rfl) ?_
  refine ARun2.invCM [RTY 28] (.bool true) nat_implements (m_implements _) im_Fault ?_
  refine ARun2.endm (hK9 _ ?_)
  refine AWp.condF ?_
  refine AWp.skip ?_
  refine hK8 _ ?_
  refine AWp.regionM fun K10 hK10 => ?_
  refine ARun2.callOM [0] (as2_Fault c i x z) ?_
  refine ARun2.endm (hK10 _ ?_)
  refine AWp.ret ?_
  try simp only [thenQ, blockQ, noGo]
  refine bodyQ.m ?_
  clear hK10 K10 hK9 K9 hK8 K8 hK7 K7 hK6 K6 hK5 K5 hK4 K4 hK3 K3 hK2 K2 hK1 K1
  refine endO.m ?_ ?_
  · rfl
  · skip
    first | done | exact Hand.go
theorem no_as_Code (v : Value) (w : World) : (Instr.typeAssert (.iface 57 v) 28 157 true).run Tryz.prog w = .ok (.tuple #[.nilIface, .bool false]) w := run_typeAssert_lacksB Tryz.underlying157 (by kernel_rfl) (by kernel_rfl) v 28 w
theorem no_as_Fault (v : Value) (w : World) : (Instr.typeAssert (.iface 116 v) 28 157 true).run Tryz.prog w = .ok (.tuple #[.nilIface, .bool false]) w := run_typeAssert_lacksB Tryz.underlying157 (by kernel_rfl) (by kernel_rfl) v 28 w
theorem no_un_Code (v : Value) (w : World) : (Instr.typeAssert (.iface 57 v) 28 160 true).run Tryz.prog w = .ok (.tuple #[.nilIface, .bool false]) w := run_typeAssert_lacksB Tryz.underlying160 (by kernel_rfl) (by kernel_rfl) v 28 w
theorem no_uns_Code (v : Value) (w : World) : (Instr.typeAssert (.iface 57 v) 28 162 true).run Tryz.prog w = .ok (.tuple #[.nilIface, .bool false]) w := run_typeAssert_lacksB Tryz.underlying162 (by kernel_rfl) (by kernel_rfl) v 28 w
theorem un_Fault (v : Value) (w : World) : (Instr.typeAssert (.iface 116 v) 28 160 true).run Tryz.prog w = .ok (.tuple #[.iface 116 v, .bool true]) w := run_typeAssert_hasB Tryz.underlying160 (by kernel_rfl) v 28 w
theorem m_unwrap (v : Value) (w : World) : (Go.method (Tryz.prog.types.size + Made.depth) 116 v "Unwrap").run Tryz.prog w = .ok (115, v) w := by kernel_rfl
theorem rel_no {w : World} {B : Nat → Prop} {bs : Nat} {ρ : List Value} : Rel w B bs ρ (.tup [.val .nilIface, .val (.bool false)]) (.tuple #[.nilIface, .bool false]) := .tup (.cons (.val _) (.cons (.val _) .nil))
theorem rel_yes {T : TypeId} {y : AV} {w : World} {B : Nat → Prop} {bs : Nat} {ρ : List Value} {v : Value} (h : Rel w B bs ρ (.ifc T y) (.iface T v)) : Rel w B bs ρ (.tup [.ifc T y, .val (.bool true)]) (.tuple #[.iface T v, .bool true]) := .tup (.cons h (.cons (.val _) .nil))
/-- a code is no fault -/
theorem as2_miss (c x z : Nat) : OC Tryz.prog 77 [.ifc 57 (nat c), .ifc 117 (.ptr 0 0), .agg [.val (HT 117), .ref false (.ptr 0 0), .val (.int .u64 150)], .val (RTY 116)] [.box 116 [nat x, nat z]] (bool false) [.box 116 [nat x, nat z]] := by
  refine OC.of_body [0] (by intro k hk; simp at hk; subst hk; rfl) Tryz.func77 rfl (by rw [Tryz.ntmps77]; simp) ?_
  refine AWp.regionW ?_
  refine AWp.block ?_
  refine AWp.loop2 fun KL hKL => ?_
  refine AWp.block ?_
  refine AWp.seqK fun K1 hK1 => ?_
  refine AWp.regionM fun K2 hK2 => ?_
  refine ARun2.natVM1 nat_typeOf to_Code ?_
  refine ARun2.invCM [RTY 116] (.bool false) nat_assignable (m_assignable _) as_mix2 ?_
  refine ARun2.endm (hK2 _ ?_)
  refine AWp.condF ?_
  refine AWp.skip ?_
  refine hK1 _ ?_
  refine AWp.seqK fun K3 hK3 => ?_
  refine AWp.regionM fun K4 hK4 => ?_
  refine ARun2.assertM _ no_as_Code (fun _ _ _ _ _ _ => rel_no) ?_
  refine ARun2.endm (hK4 _ ?_)
  refine AWp.regionM fun K5 hK5 => ?_
  skip
  refine ARun2.endm (hK5 _ ?_)
  refine AWp.condF ?_
  refine AWp.skip ?_
  refine hK3 _ ?_
  refine AWp.regionW ?_
  refine AWp.block ?_
  refine AWp.regionM fun K6 hK6 => ?_
  refine ARun2.assertM _ no_un_Code (fun _ _ _ _ _ _ => rel_no) ?_
  refine ARun2.endm (hK6 _ ?_)
  refine AWp.condF ?_
  refine AWp.regionM fun K7 hK7 => ?_
  refine ARun2.assertM _ no_uns_Code (fun _ _ _ _ _ _ => rel_no) ?_
  refine ARun2.endm (hK7 _ ?_)
  refine AWp.condF ?_
  refine AWp.regionW ?_
  refine AWp.regionW ?_
  refine AWp.ret ?_
  try simp only [thenQ, blockQ, noGo]
  refine bodyQ.m ?_
  clear hK7 K7 hK6 K6 hK5 K5 hK4 K4 hK3 K3 hK2 K2 hK1 K1 hKL KL
  refine endO.m ?_ ?_
  · rfl
  · skip
    first | done | exact Hand.go
theorem as_miss (c x z : Nat) : OC Tryz.prog 61 [.ifc 57 (nat c), .ifc 117 (.ptr 0 0)] [.box 116 [nat x, nat z]] (bool false) [.box 116 [nat x, nat z]] := by
  refine OC.of_body [0] (by intro k hk; simp at hk; subst hk; rfl) Tryz.func61 rfl (by rw [Tryz.ntmps61]; simp) ?_
  refine AWp.regionW ?_
  refine AWp.seqK fun K1 hK1 => ?_
  refine AWp.regionW ?_
  refine AWp.condF ?_
  refine AWp.skip ?_
  refine hK1 _ ?_
  refine AWp.seqK fun K2 hK2 => ?_
  refine AWp.regionW ?_
  refine AWp.condF ?_
  refine AWp.skip ?_
  refine hK2 _ ?_
  refine AWp.regionM fun K3 hK3 => ?_
  refine ARun2.valueOfM nat_valueOf (pv_Fault · · · · 0 0) ?_
  refine ARun2.endm (hK3 _ ?_)
  refine AWp.regionM fun K4 hK4 => ?_
  refine ARun2.natVM _ nat_type (ty1_Fault _ _) ?_
  refine ARun2.endm (hK4 _ ?_)
  refine AWp.seqK fun K5 hK5 => ?_
  refine AWp.regionM fun K6 hK6 => ?_
  refine ARun2.invCM [] (.int .u8 22) nat_kind (m_kind _) pk_Fault ?_
  refine ARun2.natVM _ nat_isNil (nil_Fault 0 0 _) ?_
  refine ARun2.endm (hK6 _ ?_)
  refine AWp.condF ?_
  refine AWp.skip ?_
  refine hK5 _ ?_
  refine AWp.regionM fun K7 hK7 => ?_
  refine ARun2.invCM [] (RTY 116) nat_elem (m_elem _) el_Fault ?_
  refine ARun2.endm (hK7 _ ?_)
  refine AWp.seqK fun K8 hK8 => ?_
  refine AWp.regionM fun K9 hK9 => ?_
  refine ARun2.invCM [] (.int .u8 25) nat_kind (m_kind _) kd_Fault ?_
  refine ARun2.gloadM (g := 0) (RTY 28) glb_err (by kernel_rfl) ?_
  refine ARun2.invCM [RTY 28] (.bool true) nat_implements (m_implements _) im_Fault ?_
  refine ARun2.endm (hK9 _ ?_)
  refine AWp.condF ?_
  refine AWp.skip ?_
  refine hK8 _ ?_
  refine AWp.regionM fun K10 hK10 => ?_
  refine ARun2.callOM [0] (as2_miss c x z) ?_
  refine ARun2.endm (hK10 _ ?_)
  refine AWp.ret ?_
  try simp only [thenQ, blockQ, noGo]
  refine bodyQ.m ?_
  clear hK10 K10 hK9 K9 hK8 K8 hK7 K7 hK6 K6 hK5 K5 hK4 K4 hK3 K3 hK2 K2 hK1 K1
  refine endO.m ?_ ?_
  · rfl
  · skip
    first | done | exact Hand.go
/-- a fault has a code inside -/
theorem as2_in (c i x : Nat) : OC Tryz.prog 77 [.ifc 116 (.agg [nat c, nat i]), .ifc 114 (.ptr 0 0), .agg [.val (HT 114), .ref false (.ptr 0 0), .val (.int .u64 150)], .val (RTY 57)] [.box 57 [nat x]] (bool true) [.box 57 [nat c]] := by
  refine OC.of_body [0] (by intro k hk; simp at hk; subst hk; rfl) Tryz.func77 rfl (by rw [Tryz.ntmps77]; simp) ?_
  refine AWp.regionW ?_
  refine AWp.block ?_
  refine AWp.loop2 fun KL hKL => ?_
  refine AWp.block ?_
  refine AWp.seqK fun K1 hK1 => ?_
  refine AWp.regionM fun K2 hK2 => ?_
  refine ARun2.natVM1 nat_typeOf to_Fault ?_
  refine ARun2.invCM [RTY 57] (.bool false) nat_assignable (m_assignable _) as_mix ?_
  refine ARun2.endm (hK2 _ ?_)
  refine AWp.condF ?_
  refine AWp.skip ?_
  refine hK1 _ ?_
  refine AWp.seqK fun K3 hK3 => ?_
  refine AWp.regionM fun K4 hK4 => ?_
  refine ARun2.assertM _ no_as_Fault (fun _ _ _ _ _ _ => rel_no) ?_
  refine ARun2.endm (hK4 _ ?_)
  refine AWp.regionM fun K5 hK5 => ?_
  skip
  refine ARun2.endm (hK5 _ ?_)
  refine AWp.condF ?_
  refine AWp.skip ?_
  refine hK3 _ ?_
  refine AWp.regionW ?_
  refine AWp.block ?_
  refine AWp.regionM fun K6 hK6 => ?_
  refine ARun2.assertM _ un_Fault (fun _ _ _ _ _ => rel_yes) ?_
  refine ARun2.endm (hK6 _ ?_)
  refine AWp.condT ?_
  refine AWp.regionW ?_
  refine AWp.regionM fun K7 hK7 => ?_
  refine ARun2.invCallM (unwrap_c c i) m_unwrap ?_
  rw [show erA (.code c) = .ifc 57 (nat c) from rfl]
  refine ARun2.endm (hK7 _ ?_)
  refine AWp.regionW ?_
  refine AWp.condF ?_
  refine AWp.skip ?_
  refine hKL _ ?_
  refine AWp.block ?_
  refine AWp.seqK fun K8 hK8 => ?_
  refine AWp.regionM fun K9 hK9 => ?_
  refine ARun2.natVM1 nat_typeOf to_Code ?_
  refine ARun2.invCM [RTY 57] (.bool true) nat_assignable (m_assignable _) as_Code ?_
  refine ARun2.endm (hK9 _ ?_)
  refine AWp.condT ?_
  refine AWp.regionM fun K10 hK10 => ?_
  refine ARun2.natVM _ nat_elemV (ev_Code 0 0 _) ?_
  refine ARun2.valueOfM nat_valueOf (vv_Code c) ?_
  refine ARun2.natSetM nat_set set_Code ?_
  refine ARun2.endm (hK10 _ ?_)
  refine AWp.regionW ?_
  refine AWp.ret ?_
  try simp only [thenQ, blockQ, noGo]
  refine bodyQ.m ?_
  clear hK10 K10 hK9 K9 hK8 K8 hK7 K7 hK6 K6 hK5 K5 hK4 K4 hK3 K3 hK2 K2 hK1 K1 hKL KL
  refine endO.m ?_ ?_
  · rfl
  · skip
    first | done | exact Hand.go
theorem as_in (c i x : Nat) : OC Tryz.prog 61 [.ifc 116 (.agg [nat c, nat i]), .ifc 114 (.ptr 0 0)] [.box 57 [nat x]] (bool true) [.box 57 [nat c]] := by
  refine OC.of_body [0] (by intro k hk; simp at hk; subst hk; rfl) Tryz.func61 rfl (by rw [Tryz.ntmps61]; simp) ?_
  refine AWp.regionW ?_
  refine AWp.seqK fun K1 hK1 => ?_
  refine AWp.regionW ?_
  refine AWp.condF ?_
  refine AWp.skip ?_
  refine hK1 _ ?_
  refine AWp.seqK fun K2 hK2 => ?_
  refine AWp.regionW ?_
  refine AWp.condF ?_
  refine AWp.skip ?_
  refine hK2 _ ?_
  refine AWp.regionM fun K3 hK3 => ?_
  refine ARun2.valueOfM nat_valueOf (pv_Code · · · · 0 0) ?_
  refine ARun2.endm (hK3 _ ?_)
  refine AWp.regionM fun K4 hK4 => ?_
  refine ARun2.natVM _ nat_type (ty1_Code _ _) ?_
  refine ARun2.endm (hK4 _ ?_)
  refine AWp.seqK fun K5 hK5 => ?_
  refine AWp.regionM fun K6 hK6 => ?_
  refine ARun2.invCM [] (.int .u8 22) nat_kind (m_kind _) pk_Code ?_
  refine ARun2.natVM _ nat_isNil (nil_Code 0 0 _) ?_
  refine ARun2.endm (hK6 _ ?_)
  refine AWp.condF ?_
  refine AWp.skip ?_
  refine hK5 _ ?_
  refine AWp.regionM fun K7 hK7 => ?_
  refine ARun2.invCM [] (RTY 57) nat_elem (m_elem _) el_Code ?_
  refine ARun2.endm (hK7 _ ?_)
  refine AWp.seqK fun K8 hK8 => ?_
  refine AWp.regionM fun K9 hK9 => ?_
  refine ARun2.invCM [] (.int .u8 2) nat_kind (m_kind _) kd_Code ?_
  refine ARun2.gloadM (g := 0) (RTY 28) glb_err (by kernel_rfl) ?_
  refine ARun2.invCM [RTY 28] (.bool true) nat_implements (m_implements _) im_Code ?_
  refine ARun2.endm (hK9 _ ?_)
  refine AWp.condF ?_
  refine AWp.skip ?_
  refine hK8 _ ?_
  refine AWp.regionM fun K10 hK10 => ?_
  refine ARun2.callOM [0] (as2_in c i x) ?_
  refine ARun2.endm (hK10 _ ?_)
  refine AWp.ret ?_
  try simp only [thenQ, blockQ, noGo]
  refine bodyQ.m ?_
  clear hK10 K10 hK9 K9 hK8 K8 hK7 K7 hK6 K6 hK5 K5 hK4 K4 hK3 K3 hK2 K2 hK1 K1
  refine endO.m ?_ ?_
  · rfl
  · skip
    first | done | exact Hand.go
theorem as_none_Code (x : Nat) : OC Tryz.prog 61 [.val .nilIface, .ifc 114 (.ptr 0 0)] [.box 57 [nat x]] (bool false) [.box 57 [nat x]] := by
  refine OC.of_body [0] (by intro k hk; simp at hk; subst hk; rfl) Tryz.func61 rfl (by rw [Tryz.ntmps61]; simp) ?_
  refine AWp.regionW ?_
  refine AWp.seqK fun K1 hK1 => ?_
  refine AWp.regionW ?_
  refine AWp.condT ?_
  refine AWp.regionW ?_
  refine AWp.ret ?_
  try simp only [thenQ, blockQ, noGo]
  refine bodyQ.m ?_
  clear hK1 K1
  refine endO.m ?_ ?_
  · rfl
  · skip
    first | done | exact Hand.go
theorem as_none_Fault (x z : Nat) : OC Tryz.prog 61 [.val .nilIface, .ifc 117 (.ptr 0 0)] [.box 116 [nat x, nat z]] (bool false) [.box 116 [nat x, nat z]] := by
  refine OC.of_body [0] (by intro k hk; simp at hk; subst hk; rfl) Tryz.func61 rfl (by rw [Tryz.ntmps61]; simp) ?_
  refine AWp.regionW ?_
  refine AWp.seqK fun K1 hK1 => ?_
  refine AWp.regionW ?_
  refine AWp.condT ?_
  refine AWp.regionW ?_
  refine AWp.ret ?_
  try simp only [thenQ, blockQ, noGo]
  refine bodyQ.m ?_
  clear hK1 K1
  refine endO.m ?_ ?_
  · rfl
  · skip
    first | done | exact Hand.go
/-- the code of an error, and whether it has one -/
def Er.codeOf : Er → Nat × Bool
  | .ok => (0, false)
  | .code c => (c, true)
  | .flt c _ => (c, true)
def Er.atOf : Er → Nat × Bool
  | .flt _ i => (i, true)
  | _ => (0, false)
theorem code_ok : PC Tryz.prog 38 [.val .nilIface] (.tup [nat 0, bool false]) := by
  refine PC.of_bodyW (by simp only [push_cast]) Tryz.func38 rfl (by rw [Tryz.ntmps38]; simp) ?_
  refine AWp.regionW ?_
  refine AWp.regionW ?_
  refine AWp.regionM fun K1 hK1 => ?_
  refine ARun2.callOM [0] (as_none_Code 0) ?_
  refine ARun2.endm (hK1 _ ?_)
  refine AWp.regionW ?_
  refine AWp.ret ?_
  try simp only [thenQ, blockQ, noGo]
  refine bodyQ.m ?_
  clear hK1 K1
  first | done | exact Hand.go
theorem code_code (c : Nat) : PC Tryz.prog 38 [.ifc 57 (nat c)] (.tup [nat c, bool true]) := by
  refine PC.of_bodyW (by simp only [push_cast]) Tryz.func38 rfl (by rw [Tryz.ntmps38]; simp) ?_
  refine AWp.regionW ?_
  refine AWp.regionW ?_
  refine AWp.regionM fun K1 hK1 => ?_
  refine ARun2.callOM [0] (as_Code_hit c 0) ?_
  refine ARun2.endm (hK1 _ ?_)
  refine AWp.regionW ?_
  refine AWp.ret ?_
  try simp only [thenQ, blockQ, noGo]
  refine bodyQ.m ?_
  clear hK1 K1
  first | done | exact Hand.go
theorem code_flt (c i : Nat) : PC Tryz.prog 38 [.ifc 116 (.agg [nat c, nat i])] (.tup [nat c, bool true]) := by
  refine PC.of_bodyW (by simp only [push_cast]) Tryz.func38 rfl (by rw [Tryz.ntmps38]; simp) ?_
  refine AWp.regionW ?_
  refine AWp.regionW ?_
  refine AWp.regionM fun K1 hK1 => ?_
  refine ARun2.callOM [0] (as_in c i 0) ?_
  refine ARun2.endm (hK1 _ ?_)
  refine AWp.regionW ?_
  refine AWp.ret ?_
  try simp only [thenQ, blockQ, noGo]
  refine bodyQ.m ?_
  clear hK1 K1
  first | done | exact Hand.go
theorem code_c (e : Er) : PC Tryz.prog 38 [erA e] (.tup [nat e.codeOf.1, bool e.codeOf.2]) := by
  cases e with
  | ok => exact code_ok
  | code c => exact code_code c
  | flt c i => exact code_flt c i
theorem at_ok : PC Tryz.prog 39 [.val .nilIface] (.tup [nat 0, bool false]) := by
  refine PC.of_bodyW (by simp only [push_cast]) Tryz.func39 rfl (by rw [Tryz.ntmps39]; simp) ?_
  refine AWp.regionW ?_
  refine AWp.regionW ?_
  refine AWp.regionM fun K1 hK1 => ?_
  refine ARun2.callOM [0] (as_none_Fault 0 0) ?_
  refine ARun2.endm (hK1 _ ?_)
  refine AWp.regionW ?_
  refine AWp.ret ?_
  try simp only [thenQ, blockQ, noGo]
  refine bodyQ.m ?_
  clear hK1 K1
  first | done | exact Hand.go
theorem at_code (c : Nat) : PC Tryz.prog 39 [.ifc 57 (nat c)] (.tup [nat 0, bool false]) := by
  refine PC.of_bodyW (by simp only [push_cast]) Tryz.func39 rfl (by rw [Tryz.ntmps39]; simp) ?_
  refine AWp.regionW ?_
  refine AWp.regionW ?_
  refine AWp.regionM fun K1 hK1 => ?_
  refine ARun2.callOM [0] (as_miss c 0 0) ?_
  refine ARun2.endm (hK1 _ ?_)
  refine AWp.regionW ?_
  refine AWp.ret ?_
  try simp only [thenQ, blockQ, noGo]
  refine bodyQ.m ?_
  clear hK1 K1
  first | done | exact Hand.go
theorem at_flt (c i : Nat) : PC Tryz.prog 39 [.ifc 116 (.agg [nat c, nat i])] (.tup [nat i, bool true]) := by
  refine PC.of_bodyW (by simp only [push_cast]) Tryz.func39 rfl (by rw [Tryz.ntmps39]; simp) ?_
  refine AWp.regionW ?_
  refine AWp.regionW ?_
  refine AWp.regionM fun K1 hK1 => ?_
  refine ARun2.callOM [0] (as_Fault_hit c i 0 0) ?_
  refine ARun2.endm (hK1 _ ?_)
  refine AWp.regionW ?_
  refine AWp.ret ?_
  try simp only [thenQ, blockQ, noGo]
  refine bodyQ.m ?_
  clear hK1 K1
  first | done | exact Hand.go
theorem at_c (e : Er) : PC Tryz.prog 39 [erA e] (.tup [nat e.atOf.1, bool e.atOf.2]) := by
  cases e with
  | ok => exact at_ok
  | code c => exact at_code c
  | flt c i => exact at_flt c i
/-- an error whose offset is moved -/
def Er.shift (n : Nat) : Er → Er
  | .ok => .ok
  | .code c => .flt c n
  | .flt c i => .flt c (i + n)
theorem shift_c (e : Er) (n : Nat) (hn : n ≤ 2 ^ 60) (he : e.atOf.1 ≤ 2 ^ 60) : PC Tryz.prog 57 [erA e, nat n] (erA (e.shift n)) := by
  refine PC.of_bodyK (by simp only [push_cast]) Tryz.func57 rfl (by rw [Tryz.ntmps57]; simp) ?_
  refine AWp.regionW ?_
  refine AWp.regionM fun K1 hK1 => ?_
  refine ARun2.callM (code_c e) ?_
  refine ARun2.endm (hK1 _ ?_)
  refine AWp.seqK fun K2 hK2 => ?_
  refine AWp.regionW ?_
  refine AWp.condLM (fun c0 => ?_) (fun c0 => ?_)
  · skip
    have h0 : e = .ok := by cases e <;> simp [Er.codeOf] at c0 ⊢
    subst h0
    refine AWp.regionW ?_
    refine AWp.ret ?_
    try simp only [thenQ, blockQ, noGo]
    refine bodyQ.m ?_
    clear hK2 K2 hK1 K1
    simp only [Er.shift]
    first | done | exact Wk.go
  · skip
    have h1 : e.shift n = .flt e.codeOf.1 (e.atOf.1 + n) := by cases e <;> simp [Er.codeOf, Er.atOf, Er.shift] at c0 ⊢
    refine AWp.skip ?_
    refine hK2 _ ?_
    refine AWp.regionM fun K3 hK3 => ?_
    refine ARun2.callM (at_c e) ?_
    refine ARun2.endm (hK3 _ ?_)
    refine AWp.regionM fun K4 hK4 => ?_
    refine ARun2.callM (fnew_c e.codeOf.1 (e.atOf.1 + n)) ?_
    refine ARun2.endm (hK4 _ ?_)
    refine AWp.ret ?_
    try simp only [thenQ, blockQ, noGo]
    refine bodyQ.m ?_
    clear hK4 K4 hK3 K3 hK2 K2 hK1 K1
    rw [h1]
    first | done | exact Wk.go
end Go.Proofs.YtmcedkcehcacpaaGreatDoor.C
/- x[:hi:max]; values of interface types compared. No condition. -/
namespace Go.Abs
set_option linter.unusedVariables false
set_option linter.unusedSectionVars false
set_option linter.unusedSimpArgs false
set_option linter.unnecessarySimpa false
section
variable {P : Program} {ops : Array Oper} {E : Env} {s s' : AS} {ρ σ : List Value} {B : Nat → Prop} {a : Act} {w w' : World} {o : Oper} {rest : List Oper} {Q : AS → Prop} {R : Exit → AS → Prop}
theorem sliceHi3_run (hs : RS E s ρ B a w) {T : TypeId} {x hi mx : Operand} {nw : Bool} {sz : Nat} {xs : List AV} {h m : Int} {k2 k3 : IntKind} (ho : o.op = .slice T x none (some hi) (some mx)) (hx : s.ev x = .sl nw sz xs)
    (hh : s.ev hi = .val (.int k2 h)) (hm : s.ev mx = .val (.int k3 m))
    (hz : elSz P T = some sz) (h1 : 0 ≤ h) (h2 : h ≤ m) (h3 : m ≤ xs.length) : ∃ v, (execOp a.eval o).run P w = .ok (.value v) w ∧ Rel w B E.bs ρ (.sl nw sz (xs.take h.toNat)) v := by
  obtain ⟨e, ti, zv, hu, hti, hsz, _⟩ := elSz_spec hz
  have hxr := hs.ev x
  rw [hx] at hxr
  have hcap : ∃ A c, a.eval x = .slice A xs.length c ∧ xs.length ≤ c := by
    generalize a.eval x = u at hxr
    cases hxr with
    | slE => exact ⟨_, _, rfl, Nat.zero_le _⟩
    | sl hr hc => exact ⟨_, _, rfl, hc⟩
  obtain ⟨A, c, hv, hc⟩ := hcap
  rw [hv] at hxr
  have vh := hs.ev hi; rw [hh] at vh; replace vh := vh.val_eq
  have vm := hs.ev mx; rw [hm] at vm; replace vm := vm.val_eq
  have e2 : 0 ≤ m := by omega
  have e3 : m ≤ c := by omega
  have e4 : h ≤ max m 0 := by omega
  have hr := hxr.slice (l := 0) (h := h.toNat) (by omega) (by omega) m.toNat (by omega) (by omega)
  rw [List.drop_zero] at hr
  refine ⟨_, ?_, hr⟩
  simp only [execOp, ho]
  refine val_run ?_
  simp [Instr.sliceAt, run_underlying hu, Instr.slice, hv, Instr.sliceBounds, Instr.sliceBound, asIntOf, vh, vm, h1, e2, e3, e4, run_sizeOf hti, hsz]
theorem ARun2.sliceHi3M {T : TypeId} {x hi mx : Operand} {nw : Bool} {sz : Nat} {xs : List AV} {k2 k3 : IntKind} {p : List Oper × AS} (n : Nat) (hn : n ≤ xs.length) (K : ARun2 P ops p Q) (ho : o.op = .slice T x none (some hi) (some mx) := by rfl) (hg : gd ops s o = some true := by first | with_reducible rfl | (simp only [push_cast, reduceIte, Nat.reduceEqDiff, Nat.reduceLT, Nat.reduceAdd, Nat.reduceSub, Nat.reduceMul, Nat.reduceLeDiff, Nat.reducePow, Int.reduceLT, Int.reduceToNat, reduceCtorEq, Int.reduceNeg, Int.reduceEq, Nat.reduceBEq, Nat.reduceBNe, Int.reduceBEq, Int.reduceBNe, String.reduceEq]; first | done | rfl | (simp (disch := omega) only [w_nat, w_add, w_addl, w_addr, w_sub, w_subl, w_mul, w_mull, w_mulr, w_u32, w_u16, w_u8, w_u32a, N_zero]; first | done | rfl | (simp only [push_cast, reduceIte, Nat.reduceEqDiff, Nat.reduceLT, Nat.reduceAdd, Nat.reduceSub, Nat.reduceMul, Nat.reduceLeDiff, Nat.reducePow, Int.reduceLT, Int.reduceToNat, reduceCtorEq, Int.reduceNeg, Int.reduceEq, Nat.reduceBEq, Nat.reduceBNe, Int.reduceBEq, Int.reduceBNe, String.reduceEq]; first | done | rfl))))
    (hx : s.ev x = .sl nw sz xs := by first | with_reducible rfl | (simp only [push_cast, reduceIte, Nat.reduceEqDiff, Nat.reduceLT, Nat.reduceAdd, Nat.reduceSub, Nat.reduceMul, Nat.reduceLeDiff, Nat.reducePow, Int.reduceLT, Int.reduceToNat, reduceCtorEq, Int.reduceNeg, Int.reduceEq, Nat.reduceBEq, Nat.reduceBNe, Int.reduceBEq, Int.reduceBNe, String.reduceEq]; first | done | rfl | (simp (disch := omega) only [w_nat, w_add, w_addl, w_addr, w_sub, w_subl, w_mul, w_mull, w_mulr, w_u32, w_u16, w_u8, w_u32a, N_zero]; first | done | rfl | (simp only [push_cast, reduceIte, Nat.reduceEqDiff, Nat.reduceLT, Nat.reduceAdd, Nat.reduceSub, Nat.reduceMul, Nat.reduceLeDiff, Nat.reducePow, Int.reduceLT, Int.reduceToNat, reduceCtorEq, Int.reduceNeg, Int.reduceEq, Nat.reduceBEq, Nat.reduceBNe, Int.reduceBEq, Int.reduceBNe, String.reduceEq]; first | done | rfl)))) (hh : s.ev hi = .val (.int k2 (N n)) := by first | with_reducible rfl | (simp only [push_cast, reduceIte, Nat.reduceEqDiff, Nat.reduceLT, Nat.reduceAdd, Nat.reduceSub, Nat.reduceMul, Nat.reduceLeDiff, Nat.reducePow, Int.reduceLT, Int.reduceToNat, reduceCtorEq, Int.reduceNeg, Int.reduceEq, Nat.reduceBEq, Nat.reduceBNe, Int.reduceBEq, Int.reduceBNe, String.reduceEq]; first | done | rfl | (simp (disch := omega) only [w_nat, w_add, w_addl, w_addr, w_sub, w_subl, w_mul, w_mull, w_mulr, w_u32, w_u16, w_u8, w_u32a, N_zero]; first | done | rfl | (simp only [push_cast, reduceIte, Nat.reduceEqDiff, Nat.reduceLT, Nat.reduceAdd, Nat.reduceSub, Nat.reduceMul, Nat.reduceLeDiff, Nat.reducePow, Int.reduceLT, Int.reduceToNat, reduceCtorEq, Int.reduceNeg, Int.reduceEq, Nat.reduceBEq, Nat.reduceBNe, Int.reduceBEq, Int.reduceBNe, String.reduceEq]; first | done | rfl)))) (hm : s.ev mx = .val (.int k3 (N n)) := by first | with_reducible rfl | (simp only [push_cast, reduceIte, Nat.reduceEqDiff, Nat.reduceLT, Nat.reduceAdd, Nat.reduceSub, Nat.reduceMul, Nat.reduceLeDiff, Nat.reducePow, Int.reduceLT, Int.reduceToNat, reduceCtorEq, Int.reduceNeg, Int.reduceEq, Nat.reduceBEq, Nat.reduceBNe, Int.reduceBEq, Int.reduceBNe, String.reduceEq]; first | done | rfl | (simp (disch := omega) only [w_nat, w_add, w_addl, w_addr, w_sub, w_subl, w_mul, w_mull, w_mulr, w_u32, w_u16, w_u8, w_u32a, N_zero]; first | done | rfl | (simp only [push_cast, reduceIte, Nat.reduceEqDiff, Nat.reduceLT, Nat.reduceAdd, Nat.reduceSub, Nat.reduceMul, Nat.reduceLeDiff, Nat.reducePow, Int.reduceLT, Int.reduceToNat, reduceCtorEq, Int.reduceNeg, Int.reduceEq, Nat.reduceBEq, Nat.reduceBNe, Int.reduceBEq, Int.reduceBNe, String.reduceEq]; first | done | rfl)))) (hz : elSz P T = some sz := by first | with_reducible rfl | (simp only [push_cast, reduceIte, Nat.reduceEqDiff, Nat.reduceLT, Nat.reduceAdd, Nat.reduceSub, Nat.reduceMul, Nat.reduceLeDiff, Nat.reducePow, Int.reduceLT, Int.reduceToNat, reduceCtorEq, Int.reduceNeg, Int.reduceEq, Nat.reduceBEq, Nat.reduceBNe, Int.reduceBEq, Int.reduceBNe, String.reduceEq]; first | done | rfl | (simp (disch := omega) only [w_nat, w_add, w_addl, w_addr, w_sub, w_subl, w_mul, w_mull, w_mulr, w_u32, w_u16, w_u8, w_u32a, N_zero]; first | done | rfl | (simp only [push_cast, reduceIte, Nat.reduceEqDiff, Nat.reduceLT, Nat.reduceAdd, Nat.reduceSub, Nat.reduceMul, Nat.reduceLeDiff, Nat.reducePow, Int.reduceLT, Int.reduceToNat, reduceCtorEq, Int.reduceNeg, Int.reduceEq, Nat.reduceBEq, Nat.reduceBNe, Int.reduceBEq, Int.reduceBNe, String.reduceEq]; first | done | rfl))))
    (h : srun P ops rest (s.put o.dst (.sl nw sz (xs.take n))) = p := by
        try simp only [push_cast, reduceIte, Nat.reduceEqDiff, Nat.reduceLT, Nat.reduceAdd, Nat.reduceSub, Nat.reduceMul, Nat.reduceLeDiff, Nat.reducePow, Int.reduceLT, Int.reduceToNat, reduceCtorEq, Int.reduceNeg, Int.reduceEq, Nat.reduceBEq, Nat.reduceBNe, Int.reduceBEq, Int.reduceBNe, String.reduceEq]
        try simp (disch := omega) only [w_nat, w_add, w_addl, w_addr, w_sub, w_subl, w_mul, w_mull, w_mulr, w_u32, w_u16, w_u8, w_u32a, N_zero]
        try simp only [push_cast, reduceIte, Nat.reduceEqDiff, Nat.reduceLT, Nat.reduceAdd, Nat.reduceSub, Nat.reduceMul, Nat.reduceLeDiff, Nat.reducePow, Int.reduceLT, Int.reduceToNat, reduceCtorEq, Int.reduceNeg, Int.reduceEq, Nat.reduceBEq, Nat.reduceBNe, Int.reduceBEq, Int.reduceBNe, String.reduceEq]
        rfl) : ARun2 P ops (o :: rest, s) Q := by
  refine ARun.exec hg (AOp.pure1 (fun E ρ B a w hs => ?_) (ARun.srun (h ▸ K)))
  have := sliceHi3_run hs ho hx hh hm hz (Int.natCast_nonneg n) (Int.le_refl _) (Int.ofNat_le.2 hn)
  rwa [N_toNat] at this
/-! ### an element of a row of the call's own (elements of some cells) -/
@[push_cast] theorem idsOkL_app (p : Nat → Bool) (l m : List AV) : AV.idsOkL p (l ++ m) = (AV.idsOkL p l && AV.idsOkL p m) := by
  rw [Bool.eq_iff_iff, Bool.and_eq_true, AV.idsOkL_iff, AV.idsOkL_iff, AV.idsOkL_iff]
  simp only [List.mem_append]
  exact ⟨fun h => ⟨fun x hx => h x (.inl hx), fun x hx => h x (.inr hx)⟩, fun h x hx => hx.elim (h.1 x) (h.2 x)⟩
theorem rowZ {bs : Nat} {e : TypeId} {sz : Nat} {xs : List AV} {k : Nat} (h : RO w B bs ρ k (.row e sz xs)) (hne : xs ≠ []) : ∃ b cap vs ws fz, ρ[k]? = some (.slice (some ⟨b, 0, none⟩) xs.length cap) ∧ w.heap[b]? = some (.cells (List.toArray (vs ++ ws)) e fz) ∧
    (vs ++ ws).length = cap * sz ∧ xs.length ≤ cap ∧ thaw fz (vs ++ ws).length ∧ RelL w B bs ρ (xs.flatMap AV.cells) vs ∧ (∀ x ∈ xs, x.cells.length = sz ∧ ∀ c ∈ x.cells, c.one = true) := by
  obtain ⟨h0, h⟩ := h
  rcases h with h | ⟨b, cap, vs, ws, fz, h1', h2, h3, h4, h5, h6⟩
  · exact absurd h.1 hne
  · exact ⟨b, cap, vs, ws, fz, h1', h2, h3, h4, h5, h6, h0⟩
theorem flat_set {sz : Nat} {y : AV} : ∀ {xs : List AV} {j : Nat}, j < xs.length → (∀ x ∈ xs, x.cells.length = sz) → y.cells.length = sz → splice (xs.flatMap AV.cells) (j * sz) y.cells = (xs.set j y).flatMap AV.cells
  | [], j, h, _, _ => by simp at h
  | x :: xs, 0, _, hx, hy => by
    have := hx x (by simp)
    simp [splice, hy, ← this]
  | x :: xs, j + 1, h, hx, hy => by
    have hl := hx x (by simp)
    have ih := flat_set (y := y) (xs := xs) (j := j) (by simpa using h) (fun z hz => hx z (by simp [hz])) hy
    simp only [List.set_cons_succ, List.flatMap_cons, ← ih]
    unfold splice
    have e1 : (j + 1) * sz = x.cells.length + j * sz := by rw [hl, Nat.add_mul]; omega
    rw [e1, Nat.add_assoc, List.take_append, List.drop_append]
    simp only [Nat.add_sub_cancel_left]
    rw [List.take_of_length_le (by omega), List.drop_of_length_le (by omega)]
    simp
theorem AOp.indexOwnZ {T : TypeId} {x i : Operand} {k j sz : Nat} {e : TypeId} {xs : List AV} {kk : IntKind} (ho : o.op = .indexAddr T x i) (hx : s.ev x = .own k) (hk : s.ob[k]? = some (.row e sz xs)) (hi : s.ev i = .val (.int kk (N j)))
    (hz : elSz P T = some sz) (hj : j < xs.length) (K : ARun P ops rest (s.put o.dst (.ept k (j * sz))) Q) : AOp P ops o rest s Q := by
  refine AOp.pure1 (fun E ρ B a w hs => ?_) K
  obtain ⟨e', ti, zv, hu, hti, hsz, _⟩ := elSz_spec hz
  obtain ⟨b, cap, vs, ws, fz, r1, r2, r3, r4, r5, r6, _⟩ := rowZ (hs.rw_.obs k _ hk) (by rintro rfl; simp at hj)
  have hxr := hs.ev x
  have hir := hs.ev i
  rw [hx] at hxr
  rw [hi] at hir
  have hv := hir.val_eq
  simp only [execOp, ho, hv]
  generalize a.eval x = u at hxr
  cases hxr with
  | own hp _ =>
    rw [r1] at hp
    have := Option.some.inj hp
    subst this
    refine ⟨_, val_run (v := .pointer (some ⟨b, j * sz, none⟩)) ?_, .ept r1⟩
    have hjj : 0 ≤ N j ∧ N j < (xs.length : Int) := ⟨Int.natCast_nonneg j, by unfold N; omega⟩
    simp only [Instr.indexAt, asIntOf, Sem.run_bind, Sem.run_pure, Result.andThen_ok, run_underlying hu]
    simp only [if_pos hjj, Sem.run_bind, run_sizeOf hti, hsz, Result.andThen_ok, addr_add, Sem.run_pure, N_toNat, Nat.zero_add]
theorem AOp.storeZ {T : TypeId} {x y : Operand} {k j sz : Nat} {e : TypeId} {xs : List AV} (ho : o.op = .store T x y) (hx : s.ev x = .ept k (j * sz)) (hk : s.ob[k]? = some (.row e sz xs)) (ht : tkLen (tk P T) = sz) (h0 : 0 < sz) (hj : j < xs.length) (hf : (s.ev y).flat = true) (hl : (s.ev y).cells.length = sz)
    (K : ARun P ops rest ({ s with ob := s.ob.set k (.row e sz (xs.set j (s.ev y))) }.put o.dst .any) Q) : AOp P ops o rest s Q := by
  refine AOp.unit (s' := { s with ob := s.ob.set k (.row e sz (xs.set j (s.ev y))) }) (fun E ρ B a w hs => ?_) (by rw [ho]; intro c h; cases h) K
  obtain ⟨b, cap, vs, ws, fz, r1, r2, r3, r4, r5, r6, r7⟩ := rowZ (hs.rw_.obs k _ hk) (by rintro rfl; simp at hj)
  have hxr := hs.ev x
  rw [hx] at hxr
  obtain ⟨t1, t2⟩ := (hs.ev y).toCells hf
  have hi : ∃ i, P.info? T = some i ∧ i.size = sz := by
    rw [← ht]
    cases hq : tk P T with
    | scal => obtain ⟨d, i, _, hi, hs, _⟩ := tk_scal hq; exact ⟨i, hi, hs⟩
    | aggr n => obtain ⟨d, i, _, hi, hs, _⟩ := tk_aggr hq; exact ⟨i, hi, hs⟩
    | bad => rw [hq] at ht; simp [tkLen] at ht; omega
  obtain ⟨i, hi, hsz⟩ := hi
  have hul : (a.eval y).cells.toList.length = sz := by rw [← t1.length_eq, hl]
  have hvl : vs.length = xs.length * sz := by rw [← r6.length_eq]; exact flat_len fun y hy => (r7 y hy).1
  have hjs : j * sz + sz ≤ xs.length * sz := by
    have : (j + 1) * sz ≤ xs.length * sz := Nat.mul_le_mul_right _ hj
    rw [Nat.add_mul] at this; omega
  have hst := run_storeVar (P := P) (w := w) (t := T) (b := b) (o := j * sz) (T := e) hi (v := a.eval y) rfl (by rw [hsz, hul]) r2 r5 (by rw [List.length_append, hul, hvl]; omega) (t1.ones t2)
  have hset : (vs ++ ws).take (j * sz) ++ (a.eval y).cells.toList ++ (vs ++ ws).drop (j * sz + (a.eval y).cells.toList.length) = (vs.take (j * sz) ++ (a.eval y).cells.toList ++ vs.drop (j * sz + (a.eval y).cells.toList.length)) ++ ws := by
    rw [List.take_append_of_le_length (by omega), List.drop_append_of_le_length (by omega)]
    simp
  rw [hset] at hst
  generalize hq : vs.take (j * sz) ++ (a.eval y).cells.toList ++ vs.drop (j * sz + (a.eval y).cells.toList.length) = us at hst
  have husl : us.length = vs.length := by rw [← hq]; simp only [List.length_append, List.length_take, List.length_drop]; omega
  have hw : RS E { s with ob := s.ob.set k (.row e sz (xs.set j (s.ev y))) } ρ B a (setBlk w b (.cells (us ++ ws).toArray e fz)) := by
    obtain ⟨p1, p2, p3⟩ := hs.rw_.prv k _ _ b hk rfl r1 rfl
    have hB : ∀ b', B b' → (setBlk w b (.cells (us ++ ws).toArray e fz)).heap[b']? = w.heap[b']? := fun b' hb' => by
      rw [setBlk_get _ _ _ _ p2, if_neg (by rintro rfl; exact p1 hb')]
    refine hs.write (b := b) hk rfl r1 rfl ⟨?_, .inr ⟨b, cap, us, ws, fz, by rw [List.length_set]; exact r1, by rw [setBlk_get _ _ _ _ p2, if_pos rfl], by rw [← r3]; simp [husl], by rw [List.length_set]; exact r4, by simpa [husl] using r5, ?_⟩⟩
    · intro c hc
      rcases List.mem_or_eq_of_mem_set hc with hc | rfl
      · exact r7 c hc
      · exact ⟨hl, t2⟩
    · rw [← flat_set hj (fun z hz => (r7 z hz).1) hl]
      have hsp := r6.splice t1 (j * sz)
      rw [hq] at hsp
      exact hsp.mono (fun _ h => h) hB (Nat.le_refl _) (fun _ _ h => h)
  refine ⟨_, ρ, B, ?_, hw⟩
  simp only [execOp, ho]
  generalize a.eval x = u at hxr
  cases hxr with
  | ept hp =>
    rw [r1] at hp
    simp only [Option.some.injEq, Value.slice.injEq, Addr.mk.injEq, and_true] at hp
    obtain ⟨rfl, _, _⟩ := hp
    simp [Instr.storeAt, Instr.sureAddr, hst]
theorem ARun2.indexZM {T : TypeId} {x i : Operand} {k sz : Nat} {e : TypeId} {xs : List AV} {kk : IntKind} {p : List Oper × AS} (j : Nat) (hj : j < xs.length) (K : ARun2 P ops p Q) (ho : o.op = .indexAddr T x i := by rfl) (hg : gd ops s o = some true := by first | with_reducible rfl | (simp only [push_cast, reduceIte, Nat.reduceEqDiff, Nat.reduceLT, Nat.reduceAdd, Nat.reduceSub, Nat.reduceMul, Nat.reduceLeDiff, Nat.reducePow, Int.reduceLT, Int.reduceToNat, reduceCtorEq, Int.reduceNeg, Int.reduceEq, Nat.reduceBEq, Nat.reduceBNe, Int.reduceBEq, Int.reduceBNe, String.reduceEq]; first | done | rfl | (simp (disch := omega) only [w_nat, w_add, w_addl, w_addr, w_sub, w_subl, w_mul, w_mull, w_mulr, w_u32, w_u16, w_u8, w_u32a, N_zero]; first | done | rfl | (simp only [push_cast, reduceIte, Nat.reduceEqDiff, Nat.reduceLT, Nat.reduceAdd, Nat.reduceSub, Nat.reduceMul, Nat.reduceLeDiff, Nat.reducePow, Int.reduceLT, Int.reduceToNat, reduceCtorEq, Int.reduceNeg, Int.reduceEq, Nat.reduceBEq, Nat.reduceBNe, Int.reduceBEq, Int.reduceBNe, String.reduceEq]; first | done | rfl)))) (hx : s.ev x = .own k := by first | with_reducible rfl | (simp only [push_cast, reduceIte, Nat.reduceEqDiff, Nat.reduceLT, Nat.reduceAdd, Nat.reduceSub, Nat.reduceMul, Nat.reduceLeDiff, Nat.reducePow, Int.reduceLT, Int.reduceToNat, reduceCtorEq, Int.reduceNeg, Int.reduceEq, Nat.reduceBEq, Nat.reduceBNe, Int.reduceBEq, Int.reduceBNe, String.reduceEq]; first | done | rfl | (simp (disch := omega) only [w_nat, w_add, w_addl, w_addr, w_sub, w_subl, w_mul, w_mull, w_mulr, w_u32, w_u16, w_u8, w_u32a, N_zero]; first | done | rfl | (simp only [push_cast, reduceIte, Nat.reduceEqDiff, Nat.reduceLT, Nat.reduceAdd, Nat.reduceSub, Nat.reduceMul, Nat.reduceLeDiff, Nat.reducePow, Int.reduceLT, Int.reduceToNat, reduceCtorEq, Int.reduceNeg, Int.reduceEq, Nat.reduceBEq, Nat.reduceBNe, Int.reduceBEq, Int.reduceBNe, String.reduceEq]; first | done | rfl)))) (hk : s.ob[k]? = some (.row e sz xs) := by rfl)
    (hi : s.ev i = .val (.int kk (N j)) := by first | with_reducible rfl | (simp only [push_cast, reduceIte, Nat.reduceEqDiff, Nat.reduceLT, Nat.reduceAdd, Nat.reduceSub, Nat.reduceMul, Nat.reduceLeDiff, Nat.reducePow, Int.reduceLT, Int.reduceToNat, reduceCtorEq, Int.reduceNeg, Int.reduceEq, Nat.reduceBEq, Nat.reduceBNe, Int.reduceBEq, Int.reduceBNe, String.reduceEq]; first | done | rfl | (simp (disch := omega) only [w_nat, w_add, w_addl, w_addr, w_sub, w_subl, w_mul, w_mull, w_mulr, w_u32, w_u16, w_u8, w_u32a, N_zero]; first | done | rfl | (simp only [push_cast, reduceIte, Nat.reduceEqDiff, Nat.reduceLT, Nat.reduceAdd, Nat.reduceSub, Nat.reduceMul, Nat.reduceLeDiff, Nat.reducePow, Int.reduceLT, Int.reduceToNat, reduceCtorEq, Int.reduceNeg, Int.reduceEq, Nat.reduceBEq, Nat.reduceBNe, Int.reduceBEq, Int.reduceBNe, String.reduceEq]; first | done | rfl)))) (hz : elSz P T = some sz := by first | with_reducible rfl | (simp only [push_cast, reduceIte, Nat.reduceEqDiff, Nat.reduceLT, Nat.reduceAdd, Nat.reduceSub, Nat.reduceMul, Nat.reduceLeDiff, Nat.reducePow, Int.reduceLT, Int.reduceToNat, reduceCtorEq, Int.reduceNeg, Int.reduceEq, Nat.reduceBEq, Nat.reduceBNe, Int.reduceBEq, Int.reduceBNe, String.reduceEq]; first | done | rfl | (simp (disch := omega) only [w_nat, w_add, w_addl, w_addr, w_sub, w_subl, w_mul, w_mull, w_mulr, w_u32, w_u16, w_u8, w_u32a, N_zero]; first | done | rfl | (simp only [push_cast, reduceIte, Nat.reduceEqDiff, Nat.reduceLT, Nat.reduceAdd, Nat.reduceSub, Nat.reduceMul, Nat.reduceLeDiff, Nat.reducePow, Int.reduceLT, Int.reduceToNat, reduceCtorEq, Int.reduceNeg, Int.reduceEq, Nat.reduceBEq, Nat.reduceBNe, Int.reduceBEq, Int.reduceBNe, String.reduceEq]; first | done | rfl)))) (h : srun P ops rest (s.put o.dst (.ept k (j * sz))) = p := by
        try simp only [push_cast, reduceIte, Nat.reduceEqDiff, Nat.reduceLT, Nat.reduceAdd, Nat.reduceSub, Nat.reduceMul, Nat.reduceLeDiff, Nat.reducePow, Int.reduceLT, Int.reduceToNat, reduceCtorEq, Int.reduceNeg, Int.reduceEq, Nat.reduceBEq, Nat.reduceBNe, Int.reduceBEq, Int.reduceBNe, String.reduceEq]
        try simp (disch := omega) only [w_nat, w_add, w_addl, w_addr, w_sub, w_subl, w_mul, w_mull, w_mulr, w_u32, w_u16, w_u8, w_u32a, N_zero]
        try simp only [push_cast, reduceIte, Nat.reduceEqDiff, Nat.reduceLT, Nat.reduceAdd, Nat.reduceSub, Nat.reduceMul, Nat.reduceLeDiff, Nat.reducePow, Int.reduceLT, Int.reduceToNat, reduceCtorEq, Int.reduceNeg, Int.reduceEq, Nat.reduceBEq, Nat.reduceBNe, Int.reduceBEq, Int.reduceBNe, String.reduceEq]
        rfl) : ARun2 P ops (o :: rest, s) Q :=
  ARun.exec hg (AOp.indexOwnZ ho hx hk hi hz hj (ARun.srun (h ▸ K)))
theorem ARun2.storeZM {T : TypeId} {x y : Operand} {k sz : Nat} {e : TypeId} {p : List Oper × AS} (xs : List AV) (j : Nat) (v : AV) (xs' : List AV) (hj : j < xs.length) (hs' : xs.set j v = xs') (K : ARun2 P ops p Q) (ho : o.op = .store T x y := by rfl) (hg : gd ops s o = some true := by first | with_reducible rfl | (simp only [push_cast, reduceIte, Nat.reduceEqDiff, Nat.reduceLT, Nat.reduceAdd, Nat.reduceSub, Nat.reduceMul, Nat.reduceLeDiff, Nat.reducePow, Int.reduceLT, Int.reduceToNat, reduceCtorEq, Int.reduceNeg, Int.reduceEq, Nat.reduceBEq, Nat.reduceBNe, Int.reduceBEq, Int.reduceBNe, String.reduceEq]; first | done | rfl | (simp (disch := omega) only [w_nat, w_add, w_addl, w_addr, w_sub, w_subl, w_mul, w_mull, w_mulr, w_u32, w_u16, w_u8, w_u32a, N_zero]; first | done | rfl | (simp only [push_cast, reduceIte, Nat.reduceEqDiff, Nat.reduceLT, Nat.reduceAdd, Nat.reduceSub, Nat.reduceMul, Nat.reduceLeDiff, Nat.reducePow, Int.reduceLT, Int.reduceToNat, reduceCtorEq, Int.reduceNeg, Int.reduceEq, Nat.reduceBEq, Nat.reduceBNe, Int.reduceBEq, Int.reduceBNe, String.reduceEq]; first | done | rfl)))) (hx : s.ev x = .ept k (j * sz) := by first | with_reducible rfl | (simp only [push_cast, reduceIte, Nat.reduceEqDiff, Nat.reduceLT, Nat.reduceAdd, Nat.reduceSub, Nat.reduceMul, Nat.reduceLeDiff, Nat.reducePow, Int.reduceLT, Int.reduceToNat, reduceCtorEq, Int.reduceNeg, Int.reduceEq, Nat.reduceBEq, Nat.reduceBNe, Int.reduceBEq, Int.reduceBNe, String.reduceEq]; first | done | rfl | (simp (disch := omega) only [w_nat, w_add, w_addl, w_addr, w_sub, w_subl, w_mul, w_mull, w_mulr, w_u32, w_u16, w_u8, w_u32a, N_zero]; first | done | rfl | (simp only [push_cast, reduceIte, Nat.reduceEqDiff, Nat.reduceLT, Nat.reduceAdd, Nat.reduceSub, Nat.reduceMul, Nat.reduceLeDiff, Nat.reducePow, Int.reduceLT, Int.reduceToNat, reduceCtorEq, Int.reduceNeg, Int.reduceEq, Nat.reduceBEq, Nat.reduceBNe, Int.reduceBEq, Int.reduceBNe, String.reduceEq]; first | done | rfl)))) (hk : s.ob[k]? = some (.row e sz xs) := by rfl)
    (hy : s.ev y = v := by first | with_reducible rfl | (simp only [push_cast, reduceIte, Nat.reduceEqDiff, Nat.reduceLT, Nat.reduceAdd, Nat.reduceSub, Nat.reduceMul, Nat.reduceLeDiff, Nat.reducePow, Int.reduceLT, Int.reduceToNat, reduceCtorEq, Int.reduceNeg, Int.reduceEq, Nat.reduceBEq, Nat.reduceBNe, Int.reduceBEq, Int.reduceBNe, String.reduceEq]; first | done | rfl | (simp (disch := omega) only [w_nat, w_add, w_addl, w_addr, w_sub, w_subl, w_mul, w_mull, w_mulr, w_u32, w_u16, w_u8, w_u32a, N_zero]; first | done | rfl | (simp only [push_cast, reduceIte, Nat.reduceEqDiff, Nat.reduceLT, Nat.reduceAdd, Nat.reduceSub, Nat.reduceMul, Nat.reduceLeDiff, Nat.reducePow, Int.reduceLT, Int.reduceToNat, reduceCtorEq, Int.reduceNeg, Int.reduceEq, Nat.reduceBEq, Nat.reduceBNe, Int.reduceBEq, Int.reduceBNe, String.reduceEq]; first | done | rfl)))) (ht : tkLen (tk P T) = sz := by first | with_reducible rfl | (simp only [push_cast, reduceIte, Nat.reduceEqDiff, Nat.reduceLT, Nat.reduceAdd, Nat.reduceSub, Nat.reduceMul, Nat.reduceLeDiff, Nat.reducePow, Int.reduceLT, Int.reduceToNat, reduceCtorEq, Int.reduceNeg, Int.reduceEq, Nat.reduceBEq, Nat.reduceBNe, Int.reduceBEq, Int.reduceBNe, String.reduceEq]; first | done | rfl | (simp (disch := omega) only [w_nat, w_add, w_addl, w_addr, w_sub, w_subl, w_mul, w_mull, w_mulr, w_u32, w_u16, w_u8, w_u32a, N_zero]; first | done | rfl | (simp only [push_cast, reduceIte, Nat.reduceEqDiff, Nat.reduceLT, Nat.reduceAdd, Nat.reduceSub, Nat.reduceMul, Nat.reduceLeDiff, Nat.reducePow, Int.reduceLT, Int.reduceToNat, reduceCtorEq, Int.reduceNeg, Int.reduceEq, Nat.reduceBEq, Nat.reduceBNe, Int.reduceBEq, Int.reduceBNe, String.reduceEq]; first | done | rfl)))) (h0 : decide (0 < sz) = true := by first | rfl | decide) (hf : v.flat = true := by first | with_reducible rfl | (simp only [push_cast, reduceIte, Nat.reduceEqDiff, Nat.reduceLT, Nat.reduceAdd, Nat.reduceSub, Nat.reduceMul, Nat.reduceLeDiff, Nat.reducePow, Int.reduceLT, Int.reduceToNat, reduceCtorEq, Int.reduceNeg, Int.reduceEq, Nat.reduceBEq, Nat.reduceBNe, Int.reduceBEq, Int.reduceBNe, String.reduceEq]; first | done | rfl | (simp (disch := omega) only [w_nat, w_add, w_addl, w_addr, w_sub, w_subl, w_mul, w_mull, w_mulr, w_u32, w_u16, w_u8, w_u32a, N_zero]; first | done | rfl | (simp only [push_cast, reduceIte, Nat.reduceEqDiff, Nat.reduceLT, Nat.reduceAdd, Nat.reduceSub, Nat.reduceMul, Nat.reduceLeDiff, Nat.reducePow, Int.reduceLT, Int.reduceToNat, reduceCtorEq, Int.reduceNeg, Int.reduceEq, Nat.reduceBEq, Nat.reduceBNe, Int.reduceBEq, Int.reduceBNe, String.reduceEq]; first | done | rfl)))) (hl : v.cells.length = sz := by first | with_reducible rfl | (simp only [push_cast, reduceIte, Nat.reduceEqDiff, Nat.reduceLT, Nat.reduceAdd, Nat.reduceSub, Nat.reduceMul, Nat.reduceLeDiff, Nat.reducePow, Int.reduceLT, Int.reduceToNat, reduceCtorEq, Int.reduceNeg, Int.reduceEq, Nat.reduceBEq, Nat.reduceBNe, Int.reduceBEq, Int.reduceBNe, String.reduceEq]; first | done | rfl | (simp (disch := omega) only [w_nat, w_add, w_addl, w_addr, w_sub, w_subl, w_mul, w_mull, w_mulr, w_u32, w_u16, w_u8, w_u32a, N_zero]; first | done | rfl | (simp only [push_cast, reduceIte, Nat.reduceEqDiff, Nat.reduceLT, Nat.reduceAdd, Nat.reduceSub, Nat.reduceMul, Nat.reduceLeDiff, Nat.reducePow, Int.reduceLT, Int.reduceToNat, reduceCtorEq, Int.reduceNeg, Int.reduceEq, Nat.reduceBEq, Nat.reduceBNe, Int.reduceBEq, Int.reduceBNe, String.reduceEq]; first | done | rfl)))) (h : srun P ops rest ({ s with ob := s.ob.set k (.row e sz xs') }.put o.dst .any) = p := by
        try simp only [push_cast, reduceIte, Nat.reduceEqDiff, Nat.reduceLT, Nat.reduceAdd, Nat.reduceSub, Nat.reduceMul, Nat.reduceLeDiff, Nat.reducePow, Int.reduceLT, Int.reduceToNat, reduceCtorEq, Int.reduceNeg, Int.reduceEq, Nat.reduceBEq, Nat.reduceBNe, Int.reduceBEq, Int.reduceBNe, String.reduceEq]
        try simp (disch := omega) only [w_nat, w_add, w_addl, w_addr, w_sub, w_subl, w_mul, w_mull, w_mulr, w_u32, w_u16, w_u8, w_u32a, N_zero]
        try simp only [push_cast, reduceIte, Nat.reduceEqDiff, Nat.reduceLT, Nat.reduceAdd, Nat.reduceSub, Nat.reduceMul, Nat.reduceLeDiff, Nat.reducePow, Int.reduceLT, Int.reduceToNat, reduceCtorEq, Int.reduceNeg, Int.reduceEq, Nat.reduceBEq, Nat.reduceBNe, Int.reduceBEq, Int.reduceBNe, String.reduceEq]
        rfl) : ARun2 P ops (o :: rest, s) Q := by
  subst hy
  exact ARun.exec hg (AOp.storeZ ho hx hk ht (of_decide_eq_true h0) hj hf hl (ARun.srun (by rw [hs', h]; exact K)))
end
end Go.Abs
/- Regions that draw their order and whose tail is free too: every order is walked. No condition. -/
namespace Go.Abs
set_option linter.unusedVariables false
set_option linter.unusedSectionVars false
set_option linter.unusedSimpArgs false
section
variable {P : Program} {ops : Array Oper} {E : Env} {s s' : AS} {o : Oper} {rest : List Oper} {Q : AS → Prop} {R : Exit → AS → Prop} {nds : List (List (Nat × Option Nat))} {vals : List AV} {G : Prop}
attribute [push_cast] Option.toList_some
theorem AAny.zero {listed : Array Bool} (h : Region.ready .any ops listed = []) (q : Q s) : AAny P ops 0 listed Q s := by
  intro E hE ρ B a w hs Q' hQ
  exact ⟨h, hQ _ _ _ _ _ q hs⟩
theorem AAny.step {fuel : Nat} {listed : Array Bool} {l : List Nat} (h : Region.ready .any ops listed = l) (hl : l ≠ []) (k : ∀ j ∈ l, ∃ o, ops[j]? = some o ∧ ARun P ops [o] s (fun s' => AAny P ops fuel (listed.setIfInBounds j true) Q s')) :
    AAny P ops (fuel + 1) listed Q s := by
  intro E hE ρ B a w hs Q' hQ
  refine ⟨fun e => absurd (h.symm.trans e) hl, fun i hi => ?_⟩
  obtain ⟨o, ho, hk⟩ := k i (h ▸ hi)
  have := hk E hE ρ B a w hs (fun e a w => match e with | .normal => wpAnyIn (FR E.rnd) 0 P .any ops Q' fuel (listed.setIfInBounds i true) a w | e => Q' e a w) (fun s' ρ' B' a' w' q hs' => q E hE ρ' B' a' w' hs' Q' hQ)
  unfold wpOpIn
  simp only [ho]
  simp only [lwp] at this
  split
  · rename_i hw; rw [if_pos hw] at this; exact wpIn_mono2 (fun _ _ h => h) (fun e a w he h => by cases e <;> first | exact absurd rfl he | exact h) this
  · rename_i hw; rw [if_neg hw] at this; exact ⟨fun _ _ => trivial, this⟩
/-- the last operation has come up -/
theorem AAny.fin {listed : Array Bool} (q : Q s) (h : Region.ready .any ops listed = [] := by kernel_rfl) : AAny P ops 0 listed Q s := AAny.zero h q
theorem AAny.one {fuel : Nat} {listed : Array Bool} (j : Nat) (k : ARun P ops (ops[j]?).toList s (fun s' => AAny P ops fuel (listed.setIfInBounds j true) Q s')) (ho : (ops[j]?).isSome = true := by kernel_rfl) (h : Region.ready .any ops listed = [j] := by kernel_rfl) :
    AAny P ops (fuel + 1) listed Q s := by
  refine AAny.step h (by simp) fun i hi => ?_
  have : i = j := by simpa using hi
  subst this
  obtain ⟨o, ho⟩ := Option.isSome_iff_exists.1 ho
  exact ⟨o, ho, by rw [ho] at k; exact k⟩
theorem AAny.two {fuel : Nat} {listed : Array Bool} (j1 j2 : Nat) (k1 : ARun P ops (ops[j1]?).toList s (fun s' => AAny P ops fuel (listed.setIfInBounds j1 true) Q s')) (k2 : ARun P ops (ops[j2]?).toList s (fun s' => AAny P ops fuel (listed.setIfInBounds j2 true) Q s'))
    (ho : ((ops[j1]?).isSome && (ops[j2]?).isSome) = true := by kernel_rfl) (h : Region.ready .any ops listed = [j1, j2] := by kernel_rfl) : AAny P ops (fuel + 1) listed Q s := by
  refine AAny.step h (by simp) fun i hi => ?_
  simp only [Bool.and_eq_true] at ho
  obtain ⟨o1, h1⟩ := Option.isSome_iff_exists.1 ho.1
  obtain ⟨o2, h2⟩ := Option.isSome_iff_exists.1 ho.2
  have : i = j1 ∨ i = j2 := by simpa using hi
  rcases this with rfl | rfl
  · exact ⟨o1, h1, by rw [h1] at k1; exact k1⟩
  · exact ⟨o2, h2, by rw [h2] at k2; exact k2⟩
/-- one operation of the tail -/
theorem ARun.opM {l : List Oper} {p : List Oper × AS} (k : ARun2 P ops p Q) (h : Abs.srun P ops l s = p := by
        try simp only [push_cast, reduceIte, Nat.reduceEqDiff, Nat.reduceLT, Nat.reduceAdd, Nat.reduceSub, Nat.reduceMul, Nat.reduceLeDiff, Nat.reducePow, Int.reduceLT, Int.reduceToNat, reduceCtorEq, Int.reduceNeg, Int.reduceEq, Nat.reduceBEq, Nat.reduceBNe, Int.reduceBEq, Int.reduceBNe, String.reduceEq]
        try simp (disch := omega) only [w_nat, w_add, w_addl, w_addr, w_sub, w_subl, w_mul, w_mull, w_mulr, w_u32, w_u16, w_u8, w_u32a, N_zero]
        try simp only [push_cast, reduceIte, Nat.reduceEqDiff, Nat.reduceLT, Nat.reduceAdd, Nat.reduceSub, Nat.reduceMul, Nat.reduceLeDiff, Nat.reducePow, Int.reduceLT, Int.reduceToNat, reduceCtorEq, Int.reduceNeg, Int.reduceEq, Nat.reduceBEq, Nat.reduceBNe, Int.reduceBEq, Int.reduceBNe, String.reduceEq]
        rfl) : ARun P ops l s Q := ARun.srun (h ▸ k)
/-- every operation of the tail waits for one of the tail -/
def drawnT (ops : Array Oper) (n sn : Nat) (nds : List (List (Nat × Option Nat))) : Bool :=
  decide (n < ops.size) && ((List.range n).all fun i => Region.waitsFor .any ops n i || (List.range n).any fun j => decide (i < j) && Region.waitsFor .any ops j i) &&
  ((List.range ops.size).all fun j => decide (j ≤ n) || (List.range j).any fun i => decide (n ≤ i) && Region.waitsFor .any ops j i) && drawnH ops n sn nds
theorem drawnT.tail {n sn : Nat} (h : drawnT ops n sn nds = true) {listed : Array Bool} (inv : HeadInv .any ops n listed) : ∀ (d i : Nat), n - i = d → i < n → listed.getD i true = false → ∀ t, n ≤ t → t ∉ Region.ready .any ops listed := by
  simp only [drawnT, Bool.and_eq_true, decide_eq_true_eq] at h
  obtain ⟨⟨⟨hn, hs⟩, hc⟩, _⟩ := h
  intro d
  induction d using Nat.strongRecOn with
  | _ d ih =>
    intro i hd hi hun t ht hr
    obtain ⟨_, ot, hot, hall⟩ := mem_ready.1 hr
    have htlt : t < ops.size := (Array.getElem?_eq_some_iff.1 hot).1
    by_cases htn : t = n
    · subst htn
      have h1 := List.all_eq_true.1 hs i (List.mem_range.2 hi)
      simp only [Bool.or_eq_true] at h1
      rcases h1 with h1 | h1
      · obtain ⟨oj, hoj, e, he, hb, hon⟩ := Region.waitsFor_spec h1
        have : oj = ot := Option.some.inj (hoj.symm.trans hot)
        subst this
        have h2 := hall e he hb
        rw [hon, getD_both hun] at h2
        cases h2
      · obtain ⟨j, hj, hj2⟩ := List.any_eq_true.1 h1
        simp only [Bool.and_eq_true, decide_eq_true_eq] at hj2
        obtain ⟨oj, hoj, e, he, hb, hon⟩ := Region.waitsFor_spec hj2.2
        have hjlt := List.mem_range.1 hj
        cases hl : listed.getD j false with
        | true =>
          have h2 := inv.closed j oj hoj hl e he hb
          rw [hon, getD_both hun] at h2
          cases h2
        | false =>
          have hjs : j < listed.size := by rw [inv.size]; omega
          exact ih (t - j) (by omega) j rfl (by omega) (getD_in hjs hl) t (Nat.le_refl _) hr
    · have h1 := List.all_eq_true.1 hc t (List.mem_range.2 htlt)
      simp only [Bool.or_eq_true, decide_eq_true_eq] at h1
      rcases h1 with h1 | h1
      · omega
      · obtain ⟨i', hi', h1⟩ := List.any_eq_true.1 h1
        simp only [Bool.and_eq_true, decide_eq_true_eq] at h1
        obtain ⟨o', ho', e, he, hb, hon⟩ := Region.waitsFor_spec h1.2
        have : o' = ot := Option.some.inj (ho'.symm.trans hot)
        subst this
        have h2 := hall e he hb
        have := List.mem_range.1 hi'
        rw [hon, getD_both (inv.tail i' h1.1 (by omega))] at h2
        cases h2
theorem AWp.drT {id : Nat} {n : Nat} (nds : List (List (Nat × Option Nat))) (new : List (Nat × Nat)) (old : List Nat) (vals : List AV) (hm : P.follows .mixedOrders = true) (hB : drawnT ops n s.n nds = true)
    (hk : (drB ops n s.n s.fr new old && noAl ops n none) = true) (hl : vals.length = n) (hp : PSpec P ops s nds vals)
    (k : AAny P ops (ops.size - n) (listed0 n ops.size) (R .normal) { s with fr := (new.map fun p => (p.1, vals.getD p.2 .any)) ++ keepFr s.fr old }) : AWp P (.region id ops true) s R := by
  subst hl
  rw [Bool.and_eq_true] at hk
  have hB' := hB
  simp only [drawnT, Bool.and_eq_true, decide_eq_true_eq] at hB'
  refine AWp.drawnA vals.length nds vals none _ hm (Nat.le_of_lt hB'.1.1.1) hB'.2 (fun listed inv hex j h hj => ?_) (fun i o h => by cases h) (fun i o h1 h2 _ => hp i o h1 h2 ?_) (fun i o ob h => by cases h) (drFr hk.1) (by simpa [oball] using k)
  · obtain ⟨i, hin, hil⟩ := hex
    exact drawnT.tail hB inv _ i rfl hin hil j h hj
  have := List.all_eq_true.1 hk.2 i (List.mem_range.2 h1)
  simp only [h2, Bool.or_eq_true, decide_eq_true_eq, Bool.not_eq_true'] at this
  rcases this with h | h
  · cases h
  · exact h
theorem Dr.finTN {id : Nat} {n : Nat} (f : Nat) (new : List (Nat × Nat)) (old : List Nat) (hG : ∀ vals, PSpec P ops s nds vals → AWp P (.region id ops true) s R → G) (hm : P.follows .mixedOrders = true)
    (k : ∀ K : AS → Prop, (∀ s', R .normal s' → K s') → AAny P ops f (listed0 n (n + f)) K { s with fr := (new.map fun p => (p.1, vals.getD p.2 .any)) ++ keepFr s.fr old })
    (hl : vals.length = n := by rfl) (hf : ops.size = n + f := by kernel_rfl) (hB : drawnT ops n s.n nds = true := by kernel_rfl) (hk : (drB ops n s.n s.fr new old && noAl ops n none) = true := by kernel_rfl) : Dr P ops s nds vals G := by
  intro hp
  refine hG vals hp (AWp.drT nds new old vals hm hB hk hl hp ?_)
  rw [hf, Nat.add_sub_cancel_left]
  exact k _ fun _ h => h
/-! ### the tail as a graph: a node for each set of operations that have come up -/
theorem AAny.weak {fuel : Nat} {listed : Array Bool} (h : Le s s') (k : AAny P ops fuel listed Q s') : AAny P ops fuel listed Q s := by
  intro E hE ρ B a w hs Q' hQ
  obtain ⟨ρ', B', hs'⟩ := h E ρ B a w hs
  exact k E hE ρ' B' a w hs' Q' hQ
def EdL (P : Program) (ops : Array Oper) (f : Nat) (L : Array Bool) (Q : AS → Prop) (x : AS) : List Nat → Prop
  | [] => True
  | j :: r => (∃ y L', L.setIfInBounds j true = L' ∧ ARun P ops (ops[j]?).toList x (fun s' => Le s' y) ∧ AAny P ops f L' Q y) ∧ EdL P ops f L Q x r
theorem EdL.get {f : Nat} {L : Array Bool} {x : AS} : ∀ {l : List Nat}, EdL P ops f L Q x l → ∀ j ∈ l, ∃ y L', L.setIfInBounds j true = L' ∧ ARun P ops (ops[j]?).toList x (fun s' => Le s' y) ∧ AAny P ops f L' Q y
  | [], _, j, h => by cases h
  | i :: r, h, j, hj => by
    rcases List.mem_cons.1 hj with rfl | hj
    · exact h.1
    · exact EdL.get h.2 j hj
theorem AAny.ofL {f : Nat} {L : Array Bool} {x : AS} (l : List Nat) (h : Region.ready .any ops L = l) (hne : l ≠ []) (k : EdL P ops f L Q x l) : AAny P ops (f + 1) L Q x := by
  refine AAny.step h hne fun j hj => ?_
  obtain ⟨y, L', rfl, e, a⟩ := k.get j hj
  obtain ⟨_, o, ho, _⟩ := mem_ready.1 (h.symm ▸ hj)
  rw [ho] at e
  exact ⟨o, ho, e.mono fun s' hle => AAny.weak hle a⟩
section node
variable {f0 : Nat} {L0 : Array Bool} {Q0 : AS → Prop} {x0 x1 s0 s1 xr : AS}
theorem ANode.new {S : AS} (j : Nat) (h0 : x0 = s0) (e : ARun P ops (ops[j]?).toList s0 (fun s' => Le s' S)) (k : ∀ x, x = S → ARun P ops (ops[j]?).toList x0 (fun s' => Le s' x) → AAny P ops f0 L0 Q0 xr) : AAny P ops f0 L0 Q0 xr := k S rfl (h0 ▸ e)
theorem ANode.fin (L : Array Bool) (h0 : x0 = s0) (q : Q0 s0) (k : AAny P ops 0 L Q0 x0 → AAny P ops f0 L0 Q0 xr) (h : Region.ready .any ops L = [] := by kernel_rfl) : AAny P ops f0 L0 Q0 xr := k (h0 ▸ AAny.zero h q)
theorem ANode.up {f : Nat} {x : AS} (L : Array Bool) (l : List Nat) (hne : l ≠ []) (e : EdL P ops f L Q0 x l) (k : AAny P ops (f + 1) L Q0 x → AAny P ops f0 L0 Q0 xr) (h : Region.ready .any ops L = l := by kernel_rfl) : AAny P ops f0 L0 Q0 xr := k (AAny.ofL l h hne e)
end node
/-! ### an empty literal that is a row of the call's own, made in the head -/
theorem ASpec.own {T e : TypeId} {sz : Nat} (hg : gd ops s o = some true) (ho : o.op = .buildSlice T 0 #[]) (hz : elSz P T = some sz) (he : elT P T = some e) : ASpec P ops o s (.own s.ob.length) (.row e sz []) := by
  intro E ρ B a w hs K Q' hK
  rw [if_pos (gd_wanted hg hs)]
  obtain ⟨e', vs, hu, hr, hrel, h1, hvl⟩ := run_buildSlice (s := s) hz (parts := #[]) (len := 0) rfl (fun p hp => by simp at hp) (by simp) hs
  have hee : e' = e := by
    have := elT_spec he
    rw [hu] at this
    simpa using this
  subst hee
  have hsame := same_alloc w (.cells (List.toArray vs) e')
  have hBw : ∀ b, B b → (w.alloc (.cells (List.toArray vs) e')).heap[b]? = w.heap[b]? := fun b hb => hsame.block b (hs.rw_.blt b hb)
  have hn : RS E { s with ob := s.ob ++ [.row e' sz []] } (ρ ++ [.slice (some ⟨w.heap.size, 0, none⟩) 0 0]) B a (w.alloc (.cells (List.toArray vs) e')) := by
    refine hs.new hsame ⟨?_, .inr ⟨w.heap.size, 0, vs, [], (0, 0), ?_, ?_, ?_, ?_, .inl (Nat.le_refl _), ?_⟩⟩ ?_
    · intro x hx'; simp at hx'
    · rw [← hs.rw_.len, List.getElem?_append_right (Nat.le_refl _), Nat.sub_self]; rfl
    · rw [List.append_nil]; exact alloc_get _ _
    · rw [List.append_nil]; exact hvl
    · exact Nat.le_refl _
    · exact hrel.mono (fun _ h => h) hBw (Nat.le_refl _) (fun _ _ h => get_append_some h)
    · intro b hb
      simp only [blk, Option.some.injEq] at hb
      subst hb
      exact ⟨Nat.le_refl _, by simp⟩
  have hrun : (execOp a.eval o).run P w = .ok (.value (.slice (some ⟨w.heap.size, 0, none⟩) 0 0)) (w.alloc (.cells (List.toArray vs) e')) := by
    simp only [execOp, ho]; exact val_run hr
  refine owp_value hrun (hK _ _ _ hn.rj hBw (.own ?_ rfl))
  rw [← hs.rw_.len, List.getElem?_append_right (Nat.le_refl _), Nat.sub_self]; rfl
/-- the literal's place in the walk of a head: what it needs is told so that nothing is asked of it there -/
theorem Dr.ownS (k : Dr P ops s nds (vals ++ [.own s.ob.length]) G) (hn : ndsB nds = true := by first | rfl | decide) (hv : (nds.getD vals.length [] == [(s.n, none)]) = true := by first | rfl | decide) (hol : ops[vals.length]? = some o := by first | with_reducible rfl | (simp only [push_cast, reduceIte, Nat.reduceEqDiff, Nat.reduceLT, Nat.reduceAdd, Nat.reduceSub, Nat.reduceMul, Nat.reduceLeDiff, Nat.reducePow, Int.reduceLT, Int.reduceToNat, reduceCtorEq, Int.reduceNeg, Int.reduceEq, Nat.reduceBEq, Nat.reduceBNe, Int.reduceBEq, Int.reduceBNe, String.reduceEq]; first | done | rfl | (simp (disch := omega) only [w_nat, w_add, w_addl, w_addr, w_sub, w_subl, w_mul, w_mull, w_mulr, w_u32, w_u16, w_u8, w_u32a, N_zero]; first | done | rfl | (simp only [push_cast, reduceIte, Nat.reduceEqDiff, Nat.reduceLT, Nat.reduceAdd, Nat.reduceSub, Nat.reduceMul, Nat.reduceLeDiff, Nat.reducePow, Int.reduceLT, Int.reduceToNat, reduceCtorEq, Int.reduceNeg, Int.reduceEq, Nat.reduceBEq, Nat.reduceBNe, Int.reduceBEq, Int.reduceBNe, String.reduceEq]; first | done | rfl)))) : Dr P ops s nds vals G := by
  refine Dr.step' hn hol (fun _ => ?_) k
  intro E hE ρ B a w ob hs K Q' hK
  have hv' : nds.getD vals.length [] = [(s.n, none)] := by simpa using hv
  exfalso
  have h := (hs.rf s.n (lk s.fr s.n) (by simp only [hv', needFr]; exact List.mem_singleton.2 rfl)).1
  rw [hs.n] at h
  exact Nat.lt_irrefl _ h
end
end Go.Abs
