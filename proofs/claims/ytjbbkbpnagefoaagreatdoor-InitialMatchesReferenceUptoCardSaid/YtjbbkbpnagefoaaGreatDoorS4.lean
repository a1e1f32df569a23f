/- The reference: Gap, Number, Counted, Inside, Fits, wanted, Table, Of. -/
import Derived.Test.YtjbbkbpnagefoaaGreatDoorS3
import Derived.Laws.StructEq
import Derived.ChangeKeysEq
import Derived.WalkKit
import Derived.ProofKit
import Derived.OpenShut
import Derived.JoinedCond
import Derived.Carry
import Derived.ChangeSlices
import Derived.Test.YtjbbkbpnagefoaaGreatDoorRows
import Derived.Deep.Strs
import Derived.LaidLaws
import Derived.LaidHandle
import Derived.Stop.Joined
import Derived.Test.YtjbbkbpnagefoaaGreatDoorCards
import Derived.Test.YtjbbkbpnagefoaaGreatDoorTie
import Derived.Deep.DeepHandedRow
set_option linter.unusedVariables false
set_option linter.unusedSimpArgs false
namespace Go.Proofs.YtjbbkbpnagefoaaGreatDoor.C
open Go.Abs
theorem gap03_c (n : Nat) (h : n < 2 ^ 60) : PC Tryz.prog 102 [nat n] (nat (gapN n)) := by
  refine PC.of_bodyW (by simp only [push_cast]) Tryz.func102 rfl (by rw [Tryz.ntmps102]; simp) ?_
  refine AWp.regionW ?_
  refine AWp.regionW ?_
  refine AWp.seqK fun K1 hK1 => ?_
  refine AWp.block ?_
  refine AWp.loopK0 [0] (fun (i : Nat) => [(3, nat i)]) (fun i => i ≤ gapN n ∧ i ≤ 3) (fun i => gapN n - i) (0) ?_ ⟨Nat.zero_le _, by omega⟩ ?_
  · skip
    refine Le.m 0 ?_ ?_
    · first | with_reducible rfl | (simp only [push_cast, ↓reduceIte, Nat.reduceEqDiff, Nat.reduceLT, Nat.reduceAdd, Nat.reduceSub, Nat.reduceMul, Nat.reduceLeDiff, Nat.reducePow, Int.reduceLT, Int.reduceToNat, reduceCtorEq, Int.reduceNeg, Int.reduceEq, Nat.reduceBEq, Nat.reduceBNe, Int.reduceBEq, Int.reduceBNe, String.reduceEq]; first | done | rfl | (simp (disch := omega) only [w_nat, w_add, w_addl, w_addr, w_sub, w_subl, w_mul, w_mull, w_mulr, w_u32, w_u16, w_u8, w_u32a, N_zero]; first | done | rfl))
    · first | (simp only [push_cast, ↓reduceIte, Nat.reduceEqDiff, Nat.reduceLT, Nat.reduceAdd, Nat.reduceSub, Nat.reduceMul, Nat.reduceLeDiff, Nat.reducePow, Int.reduceLT, Int.reduceToNat, reduceCtorEq, Int.reduceNeg, Int.reduceEq, Nat.reduceBEq, Nat.reduceBNe, Int.reduceBEq, Int.reduceBNe, String.reduceEq]; first | done | rfl | (simp (disch := omega) only [w_nat, w_add, w_addl, w_addr, w_sub, w_subl, w_mul, w_mull, w_mulr, w_u32, w_u16, w_u8, w_u32a, N_zero]; first | done | rfl))
  · intro i hi K2 hK2
    refine AWp.seqK fun K3 hK3 => ?_
    refine AWp.regionW ?_
    refine AWp.condLM (fun c0 => ?_) (fun c0 => ?_)
    · skip
      have h0 : i < gapN n := by have := hi.1; simp at c0; unfold gapN at *; omega
      refine AWp.skip ?_
      refine hK3 _ ?_
      refine AWp.block ?_
      refine AWp.regionV ?_
      refine hK2 _ (i + 1) (⟨h0, by have := gapN_le n; omega⟩) (by omega) ?_
      refine Le.m 0 ?_ ?_
      · first | with_reducible rfl | (simp only [push_cast, ↓reduceIte, Nat.reduceEqDiff, Nat.reduceLT, Nat.reduceAdd, Nat.reduceSub, Nat.reduceMul, Nat.reduceLeDiff, Nat.reducePow, Int.reduceLT, Int.reduceToNat, reduceCtorEq, Int.reduceNeg, Int.reduceEq, Nat.reduceBEq, Nat.reduceBNe, Int.reduceBEq, Int.reduceBNe, String.reduceEq]; first | done | rfl | (simp (disch := omega) only [w_nat, w_add, w_addl, w_addr, w_sub, w_subl, w_mul, w_mull, w_mulr, w_u32, w_u16, w_u8, w_u32a, N_zero]; first | done | rfl))
      · first | (simp only [push_cast, ↓reduceIte, Nat.reduceEqDiff, Nat.reduceLT, Nat.reduceAdd, Nat.reduceSub, Nat.reduceMul, Nat.reduceLeDiff, Nat.reducePow, Int.reduceLT, Int.reduceToNat, reduceCtorEq, Int.reduceNeg, Int.reduceEq, Nat.reduceBEq, Nat.reduceBNe, Int.reduceBEq, Int.reduceBNe, String.reduceEq]; first | done | rfl | (simp (disch := omega) only [w_nat, w_add, w_addl, w_addr, w_sub, w_subl, w_mul, w_mull, w_mulr, w_u32, w_u16, w_u8, w_u32a, N_zero]; first | done | rfl))
    · skip
      have h0 : i = gapN n := by have := hi.1; simp at c0; unfold gapN at *; omega
      refine AWp.exit ?_
      try simp only [thenQ, blockQ, noGo, reduceIte, Nat.reduceEqDiff]
      refine hK1 _ ?_
      refine AWp.regionW ?_
      refine AWp.ret ?_
      try simp only [thenQ, blockQ, noGo]
      refine bodyQ.m ?_
      clear hK3 K3 hK2 K2 hK1 K1
      rw [h0]
      first | done | exact Hand.go
theorem right01_c (k : Nat) : PC Tryz.prog 92 [nat k] (bool (k == 1 || k == 2 || k == 4)) := by
  refine PC.of_bodyW (by simp only [push_cast]) Tryz.func92 rfl (by rw [Tryz.ntmps92]; simp) ?_
  refine AWp.regionW ?_
  refine AWp.regionA fun K1 hK1 => ?_
  refine ARun.segm 3 fun KS hKS => ?_
  refine ARun2.endm (hKS _ ?_); clear hKS KS
  apply ARun.grpM 2 2 false 7 [0, 5]
  · intro g2 KG hKG
    refine ARun2.gom ?_
    exact ARun2.endm (hKG _ Le.grpM)
  refine ARun.segm 2 fun KS hKS => ?_
  refine ARun2.endm (hKS _ ?_); clear hKS KS
  apply ARun.grpM 2 6 false 11 [9]
  · intro g6 KG hKG
    refine ARun2.gom ?_
    exact ARun2.endm (hKG _ Le.grpM)
  refine ARun2.gom ?_
  refine ARun2.endm (hK1 _ ?_)
  refine AWp.ret ?_
  try simp only [thenQ, blockQ, noGo]
  refine bodyQ.m ?_
  clear hK1 K1
  simp only [Bool.or_assoc]
  first | done | exact Hand.go
theorem mul8 {x : Nat} {b : UInt8} (h : x < 2 ^ 24) : IntKind.u32.wrap (IntKind.u32.wrap (N x * 256) + N b.toNat) = N (x * 256 + b.toNat) := by
  have := b.toNat_lt
  rw [IntKind.wrap_u32, IntKind.wrap_u32]; unfold N; omega
theorem number01_c (k : Nat) (l : List UInt8) (i : Nat) (hk : k = 1 ∨ k = 2 ∨ k = 4) (hl : l.length ≤ 2 ^ 40) (hi : i ≤ 2 ^ 40) :
    PC Tryz.prog 93 [.sl false 1 (bys l), nat i, nat k] (.tup [u32 (peekN k l i), bool (decide (i + k ≤ l.length))]) := by
  have hr : (k == 1 || k == 2 || k == 4) = true := by rcases hk with rfl | rfl | rfl <;> rfl
  refine PC.of_bodyW (by simp only [push_cast]) Tryz.func93 rfl (by rw [Tryz.ntmps93]; simp) ?_
  refine AWp.regionW ?_
  refine AWp.seqK fun K1 hK1 => ?_
  refine AWp.regionM fun K2 hK2 => ?_
  refine ARun2.callM (hr ▸ right01_c k) ?_
  refine ARun2.endm (hK2 _ ?_)
  refine AWp.condLM (fun c0 => ?_) (fun c0 => ?_)
  · skip
    have h0 : ¬ i + k ≤ l.length := by simpa using c0
    have e : peekN k l i = 0 := if_neg h0
    have e2 : decide (i + k ≤ l.length) = false := decide_eq_false h0
    refine AWp.regionW ?_
    refine AWp.ret ?_
    try simp only [thenQ, blockQ, noGo]
    refine bodyQ.m ?_
    clear hK2 K2 hK1 K1
    rw [e, e2]
    first | done | exact Hand.go
  · skip
    have h0 : i + k ≤ l.length := by simpa using c0
    have e : peekN k l i = beN ((l.drop i).take k) := if_pos h0
    have e2 : decide (i + k ≤ l.length) = true := decide_eq_true h0
    refine AWp.skip ?_
    refine hK1 _ ?_
    refine AWp.regionW ?_
    refine AWp.seqK fun K3 hK3 => ?_
    refine AWp.regionW ?_
    refine AWp.block ?_
    refine AWp.loopK0 [0, 1, 2] (fun (j : Nat) => [(9, nat j), (8, u32 (beN ((l.drop i).take j)))]) (fun j => j ≤ k) (fun j => k - j) (0) ?_ (Nat.zero_le _) ?_
    · skip
      refine Le.m 0 ?_ ?_
      · first | with_reducible rfl | (simp only [push_cast, ↓reduceIte, Nat.reduceEqDiff, Nat.reduceLT, Nat.reduceAdd, Nat.reduceSub, Nat.reduceMul, Nat.reduceLeDiff, Nat.reducePow, Int.reduceLT, Int.reduceToNat, reduceCtorEq, Int.reduceNeg, Int.reduceEq, Nat.reduceBEq, Nat.reduceBNe, Int.reduceBEq, Int.reduceBNe, String.reduceEq]; first | done | rfl | (simp (disch := omega) only [w_nat, w_add, w_addl, w_addr, w_sub, w_subl, w_mul, w_mull, w_mulr, w_u32, w_u16, w_u8, w_u32a, N_zero]; first | done | rfl))
      · first | (simp only [push_cast, ↓reduceIte, Nat.reduceEqDiff, Nat.reduceLT, Nat.reduceAdd, Nat.reduceSub, Nat.reduceMul, Nat.reduceLeDiff, Nat.reducePow, Int.reduceLT, Int.reduceToNat, reduceCtorEq, Int.reduceNeg, Int.reduceEq, Nat.reduceBEq, Nat.reduceBNe, Int.reduceBEq, Int.reduceBNe, String.reduceEq]; first | done | rfl | (simp (disch := omega) only [w_nat, w_add, w_addl, w_addr, w_sub, w_subl, w_mul, w_mull, w_mulr, w_u32, w_u16, w_u8, w_u32a, N_zero]; first | done | rfl))
    · intro j hj K4 hK4
      refine AWp.seqK fun K5 hK5 => ?_
      refine AWp.regionW ?_
      refine AWp.condLM (fun c1 => ?_) (fun c1 => ?_)
      · skip
        have hjk : j < k := by simpa using c1
        have hlt : i + j < l.length := by omega
        have hjd : j < (l.drop i).length := by rw [List.length_drop]; omega
        have hx : beN ((l.drop i).take j) < 2 ^ 24 := Nat.lt_of_lt_of_le (beN_lt2 _ 3 (Nat.le_trans (List.length_take_le _ _) (by omega))) (by decide)
        have hs : beN ((l.drop i).take (j + 1)) = beN ((l.drop i).take j) * 256 + l[i + j].toNat := by
          rw [List.take_succ_eq_append_getElem hjd, beN_snoc, List.getElem_drop]
        refine AWp.skip ?_
        refine hK5 _ ?_
        refine AWp.seqK fun K6 hK6 => ?_
        refine AWp.block ?_
        refine AWp.regionN fun K7 hK7 => ?_
        refine ARun2.indexM (i + j) (.val (.int .u8 (N l[i + j].toNat))) ?_ ?_
        · exact bys_at _ _ hlt
        refine ARun2.endm (hK7 _ ?_)
        refine hK6 _ ?_
        refine AWp.regionV ?_
        refine hK4 _ (j + 1) (by omega) (by omega) ?_
        refine Le.m 0 ?_ ?_
        · first | with_reducible rfl | (simp only [push_cast, ↓reduceIte, Nat.reduceEqDiff, Nat.reduceLT, Nat.reduceAdd, Nat.reduceSub, Nat.reduceMul, Nat.reduceLeDiff, Nat.reducePow, Int.reduceLT, Int.reduceToNat, reduceCtorEq, Int.reduceNeg, Int.reduceEq, Nat.reduceBEq, Nat.reduceBNe, Int.reduceBEq, Int.reduceBNe, String.reduceEq]; first | done | rfl | (simp (disch := omega) only [w_nat, w_add, w_addl, w_addr, w_sub, w_subl, w_mul, w_mull, w_mulr, w_u32, w_u16, w_u8, w_u32a, N_zero]; first | done | rfl))
        · simp only [push_cast, ↓reduceIte, Nat.reduceEqDiff, Nat.reduceLT, Nat.reduceAdd, Nat.reduceSub, Nat.reduceMul, Nat.reduceLeDiff, Nat.reducePow, Int.reduceLT, Int.reduceToNat, reduceCtorEq, Int.reduceNeg, Int.reduceEq, Nat.reduceBEq, Nat.reduceBNe, Int.reduceBEq, Int.reduceBNe, String.reduceEq]
          try simp (disch := omega) only [w_nat, w_add, w_addl, w_addr, w_sub, w_subl, w_mul, w_mull, w_mulr, w_u32, w_u16, w_u8, w_u32a, N_zero]
          rw [mul8 hx, hs]
      · skip
        have hjk : j = k := by simp at c1; omega
        subst hjk
        refine AWp.exit ?_
        try simp only [thenQ, blockQ, noGo, reduceIte, Nat.reduceEqDiff]
        refine hK3 _ ?_
        refine AWp.regionW ?_
        refine AWp.ret ?_
        try simp only [thenQ, blockQ, noGo]
        refine bodyQ.m ?_
        clear hK5 K5 hK4 K4 hK3 K3 hK2 K2 hK1 K1
        rw [e, e2]
        first | done | exact Hand.go
/-- is the number in the data right? -/
def countedR (d : List UInt8) : Bool := decide (4 ≤ d.length ∧ 2 * peekN 4 d 0 = d.length - 4)
theorem counted08_c (d : List UInt8) (hl : d.length ≤ 2 ^ 40) : PC Tryz.prog 100 [.sl false 1 (bys d)] (bool (countedR d)) := by
  have hp := peekN_lt 4 d 0 (by omega)
  have hc : (N (2 * peekN 4 d 0) == IntKind.i64.wrap (N d.length - 4)) = countedR d := by
    unfold countedR
    rw [IntKind.wrap_i64, Bool.eq_iff_iff, beq_iff_eq, decide_eq_true_iff]
    unfold N; omega
  refine PC.of_bodyW (by simp only [push_cast]) Tryz.func100 rfl (by rw [Tryz.ntmps100]; simp) ?_
  refine AWp.regionW ?_
  refine AWp.regionM fun K1 hK1 => ?_
  refine ARun2.callM (number01_c 4 d 0 (by omega) hl (by omega)) ?_
  refine ARun2.endm (hK1 _ ?_)
  refine AWp.regionW ?_
  refine AWp.ret ?_
  try simp only [thenQ, blockQ, noGo]
  refine bodyQ.m ?_
  clear hK1 K1
  rw [hc]
  first | done | exact Hand.go
theorem inside08_c (k : Nat) (hk : k ≤ 4) : PC Tryz.prog 101 [nat k] (nat (insideN k).1) := by
  have hq : (insideN k).1 = if k = 3 then 2 else if k = 0 then 0 else 1 := by
    have h : k = 0 ∨ k = 1 ∨ k = 2 ∨ k = 3 ∨ k = 4 := by omega
    rcases h with rfl | rfl | rfl | rfl | rfl <;> rfl
  refine PC.of_bodyW (by simp only [push_cast]) Tryz.func101 rfl (by rw [Tryz.ntmps101]; simp) ?_
  refine AWp.regionW ?_
  refine AWp.seqK fun K1 hK1 => ?_
  refine AWp.regionW ?_
  refine AWp.condLM (fun c0 => ?_) (fun c0 => ?_)
  · skip
    refine AWp.regionW ?_
    refine AWp.ret ?_
    try simp only [thenQ, blockQ, noGo]
    refine bodyQ.m ?_
    clear hK1 K1
    rw [hq, if_pos (by simpa using c0)]
    first | done | exact Hand.go
  · skip
    refine AWp.skip ?_
    refine hK1 _ ?_
    refine AWp.seqK fun K2 hK2 => ?_
    refine AWp.regionW ?_
    refine AWp.condLM (fun c1 => ?_) (fun c1 => ?_)
    · skip
      refine AWp.regionW ?_
      refine AWp.ret ?_
      try simp only [thenQ, blockQ, noGo]
      refine bodyQ.m ?_
      clear hK2 K2 hK1 K1
      rw [hq, if_neg (by simpa using c0), if_pos (by simpa using c1)]
      first | done | exact Hand.go
    · skip
      refine AWp.skip ?_
      refine hK2 _ ?_
      refine AWp.regionW ?_
      refine AWp.ret ?_
      try simp only [thenQ, blockQ, noGo]
      refine bodyQ.m ?_
      clear hK2 K2 hK1 K1
      rw [hq, if_neg (by simpa using c0), if_neg (by simpa using c1)]
      first | done | exact Hand.go
theorem fits07_c (f : ShForm) (n : Nat) (hn : n < 2 ^ 40) (hl : f.least < 2 ^ 40) (hm : f.most < 2 ^ 40) (hu : 0 < f.unit) (hu2 : f.unit < 2 ^ 40) : PC Tryz.prog 98 [formA f, nat n] (bool (fitsN f n)) := by
  refine PC.of_bodyW (by simp only [push_cast]) Tryz.func98 rfl (by rw [Tryz.ntmps98]; simp) ?_
  refine AWp.regionW ?_
  refine AWp.seqK fun K1 hK1 => ?_
  refine AWp.regionW ?_
  refine AWp.block ?_
  refine AWp.loopK [1, 2] (fun (i : Nat) => [(5, nat (f.least + i * f.unit))]) (fun i => [.box 129 [nat f.cls, u16 f.ty, .val (.string f.name), nat f.least, nat f.most, nat f.unit, nat f.kids]]) (fun i => ∀ j, j < i → f.least + j * f.unit ≠ n) (fun i => f.most + 1 - (f.least + i * f.unit)) (0) ?_ (fun j h => by omega) ?_
  · skip
    refine Le.m 1 ?_ ?_
    · first | with_reducible rfl | (simp only [push_cast, ↓reduceIte, Nat.reduceEqDiff, Nat.reduceLT, Nat.reduceAdd, Nat.reduceSub, Nat.reduceMul, Nat.reduceLeDiff, Nat.reducePow, Int.reduceLT, Int.reduceToNat, reduceCtorEq, Int.reduceNeg, Int.reduceEq, Nat.reduceBEq, Nat.reduceBNe, Int.reduceBEq, Int.reduceBNe, String.reduceEq]; first | done | rfl | (simp (disch := omega) only [w_nat, w_add, w_addl, w_addr, w_sub, w_subl, w_mul, w_mull, w_mulr, w_u32, w_u16, w_u8, w_u32a, N_zero]; first | done | rfl))
    · simp only [push_cast, ↓reduceIte, Nat.reduceEqDiff, Nat.reduceLT, Nat.reduceAdd, Nat.reduceSub, Nat.reduceMul, Nat.reduceLeDiff, Nat.reducePow, Int.reduceLT, Int.reduceToNat, reduceCtorEq, Int.reduceNeg, Int.reduceEq, Nat.reduceBEq, Nat.reduceBNe, Int.reduceBEq, Int.reduceBNe, String.reduceEq]
      try simp (disch := omega) only [w_nat, w_add, w_addl, w_addr, w_sub, w_subl, w_mul, w_mull, w_mulr, w_u32, w_u16, w_u8, w_u32a, N_zero]
      simp only [Nat.zero_mul, Nat.add_zero]
  · intro i hi K2 hK2
    refine AWp.seqK fun K3 hK3 => ?_
    refine AWp.regionW ?_
    refine AWp.condLM (fun c0 => ?_) (fun c0 => ?_)
    · skip
      have h0 : f.least + i * f.unit ≤ f.most := by simpa using c0
      have hs : (i + 1) * f.unit = i * f.unit + f.unit := by rw [Nat.add_mul, Nat.one_mul]
      refine AWp.skip ?_
      refine hK3 _ ?_
      refine AWp.seqK fun K4 hK4 => ?_
      refine AWp.block ?_
      refine AWp.regionW ?_
      refine AWp.condLM (fun c1 => ?_) (fun c1 => ?_)
      · skip
        have h1 : f.least + i * f.unit = n := by simpa using c1
        have hf : fitsN f n = true := by
          have e : n - f.least = i * f.unit := by omega
          unfold fitsN
          rw [e, Nat.mul_mod_left]
          simp
          omega
        refine AWp.regionW ?_
        refine AWp.ret ?_
        try simp only [thenQ, blockQ, noGo]
        refine bodyQ.m ?_
        clear hK4 K4 hK3 K3 hK2 K2 hK1 K1
        rw [hf]
        first | done | exact Hand.go
      · skip
        have h1 : f.least + i * f.unit ≠ n := by simpa using c1
        refine AWp.skip ?_
        refine hK4 _ ?_
        refine AWp.regionV ?_
        refine hK2 _ (i + 1) ((fun j hj => (Nat.lt_or_ge j i).elim (fun h => hi j h) (fun h => (show j = i by omega) ▸ h1))) (by omega) ?_
        refine Le.m 1 ?_ ?_
        · first | with_reducible rfl | (simp only [push_cast, ↓reduceIte, Nat.reduceEqDiff, Nat.reduceLT, Nat.reduceAdd, Nat.reduceSub, Nat.reduceMul, Nat.reduceLeDiff, Nat.reducePow, Int.reduceLT, Int.reduceToNat, reduceCtorEq, Int.reduceNeg, Int.reduceEq, Nat.reduceBEq, Nat.reduceBNe, Int.reduceBEq, Int.reduceBNe, String.reduceEq]; first | done | rfl | (simp (disch := omega) only [w_nat, w_add, w_addl, w_addr, w_sub, w_subl, w_mul, w_mull, w_mulr, w_u32, w_u16, w_u8, w_u32a, N_zero]; first | done | rfl))
        · simp only [push_cast, ↓reduceIte, Nat.reduceEqDiff, Nat.reduceLT, Nat.reduceAdd, Nat.reduceSub, Nat.reduceMul, Nat.reduceLeDiff, Nat.reducePow, Int.reduceLT, Int.reduceToNat, reduceCtorEq, Int.reduceNeg, Int.reduceEq, Nat.reduceBEq, Nat.reduceBNe, Int.reduceBEq, Int.reduceBNe, String.reduceEq]
          try simp (disch := omega) only [w_nat, w_add, w_addl, w_addr, w_sub, w_subl, w_mul, w_mull, w_mulr, w_u32, w_u16, w_u8, w_u32a, N_zero]
          rw [hs, ← Nat.add_assoc]
    · skip
      have h0 : f.most < f.least + i * f.unit := by simpa using c0
      have hf : fitsN f n = false := by
        unfold fitsN
        by_cases h2 : f.least ≤ n ∧ n ≤ f.most
        · have h3 : (n - f.least) % f.unit ≠ 0 := by
            intro h3
            obtain ⟨j, hj⟩ := Nat.dvd_of_mod_eq_zero h3
            rw [Nat.mul_comm] at hj
            have hlt : j < i := by
              rcases Nat.lt_or_ge j i with h | h
              · exact h
              · have := Nat.mul_le_mul_right f.unit h
                omega
            exact hi j hlt (by omega)
          simp [h3]
        · rcases Nat.lt_or_ge n f.least with h4 | h4
          · simp; omega
          · simp; omega
      refine AWp.exit ?_
      try simp only [thenQ, blockQ, noGo, reduceIte, Nat.reduceEqDiff]
      refine hK1 _ ?_
      refine AWp.regionW ?_
      refine AWp.ret ?_
      try simp only [thenQ, blockQ, noGo]
      refine bodyQ.m ?_
      clear hK3 K3 hK2 K2 hK1 K1
      rw [hf]
      first | done | exact Hand.go
end Go.Proofs.YtjbbkbpnagefoaaGreatDoor.C
/- The reference: wanted, Table, Of, Size. -/
set_option linter.unusedVariables false
set_option linter.unusedSimpArgs false
namespace Go.Proofs.YtjbbkbpnagefoaaGreatDoor.C
open Go.Abs
theorem kidsOk_eq (f : ShForm) (l : List GNode) (hf : f.kids ≤ 4) : kidsOk f l =
    if f.kids = 0 then l.length == 0 else if f.kids = 1 then l.length == 1 else if f.kids = 4 then (l.length == 1 && ((l.headD default).ty == 5 || (l.headD default).ty == 6)) else (decide (1 ≤ l.length) && decide (l.length ≤ 16384)) := by
  have key : ∀ k n : Nat, k ≤ 4 → ∀ b : Bool, (decide ((insideN k).2.1 ≤ n) && decide (n ≤ (insideN k).2.2) && (k != 4 || b)) = if k = 0 then n == 0 else if k = 1 then n == 1 else if k = 4 then (n == 1 && b) else (decide (1 ≤ n) && decide (n ≤ 16384)) := by
    intro k n hk b
    have h : k = 0 ∨ k = 1 ∨ k = 2 ∨ k = 3 ∨ k = 4 := by omega
    have h1 : (decide (1 ≤ n) && decide (n ≤ 1)) = (n == 1) := by rw [Bool.eq_iff_iff]; simp; omega
    rcases h with rfl | rfl | rfl | rfl | rfl
    · rw [Bool.eq_iff_iff]; simp [insideN]
    · rw [Bool.eq_iff_iff]; simp [insideN]; omega
    · simp [insideN]
    · simp [insideN]
    · simp [insideN, ← h1]
  unfold kidsOk
  rw [Bool.or_assoc]
  exact key _ _ hf _
theorem wanted_c (f : ShForm) (l : List GNode) (hl : l.length ≤ 2 ^ 40) (hf : f.kids ≤ 4) : PC Tryz.prog 99 [formA f, .sl false 3 (nodesA false l)] (bool (kidsOk f l)) := by
  have hq := kidsOk_eq f l hf
  refine PC.of_bodyW (by simp only [push_cast]) Tryz.func99 rfl (by rw [Tryz.ntmps99]; simp) ?_
  refine AWp.regionW ?_
  refine AWp.seqK fun K1 hK1 => ?_
  refine AWp.regionW ?_
  refine AWp.block ?_
  refine AWp.regionW ?_
  refine AWp.condLM (fun c0 => ?_) (fun c0 => ?_)
  · skip
    have h0 : f.kids = 0 := by simpa using c0
    refine AWp.regionW ?_
    refine AWp.ret ?_
    try simp only [thenQ, blockQ, noGo]
    refine bodyQ.m ?_
    clear hK1 K1
    rw [hq, if_pos h0]
    first | done | exact Hand.go
  · skip
    have h0 : ¬ f.kids = 0 := by simpa using c0
    refine AWp.regionW ?_
    refine AWp.condLM (fun c1 => ?_) (fun c1 => ?_)
    · skip
      have h1 : f.kids = 1 := by simpa using c1
      refine AWp.regionW ?_
      refine AWp.ret ?_
      try simp only [thenQ, blockQ, noGo]
      refine bodyQ.m ?_
      clear hK1 K1
      rw [hq, if_neg h0, if_pos h1]
      first | done | exact Hand.go
    · skip
      have h1 : ¬ f.kids = 1 := by simpa using c1
      refine AWp.regionW ?_
      refine AWp.condLM (fun c2 => ?_) (fun c2 => ?_)
      · skip
        have h2 : f.kids = 4 := by simpa using c2
        refine AWp.regionA fun K2 hK2 => ?_
        refine ARun.segm 4 fun KS hKS => ?_
        refine ARun2.endm (hKS _ ?_); clear hKS KS
        apply ARun.grpM 12 3 true 34 [22]
        · intro g3 KG hKG
          have hne : 0 < l.length := by have := beq_iff_eq.1 g3; omega
          refine ARun.segm 6 fun KS hKS => ?_
          refine ARun2.indexM (0) (nodeA false (l.headD default)) ?_ ?_
          · exact nodesA_head _ _ hne
          refine ARun2.endm (hKS _ ?_); clear hKS KS
          apply ARun.grpM 5 9 false 33 [22, 28]
          · intro g9 KG hKG
            refine ARun2.gom ?_
            refine ARun2.indexM (0) (nodeA false (l.headD default)) ?_ ?_
            · exact nodesA_head _ _ hne
            exact ARun2.endm (hKG _ Le.grpM)
          refine ARun2.gom ?_
          exact ARun2.endm (hKG _ Le.grpM)
        refine ARun2.gom ?_
        refine ARun2.endm (hK2 _ ?_)
        refine AWp.ret ?_
        try simp only [thenQ, blockQ, noGo]
        refine bodyQ.m ?_
        clear hK2 K2 hK1 K1
        rw [hq, if_neg h0, if_neg h1, if_pos h2]
        first | done | exact Hand.go
      · skip
        have h2 : ¬ f.kids = 4 := by simpa using c2
        refine AWp.skip ?_
        refine hK1 _ ?_
        refine AWp.regionA fun K3 hK3 => ?_
        refine ARun.segm 4 fun KS hKS => ?_
        refine ARun2.endm (hKS _ ?_); clear hKS KS
        apply ARun.grpM 3 3 true 42 [39]
        · intro g3 KG hKG
          refine ARun2.gom ?_
          exact ARun2.endm (hKG _ Le.grpM)
        refine ARun2.gom ?_
        refine ARun2.endm (hK3 _ ?_)
        refine AWp.ret ?_
        try simp only [thenQ, blockQ, noGo]
        refine bodyQ.m ?_
        clear hK3 K3 hK1 K1
        rw [hq, if_neg h0, if_neg h1, if_neg h2]
        first | done | exact Hand.go
def refForms : List ShForm := paramForms.map (fun f => { f with cls := 1 }) ++ causeForms.map (fun f => { f with cls := 2 })
set_option maxRecDepth 100000 in
set_option maxHeartbeats 1000000 in
theorem table07_c : PC Tryz.prog 115 [] (.sl false 7 (formsA refForms)) := by
  refine PC.of_bodyW (by simp only [push_cast]) Tryz.func115 rfl (by rw [Tryz.ntmps115]; simp) ?_
  refine AWp.regionW ?_
  refine AWp.regionW ?_
  refine AWp.regionW ?_
  refine AWp.ret ?_
  try simp only [thenQ, blockQ, noGo]
  refine bodyQ.m ?_
  simp only [refForms, formsA, paramForms, causeForms, List.map_cons, List.map_nil, List.cons_append, List.nil_append]
  first | done | exact Hand.go
theorem refOf_eq (c t : Nat) (hc : c = 1 ∨ c = 2) : (refForms.find? fun f => f.cls == c && f.ty == t).getD zeroForm = shapeOf c t := by
  have key : ∀ (l : List ShForm) (c' : Nat), (l.map (fun f => { f with cls := c' })).find? (fun f => f.cls == c && f.ty == t) = if c' = c then (l.find? fun f => f.ty == t).map (fun f => { f with cls := c' }) else none := by
    intro l c'
    induction l with
    | nil => simp
    | cons a l ih =>
      by_cases h : c' = c
      · subst h
        simp only [if_true] at ih
        by_cases ht : a.ty = t
        · simp [List.find?_cons, ht]
        · have ht' : (a.ty == t) = false := by simpa using ht
          simp [List.find?_cons, ht', ih]
      · have hcc : (c' == c) = false := by simpa using h
        simp only [if_neg h] at ih ⊢
        simp [List.find?_cons, hcc, ih]
  unfold refForms shapeOf
  rw [List.find?_append, key, key]
  rcases hc with rfl | rfl
  · simp [formsN]
  · simp [formsN]
theorem of07_c (c t : Nat) (hc : c = 1 ∨ c = 2) : PC Tryz.prog 97 [nat c, u16 t] (formA (shapeOf c t)) := by
  have hlen : refForms.length ≤ 2 ^ 40 := by decide
  have hq := refOf_eq c t hc
  refine PC.of_bodyW (by simp only [push_cast]) Tryz.func97 rfl (by rw [Tryz.ntmps97]; simp) ?_
  refine AWp.regionW ?_
  refine AWp.regionM fun K1 hK1 => ?_
  refine ARun2.callM (table07_c) ?_
  refine ARun2.endm (hK1 _ ?_)
  refine AWp.seqK fun K2 hK2 => ?_
  refine AWp.regionW ?_
  refine AWp.block ?_
  refine AWp.loopK0 [0, 1, 4, 5] (fun (i : Nat) => [(6, nat i)]) (fun i => i ≤ refForms.length ∧ refForms.find? (fun f => f.cls == c && f.ty == t) = (refForms.drop i).find? fun f => f.cls == c && f.ty == t) (fun i => refForms.length - i) (0) ?_ ⟨Nat.zero_le _, rfl⟩ ?_
  · skip
    refine Le.m 1 ?_ ?_
    · first | with_reducible rfl | (simp only [push_cast, ↓reduceIte, Nat.reduceEqDiff, Nat.reduceLT, Nat.reduceAdd, Nat.reduceSub, Nat.reduceMul, Nat.reduceLeDiff, Nat.reducePow, Int.reduceLT, Int.reduceToNat, reduceCtorEq, Int.reduceNeg, Int.reduceEq, Nat.reduceBEq, Nat.reduceBNe, Int.reduceBEq, Int.reduceBNe, String.reduceEq]; first | done | rfl | (simp (disch := omega) only [w_nat, w_add, w_addl, w_addr, w_sub, w_subl, w_mul, w_mull, w_mulr, w_u32, w_u16, w_u8, w_u32a, N_zero]; first | done | rfl))
    · first | (simp only [push_cast, ↓reduceIte, Nat.reduceEqDiff, Nat.reduceLT, Nat.reduceAdd, Nat.reduceSub, Nat.reduceMul, Nat.reduceLeDiff, Nat.reducePow, Int.reduceLT, Int.reduceToNat, reduceCtorEq, Int.reduceNeg, Int.reduceEq, Nat.reduceBEq, Nat.reduceBNe, Int.reduceBEq, Int.reduceBNe, String.reduceEq]; first | done | rfl | (simp (disch := omega) only [w_nat, w_add, w_addl, w_addr, w_sub, w_subl, w_mul, w_mull, w_mulr, w_u32, w_u16, w_u8, w_u32a, N_zero]; first | done | rfl))
  · intro i hi K3 hK3
    refine AWp.seqK fun K4 hK4 => ?_
    refine AWp.regionW ?_
    refine AWp.condLM (fun c0 => ?_) (fun c0 => ?_)
    · skip
      have hil : i < refForms.length := by simpa using c0
      have hd : refForms.drop i = refForms[i] :: refForms.drop (i + 1) := List.drop_eq_getElem_cons hil
      refine AWp.skip ?_
      refine hK4 _ ?_
      refine AWp.seqK fun K5 hK5 => ?_
      refine AWp.block ?_
      refine AWp.regionA fun K6 hK6 => ?_
      refine ARun.segm 8 fun KS hKS => ?_
      refine ARun2.indexM (i) (formA refForms[i]) ?_ ?_
      · exact formsA_at _ _ hil
      refine ARun2.endm (hKS _ ?_); clear hKS KS
      apply ARun.grpM 7 7 true 28 [0, 1, 4, 5, 6, 21]
      · intro g7 KG hKG
        refine ARun2.gom ?_
        refine ARun2.indexM (i) (formA refForms[i]) ?_ ?_
        · exact formsA_at _ _ hil
        exact ARun2.endm (hKG _ Le.grpM)
      refine ARun2.gom ?_
      refine ARun2.endm (hK6 _ ?_)
      refine AWp.condLM (fun c1 => ?_) (fun c1 => ?_)
      · skip
        have h1 : (refForms[i].cls == c && refForms[i].ty == t) = true := by simpa using c1
        have hv : shapeOf c t = refForms[i] := by rw [← hq, hi.2, hd, List.find?_cons, h1]; rfl
        refine AWp.regionM fun K7 hK7 => ?_
        refine ARun2.indexM (i) (formA refForms[i]) ?_ ?_
        · exact formsA_at _ _ hil
        refine ARun2.endm (hK7 _ ?_)
        refine AWp.ret ?_
        try simp only [thenQ, blockQ, noGo]
        refine bodyQ.m ?_
        clear hK7 K7 hK6 K6 hK5 K5 hK4 K4 hK3 K3 hK2 K2 hK1 K1
        rw [hv]
        first | done | exact Hand.go
      · skip
        have h1 : (refForms[i].cls == c && refForms[i].ty == t) = false := by simpa using c1
        refine AWp.skip ?_
        refine hK5 _ ?_
        refine AWp.regionV ?_
        refine hK3 _ (i + 1) (⟨by omega, by rw [hi.2, hd, List.find?_cons, h1]⟩) (by omega) ?_
        refine Le.m 1 ?_ ?_
        · first | with_reducible rfl | (simp only [push_cast, ↓reduceIte, Nat.reduceEqDiff, Nat.reduceLT, Nat.reduceAdd, Nat.reduceSub, Nat.reduceMul, Nat.reduceLeDiff, Nat.reducePow, Int.reduceLT, Int.reduceToNat, reduceCtorEq, Int.reduceNeg, Int.reduceEq, Nat.reduceBEq, Nat.reduceBNe, Int.reduceBEq, Int.reduceBNe, String.reduceEq]; first | done | rfl | (simp (disch := omega) only [w_nat, w_add, w_addl, w_addr, w_sub, w_subl, w_mul, w_mull, w_mulr, w_u32, w_u16, w_u8, w_u32a, N_zero]; first | done | rfl))
        · first | (simp only [push_cast, ↓reduceIte, Nat.reduceEqDiff, Nat.reduceLT, Nat.reduceAdd, Nat.reduceSub, Nat.reduceMul, Nat.reduceLeDiff, Nat.reducePow, Int.reduceLT, Int.reduceToNat, reduceCtorEq, Int.reduceNeg, Int.reduceEq, Nat.reduceBEq, Nat.reduceBNe, Int.reduceBEq, Int.reduceBNe, String.reduceEq]; first | done | rfl | (simp (disch := omega) only [w_nat, w_add, w_addl, w_addr, w_sub, w_subl, w_mul, w_mull, w_mulr, w_u32, w_u16, w_u8, w_u32a, N_zero]; first | done | rfl))
    · skip
      have hil : refForms.length ≤ i := by simpa using c0
      have hv : shapeOf c t = zeroForm := by rw [← hq, hi.2, List.drop_of_length_le hil]; rfl
      refine AWp.exit ?_
      try simp only [thenQ, blockQ, noGo, reduceIte, Nat.reduceEqDiff]
      refine hK2 _ ?_
      refine AWp.regionW ?_
      refine AWp.ret ?_
      try simp only [thenQ, blockQ, noGo]
      refine bodyQ.m ?_
      clear hK4 K4 hK3 K3 hK2 K2 hK1 K1
      rw [hv]
      first | done | exact Hand.go
theorem sumUp_le (l : List GNode) (i : Nat) : sumUp 0 ((nLens (l.take i)).map (4 + ·)) ≤ nSize l := by
  have e : (nLens (l.take i)).map (4 + ·) = ((nLens l).map (4 + ·)).take i := by
    rw [nLens_map, nLens_map, List.map_take, List.map_take]
  rw [e]; exact sumUp_take _ i
/-- the size as the reference has it behind i nodes -/
def szR (l : List GNode) (i : Nat) : Nat := if i < l.length then upN (sumUp 0 ((nLens (l.take i)).map (4 + ·))) else nSize l
theorem upN_mod (n : Nat) : upN n % 4 = 0 := by unfold upN gapN; omega
theorem szR_step (l : List GNode) (i : Nat) (h : i < l.length) : szR l (i + 1) = if i < l.length - 1 then szR l i + (4 + vlen l[i]) + gapN (4 + vlen l[i]) else szR l i + (4 + vlen l[i]) := by
  have e : sumUp 0 ((nLens (l.take (i + 1))).map (4 + ·)) = upN (sumUp 0 ((nLens (l.take i)).map (4 + ·))) + (4 + vlen l[i]) := by
    rw [List.take_succ_eq_append_getElem h]
    have : nLens (l.take i ++ [l[i]]) = nLens (l.take i) ++ [vlen l[i]] := by rw [nLens_map, nLens_map, List.map_append]; rfl
    rw [this, List.map_append]
    exact sumUp_append _ _ _
  have hu := upN_mod (sumUp 0 ((nLens (l.take i)).map (4 + ·)))
  unfold szR
  rw [if_pos h]
  by_cases h2 : i < l.length - 1
  · rw [if_pos (by omega), if_pos h2, e]
    generalize upN (sumUp 0 ((nLens (l.take i)).map (4 + ·))) = u at hu
    unfold upN gapN; omega
  · rw [if_neg (by omega), if_neg h2, ← e]
    have : i + 1 = l.length := by omega
    rw [this, List.take_length]; rfl
theorem szR_le (l : List GNode) (i : Nat) : szR l i ≤ nSize l + 3 := by
  unfold szR
  split
  · have h1 := sumUp_le l i
    have h2 := gapN_le (sumUp 0 ((nLens (l.take i)).map (4 + ·)))
    unfold upN; omega
  · omega
theorem szR_zero (l : List GNode) : szR l 0 = 0 := by
  unfold szR
  split
  · simp [nLens, sumUp, upN, gapN]
  · have : l = [] := by cases l <;> simp_all
    subst this; rfl
theorem size08_step (l : List GNode) (hs : nSize l ≤ 2 ^ 30) (ih : ∀ a ∈ l, PC Tryz.prog 79 [.sl false 3 (nodesA false a.kids)] (nat (nSize a.kids))) :
    PC Tryz.prog 79 [.sl false 3 (nodesA false l)] (nat (nSize l)) := by
  have hlen := nSize_len l
  refine PC.of_bodyW (by simp only [push_cast]) Tryz.func79 rfl (by rw [Tryz.ntmps79]; simp) ?_
  refine AWp.regionW ?_
  refine AWp.regionW ?_
  refine AWp.seqK fun K1 hK1 => ?_
  refine AWp.regionW ?_
  refine AWp.block ?_
  refine AWp.loopK0 [0] (fun (i : Nat) => [(4, nat i), (3, nat (szR l i))]) (fun i => i ≤ l.length) (fun i => l.length - i) (0) ?_ (Nat.zero_le _) ?_
  · skip
    refine Le.m 0 ?_ ?_
    · first | with_reducible rfl | (simp only [push_cast, ↓reduceIte, Nat.reduceEqDiff, Nat.reduceLT, Nat.reduceAdd, Nat.reduceSub, Nat.reduceMul, Nat.reduceLeDiff, Nat.reducePow, Int.reduceLT, Int.reduceToNat, reduceCtorEq, Int.reduceNeg, Int.reduceEq, Nat.reduceBEq, Nat.reduceBNe, Int.reduceBEq, Int.reduceBNe, String.reduceEq]; first | done | rfl | (simp (disch := omega) only [w_nat, w_add, w_addl, w_addr, w_sub, w_subl, w_mul, w_mull, w_mulr, w_u32, w_u16, w_u8, w_u32a, N_zero]; first | done | rfl))
    · simp only [push_cast, ↓reduceIte, Nat.reduceEqDiff, Nat.reduceLT, Nat.reduceAdd, Nat.reduceSub, Nat.reduceMul, Nat.reduceLeDiff, Nat.reducePow, Int.reduceLT, Int.reduceToNat, reduceCtorEq, Int.reduceNeg, Int.reduceEq, Nat.reduceBEq, Nat.reduceBNe, Int.reduceBEq, Int.reduceBNe, String.reduceEq]
      try simp (disch := omega) only [w_nat, w_add, w_addl, w_addr, w_sub, w_subl, w_mul, w_mull, w_mulr, w_u32, w_u16, w_u8, w_u32a, N_zero]
      rw [szR_zero]; rfl
  · intro i hi K2 hK2
    refine AWp.seqK fun K3 hK3 => ?_
    refine AWp.regionW ?_
    refine AWp.condLM (fun c0 => ?_) (fun c0 => ?_)
    · skip
      have hil : i < l.length := by simpa using c0
      have hm := List.getElem_mem hil
      have hv := vlen_mem hm
      have he := vlen_eq l[i]
      have hst := szR_step l i hil
      have hle := szR_le l i
      have hg := gapN_le (4 + vlen l[i])
      refine AWp.skip ?_
      refine hK3 _ ?_
      refine AWp.seqK fun K4 hK4 => ?_
      refine AWp.block ?_
      refine AWp.drS [[(0, none)], [(4, none)], [(12, some 0), (13, some 1)], [(14, some 2)], [(15, some 3)], [(16, some 4)], [(17, some 5)], [(0, none)], [(4, none)], [(19, some 7), (20, some 8)], [(21, some 9)], [(22, some 10)], [(23, some 11)], [(18, some 6), (24, some 12)], [(25, some 13)]] fun G hG => ?_
      refine Dr.sim ?_
      try simp only [List.cons_append, List.nil_append]
      refine Dr.sim ?_
      try simp only [List.cons_append, List.nil_append]
      refine Dr.idx (i) (nodeA false l[i]) ?_ ?_
      · exact nodesA_at _ _ _ hil
      try simp only [List.cons_append, List.nil_append]
      refine Dr.sim ?_
      try simp only [List.cons_append, List.nil_append]
      refine Dr.sim ?_
      try simp only [List.cons_append, List.nil_append]
      refine Dr.sim ?_
      try simp only [List.cons_append, List.nil_append]
      refine Dr.sim ?_
      try simp only [List.cons_append, List.nil_append]
      refine Dr.sim ?_
      try simp only [List.cons_append, List.nil_append]
      refine Dr.sim ?_
      try simp only [List.cons_append, List.nil_append]
      refine Dr.idx (i) (nodeA false l[i]) ?_ ?_
      · exact nodesA_at _ _ _ hil
      try simp only [List.cons_append, List.nil_append]
      refine Dr.sim ?_
      try simp only [List.cons_append, List.nil_append]
      refine Dr.sim ?_
      try simp only [List.cons_append, List.nil_append]
      refine Dr.call (ih l[i] hm) ?_
      try simp only [List.cons_append, List.nil_append]
      refine Dr.sim ?_
      try simp only [List.cons_append, List.nil_append]
      refine Dr.sim ?_
      try simp only [List.cons_append, List.nil_append]
      refine Dr.finM (n := 15) [(5, 14)] [0, 3, 4] hG YtjbbkbpnagefoaaGreatDoor.Facts.mixed fun KD hKD => ?_
      refine ARun2.endm (hKD _ ?_); clear hKD KD hG G
      refine AWp.regionW ?_
      refine AWp.regionW ?_
      refine AWp.condLM (fun c1 => ?_) (fun c1 => ?_)
      · skip
        have h1 : i < l.length - 1 := by simpa using c1
        rw [if_pos h1] at hst
        refine AWp.regionN fun K5 hK5 => ?_
        rw [show 4 + l[i].data.length + nSize l[i].kids = 4 + vlen l[i] by omega]
        refine ARun2.callM (gap03_c (4 + vlen l[i]) (by omega)) ?_
        refine ARun2.endm (hK5 _ ?_)
        refine hK4 _ ?_
        refine AWp.regionV ?_
        refine hK2 _ (i + 1) (by omega) (by omega) ?_
        refine Le.m 0 ?_ ?_
        · first | with_reducible rfl | (simp only [push_cast, ↓reduceIte, Nat.reduceEqDiff, Nat.reduceLT, Nat.reduceAdd, Nat.reduceSub, Nat.reduceMul, Nat.reduceLeDiff, Nat.reducePow, Int.reduceLT, Int.reduceToNat, reduceCtorEq, Int.reduceNeg, Int.reduceEq, Nat.reduceBEq, Nat.reduceBNe, Int.reduceBEq, Int.reduceBNe, String.reduceEq]; first | done | rfl | (simp (disch := omega) only [w_nat, w_add, w_addl, w_addr, w_sub, w_subl, w_mul, w_mull, w_mulr, w_u32, w_u16, w_u8, w_u32a, N_zero]; first | done | rfl))
        · simp only [push_cast, ↓reduceIte, Nat.reduceEqDiff, Nat.reduceLT, Nat.reduceAdd, Nat.reduceSub, Nat.reduceMul, Nat.reduceLeDiff, Nat.reducePow, Int.reduceLT, Int.reduceToNat, reduceCtorEq, Int.reduceNeg, Int.reduceEq, Nat.reduceBEq, Nat.reduceBNe, Int.reduceBEq, Int.reduceBNe, String.reduceEq]
          try simp (disch := omega) only [w_nat, w_add, w_addl, w_addr, w_sub, w_subl, w_mul, w_mull, w_mulr, w_u32, w_u16, w_u8, w_u32a, N_zero]
          first | (rw [hst]; done) | (rw [hst]; congr 3; omega)
      · skip
        have h1 : ¬ i < l.length - 1 := by simpa using c1
        rw [if_neg h1] at hst
        refine AWp.skip ?_
        refine hK4 _ ?_
        refine AWp.regionV ?_
        refine hK2 _ (i + 1) (by omega) (by omega) ?_
        refine Le.m 0 ?_ ?_
        · first | with_reducible rfl | (simp only [push_cast, ↓reduceIte, Nat.reduceEqDiff, Nat.reduceLT, Nat.reduceAdd, Nat.reduceSub, Nat.reduceMul, Nat.reduceLeDiff, Nat.reducePow, Int.reduceLT, Int.reduceToNat, reduceCtorEq, Int.reduceNeg, Int.reduceEq, Nat.reduceBEq, Nat.reduceBNe, Int.reduceBEq, Int.reduceBNe, String.reduceEq]; first | done | rfl | (simp (disch := omega) only [w_nat, w_add, w_addl, w_addr, w_sub, w_subl, w_mul, w_mull, w_mulr, w_u32, w_u16, w_u8, w_u32a, N_zero]; first | done | rfl))
        · simp only [push_cast, ↓reduceIte, Nat.reduceEqDiff, Nat.reduceLT, Nat.reduceAdd, Nat.reduceSub, Nat.reduceMul, Nat.reduceLeDiff, Nat.reducePow, Int.reduceLT, Int.reduceToNat, reduceCtorEq, Int.reduceNeg, Int.reduceEq, Nat.reduceBEq, Nat.reduceBNe, Int.reduceBEq, Int.reduceBNe, String.reduceEq]
          try simp (disch := omega) only [w_nat, w_add, w_addl, w_addr, w_sub, w_subl, w_mul, w_mull, w_mulr, w_u32, w_u16, w_u8, w_u32a, N_zero]
          first | (rw [hst]; done) | (rw [hst]; congr 3; omega)
    · skip
      have hil : i = l.length := by simp at c0; omega
      subst hil
      refine AWp.exit ?_
      try simp only [thenQ, blockQ, noGo, reduceIte, Nat.reduceEqDiff]
      refine hK1 _ ?_
      refine AWp.regionW ?_
      refine AWp.ret ?_
      try simp only [thenQ, blockQ, noGo]
      refine bodyQ.m ?_
      clear hK3 K3 hK2 K2 hK1 K1
      unfold szR; rw [if_neg (Nat.lt_irrefl _)]
      first | done | exact Hand.go
theorem size08_w : ∀ (w : Nat) (l : List GNode), szs l ≤ w → nSize l ≤ 2 ^ 30 → PC Tryz.prog 79 [.sl false 3 (nodesA false l)] (nat (nSize l)) := by
  have kl : ∀ (a : GNode) (l : List GNode), a ∈ l → szs a.kids < szs l := by
    intro a l ha
    have := szs_mem ha; rw [GNode.sz_eq] at this; omega
  intro w
  induction w with
  | zero => exact fun l hw hs => size08_step l hs (fun a ha => by have := kl a l ha; omega)
  | succ w ih => exact fun l hw hs => size08_step l hs (fun a ha => by have := kl a l ha; have := nSize_kids ha; exact ih _ (by omega) (by omega))
theorem size08_c (l : List GNode) (hs : nSize l ≤ 2 ^ 30) : PC Tryz.prog 79 [.sl false 3 (nodesA false l)] (nat (nSize l)) := size08_w _ l (Nat.le_refl _) hs
end Go.Proofs.YtjbbkbpnagefoaaGreatDoor.C
/- The reference: Check, Count, Value, Types. -/
set_option linter.unusedVariables false
set_option linter.unusedSimpArgs false
namespace Go.Proofs.YtjbbkbpnagefoaaGreatDoor.C
open Go.Abs
theorem form_small (c t : Nat) : (shapeOf c t).kids ≤ 4 ∧ (shapeOf c t).least < 2 ^ 40 ∧ (shapeOf c t).most < 2 ^ 40 ∧ (shapeOf c t).unit < 2 ^ 40 ∧ (shapeHas c t = true → (shapeOf c t).cls = c ∧ 0 < (shapeOf c t).unit) ∧ (shapeHas c t = false → shapeOf c t = zeroForm) := by
  have key : ∀ l : List ShForm, (∀ f ∈ l, f.kids ≤ 4 ∧ f.least < 2 ^ 40 ∧ f.most < 2 ^ 40 ∧ f.unit < 2 ^ 40 ∧ 0 < f.unit) →
      let g := (((l.find? fun f => f.ty == t).map fun f => { f with cls := c }).getD zeroForm)
      g.kids ≤ 4 ∧ g.least < 2 ^ 40 ∧ g.most < 2 ^ 40 ∧ g.unit < 2 ^ 40 ∧ ((l.find? fun f => f.ty == t).isSome = true → g.cls = c ∧ 0 < g.unit) ∧ ((l.find? fun f => f.ty == t).isSome = false → g = zeroForm) := by
    intro l hl
    cases hf : l.find? (fun f => f.ty == t) with
    | none => simp [zeroForm]
    | some f =>
      have := hl f (List.mem_of_find?_eq_some hf)
      simp
      omega
  refine key (formsN c) ?_
  match c with
  | 0 => intro f hf; simp [formsN] at hf
  | 1 => decide
  | 2 => decide
  | _ + 3 => intro f hf; simp [formsN] at hf
theorem counted_eq (c t : Nat) (d : List UInt8) (k : List GNode) (h : badN c t d.length k = false) (hc : c = 2) (ht : t = 2) : (!countedR d) = countedN c t d := by
  subst hc; subst ht
  have hf : fitsN (shapeOf 2 2) d.length = true := by
    unfold badN at h
    have : shapeHas 2 2 = true := rfl
    rw [this] at h
    cases hq : fitsN (shapeOf 2 2) d.length with
    | true => rfl
    | false => rw [hq] at h; simp at h
  have hl : 6 ≤ d.length ∧ (d.length - 6) % 2 = 0 := by
    have e : shapeOf 2 2 = ⟨2, 2, ⟨#[109, 105, 115, 115, 105, 110, 103, 45, 112, 97, 114, 97, 109, 101, 116, 101, 114]⟩, 6, 65531, 2, 0⟩ := rfl
    rw [e] at hf
    unfold fitsN at hf
    simp only [Bool.and_eq_true, decide_eq_true_eq, beq_iff_eq] at hf
    exact ⟨hf.1.1, hf.2⟩
  unfold countedR countedN
  rw [Bool.eq_iff_iff]
  simp
  omega
theorem check08_step (c dp : Nat) (n : GNode) (hc : c = 1 ∨ c = 2) (hdp : dp < 2 ^ 60) (hs : nSize [n] ≤ 2 ^ 30)
    (ih : ∀ (c dp : Nat) (a : GNode), a ∈ n.kids → (c = 1 ∨ c = 2) → dp < 2 ^ 60 → nSize [a] ≤ 2 ^ 30 → PC Tryz.prog 78 [nat c, nodeA false a, nat dp] (nat (checkN c dp a))) :
    PC Tryz.prog 78 [nat c, nodeA false n, nat dp] (nat (checkN c dp n)) := by
  have hkl := nSize_len n.kids
  have hk1 := nSize_kids1 n
  have hdl := nSize_data n
  obtain ⟨f1, f2, f3, f4, f5, f6⟩ := form_small c n.ty
  have hcl : (shapeOf c n.ty).cls = if shapeHas c n.ty = true then c else 0 := by
    cases h : shapeHas c n.ty with
    | true => exact (f5 h).1
    | false => rw [f6 h]; rfl
  have hc0 : ((shapeOf c n.ty).cls == 0) = !shapeHas c n.ty := by
    rw [hcl]; cases shapeHas c n.ty <;> simp; omega
  have hc1 : decide (0 < (shapeOf c n.ty).cls) = shapeHas c n.ty := by
    rw [hcl]; cases shapeHas c n.ty <;> simp; omega
  refine PC.of_bodyW (by simp only [push_cast]) Tryz.func78 rfl (by rw [Tryz.ntmps78]; simp) ?_
  refine AWp.regionW ?_
  refine AWp.seqK fun K1 hK1 => ?_
  refine AWp.regionW ?_
  refine AWp.condLM (fun c0 => ?_) (fun c0 => ?_)
  · skip
    have h0 : 4 < dp := by simpa using c0
    refine AWp.regionW ?_
    refine AWp.ret ?_
    try simp only [thenQ, blockQ, noGo]
    refine bodyQ.m ?_
    clear hK1 K1
    rw [checkN_eq, if_pos h0]
    first | done | exact Hand.go
  · skip
    have h0 : ¬ 4 < dp := by simpa using c0
    refine AWp.skip ?_
    refine hK1 _ ?_
    refine AWp.regionM fun K2 hK2 => ?_
    refine ARun2.callM (of07_c c n.ty hc) ?_
    refine ARun2.endm (hK2 _ ?_)
    refine AWp.seqK fun K3 hK3 => ?_
    refine AWp.regionA fun K4 hK4 => ?_
    refine ARun.segm 4 fun KS hKS => ?_
    refine ARun2.endm (hKS _ ?_); clear hKS KS
    apply ARun.grpM 4 3 true 23 [0, 2, 4, 7, 19]
    · intro g3 KG hKG
      refine ARun2.gom ?_
      exact ARun2.endm (hKG _ Le.grpM)
    refine ARun2.gom ?_
    refine ARun2.endm (hK4 _ ?_)
    refine AWp.condLM (fun c1 => ?_) (fun c1 => ?_)
    · skip
      rw [hc0] at c1
      have hb : badN c n.ty n.data.length n.kids = true := by unfold badN; rw [c1]; rfl
      refine AWp.regionW ?_
      refine AWp.ret ?_
      try simp only [thenQ, blockQ, noGo]
      refine bodyQ.m ?_
      clear hK4 K4 hK3 K3 hK2 K2 hK1 K1
      rw [checkN_eq, if_neg h0, if_pos hb]
      first | done | exact Hand.go
    · skip
      rw [hc0] at c1
      refine AWp.skip ?_
      refine hK3 _ ?_
      refine AWp.seqK fun K5 hK5 => ?_
      refine AWp.regionA fun K6 hK6 => ?_
      refine ARun.segm 4 fun KS hKS => ?_
      refine ARun2.endm (hKS _ ?_); clear hKS KS
      apply ARun.grpM 13 3 true 41 [0, 2, 4, 7, 28]
      · intro g3 KG hKG
        rw [hc1] at g3
        refine ARun.segm 7 fun KS hKS => ?_
        refine ARun2.callM (fits07_c (shapeOf c n.ty) n.data.length (by omega) f2 f3 (f5 g3).2 f4) ?_
        refine ARun2.endm (hKS _ ?_); clear hKS KS
        apply ARun.grpM 5 10 false 40 [0, 2, 4, 7, 28, 35]
        · intro g10 KG hKG
          refine ARun2.gom ?_
          refine ARun2.callM (wanted_c (shapeOf c n.ty) n.kids (by omega) f1) ?_
          exact ARun2.endm (hKG _ Le.grpM)
        refine ARun2.gom ?_
        exact ARun2.endm (hKG _ Le.grpM)
      refine ARun2.gom ?_
      refine ARun2.endm (hK6 _ ?_)
      refine AWp.condLM (fun c2 => ?_) (fun c2 => ?_)
      · skip
        rw [hc1] at c2
        have hb : badN c n.ty n.data.length n.kids = true := by
          unfold badN; revert c1 c2
          cases shapeHas c n.ty <;> cases fitsN (shapeOf c n.ty) n.data.length <;> cases kidsOk (shapeOf c n.ty) n.kids <;> simp
        refine AWp.regionW ?_
        refine AWp.ret ?_
        try simp only [thenQ, blockQ, noGo]
        refine bodyQ.m ?_
        clear hK6 K6 hK5 K5 hK4 K4 hK3 K3 hK2 K2 hK1 K1
        rw [checkN_eq, if_neg h0, if_pos hb]
        first | done | exact Hand.go
      · skip
        rw [hc1] at c2
        have hb : badN c n.ty n.data.length n.kids = false := by
          unfold badN; revert c1 c2
          cases shapeHas c n.ty <;> cases fitsN (shapeOf c n.ty) n.data.length <;> cases kidsOk (shapeOf c n.ty) n.kids <;> simp
        have hb' : ¬ badN c n.ty n.data.length n.kids = true := by rw [hb]; simp
        refine AWp.skip ?_
        refine hK5 _ ?_
        refine AWp.seqK fun K7 hK7 => ?_
        refine AWp.regionA fun K8 hK8 => ?_
        refine ARun.segm 3 fun KS hKS => ?_
        refine ARun2.endm (hKS _ ?_); clear hKS KS
        apply ARun.grpM 3 2 true 48 [2, 4, 7, 45]
        · intro g2 KG hKG
          refine ARun2.gom ?_
          exact ARun2.endm (hKG _ Le.grpM)
        refine ARun.segm 2 fun KS hKS => ?_
        refine ARun2.endm (hKS _ ?_); clear hKS KS
        apply ARun.grpM 4 7 true 54 [2, 4, 7, 50]
        · intro g7 KG hKG
          refine ARun2.gom ?_
          refine ARun2.callM (counted08_c n.data (by omega)) ?_
          exact ARun2.endm (hKG _ Le.grpM)
        refine ARun2.gom ?_
        refine ARun2.endm (hK8 _ ?_)
        refine AWp.condLM (fun c3 => ?_) (fun c3 => ?_)
        · skip
          have h3 : countedN c n.ty n.data = true := by
            simp only [Bool.and_eq_true, beq_iff_eq] at c3
            rw [← counted_eq c n.ty n.data n.kids hb c3.1.1 c3.1.2]; exact c3.2
          refine AWp.regionW ?_
          refine AWp.ret ?_
          try simp only [thenQ, blockQ, noGo]
          refine bodyQ.m ?_
          clear hK8 K8 hK7 K7 hK6 K6 hK5 K5 hK4 K4 hK3 K3 hK2 K2 hK1 K1
          rw [checkN_eq, if_neg h0, if_neg hb', if_pos h3]
          first | done | exact Hand.go
        · skip
          have h3 : ¬ countedN c n.ty n.data = true := by
            intro h3
            have e : c = 2 ∧ n.ty = 2 := by unfold countedN at h3; simp only [Bool.and_eq_true, beq_iff_eq] at h3; exact ⟨h3.1, h3.2.1⟩
            rw [← counted_eq c n.ty n.data n.kids hb e.1 e.2] at h3
            rw [e.1, e.2, h3] at c3
            simp at c3
          refine AWp.skip ?_
          refine hK7 _ ?_
          refine AWp.seqK fun K9 hK9 => ?_
          refine AWp.regionW ?_
          refine AWp.block ?_
          refine AWp.loopK0 [2, 4, 7] (fun (i : Nat) => [(8, nat i)]) (fun i => i ≤ n.kids.length ∧ checkL (insideN (shapeOf c n.ty).kids).1 (dp + 1) (n.kids.take i) = 0) (fun i => n.kids.length - i) (0) ?_ ⟨Nat.zero_le _, rfl⟩ ?_
          · skip
            refine Le.m 2 ?_ ?_
            · first | with_reducible rfl | (simp only [push_cast, ↓reduceIte, Nat.reduceEqDiff, Nat.reduceLT, Nat.reduceAdd, Nat.reduceSub, Nat.reduceMul, Nat.reduceLeDiff, Nat.reducePow, Int.reduceLT, Int.reduceToNat, reduceCtorEq, Int.reduceNeg, Int.reduceEq, Nat.reduceBEq, Nat.reduceBNe, Int.reduceBEq, Int.reduceBNe, String.reduceEq]; first | done | rfl | (simp (disch := omega) only [w_nat, w_add, w_addl, w_addr, w_sub, w_subl, w_mul, w_mull, w_mulr, w_u32, w_u16, w_u8, w_u32a, N_zero]; first | done | rfl))
            · first | (simp only [push_cast, ↓reduceIte, Nat.reduceEqDiff, Nat.reduceLT, Nat.reduceAdd, Nat.reduceSub, Nat.reduceMul, Nat.reduceLeDiff, Nat.reducePow, Int.reduceLT, Int.reduceToNat, reduceCtorEq, Int.reduceNeg, Int.reduceEq, Nat.reduceBEq, Nat.reduceBNe, Int.reduceBEq, Int.reduceBNe, String.reduceEq]; first | done | rfl | (simp (disch := omega) only [w_nat, w_add, w_addl, w_addr, w_sub, w_subl, w_mul, w_mull, w_mulr, w_u32, w_u16, w_u8, w_u32a, N_zero]; first | done | rfl))
          · intro i hi K10 hK10
            refine AWp.seqK fun K11 hK11 => ?_
            refine AWp.regionW ?_
            refine AWp.condLM (fun c4 => ?_) (fun c4 => ?_)
            · skip
              have hil : i < n.kids.length := by simpa using c4
              have hm := List.getElem_mem hil
              have hci := inside_class c n.ty n.data.length n.kids hb (by omega)
              refine AWp.skip ?_
              refine hK11 _ ?_
              refine AWp.seqK fun K12 hK12 => ?_
              refine AWp.block ?_
              refine AWp.drS [[(7, none)], [(63, some 0)], [(64, some 1)], [(4, none)], [(66, some 3)], [(8, none)], [(67, some 4), (68, some 5)], [(69, some 6)], [(2, none)], [(71, some 8)], [(65, some 2), (70, some 7), (72, some 9)], [(73, some 10)]] fun G hG => ?_
              refine Dr.sim ?_
              try simp only [List.cons_append, List.nil_append]
              refine Dr.sim ?_
              try simp only [List.cons_append, List.nil_append]
              refine Dr.call (inside08_c (shapeOf c n.ty).kids f1) ?_
              try simp only [List.cons_append, List.nil_append]
              refine Dr.sim ?_
              try simp only [List.cons_append, List.nil_append]
              refine Dr.sim ?_
              try simp only [List.cons_append, List.nil_append]
              refine Dr.sim ?_
              try simp only [List.cons_append, List.nil_append]
              refine Dr.idx (i) (nodeA false n.kids[i]) ?_ ?_
              · exact nodesA_at _ _ _ hil
              try simp only [List.cons_append, List.nil_append]
              refine Dr.sim ?_
              try simp only [List.cons_append, List.nil_append]
              refine Dr.sim ?_
              try simp only [List.cons_append, List.nil_append]
              refine Dr.sim ?_
              try simp only [List.cons_append, List.nil_append]
              refine Dr.call (ih (insideN (shapeOf c n.ty).kids).1 (dp + 1) n.kids[i] hm hci (by omega) (by have := nSize_one hm; omega)) ?_
              try simp only [List.cons_append, List.nil_append]
              refine Dr.sim ?_
              try simp only [List.cons_append, List.nil_append]
              refine Dr.finM (n := 12) [(9, 11)] [2, 4, 7, 8] hG YtjbbkbpnagefoaaGreatDoor.Facts.mixed fun KD hKD => ?_
              refine ARun2.endm (hKD _ ?_); clear hKD KD hG G
              refine AWp.regionW ?_
              refine AWp.condLM (fun c5 => ?_) (fun c5 => ?_)
              · skip
                have h5 : checkN (insideN (shapeOf c n.ty).kids).1 (dp + 1) n.kids[i] ≠ 0 := by simpa using c5
                refine AWp.regionW ?_
                refine AWp.ret ?_
                try simp only [thenQ, blockQ, noGo]
                refine bodyQ.m ?_
                clear hK12 K12 hK11 K11 hK10 K10 hK9 K9 hK8 K8 hK7 K7 hK6 K6 hK5 K5 hK4 K4 hK3 K3 hK2 K2 hK1 K1
                have hL := checkL_at _ _ n.kids i hil hi.2 h5
                rw [checkN_eq c dp n, if_neg h0, if_neg hb', if_neg h3, if_pos (by rw [hL]; exact h5), hL]
                first | done | exact Hand.go
              · skip
                have h5 : checkN (insideN (shapeOf c n.ty).kids).1 (dp + 1) n.kids[i] = 0 := by simpa using c5
                refine AWp.skip ?_
                refine hK12 _ ?_
                refine AWp.regionV ?_
                refine hK10 _ (i + 1) (⟨by omega, by rw [List.take_succ_eq_append_getElem hil, checkL_snoc, hi.2]; simpa using h5⟩) (by omega) ?_
                refine Le.m 2 ?_ ?_
                · first | with_reducible rfl | (simp only [push_cast, ↓reduceIte, Nat.reduceEqDiff, Nat.reduceLT, Nat.reduceAdd, Nat.reduceSub, Nat.reduceMul, Nat.reduceLeDiff, Nat.reducePow, Int.reduceLT, Int.reduceToNat, reduceCtorEq, Int.reduceNeg, Int.reduceEq, Nat.reduceBEq, Nat.reduceBNe, Int.reduceBEq, Int.reduceBNe, String.reduceEq]; first | done | rfl | (simp (disch := omega) only [w_nat, w_add, w_addl, w_addr, w_sub, w_subl, w_mul, w_mull, w_mulr, w_u32, w_u16, w_u8, w_u32a, N_zero]; first | done | rfl))
                · first | (simp only [push_cast, ↓reduceIte, Nat.reduceEqDiff, Nat.reduceLT, Nat.reduceAdd, Nat.reduceSub, Nat.reduceMul, Nat.reduceLeDiff, Nat.reducePow, Int.reduceLT, Int.reduceToNat, reduceCtorEq, Int.reduceNeg, Int.reduceEq, Nat.reduceBEq, Nat.reduceBNe, Int.reduceBEq, Int.reduceBNe, String.reduceEq]; first | done | rfl | (simp (disch := omega) only [w_nat, w_add, w_addl, w_addr, w_sub, w_subl, w_mul, w_mull, w_mulr, w_u32, w_u16, w_u8, w_u32a, N_zero]; first | done | rfl))
            · skip
              have hil : i = n.kids.length := by have := hi.1; simp at c4; omega
              have hL : checkL (insideN (shapeOf c n.ty).kids).1 (dp + 1) n.kids = 0 := by have := hi.2; rwa [hil, List.take_length] at this
              subst hil
              refine AWp.exit ?_
              try simp only [thenQ, blockQ, noGo, reduceIte, Nat.reduceEqDiff]
              refine hK9 _ ?_
              refine AWp.seqK fun K13 hK13 => ?_
              refine AWp.regionM fun K14 hK14 => ?_
              refine ARun2.callM (size08_c [n] hs) ?_
              refine ARun2.endm (hK14 _ ?_)
              refine AWp.condLM (fun c6 => ?_) (fun c6 => ?_)
              · skip
                have h6 : 65535 < nSize [n] := by simpa using c6
                refine AWp.regionW ?_
                refine AWp.ret ?_
                try simp only [thenQ, blockQ, noGo]
                refine bodyQ.m ?_
                clear hK14 K14 hK13 K13 hK11 K11 hK10 K10 hK9 K9 hK8 K8 hK7 K7 hK6 K6 hK5 K5 hK4 K4 hK3 K3 hK2 K2 hK1 K1
                rw [checkN_eq, if_neg h0, if_neg hb', if_neg h3, if_neg (by rw [hL]; simp), if_pos h6]
                first | done | exact Hand.go
              · skip
                have h6 : ¬ 65535 < nSize [n] := by simpa using c6
                refine AWp.skip ?_
                refine hK13 _ ?_
                refine AWp.regionW ?_
                refine AWp.ret ?_
                try simp only [thenQ, blockQ, noGo]
                refine bodyQ.m ?_
                clear hK14 K14 hK13 K13 hK11 K11 hK10 K10 hK9 K9 hK8 K8 hK7 K7 hK6 K6 hK5 K5 hK4 K4 hK3 K3 hK2 K2 hK1 K1
                rw [checkN_eq, if_neg h0, if_neg hb', if_neg h3, if_neg (by rw [hL]; simp), if_neg h6]
                first | done | exact Hand.go
theorem check08_w : ∀ (w c dp : Nat) (n : GNode), n.sz ≤ w → (c = 1 ∨ c = 2) → dp < 2 ^ 60 → nSize [n] ≤ 2 ^ 30 → PC Tryz.prog 78 [nat c, nodeA false n, nat dp] (nat (checkN c dp n)) := by
  intro w
  induction w with
  | zero => intro c dp n h; have := n.sz_eq; omega
  | succ w ih => exact fun c dp n hw hc hdp hs => check08_step c dp n hc hdp hs (fun c dp a ha hc hdp hs => ih c dp a (by have := szs_lt ha; omega) hc hdp hs)
theorem check08_c (c dp : Nat) (n : GNode) (hc : c = 1 ∨ c = 2) (hdp : dp < 2 ^ 60) (hs : nSize [n] ≤ 2 ^ 30) : PC Tryz.prog 78 [nat c, nodeA false n, nat dp] (nat (checkN c dp n)) := check08_w _ c dp n (Nat.le_refl _) hc hdp hs
end Go.Proofs.YtjbbkbpnagefoaaGreatDoor.C
/- The reference: Count, Few, Value, Types. -/
set_option linter.unusedVariables false
set_option linter.unusedSimpArgs false
namespace Go.Proofs.YtjbbkbpnagefoaaGreatDoor.C
open Go.Abs
/-- the loop of Count -/
def cntL (g : GNode → Nat) : List GNode → Nat → Nat
  | [], s => s
  | n :: l, s => if s < 1000 then cntL g l (s + 1 + n.data.length / 1000 + g n) else s
/-- how many nodes there are, up to a bound; f: how much deeper it may go -/
def countF : Nat → List GNode → Nat
  | 0, _ => 1000
  | f + 1, l => cntL (fun n => countF f n.kids) l 0
theorem cntL_le (g : GNode → Nat) (hg : ∀ n, g n ≤ 1000 + 2000 * szs n.kids) : ∀ (l : List GNode) (s : Nat), cntL g l s ≤ s + 2000 * szs l
  | [], s => by simp [cntL, szs]
  | n :: l, s => by
    have h1 := n.sz_eq
    have h2 := hg n
    have h3 := cntL_le g hg l (s + 1 + n.data.length / 1000 + g n)
    simp only [cntL, szs]
    split <;> omega
theorem countF_le : ∀ (f : Nat) (l : List GNode), countF f l ≤ 1000 + 2000 * szs l
  | 0, l => by simp [countF]
  | f + 1, l => by
    have := cntL_le (fun n => countF f n.kids) (fun n => countF_le f n.kids) l 0
    simp only [countF]; omega
theorem szs_take (l : List GNode) (i : Nat) (h : i < l.length) : szs (l.take (i + 1)) = szs (l.take i) + l[i].sz := by
  rw [List.take_succ_eq_append_getElem h]
  generalize l.take i = a
  induction a with
  | nil => simp [szs]
  | cons x a ih => simp only [List.cons_append, szs, ih]; omega
theorem count_step (f dp : Nat) (hf : f + dp = 21) (l : List GNode) (hs : szs l ≤ 2 ^ 30) (ih : ∀ a ∈ l, 0 < f → PC Tryz.prog 62 [.sl false 3 (nodesA false a.kids), nat (dp + 1)] (nat (countF (f - 1) a.kids))) :
    PC Tryz.prog 62 [.sl false 3 (nodesA false l), nat dp] (nat (countF f l)) := by
  have hlen := szs_len l
  refine PC.of_bodyW (by simp only [push_cast]) Tryz.func62 rfl (by rw [Tryz.ntmps62]; simp) ?_
  refine AWp.regionW ?_
  refine AWp.regionW ?_
  refine AWp.seqK fun K1 hK1 => ?_
  refine AWp.regionW ?_
  refine AWp.condLM (fun c0 => ?_) (fun c0 => ?_)
  · skip
    have h0 : f = 0 := by have := of_decide_eq_true c0; omega
    refine AWp.regionW ?_
    refine AWp.ret ?_
    try simp only [thenQ, blockQ, noGo]
    refine bodyQ.m ?_
    clear hK1 K1
    rw [h0, countF]
    first | done | exact Hand.go
  · skip
    obtain ⟨e, rfl⟩ : ∃ e, f = e + 1 := ⟨f - 1, by have : ¬ 20 < dp := of_decide_eq_false c0; omega⟩
    rw [Nat.add_sub_cancel] at ih
    have hq : countF (e + 1) l = cntL (fun n => countF e n.kids) l 0 := rfl
    refine AWp.skip ?_
    refine hK1 _ ?_
    refine AWp.seqK fun K2 hK2 => ?_
    refine AWp.regionW ?_
    refine AWp.block ?_
    refine AWp.loopK0 [0, 1] (fun (x : Nat × Nat) => [(6, nat x.1), (5, nat x.2)]) (fun x => x.1 ≤ l.length ∧ cntL (fun n => countF e n.kids) (l.drop x.1) x.2 = countF (e + 1) l ∧ x.2 ≤ 2000 * szs (l.take x.1)) (fun x => l.length - x.1) ((0, 0)) ?_ ⟨Nat.zero_le _, rfl, Nat.zero_le _⟩ ?_
    · skip
      refine Le.m 0 ?_ ?_
      · first | with_reducible rfl | (simp only [push_cast, ↓reduceIte, Nat.reduceEqDiff, Nat.reduceLT, Nat.reduceAdd, Nat.reduceSub, Nat.reduceMul, Nat.reduceLeDiff, Nat.reducePow, Int.reduceLT, Int.reduceToNat, reduceCtorEq, Int.reduceNeg, Int.reduceEq, Nat.reduceBEq, Nat.reduceBNe, Int.reduceBEq, Int.reduceBNe, String.reduceEq]; first | done | rfl | (simp (disch := omega) only [w_nat, w_add, w_addl, w_addr, w_sub, w_subl, w_mul, w_mull, w_mulr, w_u32, w_u16, w_u8, w_u32a, N_zero]; first | done | rfl))
      · first | (simp only [push_cast, ↓reduceIte, Nat.reduceEqDiff, Nat.reduceLT, Nat.reduceAdd, Nat.reduceSub, Nat.reduceMul, Nat.reduceLeDiff, Nat.reducePow, Int.reduceLT, Int.reduceToNat, reduceCtorEq, Int.reduceNeg, Int.reduceEq, Nat.reduceBEq, Nat.reduceBNe, Int.reduceBEq, Int.reduceBNe, String.reduceEq]; first | done | rfl | (simp (disch := omega) only [w_nat, w_add, w_addl, w_addr, w_sub, w_subl, w_mul, w_mull, w_mulr, w_u32, w_u16, w_u8, w_u32a, N_zero]; first | done | rfl))
    · intro x hx K3 hK3
      obtain ⟨i, s⟩ := x
      obtain ⟨hi, hc, hb⟩ := hx
      simp only at hi hc hb
      refine AWp.seqK fun K4 hK4 => ?_
      refine AWp.regionA fun K5 hK5 => ?_
      refine ARun.segm 5 fun KS hKS => ?_
      refine ARun2.endm (hKS _ ?_); clear hKS KS
      apply ARun.grpM 2 4 true 15 [0, 1, 5, 6, 13]
      · intro g4 KG hKG
        refine ARun2.gom ?_
        exact ARun2.endm (hKG _ Le.grpM)
      refine ARun2.gom ?_
      refine ARun2.endm (hK5 _ ?_)
      refine AWp.condLM (fun c1 => ?_) (fun c1 => ?_)
      · skip
        have h1 : i < l.length ∧ s < 1000 := by simpa using c1
        have hil := h1.1
        have hm := List.getElem_mem hil
        have hsm := szs_mem hm
        have hse := GNode.sz_eq l[i]
        have hcl := countF_le e l[i].kids
        have hst := szs_take l i hil
        have hd : l.drop i = l[i] :: l.drop (i + 1) := List.drop_eq_getElem_cons hil
        refine AWp.skip ?_
        refine hK4 _ ?_
        refine AWp.seqK fun K6 hK6 => ?_
        refine AWp.block ?_
        refine AWp.drE [[(5, none)], [(19, some 0)], [(0, none)], [(6, none)], [(21, some 2), (22, some 3)], [(23, some 4)], [(24, some 5)], [(25, some 6)], [(26, some 7)], [(20, some 1), (27, some 8)], [(0, none)], [(6, none)], [(29, some 10), (30, some 11)], [(31, some 12)], [(32, some 13)], [(1, none)], [(34, some 15)], [(33, some 14), (35, some 16)], [(28, some 9), (36, some 17)], [(37, some 18)]] fun G hG => ?_
        refine Dr.sim ?_
        try simp only [List.cons_append, List.nil_append]
        refine Dr.sim ?_
        try simp only [List.cons_append, List.nil_append]
        refine Dr.sim ?_
        try simp only [List.cons_append, List.nil_append]
        refine Dr.sim ?_
        try simp only [List.cons_append, List.nil_append]
        refine Dr.idx (i) (nodeA false l[i]) ?_ ?_
        · exact nodesA_at _ _ _ hil
        try simp only [List.cons_append, List.nil_append]
        refine Dr.sim ?_
        try simp only [List.cons_append, List.nil_append]
        refine Dr.sim ?_
        try simp only [List.cons_append, List.nil_append]
        refine Dr.sim ?_
        try simp only [List.cons_append, List.nil_append]
        refine Dr.sim ?_
        try simp only [List.cons_append, List.nil_append]
        refine Dr.sim ?_
        try simp only [List.cons_append, List.nil_append]
        refine Dr.sim ?_
        try simp only [List.cons_append, List.nil_append]
        refine Dr.sim ?_
        try simp only [List.cons_append, List.nil_append]
        refine Dr.idx (i) (nodeA false l[i]) ?_ ?_
        · exact nodesA_at _ _ _ hil
        try simp only [List.cons_append, List.nil_append]
        refine Dr.sim ?_
        try simp only [List.cons_append, List.nil_append]
        refine Dr.sim ?_
        try simp only [List.cons_append, List.nil_append]
        refine Dr.sim ?_
        try simp only [List.cons_append, List.nil_append]
        refine Dr.sim ?_
        try simp only [List.cons_append, List.nil_append]
        refine Dr.call (ih l[i] hm (by omega)) ?_
        try simp only [List.cons_append, List.nil_append]
        refine Dr.sim ?_
        try simp only [List.cons_append, List.nil_append]
        refine Dr.sim ?_
        try simp only [List.cons_append, List.nil_append]
        refine Dr.finN (n := 20) [(5, 19)] [0, 1, 6] hG YtjbbkbpnagefoaaGreatDoor.Facts.mixed fun KD hKD => ?_
        refine ARun2.endm (hKD _ ?_); clear hKD KD hG G
        refine hK6 _ ?_
        refine AWp.regionV ?_
        refine hK3 _ ((i + 1, s + 1 + l[i].data.length / 1000 + countF e l[i].kids)) (⟨hil, by rw [← hc, hd, cntL, if_pos h1.2], by simp only; omega⟩) (by simp only; omega) ?_
        refine Le.m 0 ?_ ?_
        · first | with_reducible rfl | (simp only [push_cast, ↓reduceIte, Nat.reduceEqDiff, Nat.reduceLT, Nat.reduceAdd, Nat.reduceSub, Nat.reduceMul, Nat.reduceLeDiff, Nat.reducePow, Int.reduceLT, Int.reduceToNat, reduceCtorEq, Int.reduceNeg, Int.reduceEq, Nat.reduceBEq, Nat.reduceBNe, Int.reduceBEq, Int.reduceBNe, String.reduceEq]; first | done | rfl | (simp (disch := omega) only [w_nat, w_add, w_addl, w_addr, w_sub, w_subl, w_mul, w_mull, w_mulr, w_u32, w_u16, w_u8, w_u32a, N_zero]; first | done | rfl))
        · first | (simp only [push_cast, ↓reduceIte, Nat.reduceEqDiff, Nat.reduceLT, Nat.reduceAdd, Nat.reduceSub, Nat.reduceMul, Nat.reduceLeDiff, Nat.reducePow, Int.reduceLT, Int.reduceToNat, reduceCtorEq, Int.reduceNeg, Int.reduceEq, Nat.reduceBEq, Nat.reduceBNe, Int.reduceBEq, Int.reduceBNe, String.reduceEq]; first | done | rfl | (simp (disch := omega) only [w_nat, w_add, w_addl, w_addr, w_sub, w_subl, w_mul, w_mull, w_mulr, w_u32, w_u16, w_u8, w_u32a, N_zero]; first | done | rfl))
      · skip
        have h1 : ¬ (i < l.length ∧ s < 1000) := by intro h; simp [h.1, h.2] at c1
        have hr : countF (e + 1) l = s := by
          rw [← hc]
          rcases Nat.lt_or_ge i l.length with h | h
          · rw [List.drop_eq_getElem_cons h, cntL, if_neg (fun h2 => h1 ⟨h, h2⟩)]
          · rw [List.drop_of_length_le h, cntL]
        refine AWp.exit ?_
        try simp only [thenQ, blockQ, noGo, reduceIte, Nat.reduceEqDiff]
        refine hK2 _ ?_
        refine AWp.regionW ?_
        refine AWp.ret ?_
        try simp only [thenQ, blockQ, noGo]
        refine bodyQ.m ?_
        clear hK5 K5 hK4 K4 hK3 K3 hK2 K2 hK1 K1
        rw [hr]
        first | done | exact Hand.go
theorem count_w : ∀ (f dp : Nat) (l : List GNode), f + dp = 21 → szs l ≤ 2 ^ 30 → PC Tryz.prog 62 [.sl false 3 (nodesA false l), nat dp] (nat (countF f l)) := by
  intro f
  induction f with
  | zero => exact fun dp l h hs => count_step 0 dp h l hs (fun a _ h => by omega)
  | succ f ih => exact fun dp l h hs => count_step (f + 1) dp h l hs (fun a ha _ => ih (dp + 1) a.kids (by omega) (by have := szs_mem ha; rw [GNode.sz_eq] at this; omega))
/-- are there few nodes? -/
def fewN (l : List GNode) : Bool := decide (countF 21 l ≤ 200)
theorem few_c (l : List GNode) (hs : szs l ≤ 2 ^ 30) : PC Tryz.prog 26 [.sl false 3 (nodesA false l)] (bool (fewN l)) := by
  refine PC.of_bodyW (by simp only [push_cast]) Tryz.func26 rfl (by rw [Tryz.ntmps26]; simp) ?_
  refine AWp.regionW ?_
  refine AWp.regionM fun K1 hK1 => ?_
  refine ARun2.callM (count_w 21 0 l rfl hs) ?_
  refine ARun2.endm (hK1 _ ?_)
  refine AWp.ret ?_
  try simp only [thenQ, blockQ, noGo]
  refine bodyQ.m ?_
  clear hK1 K1
  rw [fewN]
  first | done | exact Hand.go
end Go.Proofs.YtjbbkbpnagefoaaGreatDoor.C
/- The reference: Types; plain laws on values. -/
set_option linter.unusedVariables false
set_option linter.unusedSimpArgs false
namespace Go.Proofs.YtjbbkbpnagefoaaGreatDoor.C
open Go.Abs
end Go.Proofs.YtjbbkbpnagefoaaGreatDoor.C
/- What is made anew: Clone, right, Chunk, Message. -/
set_option linter.unusedVariables false
set_option linter.unusedSimpArgs false
namespace Go.Abs
@[push_cast] theorem bys_fresh (l : List UInt8) : AV.freshL (bys l) = true := by
  unfold bys
  induction l with
  | nil => rfl
  | cons x l ih => simp only [List.map_cons, AV.freshL, AV.fresh, ih]; rfl
@[push_cast] theorem bys_ones (l : List UInt8) : (bys l).all AV.one = true := by
  unfold bys
  rw [List.all_eq_true]; intro x hx; simp only [List.mem_map] at hx; obtain ⟨b, _, rfl⟩ := hx; rfl
mutual
theorem nodeA_fresh : ∀ n : GNode, (nodeA true n).fresh = true
  | .mk t d k => by simp only [nodeA, AV.fresh, AV.freshL, bys_fresh, nodesA_fresh k, Bool.and_true]
theorem nodesA_fresh : ∀ l : List GNode, AV.freshL (nodesA true l) = true
  | [] => by simp [nodesA, AV.freshL]
  | n :: l => by simp only [nodesA, AV.freshL, nodeA_fresh n, nodesA_fresh l, Bool.and_true]
end
attribute [push_cast] nodesA_fresh
end Go.Abs
namespace Go.Proofs.YtjbbkbpnagefoaaGreatDoor.C
open Go.Abs
theorem nclone_fstep (n : GNode) (hs : n.sz ≤ 2 ^ 40) (ih : ∀ a : GNode, a.sz < n.sz → PC Tryz.prog 91 [nodeA false a] (nodeA true a)) : PC Tryz.prog 91 [nodeA false n] (nodeA true n) := by
  have hsz := n.sz_eq
  have hlen := szs_len n.kids
  refine PC.of_bodyK (by simp only [push_cast]) Tryz.func91 rfl (by rw [Tryz.ntmps91]; simp) ?_
  refine AWp.regionW ?_
  refine AWp.drS [[(1, none)], [(6, some 0)], [(1, none)], [(8, some 2)], [(9, some 3)], [(7, some 1), (10, some 4)], []] fun G hG => ?_
  refine Dr.sim ?_
  try simp only [List.cons_append, List.nil_append]
  refine Dr.sim ?_
  try simp only [List.cons_append, List.nil_append]
  refine Dr.sim ?_
  try simp only [List.cons_append, List.nil_append]
  refine Dr.sim ?_
  try simp only [List.cons_append, List.nil_append]
  refine Dr.call (clone_c n.data (by omega)) ?_
  try simp only [List.cons_append, List.nil_append]
  refine Dr.sim ?_
  try simp only [List.cons_append, List.nil_append]
  refine Dr.al ?_
  try simp only [List.cons_append, List.nil_append]
  refine Dr.finA (n := 7) 6 [(11, 5), (3, 6)] [1, 2] hG YtjbbkbpnagefoaaGreatDoor.Facts.mixed fun KD hKD => ?_
  refine ARun2.endm (hKD _ ?_); clear hKD KD hG G
  refine AWp.seqK fun K1 hK1 => ?_
  refine AWp.regionW ?_
  refine AWp.block ?_
  refine AWp.nilBox 2 2 36 3 rfl rfl ?_
  simp only [push_cast, ↓reduceIte, Nat.reduceEqDiff, Nat.reduceLT, Nat.reduceAdd, Nat.reduceSub, Nat.reduceMul, Nat.reduceLeDiff, Nat.reducePow, Int.reduceLT, Int.reduceToNat, reduceCtorEq, Int.reduceNeg, Int.reduceEq, Nat.reduceBEq, Nat.reduceBNe, Int.reduceBEq, Int.reduceBNe, String.reduceEq]
  refine AWp.loopK [2, 3, 13, 14] (fun (i : Nat) => [(15, nat i)]) (fun i => [.box 36 [u16 n.ty, .sl false 1 (bys n.data), .sl false 3 (nodesA false n.kids)], .box 36 [.val (.int .u16 0), .val (.slice none 0 0), .val (.slice none 0 0)], .box 36 [u16 n.ty, .sl true 1 (bys n.data), .own 3], .row 36 3 (nodesA true (n.kids.take i))]) (fun i => i ≤ n.kids.length) (fun i => n.kids.length - i) (0) ?_ (Nat.zero_le _) ?_
  · skip
    refine Le.m 4 ?_ ?_
    · first | with_reducible rfl | (simp only [push_cast, ↓reduceIte, Nat.reduceEqDiff, Nat.reduceLT, Nat.reduceAdd, Nat.reduceSub, Nat.reduceMul, Nat.reduceLeDiff, Nat.reducePow, Int.reduceLT, Int.reduceToNat, reduceCtorEq, Int.reduceNeg, Int.reduceEq, Nat.reduceBEq, Nat.reduceBNe, Int.reduceBEq, Int.reduceBNe, String.reduceEq]; first | done | rfl | (simp (disch := omega) only [w_nat, w_add, w_addl, w_addr, w_sub, w_subl, w_mul, w_mull, w_mulr, w_u32, w_u16, w_u8, w_u32a, N_zero]; first | done | rfl))
    · first | (simp only [push_cast, ↓reduceIte, Nat.reduceEqDiff, Nat.reduceLT, Nat.reduceAdd, Nat.reduceSub, Nat.reduceMul, Nat.reduceLeDiff, Nat.reducePow, Int.reduceLT, Int.reduceToNat, reduceCtorEq, Int.reduceNeg, Int.reduceEq, Nat.reduceBEq, Nat.reduceBNe, Int.reduceBEq, Int.reduceBNe, String.reduceEq]; first | done | rfl | (simp (disch := omega) only [w_nat, w_add, w_addl, w_addr, w_sub, w_subl, w_mul, w_mull, w_mulr, w_u32, w_u16, w_u8, w_u32a, N_zero]; first | done | rfl))
  · intro i hi K2 hK2
    refine AWp.regionW ?_
    refine AWp.seqK fun K3 hK3 => ?_
    refine AWp.condLM (fun c0 => ?_) (fun c0 => ?_)
    · skip
      have hil : i < n.kids.length := by simpa using c0
      refine AWp.skip ?_
      refine hK3 _ ?_
      refine AWp.seqK fun K4 hK4 => ?_
      refine AWp.block ?_
      refine AWp.regionM fun K5 hK5 => ?_
      refine ARun2.indexM (i) (nodeA false n.kids[i]) ?_ ?_
      · exact nodesA_at _ _ _ hil
      refine ARun2.endm (hK5 _ ?_)
      refine AWp.drE [[(3, none)], [(19, some 0)], [(5, none)], [(21, some 2)], [(22, some 3)]] fun G hG => ?_
      refine Dr.sim ?_
      try simp only [List.cons_append, List.nil_append]
      refine Dr.sim ?_
      try simp only [List.cons_append, List.nil_append]
      refine Dr.sim ?_
      try simp only [List.cons_append, List.nil_append]
      refine Dr.call (ih n.kids[i] (szs_lt (List.getElem_mem hil))) ?_
      try simp only [List.cons_append, List.nil_append]
      refine Dr.build ?_
      try simp only [List.cons_append, List.nil_append]
      refine Dr.finN (n := 5) [(20, 1), (23, 4)] [2, 3, 13, 14, 15] hG YtjbbkbpnagefoaaGreatDoor.Facts.mixed fun KD hKD => ?_
      refine ARun2.appendM ?_ ?_ ?_
      · rw [YtjbbkbpnagefoaaGreatDoor.Facts.eb26, nodesA_len, List.length_take, List.length_cons, List.length_nil]; omega
      · rw [nodesA_len, List.length_take, List.length_cons, List.length_nil]; omega
      refine ARun2.endm (hKD _ ?_); clear hKD KD hG G
      refine hK4 _ ?_
      refine AWp.regionV ?_
      refine hK2 _ (i + 1) (by omega) (by omega) ?_
      refine Le.m 4 ?_ ?_
      · try simp only [push_cast, ↓reduceIte, Nat.reduceEqDiff, Nat.reduceLT, Nat.reduceAdd, Nat.reduceSub, Nat.reduceMul, Nat.reduceLeDiff, Nat.reducePow, Int.reduceLT, Int.reduceToNat, reduceCtorEq, Int.reduceNeg, Int.reduceEq, Nat.reduceBEq, Nat.reduceBNe, Int.reduceBEq, Int.reduceBNe, String.reduceEq]
        try simp (disch := omega) only [w_nat, w_add, w_addl, w_addr, w_sub, w_subl, w_mul, w_mull, w_mulr, w_u32, w_u16, w_u8, w_u32a, N_zero]
        first | done | skip
        rw [List.take_succ_eq_append_getElem hil, nodesA_snoc, nodeA_eq]
      · first | (simp only [push_cast, ↓reduceIte, Nat.reduceEqDiff, Nat.reduceLT, Nat.reduceAdd, Nat.reduceSub, Nat.reduceMul, Nat.reduceLeDiff, Nat.reducePow, Int.reduceLT, Int.reduceToNat, reduceCtorEq, Int.reduceNeg, Int.reduceEq, Nat.reduceBEq, Nat.reduceBNe, Int.reduceBEq, Int.reduceBNe, String.reduceEq]; first | done | rfl | (simp (disch := omega) only [w_nat, w_add, w_addl, w_addr, w_sub, w_subl, w_mul, w_mull, w_mulr, w_u32, w_u16, w_u8, w_u32a, N_zero]; first | done | rfl))
    · skip
      have hil : i = n.kids.length := by simp at c0; omega
      subst hil
      refine AWp.exit ?_
      try simp only [thenQ, blockQ, noGo, reduceIte, Nat.reduceEqDiff]
      refine hK1 _ ?_
      refine AWp.pubD 3 ?_
      refine AWp.regionW ?_
      refine AWp.ret ?_
      try simp only [thenQ, blockQ, noGo]
      refine bodyQ.m ?_
      clear hK3 K3 hK2 K2 hK1 K1
      rw [List.take_length]
      first | done | exact Wk.go
theorem nclone_fw : ∀ (w : Nat) (n : GNode), n.sz ≤ w → n.sz ≤ 2 ^ 40 → PC Tryz.prog 91 [nodeA false n] (nodeA true n) := by
  intro w
  induction w with
  | zero => intro n h; have := n.sz_eq; omega
  | succ w ih => exact fun n hw hs => nclone_fstep n hs (fun a h => ih a (by omega) (by omega))
theorem nclone_f (n : GNode) (hs : n.sz ≤ 2 ^ 40) : PC Tryz.prog 91 [nodeA false n] (nodeA true n) := nclone_fw _ n (Nat.le_refl _) hs
end Go.Proofs.YtjbbkbpnagefoaaGreatDoor.C
/- chunk: Check, Clone, Params. -/
set_option linter.unusedVariables false
set_option linter.unusedSimpArgs false
namespace Go.Proofs.YtjbbkbpnagefoaaGreatDoor.C
open Go.Abs
/-- the class of the nodes inside -/
def classOf (t : Nat) : Nat := (kinsideN (kindOf t).kids).1
/-- the first error of the chunk itself -/
def preE (c : GChunk) : Er := firstE [flagsE c (kindOf c.ty), dataE c (kindOf c.ty), kidsE c (kindOf c.ty), countE c, valueE c]
def startC (c : GChunk) : Nat := if kindHas c.ty = true then (preE c).codeOf.1 else if 0 < c.kids.length then 7 else 0
/-- the code of a chunk's error; 0: none -/
def checkC (c : GChunk) : Nat :=
  if startC c ≠ 0 then startC c else if checkL (classOf c.ty) 1 c.kids ≠ 0 then checkL (classOf c.ty) 1 c.kids
  else if 65535 < 4 + c.data.length + nSize c.kids then 4 else 0
/-- an error with a number -/
def Er.isN : Er → Bool
  | .ok => true
  | .code c => c != 0
  | .flt c _ => c != 0
theorem firstE_isN : ∀ l : List Er, (∀ e ∈ l, e.isN = true) → (firstE l).isN = true
  | [], _ => rfl
  | e :: l, h => by
    rw [firstE]
    split
    · exact firstE_isN l fun x hx => h x (by simp [hx])
    · exact h e (by simp)
theorem preE_isN (c : GChunk) : (preE c).isN = true := by
  refine firstE_isN _ fun e he => ?_
  simp only [List.mem_cons, List.not_mem_nil, or_false] at he
  rcases he with rfl | rfl | rfl | rfl | rfl
  · unfold flagsE; split <;> rfl
  · unfold dataE; split <;> rfl
  · unfold kidsE; split <;> rfl
  · unfold countE; split <;> rfl
  · unfold valueE; split <;> rfl
theorem isN_code {e : Er} (h : e.isN = true) : e.codeOf.2 = true ↔ e.codeOf.1 ≠ 0 := by
  cases e <;> simp [Er.codeOf, Er.isN] at * <;> exact h
theorem isN_ok {e : Er} (h : e.isN = true) : e.codeOf.1 = 0 ↔ e = .ok := by
  cases e <;> simp [Er.codeOf, Er.isN] at * <;> exact h
theorem errA_code {e : Nat} (h : e ≠ 0) : errA e = .ifc 117 (nat e) := by
  unfold errA; rw [show (e == 0) = false by simpa using h]; rfl
theorem data_ok {c : GChunk} (h : dataE c (kindOf c.ty) = .ok) : (c.ty = 3 → 12 ≤ c.data.length) ∧ (c.ty = 64 → 17 ≤ c.data.length) ∧ (c.ty = 194 → 4 ≤ c.data.length ∧ (c.data.length - 4) % 8 = 0) := by
  have hf : kfitsN (kindOf c.ty) c.data.length = true := by
    unfold dataE at h
    cases hk : kfitsN (kindOf c.ty) c.data.length with
    | true => rfl
    | false => rw [hk] at h; cases h
  unfold kfitsN at hf
  simp only [Bool.and_eq_true, decide_eq_true_eq, beq_iff_eq] at hf
  obtain ⟨⟨h1, h2⟩, h3⟩ := hf
  refine ⟨fun e => ?_, fun e => ?_, fun e => ?_⟩
  · rw [e] at h1; exact h1
  · rw [e] at h1; exact h1
  · rw [e] at h1 h3; exact ⟨h1, h3⟩
theorem firstE_pre {l : List Er} (h : firstE l = .ok) : ∀ e ∈ l, e = .ok := by
  induction l with
  | nil => simp
  | cons e l ih =>
    rw [firstE] at h
    split at h
    · rename_i he
      intro x hx
      rcases List.mem_cons.1 hx with rfl | hx
      · exact he
      · exact ih h x hx
    · rename_i he; exact absurd h he
theorem kclass (k : KForm) (l : List GNode) (h : kkidsOk k l = true) (hk : k.kids ≤ 6) (hl : 0 < l.length) : (kinsideN k.kids).1 = 1 ∨ (kinsideN k.kids).1 = 2 := by
  have hh : k.kids = 0 ∨ k.kids = 1 ∨ k.kids = 2 ∨ k.kids = 3 ∨ k.kids = 4 ∨ k.kids = 5 ∨ k.kids = 6 := by omega
  unfold kkidsOk at h
  rcases hh with e | e | e | e | e | e | e <;> rw [e] at h ⊢ <;> first | exact .inl rfl | exact .inr rfl | skip
  simp [kinsideN] at h
  rw [h] at hl; simp at hl
theorem pre_kids {c : GChunk} (h : preE c = .ok) : kkidsOk (kindOf c.ty) c.kids = true := by
  have := firstE_pre h (kidsE c (kindOf c.ty)) (by simp)
  unfold kidsE at this
  cases hk : kkidsOk (kindOf c.ty) c.kids with
  | true => rfl
  | false => rw [hk] at this; cases this
set_option maxRecDepth 100000 in
theorem firsts_c (c : GChunk) (hd : c.data.length ≤ 2 ^ 40) (hk : c.kids.length ≤ 2 ^ 40) (hh : kindHas c.ty = true) :
    PC Tryz.prog 82 [chunkA false c, kformA (kindOf c.ty), .sl false 1 [.fn (.func 83) [] [], .fn (.func 84) [] [], .fn (.func 85) [] [], .fn (.func 86) [] [], .fn (.func 87) [] []]] (erA (preE c)) := by
  have hb := kind_bd c.ty
  have hu := (hb.2.2.2.2.2.2.1 hh).1
  refine cfirst_c c (kindOf c.ty) [83, 84, 85, 86, 87] [flagsE c (kindOf c.ty), dataE c (kindOf c.ty), kidsE c (kindOf c.ty), countE c, valueE c] rfl (by decide) ?_ ?_
  · intro i hi
    match i, hi with
    | 0, _ => rfl
    | 1, _ => rfl
    | 2, _ => rfl
    | 3, _ => rfl
    | 4, _ => rfl
    | i + 5, h => simp at h; omega
  · intro i hi hok
    match i, hi with
    | 0, _ => exact cflags_c c _
    | 1, _ => exact cdata_c c _ hd (by omega) hu (by omega)
    | 2, _ => exact ckids_c c _ (by omega) hk
    | 3, _ => exact ccount_c c _ hd (data_ok (hok 1 (by omega))).1
    | 4, _ => exact cvalue_c c _ hd (data_ok (hok 1 (by omega))).2.1 (data_ok (hok 1 (by omega))).2.2
    | i + 5, h => simp at h; omega
theorem ccheck_c (c : GChunk) (ht : c.ty < 256) (hd : c.data.length ≤ 2 ^ 40) (hs : nSize c.kids ≤ 2 ^ 30) : PC Tryz.prog 65 [chunkA false c] (errA (checkC c)) := by
  have hkl := nSize_len c.kids
  have hb := kind_bd c.ty
  have hC : checkC c = checkC c := rfl
  conv at hC => rhs; unfold checkC
  generalize checkC c = C at hC
  have hst : startC c = startC c := rfl
  conv at hst => rhs; unfold startC
  have hki := kinside_c (kindOf c.ty).kids (by omega)
  have hcc : classOf c.ty = (kinsideN (kindOf c.ty).kids).1 := rfl
  generalize (kinsideN (kindOf c.ty).kids).2.1 = u1 at hki
  generalize (kinsideN (kindOf c.ty).kids).2.2 = u2 at hki
  rw [← hcc] at hki
  generalize hcl : classOf c.ty = cl at hki hC
  refine PC.of_bodyW (by simp only [push_cast]) Tryz.func65 rfl (by rw [Tryz.ntmps65]; simp) ?_
  refine AWp.regionW ?_
  refine AWp.regionM fun K1 hK1 => ?_
  refine ARun2.callM (kof_c c.ty ht) ?_
  refine ARun2.endm (hK1 _ ?_)
  refine AWp.regionM fun K2 hK2 => ?_
  refine ARun2.callM (hki) ?_
  refine ARun2.endm (hK2 _ ?_)
  refine AWp.regionW ?_
  refine AWp.seqK fun K3 hK3 => ?_
  refine AWp.block ?_
  refine AWp.regionW ?_
  refine AWp.condLM (fun c0 => ?_) (fun c0 => ?_)
  · skip
    have hh : kindHas c.ty = true := c0
    have hfs := firsts_c c hd (by omega) hh
    rw [if_pos hh] at hst
    have hN := preE_isN c
    refine AWp.regionN fun K4 hK4 => ?_
    refine ARun2.callM (hfs) ?_
    refine ARun2.endm (hK4 _ ?_)
    refine hK3 _ ?_
    refine AWp.seqK fun K5 hK5 => ?_
    refine AWp.regionM fun K6 hK6 => ?_
    refine ARun2.callM (code_c (preE c)) ?_
    refine ARun2.endm (hK6 _ ?_)
    refine AWp.regionW ?_
    refine AWp.condLM (fun c2 => ?_) (fun c2 => ?_)
    · skip
      have hne := (isN_code hN).1 c2
      rw [hst, if_pos hne] at hC
      refine AWp.regionW ?_
      refine AWp.ret ?_
      try simp only [thenQ, blockQ, noGo]
      refine bodyQ.m ?_
      clear hK6 K6 hK5 K5 hK4 K4 hK3 K3 hK2 K2 hK1 K1
      rw [hC, errA_code hne]
      first | done | exact Hand.go
    · skip
      have h0 : (preE c).codeOf.1 = 0 := by
        cases h : (preE c).codeOf.1 with
        | zero => rfl
        | succ n => have := (isN_code hN).2 (by rw [h]; simp); rw [c2] at this; cases this
      have hcls : 0 < c.kids.length → cl = 1 ∨ cl = 2 := fun h => hcl ▸ kclass _ _ (pre_kids ((isN_ok hN).1 h0)) (by omega) h
      rw [hst, h0, if_neg (by simp)] at hC
      refine AWp.skip ?_
      refine hK5 _ ?_
      refine AWp.seqK fun K7 hK7 => ?_
      refine AWp.regionW ?_
      refine AWp.block ?_
      refine AWp.loopK0 [1, 5, 48, 49] (fun (i : Nat) => [(50, nat i)]) (fun i => i ≤ c.kids.length ∧ checkL cl 1 (c.kids.take i) = 0) (fun i => c.kids.length - i) (0) ?_ ⟨Nat.zero_le _, rfl⟩ ?_
      · skip
        refine Le.m 2 ?_ ?_
        · first | with_reducible rfl | (simp only [push_cast, ↓reduceIte, Nat.reduceEqDiff, Nat.reduceLT, Nat.reduceAdd, Nat.reduceSub, Nat.reduceMul, Nat.reduceLeDiff, Nat.reducePow, Int.reduceLT, Int.reduceToNat, reduceCtorEq, Int.reduceNeg, Int.reduceEq, Nat.reduceBEq, Nat.reduceBNe, Int.reduceBEq, Int.reduceBNe, String.reduceEq]; first | done | rfl | (simp (disch := omega) only [w_nat, w_add, w_addl, w_addr, w_sub, w_subl, w_mul, w_mull, w_mulr, w_u32, w_u16, w_u8, w_u32a, N_zero]; first | done | rfl))
        · first | (simp only [push_cast, ↓reduceIte, Nat.reduceEqDiff, Nat.reduceLT, Nat.reduceAdd, Nat.reduceSub, Nat.reduceMul, Nat.reduceLeDiff, Nat.reducePow, Int.reduceLT, Int.reduceToNat, reduceCtorEq, Int.reduceNeg, Int.reduceEq, Nat.reduceBEq, Nat.reduceBNe, Int.reduceBEq, Int.reduceBNe, String.reduceEq]; first | done | rfl | (simp (disch := omega) only [w_nat, w_add, w_addl, w_addr, w_sub, w_subl, w_mul, w_mull, w_mulr, w_u32, w_u16, w_u8, w_u32a, N_zero]; first | done | rfl))
      · intro i hi K8 hK8
        refine AWp.regionW ?_
        refine AWp.seqK fun K9 hK9 => ?_
        refine AWp.condLM (fun c3 => ?_) (fun c3 => ?_)
        · skip
          have hil : i < c.kids.length := by simpa using c3
          have hm := List.getElem_mem hil
          have hcl2 := hcls (by omega)
          refine AWp.skip ?_
          refine hK9 _ ?_
          refine AWp.seqK fun K10 hK10 => ?_
          refine AWp.block ?_
          refine AWp.regionM fun K11 hK11 => ?_
          refine ARun2.indexM (i) (nodeA false c.kids[i]) ?_ ?_
          · exact nodesA_at _ _ _ hil
          refine ARun2.endm (hK11 _ ?_)
          refine AWp.regionM fun K12 hK12 => ?_
          refine ARun2.callM (check_c cl c.kids[i] hcl2 (by have := nSize_one hm; omega)) ?_
          refine ARun2.endm (hK12 _ ?_)
          refine AWp.regionW ?_
          refine AWp.condLM (fun c4 => ?_) (fun c4 => ?_)
          · skip
            have h5 : checkN cl 1 c.kids[i] ≠ 0 := by simpa using c4
            have hL := checkL_at _ _ c.kids i hil hi.2 h5
            rw [hL, if_pos h5] at hC
            refine AWp.regionW ?_
            refine AWp.ret ?_
            try simp only [thenQ, blockQ, noGo]
            refine bodyQ.m ?_
            clear hK12 K12 hK11 K11 hK10 K10 hK9 K9 hK8 K8 hK7 K7 hK6 K6 hK5 K5 hK4 K4 hK3 K3 hK2 K2 hK1 K1
            rw [hC]
            first | done | exact Hand.go
          · skip
            have h5 : checkN cl 1 c.kids[i] = 0 := by simpa using c4
            refine AWp.skip ?_
            refine hK10 _ ?_
            refine AWp.regionV ?_
            refine hK8 _ (i + 1) (⟨by omega, by rw [List.take_succ_eq_append_getElem hil, checkL_snoc, hi.2]; simpa using h5⟩) (by omega) ?_
            refine Le.m 2 ?_ ?_
            · first | with_reducible rfl | (simp only [push_cast, ↓reduceIte, Nat.reduceEqDiff, Nat.reduceLT, Nat.reduceAdd, Nat.reduceSub, Nat.reduceMul, Nat.reduceLeDiff, Nat.reducePow, Int.reduceLT, Int.reduceToNat, reduceCtorEq, Int.reduceNeg, Int.reduceEq, Nat.reduceBEq, Nat.reduceBNe, Int.reduceBEq, Int.reduceBNe, String.reduceEq]; first | done | rfl | (simp (disch := omega) only [w_nat, w_add, w_addl, w_addr, w_sub, w_subl, w_mul, w_mull, w_mulr, w_u32, w_u16, w_u8, w_u32a, N_zero]; first | done | rfl))
            · first | (simp only [push_cast, ↓reduceIte, Nat.reduceEqDiff, Nat.reduceLT, Nat.reduceAdd, Nat.reduceSub, Nat.reduceMul, Nat.reduceLeDiff, Nat.reducePow, Int.reduceLT, Int.reduceToNat, reduceCtorEq, Int.reduceNeg, Int.reduceEq, Nat.reduceBEq, Nat.reduceBNe, Int.reduceBEq, Int.reduceBNe, String.reduceEq]; first | done | rfl | (simp (disch := omega) only [w_nat, w_add, w_addl, w_addr, w_sub, w_subl, w_mul, w_mull, w_mulr, w_u32, w_u16, w_u8, w_u32a, N_zero]; first | done | rfl))
        · skip
          have hil : i = c.kids.length := by have := hi.1; simp at c3; omega
          have hL : checkL cl 1 c.kids = 0 := by have := hi.2; rwa [hil, List.take_length] at this
          subst hil
          rw [hL, if_neg (by simp)] at hC
          refine AWp.exit ?_
          try simp only [thenQ, blockQ, noGo, reduceIte, Nat.reduceEqDiff]
          refine hK7 _ ?_
          refine AWp.seqK fun K13 hK13 => ?_
          refine AWp.regionM fun K14 hK14 => ?_
          refine ARun2.callM (csize_c c hd hs) ?_
          refine ARun2.endm (hK14 _ ?_)
          refine AWp.condLM (fun c5 => ?_) (fun c5 => ?_)
          · skip
            rw [if_pos (by simpa using c5)] at hC
            refine AWp.regionW ?_
            refine AWp.ret ?_
            try simp only [thenQ, blockQ, noGo]
            refine bodyQ.m ?_
            clear hK14 K14 hK13 K13 hK9 K9 hK8 K8 hK7 K7 hK6 K6 hK5 K5 hK4 K4 hK3 K3 hK2 K2 hK1 K1
            rw [hC]
            first | done | exact Hand.go
          · skip
            rw [if_neg (by simpa using c5)] at hC
            refine AWp.skip ?_
            refine hK13 _ ?_
            refine AWp.regionW ?_
            refine AWp.ret ?_
            try simp only [thenQ, blockQ, noGo]
            refine bodyQ.m ?_
            clear hK14 K14 hK13 K13 hK9 K9 hK8 K8 hK7 K7 hK6 K6 hK5 K5 hK4 K4 hK3 K3 hK2 K2 hK1 K1
            rw [hC]
            first | done | exact Hand.go
  · skip
    have hh : ¬ kindHas c.ty = true := by rw [c0]; simp
    rw [if_neg hh] at hst
    refine AWp.regionW ?_
    refine AWp.condLM (fun c1 => ?_) (fun c1 => ?_)
    · skip
      have hp : 0 < c.kids.length := by simpa using c1
      rw [if_pos hp] at hst
      refine AWp.regionV ?_
      refine hK3 _ ?_
      refine AWp.seqK fun K15 hK15 => ?_
      refine AWp.regionM fun K16 hK16 => ?_
      refine ARun2.callM (code_c (.code 7)) ?_
      refine ARun2.endm (hK16 _ ?_)
      refine AWp.regionW ?_
      refine AWp.condT ?_ (by first | (simp only [push_cast, ↓reduceIte, Nat.reduceEqDiff, Nat.reduceLT, Nat.reduceAdd, Nat.reduceSub, Nat.reduceMul, Nat.reduceLeDiff, Nat.reducePow, Int.reduceLT, Int.reduceToNat, reduceCtorEq, Int.reduceNeg, Int.reduceEq, Nat.reduceBEq, Nat.reduceBNe, Int.reduceBEq, Int.reduceBNe, String.reduceEq]; done) | (simp only [push_cast, ↓reduceIte, Nat.reduceEqDiff, Nat.reduceLT, Nat.reduceAdd, Nat.reduceSub, Nat.reduceMul, Nat.reduceLeDiff, Nat.reducePow, Int.reduceLT, Int.reduceToNat, reduceCtorEq, Int.reduceNeg, Int.reduceEq, Nat.reduceBEq, Nat.reduceBNe, Int.reduceBEq, Int.reduceBNe, String.reduceEq]; rfl))
      refine AWp.regionW ?_
      refine AWp.ret ?_
      try simp only [thenQ, blockQ, noGo]
      refine bodyQ.m ?_
      clear hK16 K16 hK15 K15 hK3 K3 hK2 K2 hK1 K1
      rw [hC, hst, if_pos (by simp), errA_code (by simp)]; simp only [Er.codeOf]
      first | done | exact Hand.go
    · skip
      have hp : ¬ 0 < c.kids.length := by simpa using c1
      rw [if_neg hp] at hst
      refine AWp.skip ?_
      refine hK3 _ ?_
      refine AWp.seqK fun K17 hK17 => ?_
      refine AWp.regionM fun K18 hK18 => ?_
      refine ARun2.callM (code_c .ok) ?_
      refine ARun2.endm (hK18 _ ?_)
      refine AWp.regionW ?_
      refine AWp.condF ?_ (by first | (simp only [push_cast, ↓reduceIte, Nat.reduceEqDiff, Nat.reduceLT, Nat.reduceAdd, Nat.reduceSub, Nat.reduceMul, Nat.reduceLeDiff, Nat.reducePow, Int.reduceLT, Int.reduceToNat, reduceCtorEq, Int.reduceNeg, Int.reduceEq, Nat.reduceBEq, Nat.reduceBNe, Int.reduceBEq, Int.reduceBNe, String.reduceEq]; done) | (simp only [push_cast, ↓reduceIte, Nat.reduceEqDiff, Nat.reduceLT, Nat.reduceAdd, Nat.reduceSub, Nat.reduceMul, Nat.reduceLeDiff, Nat.reducePow, Int.reduceLT, Int.reduceToNat, reduceCtorEq, Int.reduceNeg, Int.reduceEq, Nat.reduceBEq, Nat.reduceBNe, Int.reduceBEq, Int.reduceBNe, String.reduceEq]; rfl))
      refine AWp.skip ?_
      refine hK17 _ ?_
      refine AWp.seqK fun K19 hK19 => ?_
      refine AWp.regionW ?_
      refine AWp.block ?_
      have hcls : 0 < c.kids.length → cl = 1 ∨ cl = 2 := fun h => absurd h hp
      rw [hst, if_neg (by simp)] at hC
      refine AWp.loopK0 [1, 5, 48, 49] (fun (i : Nat) => [(50, nat i)]) (fun i => i ≤ c.kids.length ∧ checkL cl 1 (c.kids.take i) = 0) (fun i => c.kids.length - i) (0) ?_ ⟨Nat.zero_le _, rfl⟩ ?_
      · skip
        refine Le.m 2 ?_ ?_
        · first | with_reducible rfl | (simp only [push_cast, ↓reduceIte, Nat.reduceEqDiff, Nat.reduceLT, Nat.reduceAdd, Nat.reduceSub, Nat.reduceMul, Nat.reduceLeDiff, Nat.reducePow, Int.reduceLT, Int.reduceToNat, reduceCtorEq, Int.reduceNeg, Int.reduceEq, Nat.reduceBEq, Nat.reduceBNe, Int.reduceBEq, Int.reduceBNe, String.reduceEq]; first | done | rfl | (simp (disch := omega) only [w_nat, w_add, w_addl, w_addr, w_sub, w_subl, w_mul, w_mull, w_mulr, w_u32, w_u16, w_u8, w_u32a, N_zero]; first | done | rfl))
        · first | (simp only [push_cast, ↓reduceIte, Nat.reduceEqDiff, Nat.reduceLT, Nat.reduceAdd, Nat.reduceSub, Nat.reduceMul, Nat.reduceLeDiff, Nat.reducePow, Int.reduceLT, Int.reduceToNat, reduceCtorEq, Int.reduceNeg, Int.reduceEq, Nat.reduceBEq, Nat.reduceBNe, Int.reduceBEq, Int.reduceBNe, String.reduceEq]; first | done | rfl | (simp (disch := omega) only [w_nat, w_add, w_addl, w_addr, w_sub, w_subl, w_mul, w_mull, w_mulr, w_u32, w_u16, w_u8, w_u32a, N_zero]; first | done | rfl))
      · intro i hi K20 hK20
        refine AWp.regionW ?_
        refine AWp.seqK fun K21 hK21 => ?_
        refine AWp.condLM (fun c3 => ?_) (fun c3 => ?_)
        · skip
          have hil : i < c.kids.length := by simpa using c3
          have hm := List.getElem_mem hil
          have hcl2 := hcls (by omega)
          exfalso; omega
        · skip
          have hil : i = c.kids.length := by have := hi.1; simp at c3; omega
          have hL : checkL cl 1 c.kids = 0 := by have := hi.2; rwa [hil, List.take_length] at this
          subst hil
          rw [hL, if_neg (by simp)] at hC
          refine AWp.exit ?_
          try simp only [thenQ, blockQ, noGo, reduceIte, Nat.reduceEqDiff]
          refine hK19 _ ?_
          refine AWp.seqK fun K22 hK22 => ?_
          refine AWp.regionM fun K23 hK23 => ?_
          refine ARun2.callM (csize_c c hd hs) ?_
          refine ARun2.endm (hK23 _ ?_)
          refine AWp.condLM (fun c5 => ?_) (fun c5 => ?_)
          · skip
            rw [if_pos (by simpa using c5)] at hC
            refine AWp.regionW ?_
            refine AWp.ret ?_
            try simp only [thenQ, blockQ, noGo]
            refine bodyQ.m ?_
            clear hK23 K23 hK22 K22 hK21 K21 hK20 K20 hK19 K19 hK18 K18 hK17 K17 hK3 K3 hK2 K2 hK1 K1
            rw [hC]
            first | done | exact Hand.go
          · skip
            rw [if_neg (by simpa using c5)] at hC
            refine AWp.skip ?_
            refine hK22 _ ?_
            refine AWp.regionW ?_
            refine AWp.ret ?_
            try simp only [thenQ, blockQ, noGo]
            refine bodyQ.m ?_
            clear hK23 K23 hK22 K22 hK21 K21 hK20 K20 hK19 K19 hK18 K18 hK17 K17 hK3 K3 hK2 K2 hK1 K1
            rw [hC]
            first | done | exact Hand.go
@[push_cast] theorem chunkA_hand (ids : List Nat) (b : Bool) (c : GChunk) : (chunkA b c).hand ids = chunkA false c := by
  simp only [chunkA, AV.hand, AV.handL, bys_hand, nodesA_hand]
theorem cclone_f (c : GChunk) (hd : c.data.length ≤ 2 ^ 40) (hs : szs c.kids ≤ 2 ^ 39) : PC Tryz.prog 66 [chunkA false c] (chunkA true c) := by
  refine PC.of_bodyK (by simp only [push_cast]) Tryz.func66 rfl (by rw [Tryz.ntmps66]; simp) ?_
  refine AWp.regionW ?_
  refine AWp.regionM fun K1 hK1 => ?_
  refine ARun2.callM (nclone_f (.mk 0 [] c.kids) (by simp only [GNode.sz]; simp; omega)) ?_
  refine ARun2.endm (hK1 _ ?_)
  refine AWp.drS [[(1, none)], [(9, some 0)], [(1, none)], [(11, some 2)], [(1, none)], [(13, some 4)], [(14, some 5)], [(3, none)], [(10, some 1), (12, some 3), (15, some 6), (16, some 7)]] fun G hG => ?_
  refine Dr.sim ?_
  try simp only [List.cons_append, List.nil_append]
  refine Dr.sim ?_
  try simp only [List.cons_append, List.nil_append]
  refine Dr.sim ?_
  try simp only [List.cons_append, List.nil_append]
  refine Dr.sim ?_
  try simp only [List.cons_append, List.nil_append]
  refine Dr.sim ?_
  try simp only [List.cons_append, List.nil_append]
  refine Dr.sim ?_
  try simp only [List.cons_append, List.nil_append]
  refine Dr.call (clone_c c.data hd) ?_
  try simp only [List.cons_append, List.nil_append]
  refine Dr.sim ?_
  try simp only [List.cons_append, List.nil_append]
  refine Dr.sim ?_
  try simp only [List.cons_append, List.nil_append]
  refine Dr.finM (n := 9) [(17, 8)] [2] hG YtjbbkbpnagefoaaGreatDoor.Facts.mixed fun KD hKD => ?_
  refine ARun2.endm (hKD _ ?_); clear hKD KD hG G
  refine AWp.ret ?_
  try simp only [thenQ, blockQ, noGo]
  refine bodyQ.m ?_
  clear hK1 K1
  first | done | exact Wk.go
/-- the parameters inside -/
def paramsOf (c : GChunk) : List GNode := if classOf c.ty = 1 then c.kids else []
theorem cparams_c (c : GChunk) (ht : c.ty < 256) (hd : c.data.length ≤ 2 ^ 40) (hs : szs c.kids ≤ 2 ^ 39) : PC Tryz.prog 69 [chunkA false c] (.sl true 3 (nodesA true (paramsOf c))) := by
  have hb := kind_bd c.ty
  have hki := kinside_c (kindOf c.ty).kids (by omega)
  have hcc : classOf c.ty = (kinsideN (kindOf c.ty).kids).1 := rfl
  rw [← hcc] at hki
  refine PC.of_bodyK (by simp only [push_cast]) Tryz.func69 rfl (by rw [Tryz.ntmps69]; simp) ?_
  refine AWp.regionW ?_
  refine AWp.regionM fun K1 hK1 => ?_
  refine ARun2.callM (kof_c c.ty ht) ?_
  refine ARun2.endm (hK1 _ ?_)
  refine AWp.seqK fun K2 hK2 => ?_
  refine AWp.regionM fun K3 hK3 => ?_
  refine ARun2.callM (hki) ?_
  refine ARun2.endm (hK3 _ ?_)
  refine AWp.regionW ?_
  refine AWp.condLM (fun c0 => ?_) (fun c0 => ?_)
  · skip
    have h1 : paramsOf c = [] := if_neg (by simpa using c0)
    refine AWp.regionW ?_
    refine AWp.ret ?_
    try simp only [thenQ, blockQ, noGo]
    refine bodyQ.m ?_
    clear hK3 K3 hK2 K2 hK1 K1
    rw [h1]
    first | done | exact Wk.go
  · skip
    have h1 : paramsOf c = c.kids := if_pos (by simpa using c0)
    refine AWp.skip ?_
    refine hK2 _ ?_
    refine AWp.regionM fun K4 hK4 => ?_
    refine ARun2.callM (cclone_f c hd hs) ?_
    refine ARun2.endm (hK4 _ ?_)
    refine AWp.ret ?_
    try simp only [thenQ, blockQ, noGo]
    refine bodyQ.m ?_
    clear hK4 K4 hK3 K3 hK2 K2 hK1 K1
    rw [h1]
    first | done | exact Wk.go
end Go.Proofs.YtjbbkbpnagefoaaGreatDoor.C
/- The reference's chunks: wharfref11, wharfref12.Check. -/
set_option linter.unusedVariables false
set_option linter.unusedSimpArgs false
namespace Go.Proofs.YtjbbkbpnagefoaaGreatDoor.C
open Go.Abs
set_option maxRecDepth 100000 in
set_option maxHeartbeats 1000000 in
theorem table11_c : PC Tryz.prog 76 [] (.sl false 7 (kformsA kindForms)) := by
  refine PC.of_bodyW (by simp only [push_cast]) Tryz.func76 rfl (by rw [Tryz.ntmps76]; simp) ?_
  refine AWp.regionW ?_
  refine AWp.regionW ?_
  refine AWp.regionW ?_
  refine AWp.ret ?_
  try simp only [thenQ, blockQ, noGo]
  refine bodyQ.m ?_
  simp only [kformsA, kindForms, List.map_cons, List.map_nil]
  first | done | exact Hand.go
theorem of11_c (t : Nat) : PC Tryz.prog 54 [u8 t] (.tup [kformA (kindOf t), bool (kindHas t)]) := by
  refine PC.of_bodyW (by simp only [push_cast]) Tryz.func54 rfl (by rw [Tryz.ntmps54]; simp) ?_
  refine AWp.regionW ?_
  refine AWp.regionM fun K1 hK1 => ?_
  refine ARun2.callM (table11_c) ?_
  refine ARun2.endm (hK1 _ ?_)
  refine AWp.seqK fun K2 hK2 => ?_
  refine AWp.regionW ?_
  refine AWp.block ?_
  refine AWp.loopK0 [0, 2, 4] (fun (i : Nat) => [(5, nat i)]) (fun i => i ≤ 23 ∧ ∀ m, m < i → (kf m).ty ≠ t) (fun i => 23 - i) (0) ?_ ⟨Nat.zero_le _, fun m h => by omega⟩ ?_
  · skip
    refine Le.m 1 ?_ ?_
    · first | with_reducible rfl | (simp only [push_cast, ↓reduceIte, Nat.reduceEqDiff, Nat.reduceLT, Nat.reduceAdd, Nat.reduceSub, Nat.reduceMul, Nat.reduceLeDiff, Nat.reducePow, Int.reduceLT, Int.reduceToNat, reduceCtorEq, Int.reduceNeg, Int.reduceEq, Nat.reduceBEq, Nat.reduceBNe, Int.reduceBEq, Int.reduceBNe, String.reduceEq]; first | done | rfl | (simp (disch := omega) only [w_nat, w_add, w_addl, w_addr, w_sub, w_subl, w_mul, w_mull, w_mulr, w_u32, w_u16, w_u8, w_u32a, N_zero]; first | done | rfl))
    · first | (simp only [push_cast, ↓reduceIte, Nat.reduceEqDiff, Nat.reduceLT, Nat.reduceAdd, Nat.reduceSub, Nat.reduceMul, Nat.reduceLeDiff, Nat.reducePow, Int.reduceLT, Int.reduceToNat, reduceCtorEq, Int.reduceNeg, Int.reduceEq, Nat.reduceBEq, Nat.reduceBNe, Int.reduceBEq, Int.reduceBNe, String.reduceEq]; first | done | rfl | (simp (disch := omega) only [w_nat, w_add, w_addl, w_addr, w_sub, w_subl, w_mul, w_mull, w_mulr, w_u32, w_u16, w_u8, w_u32a, N_zero]; first | done | rfl))
  · intro i hi K3 hK3
    refine AWp.seqK fun K4 hK4 => ?_
    refine AWp.regionW ?_
    refine AWp.condLM (fun c0 => ?_) (fun c0 => ?_)
    · skip
      have hil : i < 23 := by simpa using c0
      refine AWp.skip ?_
      refine hK4 _ ?_
      refine AWp.seqK fun K5 hK5 => ?_
      refine AWp.block ?_
      refine AWp.regionM fun K6 hK6 => ?_
      refine ARun2.indexM (i) (kformA (kf i)) ?_ ?_
      · exact kformsA_kf i hil
      refine ARun2.endm (hK6 _ ?_)
      refine AWp.condLM (fun c1 => ?_) (fun c1 => ?_)
      · skip
        have h1 : (kf i).ty = t := by simpa using c1
        obtain ⟨e1, e2⟩ := kind_at t i hil h1
        refine AWp.regionM fun K7 hK7 => ?_
        refine ARun2.indexM (i) (kformA (kf i)) ?_ ?_
        · exact kformsA_kf i hil
        refine ARun2.endm (hK7 _ ?_)
        refine AWp.ret ?_
        try simp only [thenQ, blockQ, noGo]
        refine bodyQ.m ?_
        clear hK7 K7 hK6 K6 hK5 K5 hK4 K4 hK3 K3 hK2 K2 hK1 K1
        rw [e1, e2]
        first | done | exact Hand.go
      · skip
        have h1 : (kf i).ty ≠ t := by simpa using c1
        refine AWp.skip ?_
        refine hK5 _ ?_
        refine AWp.regionV ?_
        refine hK3 _ (i + 1) (⟨hil, fun m hm => (Nat.lt_or_ge m i).elim (hi.2 m) (fun h => (show i = m by omega) ▸ h1)⟩) (by omega) ?_
        refine Le.m 1 ?_ ?_
        · first | with_reducible rfl | (simp only [push_cast, ↓reduceIte, Nat.reduceEqDiff, Nat.reduceLT, Nat.reduceAdd, Nat.reduceSub, Nat.reduceMul, Nat.reduceLeDiff, Nat.reducePow, Int.reduceLT, Int.reduceToNat, reduceCtorEq, Int.reduceNeg, Int.reduceEq, Nat.reduceBEq, Nat.reduceBNe, Int.reduceBEq, Int.reduceBNe, String.reduceEq]; first | done | rfl | (simp (disch := omega) only [w_nat, w_add, w_addl, w_addr, w_sub, w_subl, w_mul, w_mull, w_mulr, w_u32, w_u16, w_u8, w_u32a, N_zero]; first | done | rfl))
        · first | (simp only [push_cast, ↓reduceIte, Nat.reduceEqDiff, Nat.reduceLT, Nat.reduceAdd, Nat.reduceSub, Nat.reduceMul, Nat.reduceLeDiff, Nat.reducePow, Int.reduceLT, Int.reduceToNat, reduceCtorEq, Int.reduceNeg, Int.reduceEq, Nat.reduceBEq, Nat.reduceBNe, Int.reduceBEq, Int.reduceBNe, String.reduceEq]; first | done | rfl | (simp (disch := omega) only [w_nat, w_add, w_addl, w_addr, w_sub, w_subl, w_mul, w_mull, w_mulr, w_u32, w_u16, w_u8, w_u32a, N_zero]; first | done | rfl))
    · skip
      have hil : 23 ≤ i := by simpa using c0
      obtain ⟨e1, e2⟩ := kind_none t fun m hm => hi.2 m (by omega)
      refine AWp.exit ?_
      try simp only [thenQ, blockQ, noGo, reduceIte, Nat.reduceEqDiff]
      refine hK2 _ ?_
      refine AWp.regionW ?_
      refine AWp.ret ?_
      try simp only [thenQ, blockQ, noGo]
      refine bodyQ.m ?_
      clear hK4 K4 hK3 K3 hK2 K2 hK1 K1
      rw [e1, e2]; simp only [zeroK]
      first | done | exact Hand.go
theorem fits11_c (f : KForm) (n : Nat) (hn : n < 2 ^ 40) (hl : f.least < 2 ^ 40) (hm : f.most < 2 ^ 40) (hu : 0 < f.unit) (hu2 : f.unit < 2 ^ 40) : PC Tryz.prog 55 [kformA f, nat n] (bool (kfitsN f n)) := by
  refine PC.of_bodyW (by simp only [push_cast]) Tryz.func55 rfl (by rw [Tryz.ntmps55]; simp) ?_
  refine AWp.regionW ?_
  refine AWp.seqK fun K1 hK1 => ?_
  refine AWp.regionW ?_
  refine AWp.block ?_
  refine AWp.loopK [1, 2] (fun (i : Nat) => [(5, nat (f.least + i * f.unit))]) (fun i => [.box 78 [u8 f.ty, .val (.string f.name), u8 f.mask, nat f.least, nat f.most, nat f.unit, nat f.kids]]) (fun i => ∀ j, j < i → f.least + j * f.unit ≠ n) (fun i => f.most + 1 - (f.least + i * f.unit)) (0) ?_ (fun j h => by omega) ?_
  · skip
    refine Le.m 1 ?_ ?_
    · first | with_reducible rfl | (simp only [push_cast, ↓reduceIte, Nat.reduceEqDiff, Nat.reduceLT, Nat.reduceAdd, Nat.reduceSub, Nat.reduceMul, Nat.reduceLeDiff, Nat.reducePow, Int.reduceLT, Int.reduceToNat, reduceCtorEq, Int.reduceNeg, Int.reduceEq, Nat.reduceBEq, Nat.reduceBNe, Int.reduceBEq, Int.reduceBNe, String.reduceEq]; first | done | rfl | (simp (disch := omega) only [w_nat, w_add, w_addl, w_addr, w_sub, w_subl, w_mul, w_mull, w_mulr, w_u32, w_u16, w_u8, w_u32a, N_zero]; first | done | rfl))
    · simp only [push_cast, ↓reduceIte, Nat.reduceEqDiff, Nat.reduceLT, Nat.reduceAdd, Nat.reduceSub, Nat.reduceMul, Nat.reduceLeDiff, Nat.reducePow, Int.reduceLT, Int.reduceToNat, reduceCtorEq, Int.reduceNeg, Int.reduceEq, Nat.reduceBEq, Nat.reduceBNe, Int.reduceBEq, Int.reduceBNe, String.reduceEq]
      try simp (disch := omega) only [w_nat, w_add, w_addl, w_addr, w_sub, w_subl, w_mul, w_mull, w_mulr, w_u32, w_u16, w_u8, w_u32a, N_zero]
      simp only [Nat.zero_mul, Nat.add_zero]
  · intro i hi K2 hK2
    refine AWp.seqK fun K3 hK3 => ?_
    refine AWp.regionW ?_
    refine AWp.condLM (fun c0 => ?_) (fun c0 => ?_)
    · skip
      have h0 : f.least + i * f.unit ≤ f.most := by simpa using c0
      have hs : (i + 1) * f.unit = i * f.unit + f.unit := by rw [Nat.add_mul, Nat.one_mul]
      refine AWp.skip ?_
      refine hK3 _ ?_
      refine AWp.seqK fun K4 hK4 => ?_
      refine AWp.block ?_
      refine AWp.regionW ?_
      refine AWp.condLM (fun c1 => ?_) (fun c1 => ?_)
      · skip
        have h1 : f.least + i * f.unit = n := by simpa using c1
        have hf : kfitsN f n = true := by
          have e : n - f.least = i * f.unit := by omega
          unfold kfitsN
          rw [e, Nat.mul_mod_left]
          simp
          omega
        refine AWp.regionW ?_
        refine AWp.ret ?_
        try simp only [thenQ, blockQ, noGo]
        refine bodyQ.m ?_
        clear hK4 K4 hK3 K3 hK2 K2 hK1 K1
        rw [hf]
        first | done | exact Hand.go
      · skip
        have h1 : f.least + i * f.unit ≠ n := by simpa using c1
        refine AWp.skip ?_
        refine hK4 _ ?_
        refine AWp.regionV ?_
        refine hK2 _ (i + 1) ((fun j hj => (Nat.lt_or_ge j i).elim (fun h => hi j h) (fun h => (show j = i by omega) ▸ h1))) (by omega) ?_
        refine Le.m 1 ?_ ?_
        · first | with_reducible rfl | (simp only [push_cast, ↓reduceIte, Nat.reduceEqDiff, Nat.reduceLT, Nat.reduceAdd, Nat.reduceSub, Nat.reduceMul, Nat.reduceLeDiff, Nat.reducePow, Int.reduceLT, Int.reduceToNat, reduceCtorEq, Int.reduceNeg, Int.reduceEq, Nat.reduceBEq, Nat.reduceBNe, Int.reduceBEq, Int.reduceBNe, String.reduceEq]; first | done | rfl | (simp (disch := omega) only [w_nat, w_add, w_addl, w_addr, w_sub, w_subl, w_mul, w_mull, w_mulr, w_u32, w_u16, w_u8, w_u32a, N_zero]; first | done | rfl))
        · simp only [push_cast, ↓reduceIte, Nat.reduceEqDiff, Nat.reduceLT, Nat.reduceAdd, Nat.reduceSub, Nat.reduceMul, Nat.reduceLeDiff, Nat.reducePow, Int.reduceLT, Int.reduceToNat, reduceCtorEq, Int.reduceNeg, Int.reduceEq, Nat.reduceBEq, Nat.reduceBNe, Int.reduceBEq, Int.reduceBNe, String.reduceEq]
          try simp (disch := omega) only [w_nat, w_add, w_addl, w_addr, w_sub, w_subl, w_mul, w_mull, w_mulr, w_u32, w_u16, w_u8, w_u32a, N_zero]
          rw [hs, ← Nat.add_assoc]
    · skip
      have h0 : f.most < f.least + i * f.unit := by simpa using c0
      have hf : kfitsN f n = false := by
        unfold kfitsN
        by_cases h2 : f.least ≤ n ∧ n ≤ f.most
        · have h3 : (n - f.least) % f.unit ≠ 0 := by
            intro h3
            obtain ⟨j, hj⟩ := Nat.dvd_of_mod_eq_zero h3
            rw [Nat.mul_comm] at hj
            have hlt : j < i := by
              rcases Nat.lt_or_ge j i with h | h
              · exact h
              · have := Nat.mul_le_mul_right f.unit h
                omega
            exact hi j hlt (by omega)
          simp [h3]
        · rcases Nat.lt_or_ge n f.least with h4 | h4
          · simp; omega
          · simp; omega
      refine AWp.exit ?_
      try simp only [thenQ, blockQ, noGo, reduceIte, Nat.reduceEqDiff]
      refine hK1 _ ?_
      refine AWp.regionW ?_
      refine AWp.ret ?_
      try simp only [thenQ, blockQ, noGo]
      refine bodyQ.m ?_
      clear hK3 K3 hK2 K2 hK1 K1
      rw [hf]
      first | done | exact Hand.go
theorem class11_c (k : Nat) (hk : k ≤ 6) : PC Tryz.prog 60 [nat k] (nat (kinsideN k).1) := by
  have hq : (kinsideN k).1 = if k = 3 ∨ k = 4 then 2 else if 1 ≤ k then 1 else 0 := by
    have h : k = 0 ∨ k = 1 ∨ k = 2 ∨ k = 3 ∨ k = 4 ∨ k = 5 ∨ k = 6 := by omega
    rcases h with rfl | rfl | rfl | rfl | rfl | rfl | rfl <;> rfl
  refine PC.of_bodyW (by simp only [push_cast]) Tryz.func60 rfl (by rw [Tryz.ntmps60]; simp) ?_
  refine AWp.regionW ?_
  refine AWp.seqK fun K1 hK1 => ?_
  refine AWp.regionA fun K2 hK2 => ?_
  refine ARun.segm 3 fun KS hKS => ?_
  refine ARun2.endm (hKS _ ?_); clear hKS KS
  apply ARun.grpM 2 2 false 7 [0, 5]
  · intro g2 KG hKG
    refine ARun2.gom ?_
    exact ARun2.endm (hKG _ Le.grpM)
  refine ARun2.gom ?_
  refine ARun2.endm (hK2 _ ?_)
  refine AWp.condLM (fun c0 => ?_) (fun c0 => ?_)
  · skip
    refine AWp.regionW ?_
    refine AWp.ret ?_
    try simp only [thenQ, blockQ, noGo]
    refine bodyQ.m ?_
    clear hK2 K2 hK1 K1
    rw [hq, if_pos (by simpa using c0)]
    first | done | exact Hand.go
  · skip
    refine AWp.skip ?_
    refine hK1 _ ?_
    refine AWp.seqK fun K3 hK3 => ?_
    refine AWp.regionA fun K4 hK4 => ?_
    refine ARun.segm 3 fun KS hKS => ?_
    refine ARun2.endm (hKS _ ?_); clear hKS KS
    apply ARun.grpM 2 2 true 13 [11]
    · intro g2 KG hKG
      refine ARun2.gom ?_
      exact ARun2.endm (hKG _ Le.grpM)
    refine ARun2.gom ?_
    refine ARun2.endm (hK4 _ ?_)
    refine AWp.condLM (fun c1 => ?_) (fun c1 => ?_)
    · skip
      refine AWp.regionW ?_
      refine AWp.ret ?_
      try simp only [thenQ, blockQ, noGo]
      refine bodyQ.m ?_
      clear hK4 K4 hK3 K3 hK2 K2 hK1 K1
      rw [hq, if_neg (by simpa using c0), if_pos (by simp at c1; omega)]
      first | done | exact Hand.go
    · skip
      refine AWp.skip ?_
      refine hK3 _ ?_
      refine AWp.regionW ?_
      refine AWp.ret ?_
      try simp only [thenQ, blockQ, noGo]
      refine bodyQ.m ?_
      clear hK4 K4 hK3 K3 hK2 K2 hK1 K1
      rw [hq, if_neg (by simpa using c0), if_neg (by simp at c1; omega)]
      first | done | exact Hand.go
theorem kk_ref (q n y : Nat) (hq : q ≤ 6) : (decide ((kinsideN q).2.1 ≤ n) && decide (n ≤ (kinsideN q).2.2) && (q != 1 || y == 1) && (q != 6 || (y == 5 || y == 6))) =
    if q = 0 then n == 0 else if q = 1 then (n == 1 && y == 1) else if q = 4 then (decide (1 ≤ n) && decide (n ≤ 16384)) else if q = 5 then (n == 1 || n == 2) else if q = 6 then (decide (2 ≤ n) && decide (n ≤ 16384) && (y == 5 || y == 6)) else decide (n ≤ 16384) := by
  have h : q = 0 ∨ q = 1 ∨ q = 2 ∨ q = 3 ∨ q = 4 ∨ q = 5 ∨ q = 6 := by omega
  rcases h with rfl | rfl | rfl | rfl | rfl | rfl | rfl <;> rw [Bool.eq_iff_iff] <;> simp [kinsideN] <;> omega
theorem wanted12_c (k : KForm) (l : List GNode) (hk : k.kids ≤ 6) (hl : l.length ≤ 2 ^ 40) : PC Tryz.prog 56 [kformA k, .sl false 3 (nodesA false l)] (bool (kkidsOk k l)) := by
  have hq : kkidsOk k l = _ := kk_ref k.kids l.length (l.headD default).ty hk
  refine PC.of_bodyW (by simp only [push_cast]) Tryz.func56 rfl (by rw [Tryz.ntmps56]; simp) ?_
  refine AWp.regionW ?_
  refine AWp.regionW ?_
  refine AWp.seqK fun K1 hK1 => ?_
  refine AWp.regionW ?_
  refine AWp.block ?_
  refine AWp.regionW ?_
  refine AWp.condLM (fun c0 => ?_) (fun c0 => ?_)
  · skip
    have h0 : k.kids = 0 := by simpa using c0
    rw [if_pos h0] at hq
    refine AWp.regionW ?_
    refine AWp.ret ?_
    try simp only [thenQ, blockQ, noGo]
    refine bodyQ.m ?_
    clear hK1 K1
    rw [hq]
    first | done | exact Hand.go
  · skip
    have h0 : ¬ k.kids = 0 := by simpa using c0
    rw [if_neg h0] at hq
    refine AWp.regionW ?_
    refine AWp.condLM (fun c1 => ?_) (fun c1 => ?_)
    · skip
      rw [if_pos (by simpa using c1)] at hq
      refine AWp.regionA fun K2 hK2 => ?_
      refine ARun.segm 3 fun KS hKS => ?_
      refine ARun2.endm (hKS _ ?_); clear hKS KS
      apply ARun.grpM 5 2 true 23 [18]
      · intro g2 KG hKG
        have hn : 0 < l.length := by simp at g2; omega
        refine ARun2.gom ?_
        refine ARun2.indexM (0) (nodeA false (l.headD default)) ?_ ?_
        · exact nodesA_head false l hn
        exact ARun2.endm (hKG _ Le.grpM)
      refine ARun2.gom ?_
      refine ARun2.endm (hK2 _ ?_)
      refine AWp.ret ?_
      try simp only [thenQ, blockQ, noGo]
      refine bodyQ.m ?_
      clear hK2 K2 hK1 K1
      rw [hq]
      first | done | exact Hand.go
    · skip
      rw [if_neg (by simpa using c1)] at hq
      refine AWp.regionW ?_
      refine AWp.condLM (fun c2 => ?_) (fun c2 => ?_)
      · skip
        rw [if_pos (by simpa using c2)] at hq
        refine AWp.regionA fun K3 hK3 => ?_
        refine ARun.segm 3 fun KS hKS => ?_
        refine ARun2.endm (hKS _ ?_); clear hKS KS
        apply ARun.grpM 2 2 true 31 [29]
        · intro g2 KG hKG
          refine ARun2.gom ?_
          exact ARun2.endm (hKG _ Le.grpM)
        refine ARun2.gom ?_
        refine ARun2.endm (hK3 _ ?_)
        refine AWp.ret ?_
        try simp only [thenQ, blockQ, noGo]
        refine bodyQ.m ?_
        clear hK3 K3 hK1 K1
        rw [hq]
        first | done | exact Hand.go
      · skip
        rw [if_neg (by simpa using c2)] at hq
        refine AWp.regionW ?_
        refine AWp.condLM (fun c3 => ?_) (fun c3 => ?_)
        · skip
          rw [if_pos (by simpa using c3)] at hq
          refine AWp.regionA fun K4 hK4 => ?_
          refine ARun.segm 3 fun KS hKS => ?_
          refine ARun2.endm (hKS _ ?_); clear hKS KS
          apply ARun.grpM 2 2 false 39 [37]
          · intro g2 KG hKG
            refine ARun2.gom ?_
            exact ARun2.endm (hKG _ Le.grpM)
          refine ARun2.gom ?_
          refine ARun2.endm (hK4 _ ?_)
          refine AWp.ret ?_
          try simp only [thenQ, blockQ, noGo]
          refine bodyQ.m ?_
          clear hK4 K4 hK1 K1
          rw [hq]
          first | done | exact Hand.go
        · skip
          rw [if_neg (by simpa using c3)] at hq
          refine AWp.regionW ?_
          refine AWp.condLM (fun c4 => ?_) (fun c4 => ?_)
          · skip
            rw [if_pos (by simpa using c4)] at hq
            refine AWp.regionA fun K5 hK5 => ?_
            refine ARun.segm 3 fun KS hKS => ?_
            refine ARun2.endm (hKS _ ?_); clear hKS KS
            apply ARun.grpM 2 2 true 47 [1, 45]
            · intro g2 KG hKG
              refine ARun2.gom ?_
              exact ARun2.endm (hKG _ Le.grpM)
            refine ARun.segm 2 fun KS hKS => ?_
            refine ARun2.endm (hKS _ ?_); clear hKS KS
            apply ARun.grpM 12 6 true 61 [49]
            · intro g6 KG hKG
              have hn : 0 < l.length := by simp at g6; omega
              refine ARun.segm 6 fun KS hKS => ?_
              refine ARun2.indexM (0) (nodeA false (l.headD default)) ?_ ?_
              · exact nodesA_head false l hn
              refine ARun2.endm (hKS _ ?_); clear hKS KS
              apply ARun.grpM 5 12 false 60 [49, 55]
              · intro g12 KG hKG
                refine ARun2.gom ?_
                refine ARun2.indexM (0) (nodeA false (l.headD default)) ?_ ?_
                · exact nodesA_head false l hn
                exact ARun2.endm (hKG _ Le.grpM)
              refine ARun2.gom ?_
              exact ARun2.endm (hKG _ Le.grpM)
            refine ARun2.gom ?_
            refine ARun2.endm (hK5 _ ?_)
            refine AWp.ret ?_
            try simp only [thenQ, blockQ, noGo]
            refine bodyQ.m ?_
            clear hK5 K5 hK1 K1
            rw [hq]
            first | done | exact Hand.go
          · skip
            rw [if_neg (by simpa using c4)] at hq
            refine AWp.skip ?_
            refine hK1 _ ?_
            refine AWp.regionW ?_
            refine AWp.ret ?_
            try simp only [thenQ, blockQ, noGo]
            refine bodyQ.m ?_
            clear hK1 K1
            rw [hq]
            first | done | exact Hand.go
theorem number12_c (d : List UInt8) (i : Nat) (hd : d.length ≤ 2 ^ 40) (hi : i + 2 ≤ d.length) : PC Tryz.prog 77 [.sl false 1 (bys d), nat i] (nat (peekN 2 d i)) := by
  have hp := peek_bytes d i hi
  have h1 := (d[i]'(by omega)).toNat_lt
  have h2 := (d[i + 1]'(by omega)).toNat_lt
  refine PC.of_bodyW (by simp only [push_cast]) Tryz.func77 rfl (by rw [Tryz.ntmps77]; simp) ?_
  refine AWp.regionW ?_
  refine AWp.drS [[(0, none)], [(1, none)], [(5, some 0), (6, some 1)], [(7, some 2)], [(8, some 3)], [(9, some 4)], [(0, none)], [(1, none)], [(12, some 7)], [(11, some 6), (13, some 8)], [(14, some 9)], [(15, some 10)], [(10, some 5), (16, some 11)], [(17, some 12)]] fun G hG => ?_
  refine Dr.sim ?_
  try simp only [List.cons_append, List.nil_append]
  refine Dr.sim ?_
  try simp only [List.cons_append, List.nil_append]
  refine Dr.idx (i) (.val (.int .u8 (N (d[i]'(by omega)).toNat))) ?_ ?_
  · exact bys_at _ _ (by omega)
  try simp only [List.cons_append, List.nil_append]
  refine Dr.sim ?_
  try simp only [List.cons_append, List.nil_append]
  refine Dr.sim ?_
  try simp only [List.cons_append, List.nil_append]
  refine Dr.sim ?_
  try simp only [List.cons_append, List.nil_append]
  refine Dr.sim ?_
  try simp only [List.cons_append, List.nil_append]
  refine Dr.sim ?_
  try simp only [List.cons_append, List.nil_append]
  refine Dr.sim ?_
  try simp only [List.cons_append, List.nil_append]
  refine Dr.idx (i + 1) (.val (.int .u8 (N (d[i + 1]'(by omega)).toNat))) ?_ ?_
  · exact bys_at _ _ (by omega)
  try simp only [List.cons_append, List.nil_append]
  refine Dr.sim ?_
  try simp only [List.cons_append, List.nil_append]
  refine Dr.sim ?_
  try simp only [List.cons_append, List.nil_append]
  refine Dr.sim ?_
  try simp only [List.cons_append, List.nil_append]
  refine Dr.sim ?_
  try simp only [List.cons_append, List.nil_append]
  refine Dr.finM (n := 14) [(4, 13)] [] hG YtjbbkbpnagefoaaGreatDoor.Facts.mixed fun KD hKD => ?_
  refine ARun2.endm (hKD _ ?_); clear hKD KD hG G
  refine AWp.ret ?_
  try simp only [thenQ, blockQ, noGo]
  refine bodyQ.m ?_
  rw [hp, Nat.mul_comm]
  first | done | exact Hand.go
theorem counted12_c (c : GChunk) (hd : c.data.length ≤ 2 ^ 40) (h : c.ty = 3 → 12 ≤ c.data.length ∧ (c.data.length - 12) % 4 = 0) : PC Tryz.prog 57 [u8 c.ty, .sl false 1 (bys c.data)] (bool (!sackBad c)) := by
  have p1 := peek2_lt c.data 8
  have p2 := peek2_lt c.data 10
  have hs : (c.ty != 3 || 4 * (peekN 2 c.data 8 + peekN 2 c.data 10) == c.data.length - 12) = !sackBad c := by
    unfold sackBad
    by_cases h3 : c.ty = 3
    · have := h h3
      rw [Bool.eq_iff_iff]; simp [h3]; omega
    · have e : (c.ty == 3) = false := by simpa using h3
      simp [bne, e]
  refine PC.of_bodyW (by simp only [push_cast]) Tryz.func57 rfl (by rw [Tryz.ntmps57]; simp) ?_
  refine AWp.regionW ?_
  refine AWp.regionA fun K1 hK1 => ?_
  refine ARun.segm 3 fun KS hKS => ?_
  refine ARun2.endm (hKS _ ?_); clear hKS KS
  apply ARun.grpM 10 2 false 17 [7]
  · intro g2 KG hKG
    have h3 : c.ty = 3 := by simpa using g2
    have hl := h h3
    refine ARun2.gom ?_
    refine ARun2.callM (number12_c c.data 8 hd (by omega)) ?_
    refine ARun2.callM (number12_c c.data 10 hd (by omega)) ?_
    exact ARun2.endm (hKG _ Le.grpM)
  refine ARun2.gom ?_
  refine ARun2.endm (hK1 _ ?_)
  refine AWp.ret ?_
  try simp only [thenQ, blockQ, noGo]
  refine bodyQ.m ?_
  clear hK1 K1
  rw [← hs]
  first | done | exact Hand.go
/-- the place of what is odd; -1: nowhere -/
def oddI (c : GChunk) : Int := match oddN c with
  | some i => N i
  | none => -1
theorem odd12_c (c : GChunk) (hd : c.data.length ≤ 2 ^ 40) (h64 : c.ty = 64 → 17 ≤ c.data.length) (h194 : c.ty = 194 → 4 ≤ c.data.length ∧ (c.data.length - 4) % 8 = 0) :
    PC Tryz.prog 58 [u8 c.ty, .sl false 1 (bys c.data)] (.val (.int .i64 (oddI c))) := by
  refine PC.of_bodyW (by simp only [push_cast]) Tryz.func58 rfl (by rw [Tryz.ntmps58]; simp) ?_
  refine AWp.regionW ?_
  refine AWp.seqK fun K1 hK1 => ?_
  refine AWp.regionA fun K2 hK2 => ?_
  refine ARun.segm 3 fun KS hKS => ?_
  refine ARun2.endm (hKS _ ?_); clear hKS KS
  apply ARun.grpM 3 2 true 11 [0, 1, 8]
  · intro g2 KG hKG
    have h3 : c.ty = 64 := by simpa using g2
    have hl := h64 h3
    refine ARun2.gom ?_
    refine ARun2.callM (number12_c c.data 6 hd (by omega)) ?_
    exact ARun2.endm (hKG _ Le.grpM)
  refine ARun2.gom ?_
  refine ARun2.endm (hK2 _ ?_)
  refine AWp.condLM (fun c0 => ?_) (fun c0 => ?_)
  · skip
    have hr : oddI c = 6 := by
      simp at c0
      unfold oddI oddN; rw [if_pos c0.1, if_pos c0.2]; rfl
    refine AWp.regionW ?_
    refine AWp.ret ?_
    try simp only [thenQ, blockQ, noGo]
    refine bodyQ.m ?_
    clear hK2 K2 hK1 K1
    rw [hr]
    first | done | exact Hand.go
  · skip
    have hq : oddN c = if c.ty = 194 then oddAt c.data c.data.length 4 else none := by
      unfold oddN
      by_cases h3 : c.ty = 64
      · have hp : peekN 2 c.data 6 = 0 := by simp [h3] at c0; exact c0
        rw [if_pos h3, if_neg (by rw [hp]; simp), if_neg (by omega)]
      · rw [if_neg h3]
    refine AWp.skip ?_
    refine hK1 _ ?_
    refine AWp.seqK fun K3 hK3 => ?_
    refine AWp.regionW ?_
    refine AWp.block ?_
    refine AWp.loopK0 [0, 1] (fun (g : Nat × Nat) => [(5, nat (g.2 + 2))]) (fun g => (c.ty = 194 → oddAt c.data c.data.length 4 = oddAt c.data g.1 g.2 ∧ g.2 ≤ c.data.length ∧ (c.data.length - g.2) % 8 = 0 ∧ c.data.length - g.2 ≤ g.1)) (fun g => c.data.length - g.2) ((c.data.length, 4)) ?_ (fun h => ⟨rfl, (h194 h).1, (h194 h).2, Nat.sub_le _ _⟩) ?_
    · skip
      refine Le.m 0 ?_ ?_
      · first | with_reducible rfl | (simp only [push_cast, ↓reduceIte, Nat.reduceEqDiff, Nat.reduceLT, Nat.reduceAdd, Nat.reduceSub, Nat.reduceMul, Nat.reduceLeDiff, Nat.reducePow, Int.reduceLT, Int.reduceToNat, reduceCtorEq, Int.reduceNeg, Int.reduceEq, Nat.reduceBEq, Nat.reduceBNe, Int.reduceBEq, Int.reduceBNe, String.reduceEq]; first | done | rfl | (simp (disch := omega) only [w_nat, w_add, w_addl, w_addr, w_sub, w_subl, w_mul, w_mull, w_mulr, w_u32, w_u16, w_u8, w_u32a, N_zero]; first | done | rfl))
      · first | (simp only [push_cast, ↓reduceIte, Nat.reduceEqDiff, Nat.reduceLT, Nat.reduceAdd, Nat.reduceSub, Nat.reduceMul, Nat.reduceLeDiff, Nat.reducePow, Int.reduceLT, Int.reduceToNat, reduceCtorEq, Int.reduceNeg, Int.reduceEq, Nat.reduceBEq, Nat.reduceBNe, Int.reduceBEq, Int.reduceBNe, String.reduceEq]; first | done | rfl | (simp (disch := omega) only [w_nat, w_add, w_addl, w_addr, w_sub, w_subl, w_mul, w_mull, w_mulr, w_u32, w_u16, w_u8, w_u32a, N_zero]; first | done | rfl))
    · intro g hg K4 hK4
      obtain ⟨q, i⟩ := g
      dsimp only at hg ⊢
      refine AWp.seqK fun K5 hK5 => ?_
      refine AWp.regionA fun K6 hK6 => ?_
      refine ARun.segm 3 fun KS hKS => ?_
      refine ARun2.endm (hKS _ ?_); clear hKS KS
      apply ARun.grpM 4 2 true 19 [0, 1, 5, 15]
      · intro g2 KG hKG
        have h4 : c.ty = 194 := by simpa using g2
        have hgg := hg h4
        refine ARun2.gom ?_
        exact ARun2.endm (hKG _ Le.grpM)
      refine ARun2.gom ?_
      refine ARun2.endm (hK6 _ ?_)
      refine AWp.condLM (fun c1 => ?_) (fun c1 => ?_)
      · skip
        have h4 : c.ty = 194 ∧ i + 2 < c.data.length := by simpa using c1
        obtain ⟨hg1, hg2, hg3, hg4⟩ := hg h4.1
        obtain ⟨q, rfl⟩ : ∃ q', q = q' + 1 := ⟨q - 1, by omega⟩
        rw [oddAt, if_pos (by omega)] at hg1
        refine AWp.skip ?_
        refine hK5 _ ?_
        refine AWp.seqK fun K7 hK7 => ?_
        refine AWp.block ?_
        refine AWp.regionM fun K8 hK8 => ?_
        refine ARun2.callM (number12_c c.data (i + 2) hd (by omega)) ?_
        refine ARun2.endm (hK8 _ ?_)
        refine AWp.condLM (fun c2 => ?_) (fun c2 => ?_)
        · skip
          have hp : 1 < peekN 2 c.data (i + 2) := by simpa using c2
          rw [if_pos hp] at hg1
          have hr : oddI c = N (i + 2) := by unfold oddI; rw [hq, if_pos h4.1, hg1]
          refine AWp.regionW ?_
          refine AWp.ret ?_
          try simp only [thenQ, blockQ, noGo]
          refine bodyQ.m ?_
          clear hK8 K8 hK7 K7 hK6 K6 hK5 K5 hK4 K4 hK3 K3 hK2 K2 hK1 K1
          rw [hr]
          first | done | exact Hand.go
        · skip
          have hp : ¬ 1 < peekN 2 c.data (i + 2) := by simpa using c2
          rw [if_neg hp] at hg1
          refine AWp.skip ?_
          refine hK7 _ ?_
          refine AWp.regionV ?_
          refine hK4 _ ((q, i + 8)) ((fun _ => ⟨hg1, by show i + 8 ≤ _; omega, by show (c.data.length - (i + 8)) % 8 = 0; omega, by show c.data.length - (i + 8) ≤ q; omega⟩)) (by show c.data.length - (i + 8) < c.data.length - i; omega) ?_
          refine Le.m 0 ?_ ?_
          · first | with_reducible rfl | (simp only [push_cast, ↓reduceIte, Nat.reduceEqDiff, Nat.reduceLT, Nat.reduceAdd, Nat.reduceSub, Nat.reduceMul, Nat.reduceLeDiff, Nat.reducePow, Int.reduceLT, Int.reduceToNat, reduceCtorEq, Int.reduceNeg, Int.reduceEq, Nat.reduceBEq, Nat.reduceBNe, Int.reduceBEq, Int.reduceBNe, String.reduceEq]; first | done | rfl | (simp (disch := omega) only [w_nat, w_add, w_addl, w_addr, w_sub, w_subl, w_mul, w_mull, w_mulr, w_u32, w_u16, w_u8, w_u32a, N_zero]; first | done | rfl))
          · first | (simp only [push_cast, ↓reduceIte, Nat.reduceEqDiff, Nat.reduceLT, Nat.reduceAdd, Nat.reduceSub, Nat.reduceMul, Nat.reduceLeDiff, Nat.reducePow, Int.reduceLT, Int.reduceToNat, reduceCtorEq, Int.reduceNeg, Int.reduceEq, Nat.reduceBEq, Nat.reduceBNe, Int.reduceBEq, Int.reduceBNe, String.reduceEq]; first | done | rfl | (simp (disch := omega) only [w_nat, w_add, w_addl, w_addr, w_sub, w_subl, w_mul, w_mull, w_mulr, w_u32, w_u16, w_u8, w_u32a, N_zero]; first | done | rfl))
      · skip
        have hr : oddI c = -1 := by
          unfold oddI; rw [hq]
          by_cases h4 : c.ty = 194
          · obtain ⟨hg1, hg2, hg3, hg4⟩ := hg h4
            simp [h4] at c1
            rw [if_pos h4, hg1]
            cases q with
            | zero => rfl
            | succ q => rw [oddAt, if_neg (by omega)]
          · rw [if_neg h4]
        refine AWp.exit ?_
        try simp only [thenQ, blockQ, noGo, reduceIte, Nat.reduceEqDiff]
        refine hK3 _ ?_
        refine AWp.regionW ?_
        refine AWp.ret ?_
        try simp only [thenQ, blockQ, noGo]
        refine bodyQ.m ?_
        clear hK6 K6 hK5 K5 hK4 K4 hK3 K3 hK2 K2 hK1 K1
        rw [hr]
        first | done | exact Hand.go
theorem refAll2_c (c : Nat) (l : List GNode) (hcl : 0 < l.length → c = 1 ∨ c = 2) (hs : nSize l ≤ 2 ^ 30) : PC Tryz.prog 59 [nat c, .sl false 3 (nodesA false l)] (nat (checkL c 1 l)) := by
  have hlen := nSize_len l
  refine PC.of_bodyW (by simp only [push_cast]) Tryz.func59 rfl (by rw [Tryz.ntmps59]; simp) ?_
  refine AWp.regionW ?_
  refine AWp.seqK fun K1 hK1 => ?_
  refine AWp.regionW ?_
  refine AWp.block ?_
  refine AWp.loopK0 [0, 1] (fun (i : Nat) => [(5, nat i)]) (fun i => i ≤ l.length ∧ checkL c 1 (l.take i) = 0) (fun i => l.length - i) (0) ?_ ⟨Nat.zero_le _, rfl⟩ ?_
  · skip
    refine Le.m 0 ?_ ?_
    · first | with_reducible rfl | (simp only [push_cast, ↓reduceIte, Nat.reduceEqDiff, Nat.reduceLT, Nat.reduceAdd, Nat.reduceSub, Nat.reduceMul, Nat.reduceLeDiff, Nat.reducePow, Int.reduceLT, Int.reduceToNat, reduceCtorEq, Int.reduceNeg, Int.reduceEq, Nat.reduceBEq, Nat.reduceBNe, Int.reduceBEq, Int.reduceBNe, String.reduceEq]; first | done | rfl | (simp (disch := omega) only [w_nat, w_add, w_addl, w_addr, w_sub, w_subl, w_mul, w_mull, w_mulr, w_u32, w_u16, w_u8, w_u32a, N_zero]; first | done | rfl))
    · first | (simp only [push_cast, ↓reduceIte, Nat.reduceEqDiff, Nat.reduceLT, Nat.reduceAdd, Nat.reduceSub, Nat.reduceMul, Nat.reduceLeDiff, Nat.reducePow, Int.reduceLT, Int.reduceToNat, reduceCtorEq, Int.reduceNeg, Int.reduceEq, Nat.reduceBEq, Nat.reduceBNe, Int.reduceBEq, Int.reduceBNe, String.reduceEq]; first | done | rfl | (simp (disch := omega) only [w_nat, w_add, w_addl, w_addr, w_sub, w_subl, w_mul, w_mull, w_mulr, w_u32, w_u16, w_u8, w_u32a, N_zero]; first | done | rfl))
  · intro i hi K2 hK2
    refine AWp.seqK fun K3 hK3 => ?_
    refine AWp.regionW ?_
    refine AWp.condLM (fun c0 => ?_) (fun c0 => ?_)
    · skip
      have hil : i < l.length := by simpa using c0
      have hc := hcl (by omega)
      have hm := List.getElem_mem hil
      have hn1 := nSize_one hm
      refine AWp.skip ?_
      refine hK3 _ ?_
      refine AWp.seqK fun K4 hK4 => ?_
      refine AWp.block ?_
      refine AWp.regionM fun K5 hK5 => ?_
      refine ARun2.indexM (i) (nodeA false l[i]) ?_ ?_
      · exact nodesA_at _ _ _ hil
      refine ARun2.callM (check08_c c 1 l[i] hc (by omega) (by omega)) ?_
      refine ARun2.endm (hK5 _ ?_)
      refine AWp.regionW ?_
      refine AWp.condLM (fun c1 => ?_) (fun c1 => ?_)
      · skip
        have hne : checkN c 1 l[i] ≠ 0 := by simpa using c1
        have hr := checkL_at c 1 l i hil hi.2 hne
        refine AWp.regionW ?_
        refine AWp.ret ?_
        try simp only [thenQ, blockQ, noGo]
        refine bodyQ.m ?_
        clear hK5 K5 hK4 K4 hK3 K3 hK2 K2 hK1 K1
        rw [hr]
        first | done | exact Hand.go
      · skip
        have heq : checkN c 1 l[i] = 0 := by simpa using c1
        refine AWp.skip ?_
        refine hK4 _ ?_
        refine AWp.regionV ?_
        refine hK2 _ (i + 1) (⟨hil, by rw [List.take_succ_eq_append_getElem hil, checkL_snoc, hi.2]; simpa using heq⟩) (by omega) ?_
        refine Le.m 0 ?_ ?_
        · first | with_reducible rfl | (simp only [push_cast, ↓reduceIte, Nat.reduceEqDiff, Nat.reduceLT, Nat.reduceAdd, Nat.reduceSub, Nat.reduceMul, Nat.reduceLeDiff, Nat.reducePow, Int.reduceLT, Int.reduceToNat, reduceCtorEq, Int.reduceNeg, Int.reduceEq, Nat.reduceBEq, Nat.reduceBNe, Int.reduceBEq, Int.reduceBNe, String.reduceEq]; first | done | rfl | (simp (disch := omega) only [w_nat, w_add, w_addl, w_addr, w_sub, w_subl, w_mul, w_mull, w_mulr, w_u32, w_u16, w_u8, w_u32a, N_zero]; first | done | rfl))
        · first | (simp only [push_cast, ↓reduceIte, Nat.reduceEqDiff, Nat.reduceLT, Nat.reduceAdd, Nat.reduceSub, Nat.reduceMul, Nat.reduceLeDiff, Nat.reducePow, Int.reduceLT, Int.reduceToNat, reduceCtorEq, Int.reduceNeg, Int.reduceEq, Nat.reduceBEq, Nat.reduceBNe, Int.reduceBEq, Int.reduceBNe, String.reduceEq]; first | done | rfl | (simp (disch := omega) only [w_nat, w_add, w_addl, w_addr, w_sub, w_subl, w_mul, w_mull, w_mulr, w_u32, w_u16, w_u8, w_u32a, N_zero]; first | done | rfl))
    · skip
      have hil : i = l.length := by have := hi.1; simp at c0; omega
      subst hil
      have hr : checkL c 1 l = 0 := by have := hi.2; rwa [List.take_length] at this
      refine AWp.exit ?_
      try simp only [thenQ, blockQ, noGo, reduceIte, Nat.reduceEqDiff]
      refine hK1 _ ?_
      refine AWp.regionW ?_
      refine AWp.ret ?_
      try simp only [thenQ, blockQ, noGo]
      refine bodyQ.m ?_
      clear hK3 K3 hK2 K2 hK1 K1
      rw [hr]
      first | done | exact Hand.go
theorem size12_c (c : GChunk) (hd : c.data.length ≤ 2 ^ 40) (hs : nSize c.kids ≤ 2 ^ 30) : PC Tryz.prog 61 [chunkA false c] (nat (4 + c.data.length + nSize c.kids)) := by
  refine PC.of_bodyW (by simp only [push_cast]) Tryz.func61 rfl (by rw [Tryz.ntmps61]; simp) ?_
  refine AWp.regionW ?_
  refine AWp.drS [[(1, none)], [(3, some 0)], [(4, some 1)], [(5, some 2)], [(1, none)], [(7, some 4)], [(8, some 5)], [(6, some 3), (9, some 6)], [(10, some 7)]] fun G hG => ?_
  refine Dr.sim ?_
  try simp only [List.cons_append, List.nil_append]
  refine Dr.sim ?_
  try simp only [List.cons_append, List.nil_append]
  refine Dr.sim ?_
  try simp only [List.cons_append, List.nil_append]
  refine Dr.sim ?_
  try simp only [List.cons_append, List.nil_append]
  refine Dr.sim ?_
  try simp only [List.cons_append, List.nil_append]
  refine Dr.sim ?_
  try simp only [List.cons_append, List.nil_append]
  refine Dr.call (size08_c c.kids hs) ?_
  try simp only [List.cons_append, List.nil_append]
  refine Dr.sim ?_
  try simp only [List.cons_append, List.nil_append]
  refine Dr.sim ?_
  try simp only [List.cons_append, List.nil_append]
  refine Dr.finM (n := 9) [(2, 8)] [] hG YtjbbkbpnagefoaaGreatDoor.Facts.mixed fun KD hKD => ?_
  refine ARun2.endm (hKD _ ?_); clear hKD KD hG G
  refine AWp.ret ?_
  try simp only [thenQ, blockQ, noGo]
  refine bodyQ.m ?_
  first | done | exact Hand.go
set_option maxRecDepth 100000 in
theorem mask_ref : ((List.range 256).all fun f => [0, 1, 15].all fun m => (bitsV .and .i64 (N f) (N (255 - m)) != 0) == maskBad f m) = true := by kernel_rfl
theorem mask_eq (f m : Nat) (hf : f < 256) (hm : m = 0 ∨ m = 1 ∨ m = 15) : (bitsV .and .i64 (N f) (N (255 - m)) != 0) = maskBad f m := by
  have h := List.all_eq_true.1 mask_ref f (by simpa using hf)
  have h2 := List.all_eq_true.1 h m (by simpa using hm)
  simpa using h2
theorem value_odd (c : GChunk) : (valueE c).codeOf.1 = if 0 ≤ oddI c then 11 else 0 := by
  unfold valueE oddI
  cases oddN c <;> simp [Er.codeOf, N]
theorem code_if (e : Er) : (if e = .ok then Er.ok else e).codeOf = e.codeOf := by
  split
  · rename_i h; rw [h]
  · rfl
theorem preE_eq (c : GChunk) : (preE c).codeOf.1 =
    if maskBad c.flags (kindOf c.ty).mask = true then 6 else if kfitsN (kindOf c.ty) c.data.length = false then 7 else if kkidsOk (kindOf c.ty) c.kids = false then 7 else if sackBad c = true then 8 else if 0 ≤ oddI c then 11 else 0 := by
  unfold preE
  simp only [firstE, flagsE, dataE, kidsE, countE]
  by_cases h1 : maskBad c.flags (kindOf c.ty).mask = true
  · simp [h1, Er.codeOf]
  · by_cases h2 : kfitsN (kindOf c.ty) c.data.length = false
    · simp [h1, h2, Er.codeOf]
    · by_cases h3 : kkidsOk (kindOf c.ty) c.kids = false
      · simp [h1, h2, h3, Er.codeOf]
      · by_cases h4 : sackBad c = true
        · simp [h1, h2, h3, h4, Er.codeOf]
        · simp [h1, h2, h3, h4, code_if, value_odd]
theorem fits_facts {c : GChunk} (h : kfitsN (kindOf c.ty) c.data.length = true) : (c.ty = 3 → 12 ≤ c.data.length ∧ (c.data.length - 12) % 4 = 0) ∧ (c.ty = 64 → 17 ≤ c.data.length) ∧ (c.ty = 194 → 4 ≤ c.data.length ∧ (c.data.length - 4) % 8 = 0) := by
  unfold kfitsN at h
  simp only [Bool.and_eq_true, decide_eq_true_eq, beq_iff_eq] at h
  obtain ⟨⟨h1, h2⟩, h3⟩ := h
  refine ⟨fun e => ?_, fun e => ?_, fun e => ?_⟩
  · rw [e] at h1 h3; exact ⟨h1, h3⟩
  · rw [e] at h1; exact h1
  · rw [e] at h1 h3; exact ⟨h1, h3⟩
theorem check12_c (c : GChunk) (hfl : c.flags < 256) (hd : c.data.length ≤ 2 ^ 39) (hs : nSize c.kids ≤ 2 ^ 30) : PC Tryz.prog 25 [chunkA false c] (nat (checkC c)) := by
  have hkl := nSize_len c.kids
  have hb := kind_bd c.ty
  have hof := of11_c c.ty
  have hm := mask_eq c.flags (kindOf c.ty).mask hfl hb.2.2.2.2.2.1
  obtain ⟨C, hC0⟩ : ∃ C, C = checkC c := ⟨_, rfl⟩
  obtain ⟨S, hS0⟩ : ∃ S, S = startC c := ⟨_, rfl⟩
  have hC : C = if S ≠ 0 then S else if checkL (classOf c.ty) 1 c.kids ≠ 0 then checkL (classOf c.ty) 1 c.kids else if 65535 < 4 + c.data.length + nSize c.kids then 4 else 0 := by rw [hC0, hS0]; rfl
  have hst : S = if kindHas c.ty = true then (if maskBad c.flags (kindOf c.ty).mask = true then 6 else if kfitsN (kindOf c.ty) c.data.length = false then 7 else if kkidsOk (kindOf c.ty) c.kids = false then 7 else if sackBad c = true then 8 else if 0 ≤ oddI c then 11 else 0) else if 0 < c.kids.length then 7 else 0 := by
    rw [hS0, ← preE_eq]; rfl
  rw [← hC0]
  have e255 : IntKind.i64.wrap (255 - N (kindOf c.ty).mask) = N (255 - (kindOf c.ty).mask) := by rw [IntKind.wrap_i64]; unfold N; omega
  have hcl : (kinsideN (kindOf c.ty).kids).1 = classOf c.ty := rfl
  have hcx := class11_c (kindOf c.ty).kids (by omega)
  rw [hcl] at hcx
  refine PC.of_bodyW (by simp only [push_cast]) Tryz.func25 rfl (by rw [Tryz.ntmps25]; simp) ?_
  refine AWp.regionW ?_
  refine AWp.regionM fun K1 hK1 => ?_
  refine ARun2.callM (hof) ?_
  refine ARun2.endm (hK1 _ ?_)
  refine AWp.seqK fun K2 hK2 => ?_
  refine AWp.regionA fun K3 hK3 => ?_
  refine ARun.segm 2 fun KS hKS => ?_
  refine ARun2.endm (hKS _ ?_); clear hKS KS
  apply ARun.grpM 9 1 true 22 [1, 3, 4, 13]
  · intro g1 KG hKG
    refine ARun2.gom ?_
    exact ARun2.endm (hKG _ Le.grpM)
  refine ARun2.gom ?_
  refine ARun2.endm (hK3 _ ?_)
  refine AWp.condLM (fun c0 => ?_) (fun c0 => ?_)
  · skip
    rw [e255, hm] at c0
    simp at c0
    rw [if_pos c0.1, if_pos c0.2] at hst
    rw [hst, if_pos (by simp)] at hC
    refine AWp.regionW ?_
    refine AWp.ret ?_
    try simp only [thenQ, blockQ, noGo]
    refine bodyQ.m ?_
    clear hK3 K3 hK2 K2 hK1 K1
    rw [hC]
    first | done | exact Hand.go
  · skip
    rw [e255, hm] at c0
    refine AWp.skip ?_
    refine hK2 _ ?_
    refine AWp.seqK fun K4 hK4 => ?_
    refine AWp.regionA fun K5 hK5 => ?_
    refine ARun.segm 3 fun KS hKS => ?_
    refine ARun2.endm (hKS _ ?_); clear hKS KS
    apply ARun.grpM 4 2 true 30 [1, 3, 4, 26]
    · intro g2 KG hKG
      refine ARun2.gom ?_
      exact ARun2.endm (hKG _ Le.grpM)
    refine ARun.segm 2 fun KS hKS => ?_
    refine ARun2.endm (hKS _ ?_); clear hKS KS
    apply ARun.grpM 16 8 false 48 [1, 3, 4, 32]
    · intro g8 KG hKG
      refine ARun.segm 2 fun KS hKS => ?_
      refine ARun2.endm (hKS _ ?_); clear hKS KS
      apply ARun.grpM 13 10 true 47 [1, 3, 4, 32, 34]
      · intro g10 KG hKG
        have hh : kindHas c.ty = true := g10
        obtain ⟨u1, u2⟩ := hb.2.2.2.2.2.2.1 hh
        refine ARun.segm 7 fun KS hKS => ?_
        refine ARun2.callM (fits11_c (kindOf c.ty) c.data.length (by omega) (by omega) (by omega) u1 (by omega)) ?_
        refine ARun2.endm (hKS _ ?_); clear hKS KS
        apply ARun.grpM 5 17 false 46 [1, 3, 4, 32, 34, 41]
        · intro g17 KG hKG
          refine ARun2.gom ?_
          refine ARun2.callM (wanted12_c (kindOf c.ty) c.kids (by omega) (by omega)) ?_
          exact ARun2.endm (hKG _ Le.grpM)
        refine ARun2.gom ?_
        exact ARun2.endm (hKG _ Le.grpM)
      refine ARun2.gom ?_
      exact ARun2.endm (hKG _ Le.grpM)
    refine ARun2.gom ?_
    refine ARun2.endm (hK5 _ ?_)
    refine AWp.condLM (fun c1 => ?_) (fun c1 => ?_)
    · skip
      have h7 : S = 7 := by
        rw [hst]; revert c0 c1
        cases kindHas c.ty <;> cases maskBad c.flags (kindOf c.ty).mask <;> cases kfitsN (kindOf c.ty) c.data.length <;> cases kkidsOk (kindOf c.ty) c.kids <;> by_cases hk0 : 0 < c.kids.length <;> simp [hk0]
      rw [h7, if_pos (by simp)] at hC
      refine AWp.regionW ?_
      refine AWp.ret ?_
      try simp only [thenQ, blockQ, noGo]
      refine bodyQ.m ?_
      clear hK5 K5 hK4 K4 hK3 K3 hK2 K2 hK1 K1
      rw [hC]
      first | done | exact Hand.go
    · skip
      have hx : (kindHas c.ty = true → maskBad c.flags (kindOf c.ty).mask = false ∧ kfitsN (kindOf c.ty) c.data.length = true ∧ kkidsOk (kindOf c.ty) c.kids = true) ∧ (kindHas c.ty = false → ¬ 0 < c.kids.length) := by
        revert c0 c1
        cases kindHas c.ty <;> cases maskBad c.flags (kindOf c.ty).mask <;> cases kfitsN (kindOf c.ty) c.data.length <;> cases kkidsOk (kindOf c.ty) c.kids <;> by_cases hk0 : 0 < c.kids.length <;> simp [hk0]
      have hst2 : S = if kindHas c.ty = true then (if sackBad c = true then 8 else if 0 ≤ oddI c then 11 else 0) else 0 := by
        rw [hst]
        cases hk : kindHas c.ty with
        | true => obtain ⟨x1, x2, x3⟩ := hx.1 hk; simp [x1, x2, x3]
        | false => simp [hx.2 hk]
      have hff : kindHas c.ty = true → _ := fun hk => fits_facts (hx.1 hk).2.1
      have hcls : 0 < c.kids.length → classOf c.ty = 1 ∨ classOf c.ty = 2 := fun hl => by
        cases hk : kindHas c.ty with
        | true => exact kclass _ _ (hx.1 hk).2.2 (by omega) hl
        | false => exact absurd hl (hx.2 hk)
      refine AWp.skip ?_
      refine hK4 _ ?_
      refine AWp.seqK fun K6 hK6 => ?_
      refine AWp.regionA fun K7 hK7 => ?_
      refine ARun.segm 2 fun KS hKS => ?_
      refine ARun2.endm (hKS _ ?_); clear hKS KS
      apply ARun.grpM 6 1 true 57 [1, 3, 4, 51]
      · intro g1 KG hKG
        have hh : kindHas c.ty = true := g1
        refine ARun2.gom ?_
        refine ARun2.callM (counted12_c c (by omega) (hff hh).1) ?_
        exact ARun2.endm (hKG _ Le.grpM)
      refine ARun2.gom ?_
      refine ARun2.endm (hK7 _ ?_)
      refine AWp.condLM (fun c2 => ?_) (fun c2 => ?_)
      · skip
        have h8 : S = 8 := by
          rw [hst2]; revert c2
          cases kindHas c.ty <;> cases sackBad c <;> simp
        rw [h8, if_pos (by simp)] at hC
        refine AWp.regionW ?_
        refine AWp.ret ?_
        try simp only [thenQ, blockQ, noGo]
        refine bodyQ.m ?_
        clear hK7 K7 hK6 K6 hK5 K5 hK4 K4 hK3 K3 hK2 K2 hK1 K1
        rw [hC]
        first | done | exact Hand.go
      · skip
        refine AWp.skip ?_
        refine hK6 _ ?_
        refine AWp.seqK fun K8 hK8 => ?_
        refine AWp.regionA fun K9 hK9 => ?_
        refine ARun.segm 2 fun KS hKS => ?_
        refine ARun2.endm (hKS _ ?_); clear hKS KS
        apply ARun.grpM 6 1 true 66 [1, 3, 60]
        · intro g1 KG hKG
          have hh : kindHas c.ty = true := g1
          refine ARun2.gom ?_
          refine ARun2.callM (odd12_c c (by omega) (hff hh).2.1 (hff hh).2.2) ?_
          exact ARun2.endm (hKG _ Le.grpM)
        refine ARun2.gom ?_
        refine ARun2.endm (hK9 _ ?_)
        refine AWp.condLM (fun c3 => ?_) (fun c3 => ?_)
        · skip
          have h11 : S = 11 := by
            rw [hst2]; revert c2 c3
            cases kindHas c.ty <;> cases sackBad c <;> by_cases ho : 0 ≤ oddI c <;> simp [ho]
          rw [h11, if_pos (by simp)] at hC
          refine AWp.regionW ?_
          refine AWp.ret ?_
          try simp only [thenQ, blockQ, noGo]
          refine bodyQ.m ?_
          clear hK9 K9 hK8 K8 hK7 K7 hK6 K6 hK5 K5 hK4 K4 hK3 K3 hK2 K2 hK1 K1
          rw [hC]
          first | done | exact Hand.go
        · skip
          have h0 : S = 0 := by
            rw [hst2]; revert c2 c3
            cases kindHas c.ty <;> cases sackBad c <;> by_cases ho : 0 ≤ oddI c <;> simp [ho]
          rw [h0, if_neg (by simp)] at hC
          refine AWp.skip ?_
          refine hK8 _ ?_
          refine AWp.drS [[(3, none)], [(68, some 0)], [(69, some 1)], [(1, none)], [(71, some 3)], [(70, some 2), (72, some 4)], [(73, some 5)]] fun G hG => ?_
          refine Dr.sim ?_
          try simp only [List.cons_append, List.nil_append]
          refine Dr.sim ?_
          try simp only [List.cons_append, List.nil_append]
          refine Dr.call (hcx) ?_
          try simp only [List.cons_append, List.nil_append]
          refine Dr.sim ?_
          try simp only [List.cons_append, List.nil_append]
          refine Dr.sim ?_
          try simp only [List.cons_append, List.nil_append]
          refine Dr.call (refAll2_c (classOf c.ty) c.kids hcls hs) ?_
          try simp only [List.cons_append, List.nil_append]
          refine Dr.sim ?_
          try simp only [List.cons_append, List.nil_append]
          refine Dr.finM (n := 7) [(5, 6)] [1] hG YtjbbkbpnagefoaaGreatDoor.Facts.mixed fun KD hKD => ?_
          refine ARun2.endm (hKD _ ?_); clear hKD KD hG G
          refine AWp.seqK fun K10 hK10 => ?_
          refine AWp.regionW ?_
          refine AWp.condLM (fun c4 => ?_) (fun c4 => ?_)
          · skip
            rw [if_pos (by simpa using c4)] at hC
            refine AWp.regionW ?_
            refine AWp.ret ?_
            try simp only [thenQ, blockQ, noGo]
            refine bodyQ.m ?_
            clear hK10 K10 hK9 K9 hK8 K8 hK7 K7 hK6 K6 hK5 K5 hK4 K4 hK3 K3 hK2 K2 hK1 K1
            rw [hC]
            first | done | exact Hand.go
          · skip
            rw [if_neg (by simpa using c4)] at hC
            refine AWp.skip ?_
            refine hK10 _ ?_
            refine AWp.seqK fun K11 hK11 => ?_
            refine AWp.regionM fun K12 hK12 => ?_
            refine ARun2.callM (size12_c c (by omega) hs) ?_
            refine ARun2.endm (hK12 _ ?_)
            refine AWp.condLM (fun c5 => ?_) (fun c5 => ?_)
            · skip
              rw [if_pos (by simpa using c5)] at hC
              refine AWp.regionW ?_
              refine AWp.ret ?_
              try simp only [thenQ, blockQ, noGo]
              refine bodyQ.m ?_
              clear hK12 K12 hK11 K11 hK10 K10 hK9 K9 hK8 K8 hK7 K7 hK6 K6 hK5 K5 hK4 K4 hK3 K3 hK2 K2 hK1 K1
              rw [hC]
              first | done | exact Hand.go
            · skip
              rw [if_neg (by simpa using c5)] at hC
              refine AWp.skip ?_
              refine hK11 _ ?_
              refine AWp.regionW ?_
              refine AWp.ret ?_
              try simp only [thenQ, blockQ, noGo]
              refine bodyQ.m ?_
              clear hK12 K12 hK11 K11 hK10 K10 hK9 K9 hK8 K8 hK7 K7 hK6 K6 hK5 K5 hK4 K4 hK3 K3 hK2 K2 hK1 K1
              rw [hC]
              first | done | exact Hand.go
end Go.Proofs.YtjbbkbpnagefoaaGreatDoor.C
/- Bytes counted up, one after the other. -/
set_option linter.unusedVariables false
set_option linter.unusedSimpArgs false
namespace Go.Proofs.YtjbbkbpnagefoaaGreatDoor.C
open Go.Abs
end Go.Proofs.YtjbbkbpnagefoaaGreatDoor.C
/- Entries of map literals. No condition. -/
namespace Go.Abs
set_option linter.unusedVariables false
set_option linter.unusedSectionVars false
set_option linter.unusedSimpArgs false
section
variable {P : Program} {ops : Array Oper} {E : Env} {s s' : AS} {ρ σ : List Value} {B : Nat → Prop} {a : Act} {w w' : World} {o : Oper} {rest : List Oper} {Q : AS → Prop} {R : Exit → AS → Prop}
variable {nds : List (List (Nat × Option Nat))} {vals : List AV} {G : Prop}
end
end Go.Abs
/- control: right, is, Number, Plain, Heartbeat, Abort, Report, Value, Info; and the reference's. -/
set_option linter.unusedVariables false
set_option linter.unusedSimpArgs false
namespace Go.Proofs.YtjbbkbpnagefoaaGreatDoor.C
open Go.Abs
theorem nSize_szs2 (l : List GNode) : nSize l ≤ 8 * szs l + 8 := by
  have h := nSize_sz (.mk 0 [] l)
  have e := vlen_eq (.mk 0 [] l)
  have e1 : nSize [GNode.mk 0 [] l] = 4 + vlen (.mk 0 [] l) := by simp [nSize, nLens, tlvSize, sumUp, upN, gapN]
  simp only [GNode.data, GNode.kids, List.length_nil] at e
  rw [e1, e, GNode.sz, List.length_nil] at h
  omega
structure Small (c : GChunk) : Prop where
  ty : c.ty < 256
  flags : c.flags < 256
  data : c.data.length ≤ 2 ^ 26
  kids : szs c.kids ≤ 2 ^ 26
theorem Small.check {c : GChunk} (h : Small c) : PC Tryz.prog 65 [chunkA false c] (errA (checkC c)) :=
  ccheck_c c h.ty (Nat.le_trans h.data (by decide)) (by have := nSize_szs2 c.kids; have := h.kids; omega)
theorem Small.check12 {c : GChunk} (h : Small c) : PC Tryz.prog 25 [chunkA false c] (nat (checkC c)) :=
  check12_c c h.flags (Nat.le_trans h.data (by decide)) (by have := nSize_szs2 c.kids; have := h.kids; omega)
theorem Small.clone {c : GChunk} (h : Small c) : PC Tryz.prog 66 [chunkA false c] (chunkA true c) :=
  cclone_f c (Nat.le_trans h.data (by decide)) (Nat.le_trans h.kids (by decide))
theorem small_zero : Small .zero := ⟨by decide, by decide, by decide, by decide⟩
def sameC (a b : GChunk) : Bool := a.ty == b.ty && a.flags == b.flags && decide (a.data = b.data) && sameL a.kids b.kids
theorem sameC_self (a : GChunk) : sameC a a = true := by
  unfold sameC; rw [(sameL_iff _ _).2 rfl]; simp
theorem same12_c (a b : GChunk) (hd : a.data.length ≤ 2 ^ 40) (hs : szs a.kids ≤ 2 ^ 40) : PC Tryz.prog 22 [chunkA false a, chunkA false b] (bool (sameC a b)) := by
  refine PC.of_bodyW (by simp only [push_cast]) Tryz.func22 rfl (by rw [Tryz.ntmps22]; simp) ?_
  refine AWp.regionW ?_
  refine AWp.regionA fun K1 hK1 => ?_
  refine ARun.segm 6 fun KS hKS => ?_
  refine ARun2.endm (hKS _ ?_); clear hKS KS
  apply ARun.grpM 5 5 true 15 [2, 3, 10]
  · intro g5 KG hKG
    refine ARun2.gom ?_
    exact ARun2.endm (hKG _ Le.grpM)
  refine ARun.segm 2 fun KS hKS => ?_
  refine ARun2.endm (hKS _ ?_); clear hKS KS
  apply ARun.grpM 5 12 true 22 [2, 3, 17]
  · intro g12 KG hKG
    refine ARun2.gom ?_
    refine ARun2.callM (same01_c a.data b.data hd) ?_
    exact ARun2.endm (hKG _ Le.grpM)
  refine ARun.segm 2 fun KS hKS => ?_
  refine ARun2.endm (hKS _ ?_); clear hKS KS
  apply ARun.grpM 5 19 true 29 [24]
  · intro g19 KG hKG
    refine ARun2.gom ?_
    refine ARun2.callM (same08_c a.kids b.kids hs) ?_
    exact ARun2.endm (hKG _ Le.grpM)
  refine ARun2.gom ?_
  refine ARun2.endm (hK1 _ ?_)
  refine AWp.ret ?_
  try simp only [thenQ, blockQ, noGo]
  refine bodyQ.m ?_
  clear hK1 K1
  simp only [sameC]
  first | done | exact Hand.go
theorem Small.same {a b : GChunk} (h : Small a) : PC Tryz.prog 22 [chunkA false a, chunkA false b] (bool (sameC a b)) :=
  same12_c a b (Nat.le_trans h.data (by decide)) (Nat.le_trans h.kids (by decide))
/-- a chunk, if it is right -/
def rightC (c : GChunk) (ok : Bool) : GChunk × Bool := bif ok && (checkC c == 0) then (c, true) else (.zero, false)
@[push_cast] theorem errA_nil (e : Nat) : nilIs .ifc (errA e) = some (e == 0) := nilIs_err e
end Go.Proofs.YtjbbkbpnagefoaaGreatDoor.C
/- control: Value, Info, Answer; the reference's Value, Info, Answer. -/
set_option linter.unusedVariables false
set_option linter.unusedSimpArgs false
namespace Go.Proofs.YtjbbkbpnagefoaaGreatDoor.C
open Go.Abs
/-- what is known of a chunk that is right -/
theorem check_zero {c : GChunk} (h : checkC c = 0) (hh : kindHas c.ty = true) : maskBad c.flags (kindOf c.ty).mask = false ∧ kfitsN (kindOf c.ty) c.data.length = true ∧ kkidsOk (kindOf c.ty) c.kids = true ∧ checkL (classOf c.ty) 1 c.kids = 0 := by
  have hs : startC c = 0 := by
    unfold checkC at h
    split at h
    · rename_i h1; exact absurd h h1
    · rename_i h1; simpa using h1
  have hl : checkL (classOf c.ty) 1 c.kids = 0 := by
    unfold checkC at h
    rw [hs, if_neg (by simp)] at h
    split at h
    · rename_i h1; exact absurd h h1
    · rename_i h1; simpa using h1
  unfold startC at hs
  rw [if_pos hh, preE_eq] at hs
  cases h1 : maskBad c.flags (kindOf c.ty).mask with
  | true => rw [h1] at hs; simp at hs
  | false =>
    cases h2 : kfitsN (kindOf c.ty) c.data.length with
    | false => rw [h1, h2] at hs; simp at hs
    | true =>
      cases h3 : kkidsOk (kindOf c.ty) c.kids with
      | false => rw [h1, h2, h3] at hs; simp at hs
      | true => exact ⟨rfl, rfl, rfl, hl⟩
end Go.Proofs.YtjbbkbpnagefoaaGreatDoor.C
/- Structs of numbers compared. No condition. -/
namespace Go.Abs
set_option linter.unusedVariables false
set_option linter.unusedSectionVars false
set_option linter.unusedSimpArgs false
def pairsI : List AV → List AV → Option (List (IntKind × Int × Int))
  | [], [] => some []
  | .val (.int k a) :: r, .val (.int k' b) :: s => if k = k' then (pairsI r s).map ((k, a, b) :: ·) else none
  | _, _ => none
@[push_cast] def eqAll : List (IntKind × Int × Int) → Bool
  | [] => true
  | p :: r => (p.2.1 == p.2.2) && eqAll r
def isNum (P : Program) (T : TypeId) : Bool := match P.underlying T with
  | some (.int _) => true
  | _ => false
def intFs (P : Program) : List Field → Nat → Bool
  | [], _ => true
  | f :: r, i => f.name != "_" && decide (f.offset = i) && isNum P f.type && intFs P r (i + 1)
def isNs (P : Program) (T : TypeId) (n : Nat) : Bool := match P.underlying T with
  | some (.struct fs) => intFs P fs.toList 0 && decide (fs.toList.length = n) && !P.stoodInHeld T && !P.eqGuardType P.depth T
  | _ => false
section
variable {P : Program} {ops : Array Oper} {E : Env} {s s' : AS} {ρ : List Value} {B : Nat → Prop} {a : Act} {w w' : World} {o : Oper} {rest : List Oper} {Q : AS → Prop} {R : Exit → AS → Prop} {nds : List (List (Nat × Option Nat))} {vals : List AV} {G : Prop}
theorem isNum_spec {T : TypeId} (h : isNum P T = true) : ∃ k, P.underlying T = some (.int k) := by
  unfold isNum at h
  split at h
  · rename_i k hk; exact ⟨k, hk⟩
  · cases h
theorem part_num {T : TypeId} (h : isNum P T = true) {xs : Array Value} {i : Nat} {v : Value} (hx : xs[i]? = some v) : (part T xs i).run P w = .ok v w := by
  obtain ⟨k, hk⟩ := isNum_spec h
  exact run_part_plain w (by simp [Program.plainKey, hk]) hx
theorem eqFields_run (d : Nat) (xs ys : Array Value) : ∀ (fs : List Field) (ls : List (IntKind × Int × Int)) (i : Nat), intFs P fs i = true → fs.length = ls.length →
    (∀ j p, ls[j]? = some p → xs[i + j]? = some (.int p.1 p.2.1) ∧ ys[i + j]? = some (.int p.1 p.2.2)) → (Op.eqFields (d + 1) xs ys fs).run P w = .ok (eqAll ls) w
  | [], [], _, _, _, _ => by simp [Op.eqFields, eqAll]
  | f :: r, p :: q, i, h, hl, hk => by
    simp only [intFs, Bool.and_eq_true, bne_iff_ne, ne_eq, decide_eq_true_eq] at h
    obtain ⟨⟨⟨h1, h2⟩, h3⟩, h4⟩ := h
    obtain ⟨k, hu⟩ := isNum_spec h3
    obtain ⟨hx, hy⟩ := hk 0 p rfl
    rw [Nat.add_zero] at hx hy
    have ih := eqFields_run d xs ys r q (i + 1) h4 (by simpa using hl) fun j p' hj => by
      have := hk (j + 1) p' hj
      rwa [show i + 1 + j = i + (j + 1) by omega]
    have e1 := part_num (w := w) h3 hx
    have e2 := part_num (w := w) h3 hy
    have e3 := run_equalIn_int w d f.type p.1 k p.2.1 p.2.2 hu
    simp only [Op.eqFields, h1, ne_eq, not_false_eq_true, if_true, Sem.run_bind, h2, e1, e2, e3, Result.andThen_ok, eqAll]
    cases hb : p.2.1 == p.2.2
    · simp
    · simpa using ih
  | [], _ :: _, _, _, hl, _ => by simp at hl
  | _ :: _, [], _, _, hl, _ => by simp at hl
theorem pairs_rel {bs : Nat} : ∀ {l m : List AV} {ls : List (IntKind × Int × Int)} {cs ds : List Value}, pairsI l m = some ls → RelL w B bs ρ l cs → RelL w B bs ρ m ds → ∀ (j : Nat) p, ls[j]? = some p → cs[j]? = some (.int p.1 p.2.1) ∧ ds[j]? = some (.int p.1 p.2.2)
  | [], [], _, _, _, h, _, _, j, p, hp => by simp only [pairsI, Option.some.injEq] at h; subst h; simp at hp
  | x :: r, y :: s, ls, cs, ds, h, hx, hy, j, p, hp => by
    unfold pairsI at h
    split at h
    · rename_i he _; cases he
    · rename_i k u r' k' v s' e1 e2
      cases e1; cases e2
      split at h
      · rename_i hkk
        subst hkk
        obtain ⟨q, hq, rfl⟩ := Option.map_eq_some_iff.1 h
        cases hx with
        | cons hx hxs =>
          cases hy with
          | cons hy hys =>
            have e3 := hx.val_eq
            have e4 := hy.val_eq
            subst e3; subst e4
            match j, hp with
            | 0, hp => simp at hp; subst hp; exact ⟨rfl, rfl⟩
            | j + 1, hp => exact pairs_rel hq hxs hys j p hp
      · cases h
    · cases h
  | [], _ :: _, _, _, _, h, _, _, _, _, _ => by simp [pairsI] at h
  | _ :: _, [], _, _, _, h, _, _, _, _, _ => by simp [pairsI] at h
theorem aggEq_run {bs : Nat} {op : BinOp} {T : TypeId} {x y : Operand} {l m : List AV} {ls : List (IntKind × Int × Int)} {vx vy : Value} (hop : op = .eql ∨ op = .neq) (hT : isNs P T ls.length = true) (hp : pairsI l m = some ls)
    (hx : Rel w B bs ρ (.agg l) vx) (hy : Rel w B bs ρ (.agg m) vy) : (eqGuard op T x y vx vy).run P w = .ok () w ∧ (binOp op T vx vy).run P w = .ok (.bool (if op = .eql then eqAll ls else !eqAll ls)) w := by
  unfold isNs at hT
  split at hT
  · rename_i fs hu
    simp only [Bool.and_eq_true, Bool.not_eq_true', decide_eq_true_eq] at hT
    obtain ⟨⟨⟨t1, t2⟩, t3⟩, t4⟩ := hT
    have hf : P.fieldsOf T = fs := by simp [Program.fieldsOf, hu]
    cases hx with
    | agg hx =>
      cases hy with
      | agg hy =>
        rename_i cs ds
        refine ⟨run_eqGuard_agg w op T x y _ _ t4, ?_⟩
        have he : (Op.equalIn 10000 T (.agg cs.toArray) (.agg ds.toArray)).run P w = .ok (eqAll ls) w := by
          have h1 := run_equalIn_struct w 9999 T cs.toArray ds.toArray (by rw [hf]; exact hu) t3
          rw [hf] at h1
          rw [h1]
          refine eqFields_run 9998 _ _ fs.toList ls 0 t1 t2 fun j p hj => ?_
          have := pairs_rel hp hx hy j p hj
          simpa using this
        rcases hop with rfl | rfl
        · rw [run_eql_struct, he]; rfl
        · rw [run_neq_struct, he]; rfl
  · cases hT
theorem aggEq_exec {op : BinOp} {T X : TypeId} {x y : Operand} {l m : List AV} {ls : List (IntKind × Int × Int)} (ho : o.op = .binOp op T x y X) (hop : op = .eql ∨ op = .neq) (hT : isNs P T ls.length = true) (hp : pairsI l m = some ls)
    {bs : Nat} (hx : Rel w B bs ρ (.agg l) (a.eval x)) (hy : Rel w B bs ρ (.agg m) (a.eval y)) : (execOp a.eval o).run P w = .ok (.value (.bool (if op = .eql then eqAll ls else !eqAll ls))) w := by
  obtain ⟨h1, h2⟩ := aggEq_run (x := x) (y := y) hop hT hp hx hy
  simp only [execOp, ho]
  simp [h1, h2]
theorem AOp.aggEq {op : BinOp} {T X : TypeId} {x y : Operand} {l m : List AV} {ls : List (IntKind × Int × Int)} (ho : o.op = .binOp op T x y X) (hop : op = .eql ∨ op = .neq) (hT : isNs P T ls.length = true) (hp : pairsI l m = some ls) (hx : s.ev x = .agg l) (hy : s.ev y = .agg m)
    (k : ARun P ops rest (s.put o.dst (.val (.bool (if op = .eql then eqAll ls else !eqAll ls)))) Q) : AOp P ops o rest s Q :=
  AOp.pure1 (fun E ρ B a w hs => ⟨_, aggEq_exec ho hop hT hp (hx ▸ hs.ev x) (hy ▸ hs.ev y), .val _⟩) k
theorem ARun2.aggEqM {op : BinOp} {T X : TypeId} {x y : Operand} {l m : List AV} {ls : List (IntKind × Int × Int)} {p : List Oper × AS} (K : ARun2 P ops p Q) (ho : o.op = .binOp op T x y X := by rfl) (hop : op = .eql ∨ op = .neq := by first | exact .inl rfl | exact .inr rfl)
    (hg : gd ops s o = some true := by exact Go.Abs.evT) (hx : s.ev x = .agg l := by exact Go.Abs.evT) (hy : s.ev y = .agg m := by exact Go.Abs.evT) (hp : pairsI l m = some ls := by rfl) (hT : isNs P T ls.length = true := by kernel_rfl)
    (h : srun P ops rest (s.put o.dst (.val (.bool (if op = .eql then eqAll ls else !eqAll ls)))) = p := by
        exact Go.Abs.evE) : ARun2 P ops (o :: rest, s) Q :=
  ARun.exec hg (AOp.aggEq ho hop hT hp hx hy (ARun.srun (h ▸ K)))
theorem NSpec.aggEq {op : BinOp} {T X : TypeId} {x y : Operand} {l m : List AV} {ls : List (IntKind × Int × Int)} (hg : gd ops s o = some true) (ho : o.op = .binOp op T x y X) (hop : op = .eql ∨ op = .neq) (hT : isNs P T ls.length = true) (hp : pairsI l m = some ls) (hx : s.ev x = .agg l) (hy : s.ev y = .agg m) :
    NSpec P ops o s (.val (.bool (if op = .eql then eqAll ls else !eqAll ls))) :=
  NSpec.pureE hg fun E hE ρ B a w ob hs => ⟨_, aggEq_exec ho hop hT hp (show Rel w B E.bs ρ (.agg l) _ from hx ▸ hs.ev x) (show Rel w B E.bs ρ (.agg m) _ from hy ▸ hs.ev y), .val _⟩
/-- a literal in a drawn head, its elements told -/
theorem Dr.buildV {T : TypeId} {len sz : Nat} {parts : Array (Nat × Operand)} {xs : List AV} (k : Dr P ops s nds (vals ++ [.sl true sz xs]) G) (hn : ndsB nds = true := by first | rfl | decide) (hol : ops[vals.length]? = some o := by exact Go.Abs.evT)
    (ho : o.op = .buildSlice T len parts := by rfl) (hg : gd ops { s with fr := needFr s.fr vals (nds.getD vals.length []) } o = some true := by exact Go.Abs.evT) (hz : elSz P T = some sz := by exact Go.Abs.evT)
    (hp : parts.toList.map (·.1) = List.range len := by rfl) (hl : decide (len * sz ≤ 2 ^ 24) = true := by first | rfl | decide)
    (hxs : (parts.toList.map fun p => AS.ev { s with fr := needFr s.fr vals (nds.getD vals.length []) } p.2) = xs := by
      simp only [List.map_cons, List.map_nil]
      exact Go.Abs.evT)
    (hx : ∀ x ∈ xs, x.flat = true ∧ x.cells.length = sz := by exact Go.Abs.evT) : Dr P ops s nds vals G :=
  Dr.step hn hol (by
    have h := NSpec.buildSlice hg ho hz ⟨hp, fun p hpm => hx _ (by rw [← hxs]; exact List.mem_map.2 ⟨p, hpm, rfl⟩), of_decide_eq_true hl⟩
    rw [← hxs]; exact h) k
/-! ### a function's value with bound arguments is called -/
theorem run_callF {f : FuncId} {g : Operand} {fs cap : Array Value} {args : Array Operand} {ts : Array TypeId} {ty : TypeId} {ρe : Operand → Value} (hc : callable P f = true)
    (hv : ρe g = .func (.func f) fs cap) : (do let d ← resolve ρe { callee := .value g, args := args, argTypes := ts } ty; invoke d.target d.args : Sem Next).run P w = .ok (.enter f (fs ++ args.map ρe ++ cap)) w := by
  have := callFunc_run hc (fs ++ args.map ρe ++ cap) w
  simp only [Array.append_assoc] at this
  simp [resolve, hv, Deferred.ofValue, invoke, this]
theorem AOp.callF {f : FuncId} {g : Operand} {fs cap : List AV} {args : Array Operand} {ts : Array TypeId} {ys : List AV} {τ : List Ob} {R : AV → List Ob → Prop} (ids : List Nat)
    (ho : o.op = .call { callee := .value g, args := args, argTypes := ts }) (hg : s.ev g = .fn (.func f) fs cap) (hc : callable P f = true) (hp : ACalls P f ys τ R) (hn : ids.Nodup) (hs : SubOL ids s.ob ids τ)
    (hsub : SubXL ids (fs ++ args.toList.map s.ev ++ cap) ys) (hm : ∀ r τ', R r τ' → ids.length ≤ τ'.length)
    (k : ∀ r τ', R r τ' → ARun P ops rest ({ s with ob := obAfter s.ob ids τ τ', fr := frInvalL (rowIds ids τ) s.fr }.put o.dst (r.ren (phi ids s.ob.length))) Q) : AOp P ops o rest s Q := by
  intro E hE ρ B a w hrs Q' hQ
  have hfn := hrs.ev g
  rw [hg] at hfn
  obtain ⟨v, hv⟩ : ∃ v, a.eval g = v := ⟨_, rfl⟩
  rw [hv] at hfn
  cases hfn with
  | fn r1 r2 =>
    rename_i cs ds
    have he : (execOp a.eval o).run P w = .ok (.enter f (cs.toArray ++ args.map a.eval ++ ds.toArray)) w := by
      simp only [execOp, ho]; exact run_callF hc (by simpa using hv)
    have hrel : RelL w B E.bs ρ (fs ++ args.toList.map s.ev ++ cap) (cs ++ args.toList.map a.eval ++ ds) := (r1.append (RelL.map_ev hrs _)).append r2
    refine owp_enter he ?_
    have hargs : cs.toArray ++ args.map a.eval ++ ds.toArray = (cs ++ args.toList.map a.eval ++ ds).toArray := by apply Array.ext'; simp
    rw [hargs]
    refine hp E.bs w (pick ρ ids) B _ (hE.glb.call hrs.rw_ (fun _ h => h) (fun v hv b hb => pick_nB hrs.rw_ hs hv hb)) (hrs.rw_.give hn hs) (hsub.rel (Nat.le_refl _) (fun i k hi => pick_at hrs.rw_ hs hi) hrel) _ ?_
    intro r' v τ' σ' B' w' hR hw hv
    have hml := hm r' τ' hR
    have hs' := hrs.after hn hs hw hml
    refine ⟨v, rfl, k r' τ' hR E hE _ B' _ w' (hs'.put o.dst ?_) Q' hQ⟩
    refine (hv.mono (fun _ h => h) (fun _ _ => rfl) (Nat.le_refl _) (fun _ _ h => h)).ren ?_
    intro i u hu
    exact rho_phi hrs.rw_ hn hs hw hml hu
theorem ARun2.callFM {f : FuncId} {g : Operand} {fs cap : List AV} {args : Array Operand} {ts : Array TypeId} {ys : List AV} {τ τ' : List Ob} {r : AV} {p : List Oper × AS} (ids : List Nat) (hp : OC P f ys τ r τ') (k : ARun2 P ops p Q)
    (ho : o.op = .call { callee := .value g, args := args, argTypes := ts } := by rfl) (hgd : gd ops s o = some true := by exact Go.Abs.evT) (hg : s.ev g = .fn (.func f) fs cap := by exact Go.Abs.evT) (hc : callable P f = true := by first | exact Go.Abs.evT | assumption) (hn : ids.Nodup := by first | rfl | decide)
    (hok : handObsOk ids s.ob ids = true := by exact Go.Abs.evT) (hτ : handObs ids s.ob ids = τ := by exact Go.Abs.evT)
    (hsub : HandL ids (fs ++ args.toList.map s.ev ++ cap) ys := by
      exact Go.Abs.evH) (hm : decide (ids.length ≤ τ'.length) = true := by exact Go.Abs.evT)
    (h : srun P ops rest ({ s with ob := obAfter s.ob ids τ τ', fr := frInvalL (rowIds ids τ) s.fr }.put o.dst (r.ren (phi ids s.ob.length))) = p := by
        exact Go.Abs.evE) : ARun2 P ops (o :: rest, s) Q :=
  ARun.exec hgd (AOp.callF ids ho hg hc hp hn (hτ ▸ SubOL.hand hok) hsub (by rintro _ _ ⟨rfl, rfl⟩; exact of_decide_eq_true hm) (by rintro _ _ ⟨rfl, rfl⟩; exact ARun.srun (h ▸ k)))
end
end Go.Abs
/- initial: is, Of, all, Cookie, Has, Echo, Streams. -/
set_option linter.unusedVariables false
set_option linter.unusedSimpArgs false
namespace Go.Proofs.YtjbbkbpnagefoaaGreatDoor.C
open Go.Abs
structure Vals where
  tag : Nat
  window : Nat
  out : Nat
  inn : Nat
  tsn : Nat
@[push_cast] def valsA (v : Vals) : AV := .agg [u32 v.tag, u32 v.window, u16 v.out, u16 v.inn, u32 v.tsn]
structure Vals.Ok (v : Vals) : Prop where
  tag : v.tag < 2 ^ 32
  window : v.window < 2 ^ 32
  out : v.out < 2 ^ 16
  inn : v.inn < 2 ^ 16
  tsn : v.tsn < 2 ^ 32
def Vals.zero : Vals := ⟨0, 0, 0, 0, 0⟩
/-- is it an initial chunk? -/
def isI (c : GChunk) : Bool := (c.ty == 1 || c.ty == 2) && (checkC c == 0)
theorem init_form {c : GChunk} (h : isI c = true) : c.data.length = 16 ∧ paramsOf c = c.kids := by
  unfold isI at h
  simp only [Bool.and_eq_true, Bool.or_eq_true, beq_iff_eq] at h
  have hk : kindHas c.ty = true ∧ (kindOf c.ty).least = 16 ∧ (kindOf c.ty).most = 16 ∧ classOf c.ty = 1 := by
    rcases h.1 with e | e <;> rw [e] <;> exact ⟨rfl, rfl, rfl, rfl⟩
  obtain ⟨k1, k2, k3, k4⟩ := hk
  obtain ⟨h1, h2, h3, h4⟩ := check_zero h.2 k1
  refine ⟨?_, if_pos k4⟩
  unfold kfitsN at h2; rw [k2, k3] at h2; simp at h2; omega
theorem iis_c (c : GChunk) (h : Small c) : PC Tryz.prog 68 [chunkA false c] (bool (isI c)) := by
  refine PC.of_bodyW (by simp only [push_cast]) Tryz.func68 rfl (by rw [Tryz.ntmps68]; simp) ?_
  refine AWp.regionW ?_
  refine AWp.regionA fun K1 hK1 => ?_
  refine ARun.segm 4 fun KS hKS => ?_
  refine ARun2.endm (hKS _ ?_); clear hKS KS
  apply ARun.grpM 3 3 false 9 [1, 6]
  · intro g3 KG hKG
    refine ARun2.gom ?_
    exact ARun2.endm (hKG _ Le.grpM)
  refine ARun.segm 2 fun KS hKS => ?_
  refine ARun2.endm (hKS _ ?_); clear hKS KS
  apply ARun.grpM 3 8 true 14 [11]
  · intro g8 KG hKG
    refine ARun2.gom ?_
    refine ARun2.callM (h.check) ?_
    exact ARun2.endm (hKG _ Le.grpM)
  refine ARun2.gom ?_
  refine ARun2.endm (hK1 _ ?_)
  refine AWp.ret ?_
  try simp only [thenQ, blockQ, noGo]
  refine bodyQ.m ?_
  clear hK1 K1
  simp only [isI]
  first | done | exact Hand.go
def valsOf (d : List UInt8) : Vals := ⟨peekN 4 d 0, peekN 4 d 4, peekN 2 d 8, peekN 2 d 10, peekN 4 d 12⟩
def valsI (c : GChunk) : Vals := if isI c = true then valsOf c.data else .zero
def kidsI (c : GChunk) : List GNode := if isI c = true then c.kids else []
theorem iof_c (c : GChunk) (h : Small c) : PC Tryz.prog 33 [chunkA false c] (.tup [valsA (valsI c), .sl true 3 (nodesA true (kidsI c)), bool (isI c)]) := by
  have hd : c.data.length ≤ 2 ^ 40 := Nat.le_trans h.data (by decide)
  refine PC.of_bodyK (by simp only [push_cast]) Tryz.func33 rfl (by rw [Tryz.ntmps33]; simp) ?_
  refine AWp.regionW ?_
  refine AWp.seqK fun K1 hK1 => ?_
  refine AWp.regionM fun K2 hK2 => ?_
  refine ARun2.callM (iis_c c h) ?_
  refine ARun2.endm (hK2 _ ?_)
  refine AWp.condLM (fun c0 => ?_) (fun c0 => ?_)
  · skip
    have hi : isI c = false := by simpa using c0
    have e1 : valsI c = .zero := if_neg (by rw [hi]; simp)
    have e2 : kidsI c = [] := if_neg (by rw [hi]; simp)
    refine AWp.regionW ?_
    refine AWp.ret ?_
    try simp only [thenQ, blockQ, noGo]
    refine bodyQ.m ?_
    clear hK2 K2 hK1 K1
    rw [e1, e2, hi]
    try simp only [Vals.zero]
    try simp only [valsOf]
    first | done | exact Wk.go
  · skip
    have hi : isI c = true := by simpa using c0
    have e1 : valsI c = valsOf c.data := if_pos hi
    have e2 : kidsI c = c.kids := if_pos hi
    obtain ⟨hl, hp⟩ := init_form hi
    have hq := cparams_c c h.ty hd (Nat.le_trans h.kids (by decide))
    rw [hp] at hq
    have w1 := w_u16 (peekN 2 c.data 8) (peek2_lt _ _)
    have w2 := w_u16 (peekN 2 c.data 10) (peek2_lt _ _)
    refine AWp.skip ?_
    refine hK1 _ ?_
    refine AWp.regionM fun K3 hK3 => ?_
    refine ARun2.callOM [] (new_c c.data hd) ?_
    refine ARun2.endm (hK3 _ ?_)
    refine AWp.regionW ?_
    refine AWp.regionM fun K4 hK4 => ?_
    refine ARun2.callFM [2] (num_hit 4 c.data 0 (by decide) (by omega) hd) ?_
    refine ARun2.endm (hK4 _ ?_)
    refine AWp.regionM fun K5 hK5 => ?_
    refine ARun2.callFM [2] (num_hit 4 c.data 4 (by decide) (by omega) hd) ?_
    refine ARun2.endm (hK5 _ ?_)
    refine AWp.regionM fun K6 hK6 => ?_
    refine ARun2.callFM [2] (num_hit 2 c.data 8 (by decide) (by omega) hd) ?_
    refine ARun2.endm (hK6 _ ?_)
    refine AWp.regionM fun K7 hK7 => ?_
    refine ARun2.callFM [2] (num_hit 2 c.data 10 (by decide) (by omega) hd) ?_
    refine ARun2.endm (hK7 _ ?_)
    refine AWp.regionW ?_
    rw [w1, w2]
    refine AWp.regionM fun K8 hK8 => ?_
    refine ARun2.callFM [2] (num_hit 4 c.data 12 (by decide) (by omega) hd) ?_
    refine ARun2.endm (hK8 _ ?_)
    refine AWp.drS [[(6, none)], [(1, none)], [(54, some 1)]] fun G hG => ?_
    refine Dr.sim ?_
    try simp only [List.cons_append, List.nil_append]
    refine Dr.sim ?_
    try simp only [List.cons_append, List.nil_append]
    refine Dr.call (hq) ?_
    try simp only [List.cons_append, List.nil_append]
    refine Dr.finM (n := 3) [(53, 0), (55, 2)] [2] hG YtjbbkbpnagefoaaGreatDoor.Facts.mixed fun KD hKD => ?_
    refine ARun2.endm (hKD _ ?_); clear hKD KD hG G
    refine AWp.ret ?_
    try simp only [thenQ, blockQ, noGo]
    refine bodyQ.m ?_
    clear hK8 K8 hK7 K7 hK6 K6 hK5 K5 hK4 K4 hK3 K3 hK2 K2 hK1 K1
    rw [e1, e2, hi]
    try simp only [Vals.zero]
    try simp only [valsOf]
    first | done | exact Wk.go
end Go.Proofs.YtjbbkbpnagefoaaGreatDoor.C
/- initial: all, Cookie, Has, Echo, Extensions, Streams, Make; the reference's Make. -/
set_option linter.unusedVariables false
set_option linter.unusedSimpArgs false
namespace Go.Proofs.YtjbbkbpnagefoaaGreatDoor.C
open Go.Abs
def rowsB (b : Bool) (ls : List (List UInt8)) : List AV := ls.map fun l => .sl b 1 (bys l)
@[push_cast] theorem rowsB_len (b : Bool) (l : List (List UInt8)) : (rowsB b l).length = l.length := by simp [rowsB]
@[push_cast] theorem rowsB_nil (b : Bool) : rowsB b [] = [] := rfl
@[push_cast] theorem rowsB_cons (b : Bool) (a : List UInt8) (l : List (List UInt8)) : rowsB b (a :: l) = .sl b 1 (bys a) :: rowsB b l := rfl
theorem rowsB_snoc (b : Bool) (l : List (List UInt8)) (x : List UInt8) : rowsB b (l ++ [x]) = rowsB b l ++ [.sl b 1 (bys x)] := by simp [rowsB]
@[push_cast] theorem rowsB_A (l : List (List UInt8)) : rowsB false l = rowsA l := rfl
@[push_cast] theorem rowsB_ids (p : Nat → Bool) (b : Bool) (l : List (List UInt8)) : AV.idsOkL p (rowsB b l) = true := by
  induction l with
  | nil => rfl
  | cons a l ih => simp only [rowsB_cons, AV.idsOkL, AV.idsOk, bys_ids, ih, Bool.and_self]
@[push_cast] theorem rowsB_hand (ids : List Nat) (b : Bool) (l : List (List UInt8)) : AV.handL ids (rowsB b l) = rowsB false l := by
  induction l with
  | nil => rfl
  | cons a l ih => simp only [rowsB_cons, AV.handL, AV.hand, bys_hand, ih]
@[push_cast] theorem rowsB_ren (φ : Nat → Nat) (b : Bool) (l : List (List UInt8)) : AV.renL φ (rowsB b l) = rowsB b l := AV.renL_closed φ _ (rowsB_ids _ b l)
/-- the bytes of the nodes of a type -/
def datas (t : Nat) (l : List GNode) : List (List UInt8) := (l.filter fun n => n.ty == t).map GNode.data
theorem datas_snoc (t : Nat) (l : List GNode) (n : GNode) : datas t (l ++ [n]) = if n.ty = t then datas t l ++ [n.data] else datas t l := by
  unfold datas
  rw [List.filter_append]
  by_cases h : n.ty = t
  · rw [if_pos h]; simp [h]
  · rw [if_neg h]; simp [h]
theorem datas_len (t : Nat) (l : List GNode) : (datas t l).length ≤ l.length := by unfold datas; rw [List.length_map]; exact List.length_filter_le _ _
theorem kidsI_len {c : GChunk} (h : Small c) : (kidsI c).length ≤ 2 ^ 26 := by
  unfold kidsI; split
  · have := szs_len c.kids; have := h.kids; omega
  · exact Nat.zero_le _
theorem iall_c (c : GChunk) (t : Nat) (h : Small c) : PC Tryz.prog 71 [chunkA false c, u16 t] (.sl true 1 (rowsB true (datas t (kidsI c)))) := by
  have hlen := kidsI_len h
  have hof := iof_c c h
  obtain ⟨l, hl⟩ : ∃ l, l = kidsI c := ⟨_, rfl⟩
  obtain ⟨v, hv⟩ : ∃ v, v = valsI c := ⟨_, rfl⟩
  rw [← hl] at hlen hof ⊢
  rw [← hv] at hof
  refine PC.of_bodyK (by simp only [push_cast]) Tryz.func71 rfl (by rw [Tryz.ntmps71]; simp) ?_
  refine AWp.regionW ?_
  refine AWp.regionM fun K1 hK1 => ?_
  refine ARun2.callM (hof) ?_
  refine ARun2.endm (hK1 _ ?_)
  refine AWp.regionW ?_
  refine AWp.seqK fun K2 hK2 => ?_
  refine AWp.regionW ?_
  refine AWp.block ?_
  -- SLOTS THAT TURN AND ARE NOT TOLD: [8]
  refine AWp.nilOwn 8 23 1 (by simp only [push_cast, ↓reduceIte, Nat.reduceEqDiff, Nat.reduceLT, Nat.reduceAdd, Nat.reduceSub, Nat.reduceMul, Nat.reduceLeDiff, Nat.reducePow, Int.reduceLT, Int.reduceToNat, reduceCtorEq, Int.reduceNeg, Int.reduceEq, Nat.reduceBEq, Nat.reduceBNe, Int.reduceBEq, Int.reduceBNe, String.reduceEq]) ?_
  simp only [push_cast, ↓reduceIte, Nat.reduceEqDiff, Nat.reduceLT, Nat.reduceAdd, Nat.reduceSub, Nat.reduceMul, Nat.reduceLeDiff, Nat.reducePow, Int.reduceLT, Int.reduceToNat, reduceCtorEq, Int.reduceNeg, Int.reduceEq, Nat.reduceBEq, Nat.reduceBNe, Int.reduceBEq, Int.reduceBNe, String.reduceEq]
  refine AWp.loopK [1, 8, 17, 18] (fun (i : Nat) => [(19, nat i)]) (fun i => [.box 28 [u8 c.ty, u8 c.flags, .sl false 1 (bys c.data), .sl false 3 (nodesA false c.kids)], .box 54 [u32 v.tag, u32 v.window, u16 v.out, u16 v.inn, u32 v.tsn], .row 23 1 (rowsB true (datas t (l.take i)))]) (fun i => i ≤ l.length) (fun i => l.length - i) (0) ?_ (Nat.zero_le _) ?_
  · skip
    refine Le.m 3 ?_ ?_
    · try simp only [push_cast, ↓reduceIte, Nat.reduceEqDiff, Nat.reduceLT, Nat.reduceAdd, Nat.reduceSub, Nat.reduceMul, Nat.reduceLeDiff, Nat.reducePow, Int.reduceLT, Int.reduceToNat, reduceCtorEq, Int.reduceNeg, Int.reduceEq, Nat.reduceBEq, Nat.reduceBNe, Int.reduceBEq, Int.reduceBNe, String.reduceEq]
      try simp (disch := omega) only [w_nat, w_add, w_addl, w_addr, w_sub, w_subl, w_mul, w_mull, w_mulr, w_u32, w_u16, w_u8, w_u32a, N_zero]
      first | done | skip
      rfl
    · first | (simp only [push_cast, ↓reduceIte, Nat.reduceEqDiff, Nat.reduceLT, Nat.reduceAdd, Nat.reduceSub, Nat.reduceMul, Nat.reduceLeDiff, Nat.reducePow, Int.reduceLT, Int.reduceToNat, reduceCtorEq, Int.reduceNeg, Int.reduceEq, Nat.reduceBEq, Nat.reduceBNe, Int.reduceBEq, Int.reduceBNe, String.reduceEq]; first | done | rfl | (simp (disch := omega) only [w_nat, w_add, w_addl, w_addr, w_sub, w_subl, w_mul, w_mull, w_mulr, w_u32, w_u16, w_u8, w_u32a, N_zero]; first | done | rfl))
  · intro i hi K3 hK3
    refine AWp.regionW ?_
    refine AWp.seqK fun K4 hK4 => ?_
    refine AWp.condLM (fun c0 => ?_) (fun c0 => ?_)
    · skip
      have hil : i < l.length := by simpa using c0
      refine AWp.skip ?_
      refine hK4 _ ?_
      refine AWp.seqK fun K5 hK5 => ?_
      refine AWp.block ?_
      refine AWp.regionM fun K6 hK6 => ?_
      refine ARun2.indexM (i) (nodeA true l[i]) ?_ ?_
      · exact nodesA_at _ _ _ hil
      refine ARun2.endm (hK6 _ ?_)
      refine AWp.regionW ?_
      refine AWp.condLM (fun c1 => ?_) (fun c1 => ?_)
      · skip
        have hty : l[i].ty = t := by simpa using c1
        refine AWp.regionN fun K7 hK7 => ?_
        refine ARun2.appendM ?_ ?_ ?_
        · rw [YtjbbkbpnagefoaaGreatDoor.Facts.eb99, rowsB_len, List.length_cons, List.length_nil]; have := datas_len t (l.take i); rw [List.length_take] at this; omega
        · rw [rowsB_len, List.length_cons, List.length_nil]; have := datas_len t (l.take i); rw [List.length_take] at this; omega
        refine ARun2.endm (hK7 _ ?_)
        refine hK5 _ ?_
        refine AWp.regionV ?_
        refine hK3 _ (i + 1) (by omega) (by omega) ?_
        refine Le.m 3 ?_ ?_
        · try simp only [push_cast, ↓reduceIte, Nat.reduceEqDiff, Nat.reduceLT, Nat.reduceAdd, Nat.reduceSub, Nat.reduceMul, Nat.reduceLeDiff, Nat.reducePow, Int.reduceLT, Int.reduceToNat, reduceCtorEq, Int.reduceNeg, Int.reduceEq, Nat.reduceBEq, Nat.reduceBNe, Int.reduceBEq, Int.reduceBNe, String.reduceEq]
          try simp (disch := omega) only [w_nat, w_add, w_addl, w_addr, w_sub, w_subl, w_mul, w_mull, w_mulr, w_u32, w_u16, w_u8, w_u32a, N_zero]
          first | done | skip
          rw [List.take_succ_eq_append_getElem hil, datas_snoc, if_pos hty, rowsB_snoc]
        · first | (simp only [push_cast, ↓reduceIte, Nat.reduceEqDiff, Nat.reduceLT, Nat.reduceAdd, Nat.reduceSub, Nat.reduceMul, Nat.reduceLeDiff, Nat.reducePow, Int.reduceLT, Int.reduceToNat, reduceCtorEq, Int.reduceNeg, Int.reduceEq, Nat.reduceBEq, Nat.reduceBNe, Int.reduceBEq, Int.reduceBNe, String.reduceEq]; first | done | rfl | (simp (disch := omega) only [w_nat, w_add, w_addl, w_addr, w_sub, w_subl, w_mul, w_mull, w_mulr, w_u32, w_u16, w_u8, w_u32a, N_zero]; first | done | rfl))
      · skip
        have hty : ¬ l[i].ty = t := by simpa using c1
        refine AWp.skip ?_
        refine hK5 _ ?_
        refine AWp.regionV ?_
        refine hK3 _ (i + 1) (by omega) (by omega) ?_
        refine Le.m 3 ?_ ?_
        · try simp only [push_cast, ↓reduceIte, Nat.reduceEqDiff, Nat.reduceLT, Nat.reduceAdd, Nat.reduceSub, Nat.reduceMul, Nat.reduceLeDiff, Nat.reducePow, Int.reduceLT, Int.reduceToNat, reduceCtorEq, Int.reduceNeg, Int.reduceEq, Nat.reduceBEq, Nat.reduceBNe, Int.reduceBEq, Int.reduceBNe, String.reduceEq]
          try simp (disch := omega) only [w_nat, w_add, w_addl, w_addr, w_sub, w_subl, w_mul, w_mull, w_mulr, w_u32, w_u16, w_u8, w_u32a, N_zero]
          first | done | skip
          rw [List.take_succ_eq_append_getElem hil, datas_snoc, if_neg hty]
        · first | (simp only [push_cast, ↓reduceIte, Nat.reduceEqDiff, Nat.reduceLT, Nat.reduceAdd, Nat.reduceSub, Nat.reduceMul, Nat.reduceLeDiff, Nat.reducePow, Int.reduceLT, Int.reduceToNat, reduceCtorEq, Int.reduceNeg, Int.reduceEq, Nat.reduceBEq, Nat.reduceBNe, Int.reduceBEq, Int.reduceBNe, String.reduceEq]; first | done | rfl | (simp (disch := omega) only [w_nat, w_add, w_addl, w_addr, w_sub, w_subl, w_mul, w_mull, w_mulr, w_u32, w_u16, w_u8, w_u32a, N_zero]; first | done | rfl))
    · skip
      have hil : i = l.length := by simp at c0; omega
      subst hil
      refine AWp.exit ?_
      try simp only [thenQ, blockQ, noGo, reduceIte, Nat.reduceEqDiff]
      refine hK2 _ ?_
      refine AWp.pubD 2 ?_
      refine AWp.regionW ?_
      refine AWp.ret ?_
      try simp only [thenQ, blockQ, noGo]
      refine bodyQ.m ?_
      clear hK4 K4 hK3 K3 hK2 K2 hK1 K1
      rw [List.take_length]
      first | done | exact Wk.go
def cookieD (c : GChunk) (D : List (List UInt8)) : List UInt8 × Bool := if (D.length == 0 || c.ty != 2) = true then ([], false) else (D.headD [], true)
def cookieI (c : GChunk) : List UInt8 × Bool := cookieD c (datas 7 (kidsI c))
theorem icookie_c (c : GChunk) (h : Small c) : PC Tryz.prog 37 [chunkA false c] (.tup [.sl true 1 (bys (cookieI c).1), bool (cookieI c).2]) := by
  have ha := iall_c c 7 h
  unfold cookieI
  generalize datas 7 (kidsI c) = D at ha
  refine PC.of_bodyK (by simp only [push_cast]) Tryz.func37 rfl (by rw [Tryz.ntmps37]; simp) ?_
  refine AWp.regionW ?_
  refine AWp.regionM fun K1 hK1 => ?_
  refine ARun2.callM (ha) ?_
  refine ARun2.endm (hK1 _ ?_)
  refine AWp.seqK fun K2 hK2 => ?_
  refine AWp.regionA fun K3 hK3 => ?_
  refine ARun.segm 4 fun KS hKS => ?_
  refine ARun2.endm (hKS _ ?_); clear hKS KS
  apply ARun.grpM 3 3 false 13 [4, 10]
  · intro g3 KG hKG
    refine ARun2.gom ?_
    exact ARun2.endm (hKG _ Le.grpM)
  refine ARun2.gom ?_
  refine ARun2.endm (hK3 _ ?_)
  refine AWp.condLM (fun c0 => ?_) (fun c0 => ?_)
  · skip
    have hr : cookieD c D = ([], false) := if_pos (by simpa using c0)
    refine AWp.regionW ?_
    refine AWp.ret ?_
    try simp only [thenQ, blockQ, noGo]
    refine bodyQ.m ?_
    clear hK3 K3 hK2 K2 hK1 K1
    rw [hr]
    first | done | exact Wk.go
  · skip
    have hr : cookieD c D = (D.headD [], true) := if_neg (by simpa using c0)
    have hl : 0 < D.length := by cases D with
      | nil => simp at c0
      | cons a l => simp
    refine AWp.skip ?_
    refine hK2 _ ?_
    refine AWp.regionM fun K4 hK4 => ?_
    refine ARun2.indexM (0) (.sl true 1 (bys (D.headD []))) ?_ ?_
    · cases D with
        | nil => simp at hl
        | cons a l => rfl
    refine ARun2.endm (hK4 _ ?_)
    refine AWp.ret ?_
    try simp only [thenQ, blockQ, noGo]
    refine bodyQ.m ?_
    clear hK4 K4 hK3 K3 hK2 K2 hK1 K1
    rw [hr]
    first | done | exact Wk.go
theorem ihas_c (c : GChunk) (t : Nat) (h : Small c) : PC Tryz.prog 40 [chunkA false c, u16 t] (bool (decide (0 < (datas t (kidsI c)).length))) := by
  have ha := iall_c c t h
  refine PC.of_bodyW (by simp only [push_cast]) Tryz.func40 rfl (by rw [Tryz.ntmps40]; simp) ?_
  refine AWp.regionW ?_
  refine AWp.regionM fun K1 hK1 => ?_
  refine ARun2.callM (ha) ?_
  refine ARun2.endm (hK1 _ ?_)
  refine AWp.ret ?_
  try simp only [thenQ, blockQ, noGo]
  refine bodyQ.m ?_
  clear hK1 K1
  first | done | exact Hand.go
def echoI (c : GChunk) : GChunk × Bool := if (!(cookieI c).2 || (cookieI c).1.length == 0) = true then (.zero, false) else (⟨10, 0, (cookieI c).1, []⟩, true)
theorem iecho_c (c : GChunk) (h : Small c) : PC Tryz.prog 39 [chunkA false c] (.tup [chunkA true (echoI c).1, bool (echoI c).2]) := by
  have ha := icookie_c c h
  refine PC.of_bodyK (by simp only [push_cast]) Tryz.func39 rfl (by rw [Tryz.ntmps39]; simp) ?_
  refine AWp.regionW ?_
  refine AWp.regionM fun K1 hK1 => ?_
  refine ARun2.callM (ha) ?_
  refine ARun2.endm (hK1 _ ?_)
  refine AWp.seqK fun K2 hK2 => ?_
  refine AWp.regionA fun K3 hK3 => ?_
  refine ARun.segm 3 fun KS hKS => ?_
  refine ARun2.endm (hKS _ ?_); clear hKS KS
  apply ARun.grpM 3 2 false 16 [2, 4, 13]
  · intro g2 KG hKG
    refine ARun2.gom ?_
    exact ARun2.endm (hKG _ Le.grpM)
  refine ARun2.gom ?_
  refine ARun2.endm (hK3 _ ?_)
  refine AWp.condLM (fun c0 => ?_) (fun c0 => ?_)
  · skip
    have hr : echoI c = (.zero, false) := if_pos (by simpa using c0)
    refine AWp.regionW ?_
    refine AWp.ret ?_
    try simp only [thenQ, blockQ, noGo]
    refine bodyQ.m ?_
    clear hK3 K3 hK2 K2 hK1 K1
    rw [hr]
    try simp only [GChunk.zero]
    first | done | exact Wk.go
  · skip
    have hr : echoI c = (⟨10, 0, (cookieI c).1, []⟩, true) := if_neg (by simpa using c0)
    refine AWp.skip ?_
    refine hK2 _ ?_
    refine AWp.regionW ?_
    refine AWp.ret ?_
    try simp only [thenQ, blockQ, noGo]
    refine bodyQ.m ?_
    clear hK3 K3 hK2 K2 hK1 K1
    rw [hr]
    try simp only [GChunk.zero]
    first | done | exact Wk.go
theorem istreams_c (a b : Vals) : PC Tryz.prog 63 [valsA a, valsA b] (.tup [u16 (min a.out b.inn), u16 (min a.inn b.out)]) := by
  refine PC.of_bodyW (by simp only [push_cast]) Tryz.func63 rfl (by rw [Tryz.ntmps63]; simp) ?_
  refine AWp.regionW ?_
  refine AWp.drS [[(2, none)], [(6, some 0)], [(3, none)], [(8, some 2)], [(7, some 1), (9, some 3)], [(2, none)], [(11, some 5)], [(3, none)], [(13, some 7)], [(12, some 6), (14, some 8)], [(10, some 4)], [(15, some 9)]] fun G hG => ?_
  refine Dr.sim ?_
  try simp only [List.cons_append, List.nil_append]
  refine Dr.sim ?_
  try simp only [List.cons_append, List.nil_append]
  refine Dr.sim ?_
  try simp only [List.cons_append, List.nil_append]
  refine Dr.sim ?_
  try simp only [List.cons_append, List.nil_append]
  refine Dr.imin ?_
  try simp only [List.cons_append, List.nil_append]
  refine Dr.sim ?_
  try simp only [List.cons_append, List.nil_append]
  refine Dr.sim ?_
  try simp only [List.cons_append, List.nil_append]
  refine Dr.sim ?_
  try simp only [List.cons_append, List.nil_append]
  refine Dr.sim ?_
  try simp only [List.cons_append, List.nil_append]
  refine Dr.imin ?_
  try simp only [List.cons_append, List.nil_append]
  refine Dr.sim ?_
  try simp only [List.cons_append, List.nil_append]
  refine Dr.sim ?_
  try simp only [List.cons_append, List.nil_append]
  refine Dr.finM (n := 12) [(4, 10), (5, 11)] [] hG YtjbbkbpnagefoaaGreatDoor.Facts.mixed fun KD hKD => ?_
  refine ARun2.endm (hKD _ ?_); clear hKD KD hG G
  refine AWp.ret ?_
  try simp only [thenQ, blockQ, noGo]
  refine bodyQ.m ?_
  first | done | exact Hand.go
end Go.Proofs.YtjbbkbpnagefoaaGreatDoor.C
/- initial.Make; wharfref01.Put, Numbers; wharfref15: Make, Of, Cookie, Has, Extensions. -/
set_option linter.unusedVariables false
set_option linter.unusedSimpArgs false
namespace Go.Proofs.YtjbbkbpnagefoaaGreatDoor.C
open Go.Abs
def makeD (v : Vals) : List UInt8 := (putB 4 v.tag ++ putB 4 v.window) ++ ((putB 2 v.out ++ putB 2 v.inn) ++ putB 4 v.tsn)
def makeI (a : Bool) (v : Vals) (l : List GNode) : GChunk := ⟨bif a then 2 else 1, 0, makeD v, l⟩
theorem makeD_len (v : Vals) : (makeD v).length = 16 := by simp [makeD, putB_len]
theorem small_make (a : Bool) (v : Vals) {l : List GNode} (hl : szs l ≤ 2 ^ 26) : Small (makeI a v l) := ⟨by cases a <;> simp [makeI], by simp [makeI], by simp only [makeI]; rw [makeD_len]; decide, hl⟩
theorem imake_c (a : Bool) (v : Vals) (l : List GNode) (hv : v.Ok) (hl : szs l ≤ 2 ^ 26) : PC Tryz.prog 30 [bool a, valsA v, .sl false 3 (nodesA false l)] (.tup [chunkA true (rightC (makeI a v l) true).1, bool (rightC (makeI a v l) true).2]) := by
  have b1 := hv.tag
  have b2 := hv.window
  have b3 := hv.out
  have b4 := hv.inn
  have b5 := hv.tsn
  have hp1 : PC Tryz.prog 45 [nat 4, .sl false 1 [u32 v.tag, u32 v.window]] (.sl true 1 (bys (putB 4 v.tag ++ putB 4 v.window))) := by
    have := wire_put 4 [v.tag, v.window] (by omega) (by intro x hx; simp at hx; omega) (by simp)
    simpa [u32s, List.flatMap_cons, List.flatMap_nil] using this
  have hp2 : PC Tryz.prog 45 [nat 2, .sl false 1 [u32 v.out, u32 v.inn]] (.sl true 1 (bys (putB 2 v.out ++ putB 2 v.inn))) := by
    have := wire_put 2 [v.out, v.inn] (by omega) (by intro x hx; simp at hx; omega) (by simp)
    simpa [u32s, List.flatMap_cons, List.flatMap_nil] using this
  have hp3 : PC Tryz.prog 45 [nat 4, .sl false 1 [u32 v.tsn]] (.sl true 1 (bys (putB 4 v.tsn))) := by
    have := wire_put 4 [v.tsn] (by omega) (by intro x hx; simp at hx; omega) (by simp)
    simpa [u32s, List.flatMap_cons, List.flatMap_nil] using this
  have hj : PC Tryz.prog 64 [.sl false 1 [.sl false 1 (bys (putB 4 v.tag ++ putB 4 v.window)), .sl false 1 (bys (putB 2 v.out ++ putB 2 v.inn)), .sl false 1 (bys (putB 4 v.tsn))]] (.sl true 1 (bys (makeD v))) := by
    have := wjoin_c [putB 4 v.tag ++ putB 4 v.window, putB 2 v.out ++ putB 2 v.inn, putB 4 v.tsn] (by simp [lens, putB_len]) (by simp)
    have e : [putB 4 v.tag ++ putB 4 v.window, putB 2 v.out ++ putB 2 v.inn, putB 4 v.tsn].flatten = makeD v := by simp [makeD]
    rw [e] at this
    exact this
  have w3 : IntKind.u32.wrap (N v.out) = N v.out := w_u32 _ (by omega)
  have w4 : IntKind.u32.wrap (N v.inn) = N v.inn := w_u32 _ (by omega)
  have hs := small_make a v hl
  have hck := hs.check
  have hcl := hs.clone
  refine PC.of_bodyK (by simp only [push_cast]) Tryz.func30 rfl (by rw [Tryz.ntmps30]; simp) ?_
  refine AWp.regionW ?_
  refine AWp.regionW ?_
  refine AWp.seqK fun K1 hK1 => ?_
  refine AWp.regionW ?_
  refine AWp.condLM (fun c0 => ?_) (fun c0 => ?_)
  · skip
    subst c0
    refine AWp.regionV ?_
    refine hK1 _ ?_
    refine AWp.drS [[(4, none)], [(13, some 0)], [(4, none)], [(15, some 2)], [(14, some 1), (16, some 3)], [(17, some 4)], [(4, none)], [(19, some 6)], [(20, some 7)], [(4, none)], [(22, some 9)], [(23, some 10)], [(21, some 8), (24, some 11)], [(25, some 12)], [(4, none)], [(27, some 14)], [(28, some 15)], [(29, some 16)], [(18, some 5), (26, some 13), (30, some 17)], [(31, some 18)], [(8, none)]] fun G hG => ?_
    refine Dr.sim ?_
    try simp only [List.cons_append, List.nil_append]
    refine Dr.sim ?_
    try simp only [List.cons_append, List.nil_append]
    refine Dr.sim ?_
    try simp only [List.cons_append, List.nil_append]
    refine Dr.sim ?_
    try simp only [List.cons_append, List.nil_append]
    refine Dr.buildV ?_
    try simp only [List.cons_append, List.nil_append]
    refine Dr.call (hp1) ?_
    try simp only [List.cons_append, List.nil_append]
    refine Dr.sim ?_
    try simp only [List.cons_append, List.nil_append]
    refine Dr.sim ?_
    try simp only [List.cons_append, List.nil_append]
    refine Dr.sim ?_
    try simp only [List.cons_append, List.nil_append]
    refine Dr.sim ?_
    try simp only [List.cons_append, List.nil_append]
    refine Dr.sim ?_
    try simp only [List.cons_append, List.nil_append]
    refine Dr.sim ?_
    try simp only [List.cons_append, List.nil_append]
    refine Dr.buildV ?_
    try simp only [List.cons_append, List.nil_append]
    refine Dr.call (hp2) ?_
    try simp only [List.cons_append, List.nil_append]
    refine Dr.sim ?_
    try simp only [List.cons_append, List.nil_append]
    refine Dr.sim ?_
    try simp only [List.cons_append, List.nil_append]
    refine Dr.buildV ?_
    try simp only [List.cons_append, List.nil_append]
    refine Dr.call (hp3) ?_
    try simp only [List.cons_append, List.nil_append]
    refine Dr.buildV ?_
    try simp only [List.cons_append, List.nil_append]
    refine Dr.call (hj) ?_
    try simp only [List.cons_append, List.nil_append]
    refine Dr.sim ?_
    try simp only [List.cons_append, List.nil_append]
    refine Dr.finM (n := 21) [(32, 19), (33, 20)] [6, 8] hG YtjbbkbpnagefoaaGreatDoor.Facts.mixed fun KD hKD => ?_
    refine ARun2.endm (hKD _ ?_); clear hKD KD hG G
    refine AWp.seqK fun K2 hK2 => ?_
    refine AWp.regionM fun K3 hK3 => ?_
    refine ARun2.callM (hck) ?_
    refine ARun2.endm (hK3 _ ?_)
    refine AWp.condLM (fun c1 => ?_) (fun c1 => ?_)
    · skip
      have hr : rightC (makeI true v l) true = (.zero, false) := by unfold rightC; cases h : checkC (makeI true v l) == 0 <;> simp_all
      refine AWp.regionW ?_
      refine AWp.ret ?_
      try simp only [thenQ, blockQ, noGo]
      refine bodyQ.m ?_
      clear hK3 K3 hK2 K2 hK1 K1
      rw [hr]
      try simp only [GChunk.zero]
      first | done | exact Wk.go
    · skip
      have hr : rightC (makeI true v l) true = (makeI true v l, true) := by unfold rightC; cases h : checkC (makeI true v l) == 0 <;> simp_all
      refine AWp.skip ?_
      refine hK2 _ ?_
      refine AWp.regionM fun K4 hK4 => ?_
      refine ARun2.callM (hcl) ?_
      refine ARun2.endm (hK4 _ ?_)
      refine AWp.ret ?_
      try simp only [thenQ, blockQ, noGo]
      refine bodyQ.m ?_
      clear hK4 K4 hK3 K3 hK2 K2 hK1 K1
      rw [hr]
      try simp only [GChunk.zero]
      first | done | exact Wk.go
  · skip
    subst c0
    refine AWp.skip ?_
    refine hK1 _ ?_
    refine AWp.drS [[(4, none)], [(13, some 0)], [(4, none)], [(15, some 2)], [(14, some 1), (16, some 3)], [(17, some 4)], [(4, none)], [(19, some 6)], [(20, some 7)], [(4, none)], [(22, some 9)], [(23, some 10)], [(21, some 8), (24, some 11)], [(25, some 12)], [(4, none)], [(27, some 14)], [(28, some 15)], [(29, some 16)], [(18, some 5), (26, some 13), (30, some 17)], [(31, some 18)], [(8, none)]] fun G hG => ?_
    refine Dr.sim ?_
    try simp only [List.cons_append, List.nil_append]
    refine Dr.sim ?_
    try simp only [List.cons_append, List.nil_append]
    refine Dr.sim ?_
    try simp only [List.cons_append, List.nil_append]
    refine Dr.sim ?_
    try simp only [List.cons_append, List.nil_append]
    refine Dr.buildV ?_
    try simp only [List.cons_append, List.nil_append]
    refine Dr.call (hp1) ?_
    try simp only [List.cons_append, List.nil_append]
    refine Dr.sim ?_
    try simp only [List.cons_append, List.nil_append]
    refine Dr.sim ?_
    try simp only [List.cons_append, List.nil_append]
    refine Dr.sim ?_
    try simp only [List.cons_append, List.nil_append]
    refine Dr.sim ?_
    try simp only [List.cons_append, List.nil_append]
    refine Dr.sim ?_
    try simp only [List.cons_append, List.nil_append]
    refine Dr.sim ?_
    try simp only [List.cons_append, List.nil_append]
    refine Dr.buildV ?_
    try simp only [List.cons_append, List.nil_append]
    refine Dr.call (hp2) ?_
    try simp only [List.cons_append, List.nil_append]
    refine Dr.sim ?_
    try simp only [List.cons_append, List.nil_append]
    refine Dr.sim ?_
    try simp only [List.cons_append, List.nil_append]
    refine Dr.buildV ?_
    try simp only [List.cons_append, List.nil_append]
    refine Dr.call (hp3) ?_
    try simp only [List.cons_append, List.nil_append]
    refine Dr.buildV ?_
    try simp only [List.cons_append, List.nil_append]
    refine Dr.call (hj) ?_
    try simp only [List.cons_append, List.nil_append]
    refine Dr.sim ?_
    try simp only [List.cons_append, List.nil_append]
    refine Dr.finM (n := 21) [(32, 19), (33, 20)] [6, 8] hG YtjbbkbpnagefoaaGreatDoor.Facts.mixed fun KD hKD => ?_
    refine ARun2.endm (hKD _ ?_); clear hKD KD hG G
    refine AWp.seqK fun K5 hK5 => ?_
    refine AWp.regionM fun K6 hK6 => ?_
    refine ARun2.callM (hck) ?_
    refine ARun2.endm (hK6 _ ?_)
    refine AWp.condLM (fun c1 => ?_) (fun c1 => ?_)
    · skip
      have hr : rightC (makeI false v l) true = (.zero, false) := by unfold rightC; cases h : checkC (makeI false v l) == 0 <;> simp_all
      refine AWp.regionW ?_
      refine AWp.ret ?_
      try simp only [thenQ, blockQ, noGo]
      refine bodyQ.m ?_
      clear hK6 K6 hK5 K5 hK1 K1
      rw [hr]
      try simp only [GChunk.zero]
      first | done | exact Wk.go
    · skip
      have hr : rightC (makeI false v l) true = (makeI false v l, true) := by unfold rightC; cases h : checkC (makeI false v l) == 0 <;> simp_all
      refine AWp.skip ?_
      refine hK5 _ ?_
      refine AWp.regionM fun K7 hK7 => ?_
      refine ARun2.callM (hcl) ?_
      refine ARun2.endm (hK7 _ ?_)
      refine AWp.ret ?_
      try simp only [thenQ, blockQ, noGo]
      refine bodyQ.m ?_
      clear hK7 K7 hK6 K6 hK5 K5 hK1 K1
      rw [hr]
      try simp only [GChunk.zero]
      first | done | exact Wk.go
end Go.Proofs.YtjbbkbpnagefoaaGreatDoor.C
/- Frames written: tlv.All (the iterator itself), tlv.Put, tlv.Join; nodes written: frames, Encode. -/
set_option linter.unusedVariables false
set_option linter.unusedSimpArgs false
namespace Go.Proofs.YtjbbkbpnagefoaaGreatDoor.C
open Go.Abs
end Go.Proofs.YtjbbkbpnagefoaaGreatDoor.C
/- Nodes read: one, parse, Parse. -/
set_option linter.unusedVariables false
set_option linter.unusedSimpArgs false
namespace Go.Proofs.YtjbbkbpnagefoaaGreatDoor.C
open Go.Abs
end Go.Proofs.YtjbbkbpnagefoaaGreatDoor.C
/- Nodes written: frames, Encode. -/
set_option linter.unusedVariables false
set_option linter.unusedSimpArgs false
namespace Go.Proofs.YtjbbkbpnagefoaaGreatDoor.C
open Go.Abs
@[push_cast] theorem errA_zero : errA 0 = .val .nilIface := rfl
end Go.Proofs.YtjbbkbpnagefoaaGreatDoor.C
/- wharflaw08: coded, told, node.Walk (the iterator itself), awake. -/
set_option linter.unusedVariables false
set_option linter.unusedSimpArgs false
namespace Go.Proofs.YtjbbkbpnagefoaaGreatDoor.C
open Go.Abs
end Go.Proofs.YtjbbkbpnagefoaaGreatDoor.C
/- The reference's bytes of nodes: wharfref03.Bytes, wharfref08.Bytes. -/
set_option linter.unusedVariables false
set_option linter.unusedSimpArgs false
namespace Go.Proofs.YtjbbkbpnagefoaaGreatDoor.C
open Go.Abs
end Go.Proofs.YtjbbkbpnagefoaaGreatDoor.C
/- wharflaw08: NodeDepths. -/
set_option linter.unusedVariables false
set_option linter.unusedSimpArgs false
namespace Go.Proofs.YtjbbkbpnagefoaaGreatDoor.C
open Go.Abs
end Go.Proofs.YtjbbkbpnagefoaaGreatDoor.C
/- Nodes written and read again: the plain law. -/
set_option linter.unusedVariables false
set_option linter.unusedSimpArgs false
namespace Go.Proofs.YtjbbkbpnagefoaaGreatDoor.C
open Go.Abs
/-! ### frames, one after the other -/
end Go.Proofs.YtjbbkbpnagefoaaGreatDoor.C
/- wharflaw20: made, awake; ControlMatchesReference, ControlReads, ControlCauses. -/
set_option linter.unusedVariables false
set_option linter.unusedSimpArgs false
namespace Go.Proofs.YtjbbkbpnagefoaaGreatDoor.C
open Go.Abs
theorem u8_shx (x k : Nat) (hk : k ≤ 32) : IntKind.u8.wrap ((N x).fdiv (2 ^ min k IntKind.u32.bits)) = N (UInt8.ofNat (x / 2 ^ k)).toNat := by
  have h2 : IntKind.u32.bits = 32 := rfl
  rw [h2, Nat.min_eq_left hk, ← u8_low]
  congr 1
  have h3 : (2 : Int) ^ k = ((2 ^ k : Nat) : Int) := by simp
  rw [h3]
  show (x : Int).fdiv ((2 ^ k : Nat) : Int) = ((x / 2 ^ k : Nat) : Int)
  rw [Int.fdiv_eq_ediv_of_nonneg _ (Int.natCast_nonneg _)]; rfl
@[push_cast] theorem u8_shr24 (x : Nat) : IntKind.u8.wrap ((N x).fdiv (2 ^ min 24 IntKind.u32.bits)) = N (UInt8.ofNat (x / 256 ^ 3)).toNat := u8_shx x 24 (by decide)
@[push_cast] theorem u8_shr16 (x : Nat) : IntKind.u8.wrap ((N x).fdiv (2 ^ min 16 IntKind.u32.bits)) = N (UInt8.ofNat (x / 256 ^ 2)).toNat := u8_shx x 16 (by decide)
@[push_cast] theorem u8_shr8 (x : Nat) : IntKind.u8.wrap ((N x).fdiv (2 ^ min 8 IntKind.u32.bits)) = N (UInt8.ofNat (x / 256 ^ 1)).toNat := u8_shx x 8 (by decide)
theorem u8_shr0 (x : Nat) : IntKind.u8.wrap (N x) = N (UInt8.ofNat (x / 256 ^ 0)).toNat := by rw [Nat.pow_zero, Nat.div_one, IntKind.wrap_u8]; simp [N, UInt8.toNat_ofNat']
end Go.Proofs.YtjbbkbpnagefoaaGreatDoor.C
/- wharfref01.Put, Numbers; wharfref15.Make, Of, Has, Extensions. -/
set_option linter.unusedVariables false
set_option linter.unusedSimpArgs false
namespace Go.Proofs.YtjbbkbpnagefoaaGreatDoor.C
open Go.Abs
theorem lits4b (a b c d : UInt8) : [AV.val (.int .u8 (N a.toNat)), AV.val (.int .u8 (N b.toNat)), AV.val (.int .u8 (N c.toNat)), AV.val (.int .u8 (N d.toNat))] = bys [a, b, c, d] := rfl
theorem putB4_lit (x : Nat) : [UInt8.ofNat (x / 256 ^ 3), UInt8.ofNat (x / 256 ^ 2), UInt8.ofNat (x / 256 ^ 1), UInt8.ofNat (x / 256 ^ 0)] = putB 4 x := rfl
theorem putB4_drop (k x : Nat) (hk : k = 1 ∨ k = 2 ∨ k = 4) : (putB 4 x).drop (4 - k) = putB k x := by rcases hk with rfl | rfl | rfl <;> rfl
theorem sub4_w (k : Nat) (hk : k ≤ 4) : IntKind.i64.wrap (4 - N k) = N (4 - k) := by rw [IntKind.wrap_i64]; unfold N; omega
theorem flat_bd (k : Nat) (l : List Nat) (i : Nat) (hk : k = 1 ∨ k = 2 ∨ k = 4) (hn : l.length ≤ 2 ^ 30) : ((l.take i).flatMap (putB k)).length ≤ 2 ^ 32 := by
  rw [flat_len2, List.length_take]
  have : min i l.length * k ≤ 2 ^ 30 * 4 := Nat.mul_le_mul (by omega) (by omega)
  omega
theorem rput_c (k : Nat) (l : List Nat) (hk : k = 1 ∨ k = 2 ∨ k = 4) (hn : l.length ≤ 2 ^ 30) : PC Tryz.prog 67 [nat k, .sl false 1 (u32s l)] (.sl true 1 (bys (l.flatMap (putB k)))) := by
  have hr : (k == 1 || k == 2 || k == 4) = true := by rcases hk with rfl | rfl | rfl <;> rfl
  have h4 := sub4_w k (by omega)
  refine PC.of_bodyK (by simp only [push_cast]) Tryz.func67 rfl (by rw [Tryz.ntmps67]; simp) ?_
  refine AWp.regionW ?_
  refine AWp.regionW ?_
  refine AWp.seqK fun K1 hK1 => ?_
  refine AWp.regionM fun K2 hK2 => ?_
  refine ARun2.callM (hr ▸ right01_c k) ?_
  refine ARun2.endm (hK2 _ ?_)
  refine AWp.condF ?_
  refine AWp.skip ?_
  refine hK1 _ ?_
  refine AWp.seqK fun K3 hK3 => ?_
  refine AWp.regionW ?_
  refine AWp.block ?_
  -- SLOTS THAT TURN AND ARE NOT TOLD: [5]
  refine AWp.nilOwn 5 5 1 (by simp only [push_cast, ↓reduceIte, Nat.reduceEqDiff, Nat.reduceLT, Nat.reduceAdd, Nat.reduceSub, Nat.reduceMul, Nat.reduceLeDiff, Nat.reducePow, Int.reduceLT, Int.reduceToNat, reduceCtorEq, Int.reduceNeg, Int.reduceEq, Nat.reduceBEq, Nat.reduceBNe, Int.reduceBEq, Int.reduceBNe, String.reduceEq]) ?_
  simp only [push_cast, ↓reduceIte, Nat.reduceEqDiff, Nat.reduceLT, Nat.reduceAdd, Nat.reduceSub, Nat.reduceMul, Nat.reduceLeDiff, Nat.reducePow, Int.reduceLT, Int.reduceToNat, reduceCtorEq, Int.reduceNeg, Int.reduceEq, Nat.reduceBEq, Nat.reduceBNe, Int.reduceBEq, Int.reduceBNe, String.reduceEq]
  refine AWp.loopK [0, 1, 5] (fun (i : Nat) => [(6, nat i)]) (fun i => [.row 5 1 (bys ((l.take i).flatMap (putB k)))]) (fun i => i ≤ l.length) (fun i => l.length - i) (0) ?_ (Nat.zero_le _) ?_
  · skip
    refine Le.m 1 ?_ ?_
    · try simp only [push_cast, ↓reduceIte, Nat.reduceEqDiff, Nat.reduceLT, Nat.reduceAdd, Nat.reduceSub, Nat.reduceMul, Nat.reduceLeDiff, Nat.reducePow, Int.reduceLT, Int.reduceToNat, reduceCtorEq, Int.reduceNeg, Int.reduceEq, Nat.reduceBEq, Nat.reduceBNe, Int.reduceBEq, Int.reduceBNe, String.reduceEq]
      try simp (disch := omega) only [w_nat, w_add, w_addl, w_addr, w_sub, w_subl, w_mul, w_mull, w_mulr, w_u32, w_u16, w_u8, w_u32a, N_zero]
      first | done | skip
      rfl
    · first | (simp only [push_cast, ↓reduceIte, Nat.reduceEqDiff, Nat.reduceLT, Nat.reduceAdd, Nat.reduceSub, Nat.reduceMul, Nat.reduceLeDiff, Nat.reducePow, Int.reduceLT, Int.reduceToNat, reduceCtorEq, Int.reduceNeg, Int.reduceEq, Nat.reduceBEq, Nat.reduceBNe, Int.reduceBEq, Int.reduceBNe, String.reduceEq]; first | done | rfl | (simp (disch := omega) only [w_nat, w_add, w_addl, w_addr, w_sub, w_subl, w_mul, w_mull, w_mulr, w_u32, w_u16, w_u8, w_u32a, N_zero]; first | done | rfl))
  · intro i hi K4 hK4
    refine AWp.seqK fun K5 hK5 => ?_
    refine AWp.regionW ?_
    refine AWp.condLM (fun c1 => ?_) (fun c1 => ?_)
    · skip
      have hil : i < l.length := by simpa using c1
      refine AWp.skip ?_
      refine hK5 _ ?_
      refine AWp.seqK fun K6 hK6 => ?_
      refine AWp.block ?_
      refine AWp.drS [[(1, none)], [(6, none)], [(18, some 0), (19, some 1)], [(20, some 2)], [(21, some 3)], [(22, some 4)], [(1, none)], [(6, none)], [(24, some 6), (25, some 7)], [(26, some 8)], [(27, some 9)], [(28, some 10)], [(1, none)], [(6, none)], [(30, some 12), (31, some 13)], [(32, some 14)], [(33, some 15)], [(34, some 16)], [(1, none)], [(6, none)], [(36, some 18), (37, some 19)], [(38, some 20)], [(39, some 21)], [(23, some 5), (29, some 11), (35, some 17), (40, some 22)], [(41, some 23)]] fun G hG => ?_
      refine Dr.sim ?_
      try simp only [List.cons_append, List.nil_append]
      refine Dr.sim ?_
      try simp only [List.cons_append, List.nil_append]
      refine Dr.idx (i) (u32 l[i]) ?_ ?_
      · exact u32s_at _ _ hil
      try simp only [List.cons_append, List.nil_append]
      refine Dr.sim ?_
      try simp only [List.cons_append, List.nil_append]
      refine Dr.sim ?_
      try simp only [List.cons_append, List.nil_append]
      refine Dr.sim ?_
      try simp only [List.cons_append, List.nil_append]
      refine Dr.sim ?_
      try simp only [List.cons_append, List.nil_append]
      refine Dr.sim ?_
      try simp only [List.cons_append, List.nil_append]
      refine Dr.idx (i) (u32 l[i]) ?_ ?_
      · exact u32s_at _ _ hil
      try simp only [List.cons_append, List.nil_append]
      refine Dr.sim ?_
      try simp only [List.cons_append, List.nil_append]
      refine Dr.sim ?_
      try simp only [List.cons_append, List.nil_append]
      refine Dr.sim ?_
      try simp only [List.cons_append, List.nil_append]
      refine Dr.sim ?_
      try simp only [List.cons_append, List.nil_append]
      refine Dr.sim ?_
      try simp only [List.cons_append, List.nil_append]
      refine Dr.idx (i) (u32 l[i]) ?_ ?_
      · exact u32s_at _ _ hil
      try simp only [List.cons_append, List.nil_append]
      refine Dr.sim ?_
      try simp only [List.cons_append, List.nil_append]
      refine Dr.sim ?_
      try simp only [List.cons_append, List.nil_append]
      refine Dr.sim ?_
      try simp only [List.cons_append, List.nil_append]
      refine Dr.sim ?_
      try simp only [List.cons_append, List.nil_append]
      refine Dr.sim ?_
      try simp only [List.cons_append, List.nil_append]
      refine Dr.idx (i) (u32 l[i]) ?_ ?_
      · exact u32s_at _ _ hil
      try simp only [List.cons_append, List.nil_append]
      refine Dr.sim ?_
      try simp only [List.cons_append, List.nil_append]
      refine Dr.sim ?_
      try simp only [List.cons_append, List.nil_append]
      refine Dr.buildV ?_
      try simp only [List.cons_append, List.nil_append]
      refine Dr.sim ?_
      try simp only [List.cons_append, List.nil_append]
      refine Dr.finM (n := 25) [(7, 24)] [0, 1, 5, 6] hG YtjbbkbpnagefoaaGreatDoor.Facts.mixed fun KD hKD => ?_
      refine ARun2.endm (hKD _ ?_); clear hKD KD hG G
      rw [u8_shr0 l[i], lits4b, putB4_lit]
      refine AWp.regionN fun K7 hK7 => ?_
      rw [h4]
      refine ARun2.sliceLoM (4 - k) ?_ ?_
      · rw [bys_len, putB_len]; omega
      refine ARun2.appendM ?_ ?_ ?_
      · have hx := flat_bd k l i hk hn; rw [putB4_drop k _ hk, YtjbbkbpnagefoaaGreatDoor.Facts.eb23, bys_len, bys_len, putB_len]; omega
      · have hx := flat_bd k l i hk hn; rw [putB4_drop k _ hk, bys_len, bys_len, putB_len]; omega
      refine ARun2.endm (hK7 _ ?_)
      refine hK6 _ ?_
      refine AWp.regionV ?_
      refine hK4 _ (i + 1) (by omega) (by omega) ?_
      refine Le.m 1 ?_ ?_
      · try simp only [push_cast, ↓reduceIte, Nat.reduceEqDiff, Nat.reduceLT, Nat.reduceAdd, Nat.reduceSub, Nat.reduceMul, Nat.reduceLeDiff, Nat.reducePow, Int.reduceLT, Int.reduceToNat, reduceCtorEq, Int.reduceNeg, Int.reduceEq, Nat.reduceBEq, Nat.reduceBNe, Int.reduceBEq, Int.reduceBNe, String.reduceEq]
        try simp (disch := omega) only [w_nat, w_add, w_addl, w_addr, w_sub, w_subl, w_mul, w_mull, w_mulr, w_u32, w_u16, w_u8, w_u32a, N_zero]
        first | done | skip
        rw [putB4_drop k _ hk, bys_append, List.take_succ_eq_append_getElem hil, List.flatMap_append]; simp only [List.flatMap_cons, List.flatMap_nil, List.append_nil]
      · first | (simp only [push_cast, ↓reduceIte, Nat.reduceEqDiff, Nat.reduceLT, Nat.reduceAdd, Nat.reduceSub, Nat.reduceMul, Nat.reduceLeDiff, Nat.reducePow, Int.reduceLT, Int.reduceToNat, reduceCtorEq, Int.reduceNeg, Int.reduceEq, Nat.reduceBEq, Nat.reduceBNe, Int.reduceBEq, Int.reduceBNe, String.reduceEq]; first | done | rfl | (simp (disch := omega) only [w_nat, w_add, w_addl, w_addr, w_sub, w_subl, w_mul, w_mull, w_mulr, w_u32, w_u16, w_u8, w_u32a, N_zero]; first | done | rfl))
    · skip
      have hil : i = l.length := by simp at c1; omega
      subst hil
      refine AWp.exit ?_
      try simp only [thenQ, blockQ, noGo, reduceIte, Nat.reduceEqDiff]
      refine hK3 _ ?_
      refine AWp.pubD 0 ?_
      refine AWp.regionW ?_
      refine AWp.ret ?_
      try simp only [thenQ, blockQ, noGo]
      refine bodyQ.m ?_
      clear hK5 K5 hK4 K4 hK3 K3 hK2 K2 hK1 K1
      rw [List.take_length]
      first | done | exact Wk.go
theorem putB4_two (a b : Nat) (ha : a < 2 ^ 16) (hb : b < 2 ^ 16) : putB 4 (a * 65536 + b) = putB 2 a ++ putB 2 b := by
  have e1 : (a * 65536 + b) / 256 ^ 3 = a / 256 ^ 1 := by omega
  have e2 : (a * 65536 + b) / 256 ^ 2 = a := by omega
  have e3 : UInt8.ofNat ((a * 65536 + b) / 256 ^ 1) = UInt8.ofNat (b / 256 ^ 1) := by
    apply UInt8.toNat_inj.1; rw [UInt8.toNat_ofNat', UInt8.toNat_ofNat']; omega
  have e4 : UInt8.ofNat ((a * 65536 + b) / 256 ^ 0) = UInt8.ofNat (b / 256 ^ 0) := by
    apply UInt8.toNat_inj.1; rw [UInt8.toNat_ofNat', UInt8.toNat_ofNat']; omega
  rw [← putB4_lit, e1, e2, e3, e4]
  have h0 : UInt8.ofNat a = UInt8.ofNat (a / 256 ^ 0) := by rw [Nat.pow_zero, Nat.div_one]
  rw [h0]; rfl
theorem rmake_c (a : Bool) (v : Vals) (l : List GNode) (hv : v.Ok) : PC Tryz.prog 32 [bool a, valsA v, .sl false 3 (nodesA false l)] (chunkA false (makeI a v l)) := by
  have b3 := hv.out
  have b4 := hv.inn
  have hp := rput_c 4 [v.tag, v.window, v.out * 65536 + v.inn, v.tsn] (by decide) (by simp)
  have e : [v.tag, v.window, v.out * 65536 + v.inn, v.tsn].flatMap (putB 4) = makeD v := by
    simp only [List.flatMap_cons, List.flatMap_nil, List.append_nil, makeD, putB4_two _ _ b3 b4, List.append_assoc]
  rw [e] at hp
  have hw : IntKind.u32.wrap (IntKind.u32.wrap (N v.out * 65536) + N v.inn) = N (v.out * 65536 + v.inn) := by
    rw [IntKind.wrap_u32, IntKind.wrap_u32]; unfold N; omega
  refine PC.of_bodyW (by simp only [push_cast]) Tryz.func32 rfl (by rw [Tryz.ntmps32]; simp) ?_
  refine AWp.regionW ?_
  refine AWp.regionW ?_
  refine AWp.seqK fun K1 hK1 => ?_
  refine AWp.regionW ?_
  refine AWp.condLM (fun c0 => ?_) (fun c0 => ?_)
  · skip
    subst c0
    refine AWp.regionV ?_
    refine hK1 _ ?_
    refine AWp.regionM fun K2 hK2 => ?_
    rw [hw]
    refine ARun2.callM (hp) ?_
    refine ARun2.endm (hK2 _ ?_)
    refine AWp.regionW ?_
    refine AWp.ret ?_
    try simp only [thenQ, blockQ, noGo]
    refine bodyQ.m ?_
    clear hK2 K2 hK1 K1
    first | done | exact Hand.go
  · skip
    subst c0
    refine AWp.skip ?_
    refine hK1 _ ?_
    refine AWp.regionM fun K3 hK3 => ?_
    rw [hw]
    refine ARun2.callM (hp) ?_
    refine ARun2.endm (hK3 _ ?_)
    refine AWp.regionW ?_
    refine AWp.ret ?_
    try simp only [thenQ, blockQ, noGo]
    refine bodyQ.m ?_
    clear hK3 K3 hK1 K1
    first | done | exact Hand.go
end Go.Proofs.YtjbbkbpnagefoaaGreatDoor.C
/- wharflaw15: awake; InitialParams, InitialChunks. -/
set_option linter.unusedVariables false
set_option linter.unusedSimpArgs false
namespace Go.Proofs.YtjbbkbpnagefoaaGreatDoor.C
open Go.Abs
def exC : GChunk := ⟨2, 0, [0, 0, 0, 1, 0, 0, 0, 0, 0, 5, 0, 9, 0, 0, 0, 3], [.mk 7 [1, 2] []]⟩
theorem exC_small : Small exC := ⟨by decide, by decide, by decide, by decide⟩
set_option maxRecDepth 100000 in
theorem awake15_c : PC Tryz.prog 29 [] (bool true) := by
  have w1 : rightC (makeI true ⟨1, 0, 5, 9, 3⟩ [.mk 7 [1, 2] []]) true = (exC, true) := by kernel_rfl
  have k1 := imake_c true ⟨1, 0, 5, 9, 3⟩ [.mk 7 [1, 2] []] ⟨by decide, by decide, by decide, by decide, by decide⟩ (by decide)
  rw [w1] at k1
  have w2 : cookieI exC = ([1, 2], true) := by kernel_rfl
  have k2 := icookie_c exC exC_small
  rw [w2] at k2
  have w3 : valsI exC = ⟨1, 0, 5, 9, 3⟩ := by kernel_rfl
  have w4 : kidsI exC = [.mk 7 [1, 2] []] := by kernel_rfl
  have w5 : isI exC = true := by kernel_rfl
  have k3 := iof_c exC exC_small
  rw [w3, w4, w5] at k3
  have k4 := istreams_c ⟨1, 0, 5, 9, 3⟩ ⟨0, 0, 7, 7, 0⟩
  have w6 : echoI exC = (⟨10, 0, [1, 2], []⟩, true) := by kernel_rfl
  have k5 := iecho_c exC exC_small
  rw [w6] at k5
  have k6 : PC Tryz.prog 21 [.sl false 1 (bys [1, 2]), .sl false 1 (bys [1, 2])] (bool true) := same01_c [1, 2] [1, 2] (by decide)
  have w7 : decide (0 < (datas 7 (kidsI exC)).length) = true := by kernel_rfl
  have k7 := ihas_c exC 7 exC_small
  rw [w7] at k7
  have w8 : decide (0 < (datas 8 (kidsI exC)).length) = false := by kernel_rfl
  have k8 := ihas_c exC 8 exC_small
  rw [w8] at k8
  unfold exC at k1 k2 k3 k5 k7 k8
  refine PC.of_bodyW (by simp only [push_cast]) Tryz.func29 rfl (by rw [Tryz.ntmps29]; simp) ?_
  refine AWp.regionW ?_
  refine AWp.regionW ?_
  refine AWp.regionM fun K1 hK1 => ?_
  refine ARun2.callM (k1) ?_
  refine ARun2.endm (hK1 _ ?_)
  refine AWp.regionM fun K2 hK2 => ?_
  refine ARun2.callM (k2) ?_
  refine ARun2.endm (hK2 _ ?_)
  refine AWp.regionM fun K3 hK3 => ?_
  refine ARun2.callM (k3) ?_
  refine ARun2.endm (hK3 _ ?_)
  refine AWp.regionM fun K4 hK4 => ?_
  refine ARun2.callM (k4) ?_
  refine ARun2.endm (hK4 _ ?_)
  refine AWp.regionM fun K5 hK5 => ?_
  refine ARun2.callM (k5) ?_
  refine ARun2.endm (hK5 _ ?_)
  refine AWp.regionM fun K6 hK6 => ?_
  refine ARun2.callM (k6) ?_
  refine ARun2.aggEqM ?_
  refine ARun2.callM (k7) ?_
  refine ARun2.callM (k8) ?_
  refine ARun2.endm (hK6 _ ?_)
  refine AWp.ret ?_
  try simp only [thenQ, blockQ, noGo]
  refine bodyQ.m ?_
  clear hK6 K6 hK5 K5 hK4 K4 hK3 K3 hK2 K2 hK1 K1
  first | done | exact Hand.go
end Go.Proofs.YtjbbkbpnagefoaaGreatDoor.C
/- wharfref08.Clone. -/
set_option linter.unusedVariables false
set_option linter.unusedSimpArgs false
namespace Go.Proofs.YtjbbkbpnagefoaaGreatDoor.C
open Go.Abs
theorem rclone_step (w : Nat) (ih : ∀ l : List GNode, wts l < w → szs l ≤ 2 ^ 40 → PC Tryz.prog 31 [.sl false 3 (nodesA false l)] (.sl true 3 (nodesA true l))) (l : List GNode) (hw : wts l ≤ w) (hs : szs l ≤ 2 ^ 40) :
    PC Tryz.prog 31 [.sl false 3 (nodesA false l)] (.sl true 3 (nodesA true l)) := by
  have hlen := szs_len l
  refine PC.of_bodyK (by simp only [push_cast]) Tryz.func31 rfl (by rw [Tryz.ntmps31]; simp) ?_
  refine AWp.regionW ?_
  refine AWp.regionW ?_
  refine AWp.seqK fun K1 hK1 => ?_
  refine AWp.regionW ?_
  refine AWp.block ?_
  -- SLOTS THAT TURN AND ARE NOT TOLD: [3]
  refine AWp.nilOwn 3 36 3 (by simp only [push_cast, ↓reduceIte, Nat.reduceEqDiff, Nat.reduceLT, Nat.reduceAdd, Nat.reduceSub, Nat.reduceMul, Nat.reduceLeDiff, Nat.reducePow, Int.reduceLT, Int.reduceToNat, reduceCtorEq, Int.reduceNeg, Int.reduceEq, Nat.reduceBEq, Nat.reduceBNe, Int.reduceBEq, Int.reduceBNe, String.reduceEq]) ?_
  simp only [push_cast, ↓reduceIte, Nat.reduceEqDiff, Nat.reduceLT, Nat.reduceAdd, Nat.reduceSub, Nat.reduceMul, Nat.reduceLeDiff, Nat.reducePow, Int.reduceLT, Int.reduceToNat, reduceCtorEq, Int.reduceNeg, Int.reduceEq, Nat.reduceBEq, Nat.reduceBNe, Int.reduceBEq, Int.reduceBNe, String.reduceEq]
  refine AWp.loopK [0, 3] (fun (i : Nat) => [(4, nat i)]) (fun i => [.row 36 3 (nodesA true (l.take i))]) (fun i => i ≤ l.length) (fun i => l.length - i) (0) ?_ (Nat.zero_le _) ?_
  · skip
    refine Le.m 1 ?_ ?_
    · first | with_reducible rfl | (simp only [push_cast, ↓reduceIte, Nat.reduceEqDiff, Nat.reduceLT, Nat.reduceAdd, Nat.reduceSub, Nat.reduceMul, Nat.reduceLeDiff, Nat.reducePow, Int.reduceLT, Int.reduceToNat, reduceCtorEq, Int.reduceNeg, Int.reduceEq, Nat.reduceBEq, Nat.reduceBNe, Int.reduceBEq, Int.reduceBNe, String.reduceEq]; first | done | rfl | (simp (disch := omega) only [w_nat, w_add, w_addl, w_addr, w_sub, w_subl, w_mul, w_mull, w_mulr, w_u32, w_u16, w_u8, w_u32a, N_zero]; first | done | rfl))
    · first | (simp only [push_cast, ↓reduceIte, Nat.reduceEqDiff, Nat.reduceLT, Nat.reduceAdd, Nat.reduceSub, Nat.reduceMul, Nat.reduceLeDiff, Nat.reducePow, Int.reduceLT, Int.reduceToNat, reduceCtorEq, Int.reduceNeg, Int.reduceEq, Nat.reduceBEq, Nat.reduceBNe, Int.reduceBEq, Int.reduceBNe, String.reduceEq]; first | done | rfl | (simp (disch := omega) only [w_nat, w_add, w_addl, w_addr, w_sub, w_subl, w_mul, w_mull, w_mulr, w_u32, w_u16, w_u8, w_u32a, N_zero]; first | done | rfl))
  · intro i hi K2 hK2
    refine AWp.seqK fun K3 hK3 => ?_
    refine AWp.regionW ?_
    refine AWp.condLM (fun c0 => ?_) (fun c0 => ?_)
    · skip
      have hil : i < l.length := by simpa using c0
      have hm := List.getElem_mem hil
      have hn := szs_mem hm
      have he := GNode.sz_eq l[i]
      refine AWp.skip ?_
      refine hK3 _ ?_
      refine AWp.seqK fun K4 hK4 => ?_
      refine AWp.block ?_
      refine AWp.drE [[(3, none)], [(0, none)], [(4, none)], [(12, some 1), (13, some 2)], [(14, some 3)], [(15, some 4)], [(34, none)], [(0, none)], [(4, none)], [(18, some 7), (19, some 8)], [(20, some 9)], [(21, some 10)], [(34, none)], [(0, none)], [(4, none)], [(24, some 13), (25, some 14)], [(26, some 15)], [(27, some 16)], [(28, some 17)], [(16, some 5), (23, some 12), (29, some 18)], [(30, some 19)]] fun G hG => ?_
      refine Dr.sim ?_
      try simp only [List.cons_append, List.nil_append]
      refine Dr.sim ?_
      try simp only [List.cons_append, List.nil_append]
      refine Dr.sim ?_
      try simp only [List.cons_append, List.nil_append]
      refine Dr.idx (i) (nodeA false l[i]) ?_ ?_
      · exact nodesA_at _ _ _ hil
      try simp only [List.cons_append, List.nil_append]
      refine Dr.sim ?_
      try simp only [List.cons_append, List.nil_append]
      refine Dr.sim ?_
      try simp only [List.cons_append, List.nil_append]
      refine Dr.ownS ?_
      try simp only [List.cons_append, List.nil_append]
      refine Dr.sim ?_
      try simp only [List.cons_append, List.nil_append]
      refine Dr.sim ?_
      try simp only [List.cons_append, List.nil_append]
      refine Dr.idx (i) (nodeA false l[i]) ?_ ?_
      · exact nodesA_at _ _ _ hil
      try simp only [List.cons_append, List.nil_append]
      refine Dr.sim ?_
      try simp only [List.cons_append, List.nil_append]
      refine Dr.sim ?_
      try simp only [List.cons_append, List.nil_append]
      refine Dr.pubS (1) (bys l[i].data) ?_
      try simp only [List.cons_append, List.nil_append]
      refine Dr.sim ?_
      try simp only [List.cons_append, List.nil_append]
      refine Dr.sim ?_
      try simp only [List.cons_append, List.nil_append]
      refine Dr.idx (i) (nodeA false l[i]) ?_ ?_
      · exact nodesA_at _ _ _ hil
      try simp only [List.cons_append, List.nil_append]
      refine Dr.sim ?_
      try simp only [List.cons_append, List.nil_append]
      refine Dr.sim ?_
      try simp only [List.cons_append, List.nil_append]
      refine Dr.call (ih l[i].kids (by have := kids_lt hm; omega) (by omega)) ?_
      try simp only [List.cons_append, List.nil_append]
      refine Dr.sim ?_
      try simp only [List.cons_append, List.nil_append]
      refine Dr.buildV ?_
      try simp only [List.cons_append, List.nil_append]
      refine Dr.finCN (n := 21) [6, 12] 2 [[(3, none)], [(0, none)], [(4, none)], [(12, some 1), (13, some 2)], [(14, some 3)], [(15, some 4)], [], [(0, none)], [(4, none)], [(18, some 7), (19, some 8)], [(20, some 9)], [(21, some 10)], [(17, some 6), (22, some 11)], [(0, none)], [(4, none)], [(24, some 13), (25, some 14)], [(26, some 15)], [(27, some 16)], [(28, some 17)], [(16, some 5), (23, some 12), (29, some 18)], [(30, some 19)]] [(11, 0), (31, 20)] [0, 4] (CL.own (CL.appP (hb := by rw [YtjbbkbpnagefoaaGreatDoor.Facts.eb23, bys_len, List.length_nil]; omega) (hsm := by rw [bys_len, List.length_nil]; omega) CL.nil)) hG YtjbbkbpnagefoaaGreatDoor.Facts.mixed fun KD hKD => ?_
      clear hG G
      refine AAny.one 21 ?_
      refine ARun.opM ?_
      refine ARun2.appendM ?_ ?_ ?_
      · rw [YtjbbkbpnagefoaaGreatDoor.Facts.eb26, nodesA_len, List.length_take, List.length_cons, List.length_nil]; omega
      · rw [nodesA_len, List.length_take, List.length_cons, List.length_nil]; omega
      refine ARun2.endm ?_
      refine AAny.one 22 ?_
      refine ARun.opM ?_
      refine ARun2.endm ?_
      refine AAny.fin (hKD _ ?_); clear hKD KD
      refine hK4 _ ?_
      refine AWp.regionV ?_
      refine hK2 _ (i + 1) (by omega) (by omega) ?_
      refine Le.m 1 ?_ ?_
      · try simp only [push_cast, ↓reduceIte, Nat.reduceEqDiff, Nat.reduceLT, Nat.reduceAdd, Nat.reduceSub, Nat.reduceMul, Nat.reduceLeDiff, Nat.reducePow, Int.reduceLT, Int.reduceToNat, reduceCtorEq, Int.reduceNeg, Int.reduceEq, Nat.reduceBEq, Nat.reduceBNe, Int.reduceBEq, Int.reduceBNe, String.reduceEq]
        try simp (disch := omega) only [w_nat, w_add, w_addl, w_addr, w_sub, w_subl, w_mul, w_mull, w_mulr, w_u32, w_u16, w_u8, w_u32a, N_zero]
        first | done | skip
        rw [List.take_succ_eq_append_getElem hil, nodesA_snoc, nodeA_eq]
      · first | (simp only [push_cast, ↓reduceIte, Nat.reduceEqDiff, Nat.reduceLT, Nat.reduceAdd, Nat.reduceSub, Nat.reduceMul, Nat.reduceLeDiff, Nat.reducePow, Int.reduceLT, Int.reduceToNat, reduceCtorEq, Int.reduceNeg, Int.reduceEq, Nat.reduceBEq, Nat.reduceBNe, Int.reduceBEq, Int.reduceBNe, String.reduceEq]; first | done | rfl | (simp (disch := omega) only [w_nat, w_add, w_addl, w_addr, w_sub, w_subl, w_mul, w_mull, w_mulr, w_u32, w_u16, w_u8, w_u32a, N_zero]; first | done | rfl))
    · skip
      have hil : i = l.length := by simp at c0; omega
      subst hil
      refine AWp.exit ?_
      try simp only [thenQ, blockQ, noGo, reduceIte, Nat.reduceEqDiff]
      refine hK1 _ ?_
      refine AWp.pubD 0 ?_
      refine AWp.regionW ?_
      refine AWp.ret ?_
      try simp only [thenQ, blockQ, noGo]
      refine bodyQ.m ?_
      clear hK3 K3 hK2 K2 hK1 K1
      rw [List.take_length]
      first | done | exact Wk.go
theorem rclone_w : ∀ (w : Nat) (l : List GNode), wts l ≤ w → szs l ≤ 2 ^ 40 → PC Tryz.prog 31 [.sl false 3 (nodesA false l)] (.sl true 3 (nodesA true l)) := by
  intro w
  induction w with
  | zero => exact rclone_step 0 (fun l h => by omega)
  | succ w ih => exact rclone_step (w + 1) (fun l h => ih l (by omega))
theorem rclone_c (l : List GNode) (hs : szs l ≤ 2 ^ 40) : PC Tryz.prog 31 [.sl false 3 (nodesA false l)] (.sl true 3 (nodesA true l)) := rclone_w _ l (Nat.le_refl _) hs
end Go.Proofs.YtjbbkbpnagefoaaGreatDoor.C
/- Drawn regions that make a variable in their head and of whose head one operation may come up late. No condition. -/
namespace Go.Abs
set_option linter.unusedVariables false
set_option linter.unusedSectionVars false
set_option linter.unusedSimpArgs false
section
variable {P : Program} {ops : Array Oper} {E : Env} {s s' : AS} {ρ : List Value} {B : Nat → Prop} {a : Act} {w w' : World} {o : Oper} {rest : List Oper} {Q : AS → Prop} {R : Exit → AS → Prop} {nds : List (List (Nat × Option Nat))} {vals : List AV} {G : Prop}
/-- the tail waits for all of the head but q -/
def tailF (ops : Array Oper) (n q : Nat) : Bool :=
  decide (n < ops.size) && ((List.range n).all fun i => decide (i = q) || Region.waitsFor .any ops n i || (List.range n).any fun j => decide (i < j) && decide (j ≠ q) && Region.waitsFor .any ops j i) &&
  ((List.range ops.size).all fun j => decide (j ≤ n) || (List.range j).any fun i => decide (n ≤ i) && Region.waitsFor .any ops j i)
theorem tailF.tail {n q : Nat} (h : tailF ops n q = true) {listed : Array Bool} (inv : HeadInv .any ops n listed) : ∀ (d i : Nat), n - i = d → i < n → i ≠ q → listed.getD i true = false → ∀ t, n ≤ t → t ∉ Region.ready .any ops listed := by
  simp only [tailF, Bool.and_eq_true, decide_eq_true_eq] at h
  obtain ⟨⟨hn, hs⟩, hc⟩ := h
  intro d
  induction d using Nat.strongRecOn with
  | _ d ih =>
    intro i hd hi hiq hun t ht hr
    obtain ⟨_, ot, hot, hall⟩ := mem_ready.1 hr
    have htlt : t < ops.size := (Array.getElem?_eq_some_iff.1 hot).1
    by_cases htn : t = n
    · subst htn
      have h1 := List.all_eq_true.1 hs i (List.mem_range.2 hi)
      simp only [Bool.or_eq_true, decide_eq_true_eq] at h1
      rcases h1 with (h1 | h1) | h1
      · exact hiq h1
      · obtain ⟨oj, hoj, e, he, hb, hon⟩ := Region.waitsFor_spec h1
        have : oj = ot := Option.some.inj (hoj.symm.trans hot)
        subst this
        have h2 := hall e he hb
        rw [hon, getD_both hun] at h2
        cases h2
      · obtain ⟨j, hj, hj2⟩ := List.any_eq_true.1 h1
        simp only [Bool.and_eq_true, decide_eq_true_eq] at hj2
        obtain ⟨oj, hoj, e, he, hb, hon⟩ := Region.waitsFor_spec hj2.2
        have hjlt := List.mem_range.1 hj
        cases hl : listed.getD j false with
        | true =>
          have h2 := inv.closed j oj hoj hl e he hb
          rw [hon, getD_both hun] at h2
          cases h2
        | false =>
          have hjs : j < listed.size := by rw [inv.size]; omega
          exact ih (t - j) (by omega) j rfl (by omega) hj2.1.2 (getD_in hjs hl) t (Nat.le_refl _) hr
    · have h1 := List.all_eq_true.1 hc t (List.mem_range.2 htlt)
      simp only [Bool.or_eq_true, decide_eq_true_eq] at h1
      rcases h1 with h1 | h1
      · omega
      · obtain ⟨i', hi', h1⟩ := List.any_eq_true.1 h1
        simp only [Bool.and_eq_true, decide_eq_true_eq] at h1
        obtain ⟨o', ho', e, he, hb, hon⟩ := Region.waitsFor_spec h1.2
        have : o' = ot := Option.some.inj (ho'.symm.trans hot)
        subst this
        have h2 := hall e he hb
        have := List.mem_range.1 hi'
        rw [hon, getD_both (inv.tail i' h1.1 (by omega))] at h2
        cases h2
/-- the slots where q has not come up -/
def drB2 (ops : Array Oper) (n q sn : Nat) (new : List (Nat × Nat)) (old : List Nat) : Bool :=
  (new.all fun p => decide (p.1 < sn) && decide (p.2 < n) && decide (p.2 ≠ q) && decide (dstOf ops p.2 = some p.1)) &&
  (old.all fun t => decide (t < sn) && (List.range n).all fun i => decide (i = q) || decide (dstOf ops i ≠ some t))
theorem drFr2 {n q : Nat} {new : List (Nat × Nat)} {old : List Nat} {vals : List AV} (hk : drB2 ops n q s.n new old = true) : ∀ t x, (t, x) ∈ (new.map fun p => (p.1, vals.getD p.2 .any)) ++ keepFr s.fr old →
    t < s.n ∧ ((∃ i, i < n ∧ i ≠ q ∧ dstOf ops i = some t ∧ x = vals.getD i .any) ∨ ((∀ i, i < n → i ≠ q → dstOf ops i ≠ some t) ∧ x = lk s.fr t)) := by
  intro t x hmem
  simp only [drB2, Bool.and_eq_true] at hk
  rcases List.mem_append.1 hmem with h | h
  · simp only [List.mem_map] at h
    obtain ⟨p, hp, e⟩ := h
    have e1 : p.1 = t := congrArg Prod.fst e
    have e2 : vals.getD p.2 .any = x := congrArg Prod.snd e
    have := List.all_eq_true.1 hk.1 p hp
    simp only [Bool.and_eq_true, decide_eq_true_eq] at this
    obtain ⟨⟨⟨h1, h2⟩, h3⟩, h4⟩ := this
    exact ⟨e1 ▸ h1, .inl ⟨p.2, h2, h3, e1 ▸ h4, e2.symm⟩⟩
  · obtain ⟨ht, rfl⟩ := keepFr_mem h
    have := List.all_eq_true.1 hk.2 t ht
    simp only [Bool.and_eq_true, decide_eq_true_eq] at this
    refine ⟨this.1, .inr ⟨fun i hi hiq => ?_, rfl⟩⟩
    have h3 := List.all_eq_true.1 this.2 i (List.mem_range.2 hi)
    simp only [Bool.or_eq_true, decide_eq_true_eq] at h3
    rcases h3 with h3 | h3
    · exact absurd h3 hiq
    · exact h3
theorem AWp.drAF {id : Nat} {n : Nat} (q i0 : Nat) {o0 : Oper} {T : TypeId} {z : List Value} (nds : List (List (Nat × Option Nat))) (new : List (Nat × Nat)) (old : List Nat) (new2 : List (Nat × Nat)) (old2 : List Nat) (vals : List AV) (hm : P.follows .mixedOrders = true)
    (hB : drawnH ops n s.n nds = true) (hT : tailF ops n q = true) (hk : drB ops n s.n s.fr new old = true) (hk2 : drB2 ops n q s.n new2 old2 = true) (ha : noAl ops n (some i0) = true) (hl : vals.length = n) (hp : PSpec P ops s nds vals) (h0 : ops[i0]? = some o0)
    (ho : o0.op = .alloc T) (hg : o0.guard = none) (hz : zc P T = some z) (hlt : i0 < n) (hiq : i0 ≠ q) (hv : vals.getD i0 .any = .ptr s.ob.length 0)
    (k : AAny P ops (ops.size - n) (listed0 n ops.size) (R .normal) { s with fr := (new.map fun p => (p.1, vals.getD p.2 .any)) ++ keepFr s.fr old, ob := s.ob ++ [.box T (z.map AV.val)] })
    (k2 : AAny P ops (ops.size - n + 1) ((listed0 n ops.size).setIfInBounds q false) (R .normal) { s with fr := (new2.map fun p => (p.1, vals.getD p.2 .any)) ++ keepFr s.fr old2, ob := s.ob ++ [.box T (z.map AV.val)] }) : AWp P (.region id ops true) s R := by
  subst hl
  have hT' := hT
  simp only [tailF, Bool.and_eq_true, decide_eq_true_eq] at hT'
  refine AWp.drawnF vals.length q nds vals (some (i0, .box T (z.map AV.val))) _ _ hm (Nat.le_of_lt hT'.1.1) hB (fun listed inv hex j h hj => ?_) (fun i o h => ?_) (fun i o h1 h2 h3 => hp i o h1 h2 ?_) (fun i o ob h h2 => ?_) (drFr hk) (fun _ => drFr2 hk2) (by simpa [oball] using k) (fun _ => by simpa [oball] using k2)
  · obtain ⟨i, hin, hiq, hil⟩ := hex
    exact tailF.tail hT inv _ i rfl hin hiq hil j h hj
  · cases h; exact ⟨hlt, hiq⟩
  · have := List.all_eq_true.1 ha i (List.mem_range.2 h1)
    simp only [h2, Bool.or_eq_true, decide_eq_true_eq, Bool.not_eq_true'] at this
    rcases this with h | h
    · cases h; exact absurd rfl (h3 _)
    · exact h
  · cases h
    rw [h0] at h2
    cases h2
    rw [hv]
    exact ASpec.alloc (by simp only [gd, hg]) ho hz
section fin
variable {id n : Nat} {y : Code} {T : TypeId} {z : List Value}
theorem Dr.finAFM (q i0 f : Nat) (new : List (Nat × Nat)) (old : List Nat) (new2 : List (Nat × Nat)) (old2 : List Nat) (hG : ∀ vals, PSpec P ops s nds vals → AWp P (.region id ops true) s (thenQ (fun s' => AWp P y s' R) R) → G) (hm : P.follows .mixedOrders = true)
    (k : ∀ K : AS → Prop, (∀ s', AWp P y s' R → K s') → AAny P ops f (listed0 n (n + f)) K { s with fr := (new.map fun p => (p.1, vals.getD p.2 .any)) ++ keepFr s.fr old, ob := s.ob ++ [.box T (z.map AV.val)] })
    (k2 : ∀ K : AS → Prop, (∀ s', AWp P y s' R → K s') → AAny P ops (f + 1) ((listed0 n (n + f)).setIfInBounds q false) K { s with fr := (new2.map fun p => (p.1, vals.getD p.2 .any)) ++ keepFr s.fr old2, ob := s.ob ++ [.box T (z.map AV.val)] })
    (hl : vals.length = n := by rfl) (hf : ops.size = n + f := by kernel_rfl) (hB : (drawnH ops n s.n nds && tailF ops n q) = true := by kernel_rfl) (hk : (drB ops n s.n s.fr new old && drB2 ops n q s.n new2 old2 && noAl ops n (some i0)) = true := by kernel_rfl)
    (h0 : ops[i0]? = some o := by exact Go.Abs.evT) (ho : o.op = .alloc T := by rfl) (hg : o.guard = none := by rfl) (hz : zc P T = some z := by exact Go.Abs.evT) (hlt : (decide (i0 < n) && decide (i0 ≠ q)) = true := by first | rfl | decide) (hv : vals.getD i0 .any = .ptr s.ob.length 0 := by rfl) : Dr P ops s nds vals G := by
  intro hp
  rw [Bool.and_eq_true] at hB
  simp only [Bool.and_eq_true] at hk
  simp only [Bool.and_eq_true, decide_eq_true_eq] at hlt
  refine hG vals hp (AWp.drAF q i0 nds new old new2 old2 vals hm hB.1 hB.2 hk.1.1 hk.1.2 hk.2 hl hp h0 ho hg hz hlt.1 hlt.2 hv ?_ ?_)
  · rw [hf, Nat.add_sub_cancel_left]; exact k _ fun _ h => h
  · rw [hf, Nat.add_sub_cancel_left]; exact k2 _ fun _ h => h
end fin
end
end Go.Abs
/- wharflaw15: InitialMatchesReference. -/
set_option linter.unusedVariables false
set_option linter.unusedSimpArgs false
namespace Go.Proofs.YtjbbkbpnagefoaaGreatDoor.C
open Go.Abs
theorem beN_put2b (n : Nat) (h : n < 2 ^ 16) : beN (putB 2 n) = n := by
  simp [putB, beN, List.range_succ, UInt8.toNat_ofNat']; omega
theorem beN_put4b (n : Nat) (h : n < 2 ^ 32) : beN (putB 4 n) = n := by
  simp [putB, beN, List.range_succ, UInt8.toNat_ofNat']; omega
theorem peek_put (k x i : Nat) (p q : List UInt8) (hp : p.length = i) (hb : beN (putB k x) = x) : peekN k (p ++ (putB k x ++ q)) i = x := by
  have hl := putB_len k x
  unfold peekN
  rw [if_pos (by simp only [List.length_append]; omega), List.drop_append_of_le_length (by omega), List.drop_of_length_le (by omega), List.nil_append, List.take_append_of_le_length (by omega), List.take_of_length_le (by omega), hb]
theorem valsOf_make (v : Vals) (hv : v.Ok) : valsOf (makeD v) = v := by
  have h1 : peekN 4 (makeD v) 0 = v.tag := by
    have := peek_put 4 v.tag 0 [] (putB 4 v.window ++ ((putB 2 v.out ++ putB 2 v.inn) ++ putB 4 v.tsn)) rfl (beN_put4b _ hv.tag)
    rw [← this]; simp [makeD]
  have h2 : peekN 4 (makeD v) 4 = v.window := by
    have := peek_put 4 v.window 4 (putB 4 v.tag) ((putB 2 v.out ++ putB 2 v.inn) ++ putB 4 v.tsn) (putB_len _ _) (beN_put4b _ hv.window)
    rw [← this]; simp [makeD]
  have h3 : peekN 2 (makeD v) 8 = v.out := by
    have := peek_put 2 v.out 8 (putB 4 v.tag ++ putB 4 v.window) (putB 2 v.inn ++ putB 4 v.tsn) (by simp [putB_len]) (beN_put2b _ hv.out)
    rw [← this]; simp [makeD]
  have h4 : peekN 2 (makeD v) 10 = v.inn := by
    have := peek_put 2 v.inn 10 (putB 4 v.tag ++ putB 4 v.window ++ putB 2 v.out) (putB 4 v.tsn) (by simp [putB_len]) (beN_put2b _ hv.inn)
    rw [← this]; simp [makeD]
  have h5 : peekN 4 (makeD v) 12 = v.tsn := by
    have := peek_put 4 v.tsn 12 (putB 4 v.tag ++ putB 4 v.window ++ putB 2 v.out ++ putB 2 v.inn) [] (by simp [putB_len]) (beN_put4b _ hv.tsn)
    rw [← this]; simp [makeD]
  unfold valsOf
  rw [h1, h2, h3, h4, h5]
theorem initMatches_no (a : Bool) (v : Vals) (l : List GNode) (hv : v.Ok) (hl : szs l ≤ 2 ^ 26) (hc : ¬ checkC (makeI a v l) = 0) : PC Tryz.prog 7 [bool a, valsA v, .sl false 3 (nodesA false l)] (bool true) := by
  have hc1 : (checkC (makeI a v l) == 0) = false := by simpa using hc
  have hr : rightC (makeI a v l) true = (.zero, false) := by unfold rightC; rw [hc1]; rfl
  have k1 := rclone_c l (by omega)
  have k2 := imake_c a v l hv hl
  rw [hr] at k2
  have k3 := rmake_c a v l hv
  have k4 := (small_make a v hl).check12
  have k5 := iof_c .zero small_zero
  have w5 : isI .zero = false := rfl
  have w6 : valsI .zero = ⟨0, 0, 0, 0, 0⟩ := rfl
  have w7 : kidsI .zero = [] := rfl
  rw [w5, w6, w7] at k5
  have k6 : PC Tryz.prog 22 [chunkA false .zero, chunkA false .zero] (bool true) := sameC_self .zero ▸ small_zero.same
  have hc2 : (checkC (makeI a v l) == 0) = false := by simpa using hc
  simp only [GChunk.zero] at k2 k5 k6
  generalize makeI a v l = M at k3 k4 hc2
  refine PC.of_bodyW (by simp only [push_cast]) Tryz.func7 rfl (by rw [Tryz.ntmps7]; simp) ?_
  refine AWp.regionW ?_
  refine AWp.seqK fun K1 hK1 => ?_
  refine AWp.regionM fun K2 hK2 => ?_
  refine ARun2.callM (awake15_c) ?_
  refine ARun2.callM (few_c l (by omega)) ?_
  refine ARun2.endm (hK2 _ ?_)
  refine AWp.condLM (fun c0 => ?_) (fun c0 => ?_)
  · skip
    refine AWp.regionM fun K3 hK3 => ?_
    refine ARun2.callM (awake15_c) ?_
    refine ARun2.endm (hK3 _ ?_)
    refine AWp.ret ?_
    try simp only [thenQ, blockQ, noGo]
    refine bodyQ.m ?_
    clear hK3 K3 hK2 K2 hK1 K1
    first | done | exact Hand.go
  · skip
    refine AWp.skip ?_
    refine hK1 _ ?_
    refine AWp.drS [[(0, none)], [(4, none)], [(2, none)], [(24, some 2)], [(22, some 0), (23, some 1), (25, some 3)], [(26, some 4)], [(21, some 5)], [(21, some 5)], []] fun G hG => ?_
    refine Dr.sim ?_
    try simp only [List.cons_append, List.nil_append]
    refine Dr.sim ?_
    try simp only [List.cons_append, List.nil_append]
    refine Dr.sim ?_
    try simp only [List.cons_append, List.nil_append]
    refine Dr.call (k1) ?_
    try simp only [List.cons_append, List.nil_append]
    refine Dr.call (k2) ?_
    try simp only [List.cons_append, List.nil_append]
    refine Dr.sim ?_
    try simp only [List.cons_append, List.nil_append]
    refine Dr.sim ?_
    try simp only [List.cons_append, List.nil_append]
    refine Dr.sim ?_
    try simp only [List.cons_append, List.nil_append]
    refine Dr.al ?_
    try simp only [List.cons_append, List.nil_append]
    refine Dr.finAFM (n := 9) 7 8 2 [(27, 6), (28, 7), (7, 8)] [0, 2, 4] [(21, 5), (27, 6), (7, 8)] [0, 2, 4] hG YtjbbkbpnagefoaaGreatDoor.Facts.mixed (fun KD hKD => ?_) (fun KD hKD => ?_)
    · skip
      refine AAny.one 9 ?_
      refine ARun.opM ?_
      refine ARun2.endm ?_
      refine AAny.one 10 ?_
      refine ARun.opM ?_
      refine ARun2.endm ?_
      refine AAny.fin (hKD _ ?_); clear hKD KD hG G
      refine AWp.regionM fun K4 hK4 => ?_
      refine ARun2.callM (k3) ?_
      refine ARun2.endm (hK4 _ ?_)
      refine AWp.seqK fun K5 hK5 => ?_
      refine AWp.regionM fun K6 hK6 => ?_
      refine ARun2.callM (k4) ?_
      refine ARun2.boolEqM ?_
      refine ARun2.endm (hK6 _ ?_)
      refine AWp.condF ?_ (by rw [hc2]; rfl)
      refine AWp.skip ?_
      refine hK5 _ ?_
      refine AWp.regionM fun K7 hK7 => ?_
      refine ARun2.callM (k5) ?_
      refine ARun2.endm (hK7 _ ?_)
      refine AWp.seqK fun K8 hK8 => ?_
      refine AWp.regionW ?_
      refine AWp.condT ?_
      refine AWp.regionM fun K9 hK9 => ?_
      refine ARun2.callM (k6) ?_
      refine ARun2.endm (hK9 _ ?_)
      refine AWp.ret ?_
      try simp only [thenQ, blockQ, noGo]
      refine bodyQ.m ?_
      clear hK9 K9 hK8 K8 hK7 K7 hK6 K6 hK5 K5 hK4 K4 hK2 K2 hK1 K1
      first | done | exact Hand.go
    · skip
      refine AAny.two 7 9 ?_ ?_
      ·
        refine ARun.opM ?_
        refine ARun2.endm ?_
        refine AAny.one 9 ?_
        refine ARun.opM ?_
        refine ARun2.endm ?_
        refine AAny.one 10 ?_
        refine ARun.opM ?_
        refine ARun2.endm ?_
        refine AAny.fin (hKD _ ?_); clear hKD KD hG G
        refine AWp.regionM fun K10 hK10 => ?_
        refine ARun2.callM (k3) ?_
        refine ARun2.endm (hK10 _ ?_)
        refine AWp.seqK fun K11 hK11 => ?_
        refine AWp.regionM fun K12 hK12 => ?_
        refine ARun2.callM (k4) ?_
        refine ARun2.boolEqM ?_
        refine ARun2.endm (hK12 _ ?_)
        refine AWp.condF ?_ (by rw [hc2]; rfl)
        refine AWp.skip ?_
        refine hK11 _ ?_
        refine AWp.regionM fun K13 hK13 => ?_
        refine ARun2.callM (k5) ?_
        refine ARun2.endm (hK13 _ ?_)
        refine AWp.seqK fun K14 hK14 => ?_
        refine AWp.regionW ?_
        refine AWp.condT ?_
        refine AWp.regionM fun K15 hK15 => ?_
        refine ARun2.callM (k6) ?_
        refine ARun2.endm (hK15 _ ?_)
        refine AWp.ret ?_
        try simp only [thenQ, blockQ, noGo]
        refine bodyQ.m ?_
        clear hK15 K15 hK14 K14 hK13 K13 hK12 K12 hK11 K11 hK10 K10 hK2 K2 hK1 K1
        first | done | exact Hand.go
      ·
        refine ARun.opM ?_
        refine ARun2.endm ?_
        refine AAny.one 7 ?_
        refine ARun.opM ?_
        refine ARun2.endm ?_
        refine AAny.one 10 ?_
        refine ARun.opM ?_
        refine ARun2.endm ?_
        refine AAny.fin (hKD _ ?_); clear hKD KD hG G
        refine AWp.regionM fun K16 hK16 => ?_
        refine ARun2.callM (k3) ?_
        refine ARun2.endm (hK16 _ ?_)
        refine AWp.seqK fun K17 hK17 => ?_
        refine AWp.regionM fun K18 hK18 => ?_
        refine ARun2.callM (k4) ?_
        refine ARun2.boolEqM ?_
        refine ARun2.endm (hK18 _ ?_)
        refine AWp.condF ?_ (by rw [hc2]; rfl)
        refine AWp.skip ?_
        refine hK17 _ ?_
        refine AWp.regionM fun K19 hK19 => ?_
        refine ARun2.callM (k5) ?_
        refine ARun2.endm (hK19 _ ?_)
        refine AWp.seqK fun K20 hK20 => ?_
        refine AWp.regionW ?_
        refine AWp.condT ?_
        refine AWp.regionM fun K21 hK21 => ?_
        refine ARun2.callM (k6) ?_
        refine ARun2.endm (hK21 _ ?_)
        refine AWp.ret ?_
        try simp only [thenQ, blockQ, noGo]
        refine bodyQ.m ?_
        clear hK21 K21 hK20 K20 hK19 K19 hK18 K18 hK17 K17 hK16 K16 hK2 K2 hK1 K1
        first | done | exact Hand.go
theorem initMatches_yes (a : Bool) (v : Vals) (l : List GNode) (hv : v.Ok) (hl : szs l ≤ 2 ^ 26) (hc : checkC (makeI a v l) = 0) : PC Tryz.prog 7 [bool a, valsA v, .sl false 3 (nodesA false l)] (bool true) := by
  have hr : rightC (makeI a v l) true = (makeI a v l, true) := by unfold rightC; rw [hc]; rfl
  have hi : isI (makeI a v l) = true := by unfold isI; rw [hc]; cases a <;> rfl
  have w6 : valsI (makeI a v l) = v := by unfold valsI; rw [if_pos hi]; exact valsOf_make v hv
  have w7 : kidsI (makeI a v l) = l := if_pos hi
  have hs := small_make a v hl
  have k1 := rclone_c l (by omega)
  have k2 := imake_c a v l hv hl
  rw [hr] at k2
  have k3 := rmake_c a v l hv
  have k4 := hs.check12
  rw [hc] at k4
  have k5 := iof_c _ hs
  rw [w6, w7, hi] at k5
  have k6 : PC Tryz.prog 22 [chunkA false (makeI a v l), chunkA false (makeI a v l)] (bool true) := sameC_self _ ▸ hs.same
  have k7 := same08_c l l (by omega)
  rw [(sameL_iff l l).2 rfl] at k7
  generalize makeI a v l = M at k2 k3 k4 k5 k6
  refine PC.of_bodyW (by simp only [push_cast]) Tryz.func7 rfl (by rw [Tryz.ntmps7]; simp) ?_
  refine AWp.regionW ?_
  refine AWp.seqK fun K1 hK1 => ?_
  refine AWp.regionM fun K2 hK2 => ?_
  refine ARun2.callM (awake15_c) ?_
  refine ARun2.callM (few_c l (by omega)) ?_
  refine ARun2.endm (hK2 _ ?_)
  refine AWp.condLM (fun c0 => ?_) (fun c0 => ?_)
  · skip
    refine AWp.regionM fun K3 hK3 => ?_
    refine ARun2.callM (awake15_c) ?_
    refine ARun2.endm (hK3 _ ?_)
    refine AWp.ret ?_
    try simp only [thenQ, blockQ, noGo]
    refine bodyQ.m ?_
    clear hK3 K3 hK2 K2 hK1 K1
    first | done | exact Hand.go
  · skip
    refine AWp.skip ?_
    refine hK1 _ ?_
    refine AWp.drS [[(0, none)], [(4, none)], [(2, none)], [(24, some 2)], [(22, some 0), (23, some 1), (25, some 3)], [(26, some 4)], [(21, some 5)], [(21, some 5)], []] fun G hG => ?_
    refine Dr.sim ?_
    try simp only [List.cons_append, List.nil_append]
    refine Dr.sim ?_
    try simp only [List.cons_append, List.nil_append]
    refine Dr.sim ?_
    try simp only [List.cons_append, List.nil_append]
    refine Dr.call (k1) ?_
    try simp only [List.cons_append, List.nil_append]
    refine Dr.call (k2) ?_
    try simp only [List.cons_append, List.nil_append]
    refine Dr.sim ?_
    try simp only [List.cons_append, List.nil_append]
    refine Dr.sim ?_
    try simp only [List.cons_append, List.nil_append]
    refine Dr.sim ?_
    try simp only [List.cons_append, List.nil_append]
    refine Dr.al ?_
    try simp only [List.cons_append, List.nil_append]
    refine Dr.finAFM (n := 9) 7 8 2 [(27, 6), (28, 7), (7, 8)] [0, 2, 4] [(21, 5), (27, 6), (7, 8)] [0, 2, 4] hG YtjbbkbpnagefoaaGreatDoor.Facts.mixed (fun KD hKD => ?_) (fun KD hKD => ?_)
    · skip
      refine AAny.one 9 ?_
      refine ARun.opM ?_
      refine ARun2.endm ?_
      refine AAny.one 10 ?_
      refine ARun.opM ?_
      refine ARun2.endm ?_
      refine AAny.fin (hKD _ ?_); clear hKD KD hG G
      refine AWp.regionM fun K4 hK4 => ?_
      refine ARun2.callM (k3) ?_
      refine ARun2.endm (hK4 _ ?_)
      refine AWp.seqK fun K5 hK5 => ?_
      refine AWp.regionM fun K6 hK6 => ?_
      refine ARun2.callM (k4) ?_
      refine ARun2.boolEqM ?_
      refine ARun2.endm (hK6 _ ?_)
      refine AWp.condF ?_
      refine AWp.skip ?_
      refine hK5 _ ?_
      refine AWp.regionM fun K7 hK7 => ?_
      refine ARun2.callM (k5) ?_
      refine ARun2.endm (hK7 _ ?_)
      refine AWp.seqK fun K8 hK8 => ?_
      refine AWp.regionW ?_
      refine AWp.condF ?_
      refine AWp.skip ?_
      refine hK8 _ ?_
      refine AWp.regionM fun K9 hK9 => ?_
      refine ARun2.callM (k6) ?_
      refine ARun2.aggEqM ?_
      refine ARun2.callM (k7) ?_
      refine ARun2.endm (hK9 _ ?_)
      refine AWp.ret ?_
      try simp only [thenQ, blockQ, noGo]
      refine bodyQ.m ?_
      clear hK9 K9 hK8 K8 hK7 K7 hK6 K6 hK5 K5 hK4 K4 hK2 K2 hK1 K1
      first | done | exact Hand.go
    · skip
      refine AAny.two 7 9 ?_ ?_
      ·
        refine ARun.opM ?_
        refine ARun2.endm ?_
        refine AAny.one 9 ?_
        refine ARun.opM ?_
        refine ARun2.endm ?_
        refine AAny.one 10 ?_
        refine ARun.opM ?_
        refine ARun2.endm ?_
        refine AAny.fin (hKD _ ?_); clear hKD KD hG G
        refine AWp.regionM fun K10 hK10 => ?_
        refine ARun2.callM (k3) ?_
        refine ARun2.endm (hK10 _ ?_)
        refine AWp.seqK fun K11 hK11 => ?_
        refine AWp.regionM fun K12 hK12 => ?_
        refine ARun2.callM (k4) ?_
        refine ARun2.boolEqM ?_
        refine ARun2.endm (hK12 _ ?_)
        refine AWp.condF ?_
        refine AWp.skip ?_
        refine hK11 _ ?_
        refine AWp.regionM fun K13 hK13 => ?_
        refine ARun2.callM (k5) ?_
        refine ARun2.endm (hK13 _ ?_)
        refine AWp.seqK fun K14 hK14 => ?_
        refine AWp.regionW ?_
        refine AWp.condF ?_
        refine AWp.skip ?_
        refine hK14 _ ?_
        refine AWp.regionM fun K15 hK15 => ?_
        refine ARun2.callM (k6) ?_
        refine ARun2.aggEqM ?_
        refine ARun2.callM (k7) ?_
        refine ARun2.endm (hK15 _ ?_)
        refine AWp.ret ?_
        try simp only [thenQ, blockQ, noGo]
        refine bodyQ.m ?_
        clear hK15 K15 hK14 K14 hK13 K13 hK12 K12 hK11 K11 hK10 K10 hK2 K2 hK1 K1
        first | done | exact Hand.go
      ·
        refine ARun.opM ?_
        refine ARun2.endm ?_
        refine AAny.one 7 ?_
        refine ARun.opM ?_
        refine ARun2.endm ?_
        refine AAny.one 10 ?_
        refine ARun.opM ?_
        refine ARun2.endm ?_
        refine AAny.fin (hKD _ ?_); clear hKD KD hG G
        refine AWp.regionM fun K16 hK16 => ?_
        refine ARun2.callM (k3) ?_
        refine ARun2.endm (hK16 _ ?_)
        refine AWp.seqK fun K17 hK17 => ?_
        refine AWp.regionM fun K18 hK18 => ?_
        refine ARun2.callM (k4) ?_
        refine ARun2.boolEqM ?_
        refine ARun2.endm (hK18 _ ?_)
        refine AWp.condF ?_
        refine AWp.skip ?_
        refine hK17 _ ?_
        refine AWp.regionM fun K19 hK19 => ?_
        refine ARun2.callM (k5) ?_
        refine ARun2.endm (hK19 _ ?_)
        refine AWp.seqK fun K20 hK20 => ?_
        refine AWp.regionW ?_
        refine AWp.condF ?_
        refine AWp.skip ?_
        refine hK20 _ ?_
        refine AWp.regionM fun K21 hK21 => ?_
        refine ARun2.callM (k6) ?_
        refine ARun2.aggEqM ?_
        refine ARun2.callM (k7) ?_
        refine ARun2.endm (hK21 _ ?_)
        refine AWp.ret ?_
        try simp only [thenQ, blockQ, noGo]
        refine bodyQ.m ?_
        clear hK21 K21 hK20 K20 hK19 K19 hK18 K18 hK17 K17 hK16 K16 hK2 K2 hK1 K1
        first | done | exact Hand.go
theorem initMatches_c (a : Bool) (v : Vals) (l : List GNode) (hv : v.Ok) (hl : szs l ≤ 2 ^ 26) : PC Tryz.prog 7 [bool a, valsA v, .sl false 3 (nodesA false l)] (bool true) := by
  by_cases hc : checkC (makeI a v l) = 0
  · exact initMatches_yes a v l hv hl hc
  · exact initMatches_no a v l hv hl hc
end Go.Proofs.YtjbbkbpnagefoaaGreatDoor.C
/- From the statement's reading to abstract values, and back. No condition. -/
namespace Go.Abs
open Go.ChangeShapes Go.WideShapes Go.RowKit
set_option linter.unusedVariables false
set_option linter.unusedSectionVars false
set_option linter.unusedSimpArgs false
/-- all that is there when the call begins -/
abbrev Old (W : World) : Nat → Prop := fun b => b < W.heap.size
theorem RW.start (W : World) : RW (E0 W.heap.size W (Old W) []) [] [] (Old W) W :=
  { ep := Nat.le_refl _, os := rfl, tape := rfl, output := rfl, size := Nat.le_refl _, block := fun _ _ _ => rfl, pre := fun k v h => by simp at h, bsub := fun _ h => h, bnew := fun _ h => .inl h,
    blt := fun _ h => h, len := rfl, obs := fun k o h => by simp at h, dis := fun i j o o' u v b _ h => by simp at h, prv := fun k o v b h => by simp at h }
theorem PC.answers {P : Program} {f : FuncId} {ys : List AV} {v : Value} (h : PC P f ys (.val v)) {W : World} (hg : Globs W (Old W) []) {args : Array Value} (ha : RelL W (Old W) W.heap.size [] ys args.toList) :
    Calls P f args W fun e W' => e = .returned v ∧ Below W.heap.size W W' := by
  have := h.2 W.heap.size W [] (Old W) args.toList hg (RW.start W) ha (fun e W' => e = .returned v ∧ Below W.heap.size W W') (by
    rintro r' v' τ' ρ' B' w' ⟨rfl, rfl⟩ hw hr
    cases hr
    exact ⟨rfl, ⟨hw.os, hw.tape, hw.output, hw.size, fun k hk => hw.block k hk ⟨fun ⟨u, hu, _⟩ => by simp at hu, fun h => by cases h⟩⟩⟩)
  simpa using this
section
variable {H : Type} {enc : TypeId × Value → H} {P : Program} {W W' : World}
theorem trodAll_stays (hl : laidOutB P = true) (hb : Below W.heap.size W W') {sp' : Nat → Bool} : ∀ {ts : List TypeId} {vs : List Value} {ds : List (DataW H)} {ps : List MemPlace}, (∀ t ∈ ts, P.readableRec t = true ∧ t < P.types.size) →
    DataW.TrodAll enc P W 0 (fun _ => true) true ts vs ds ps → (∀ p ∈ ps, p.block < W.heap.size) → (∀ p ∈ ps, sp' p.block = true) → DataW.TrodAll enc P W' 0 sp' true ts vs ds ps
  | [], _, _, _, _, h, _, _ => by
    obtain ⟨rfl, rfl, rfl⟩ := trodAll_nil h
    rfl
  | t :: ts, _, _, _, ht, h, hlt, hs => by
    obtain ⟨v, vs1, d, ds1, a, b, rfl, rfl, rfl, h1, h2⟩ := trodAll_cons h
    have := ht t (by simp)
    exact ⟨a, b, WideElems.Trod_stays hl this.1 this.2 h1 (fun x hx => hb.same (hlt x (by simp [hx]))) (fun x hx => hs x (by simp [hx])),
      trodAll_stays hl hb (fun u hu => ht u (by simp [hu])) h2 (fun x hx => hlt x (by simp [hx])) (fun x hx => hs x (by simp [hx])), rfl⟩
/-- a law holds: it answers true, and all that was there is as it was -/
theorem post_true {f : Func} {s : ChangeSpec} {fresh : Bool} {args : Array Value} {ds gs : List (DataW H)} {before : List MemPlace} {tb : TypeId}
    (hW : DataW.Whole enc P f.params.toList s.vars false W args.toList ds gs before) (hv : s.vars = []) (hs : s.fn H (ds ++ gs) = { results := [.lit (.bool true)], args := ds }) (hr : f.resultTypes = #[tb]) (hb : P.underlying tb = some .bool)
    (hl : laidOutB P = true) (ht : (f.params.toList.all fun t => P.readableRec t && decide (t < P.types.size)) = true) (hB : Below W.heap.size W W') :
    s.post enc P f false fresh false false W args (.bool true) W' := by
  have hW0 := hW
  obtain ⟨p, q, hA, hV, rfl, hfz, _⟩ := hW
  rw [hv] at hV
  have hg : gs = [] ∧ q = [] := by
    cases gs with
    | nil => exact ⟨rfl, hV⟩
    | cons g gs => exact hV.elim
  obtain ⟨rfl, rfl⟩ := hg
  have hlt : ∀ x ∈ p ++ [], x.block < W.heap.size := fun x hx => by simpa using hW0.lt x hx
  refine ⟨ds, [], p ++ [], [], p, [], hW0, ?_, ?_, ?_, ?_, fun h => by cases h⟩
  · rw [hs, hr]
    exact trodAll_cons_mk (p := []) (p' := []) (shut_bool hb _) trodAll_mk0
  · rw [hs]
    refine trodAll_stays hl hB (fun t h => ?_) hA (fun x hx => hlt x (by simp [hx])) (fun x hx => by simpa using hlt x (by simp [hx]))
    have := List.all_eq_true.1 ht t h
    simpa using this
  · rw [hs, hv]; exact rfl
  · refine ⟨hB.os, hB.output, fun i hi => ?_⟩
    rw [hB.block i hi]
    cases W.heap[i]? with
    | none => rfl
    | some o => cases o <;> simp
theorem addr_of_cell {w : World} {a : Addr} {v : Value} (h : w.cell? a = some v) : a.spot = none := by
  unfold World.cell? at h
  split at h
  · split at h
    · cases h
    · rename_i hs; cases hh : a.spot <;> simp_all
  · cases h
/-- a slice of numbers, read -/
theorem rel_ints0 {t e : TypeId} {k : IntKind} {v : Value} {d : DataW H} {ps : List MemPlace} {fuel : Nat} (ht : P.underlying t = some (.slice e)) (he : P.underlying e = some (.int k)) (hc : P.cellsOf e = 1)
    (hf : DataW.trod enc P W 0 (fun _ => true) true fuel t [v] = some (d, ps)) :
    ∃ (zs : List Int), Rel W (Old W) W.heap.size [] (.sl false 1 (zs.map fun n => .val (.int k n))) v ∧ (∀ n ∈ zs, (Lit.int k n).wf = true) ∧ ((d = .nil ∧ zs = []) ∨ ∃ rest, d = .slice (lits k zs) rest) := by
  rcases open_ints ht he hc hf with ⟨h1, h2⟩ | ⟨a, len, cap, zs, h1, h2, h3, h4, h5, h6, h7, h8⟩
  · simp only [List.cons.injEq, and_true] at h1
    subst h1
    exact ⟨[], .slE _ _ _ _, by simp, .inl ⟨congrArg Prod.fst h2, rfl⟩⟩
  · simp only [List.cons.injEq, and_true] at h1
    subst h1
    simp only [if_true] at h5
    refine ⟨zs.take len, ?_, fun n hn => h8 n (List.mem_of_mem_take hn), .inr ⟨_, congrArg Prod.fst h6⟩⟩
    have hlen : (zs.take len).length = len := by rw [List.length_take]; omega
    cases hq : zs.take len with
    | nil =>
      rw [hq] at hlen
      simp at hlen
      subst hlen
      exact .slE _ _ _ _
    | cons z l =>
      have hpos : 0 < zs.length := by rw [hq] at hlen; simp at hlen; omega
      have h0 := h7 0 hpos
      have hsp : a.spot = none := addr_of_cell (show W.cell? a = _ from h0)
      obtain ⟨b, o, sp⟩ := a
      simp only at hsp
      subst hsp
      have hblk : b < W.heap.size := by
        have := World.block_lt_of_cell? W _ h0
        simpa [Addr.add] using this
      rw [hq] at hlen
      simp only [List.length_cons] at hlen
      subst hlen
      have hrow := RelRow.mk (w := W) (B := Old W) (bs := W.heap.size) (ρ := []) (nw := false) (b := b) (sz := 1) (o := o) (xs := (z :: l).map fun n => AV.val (.int k n)) (vs := (z :: l).map fun n => Value.int k n) hblk (fun h => by cases h) ?_ ?_ ?_
      · have := Rel.sl (cap := cap) (by simpa using hrow) (by simpa using h3)
        simpa using this
      · have : (((z :: l).map fun n => AV.val (.int k n)).flatMap AV.cells) = ((z :: l).map fun n => Value.int k n).map AV.val := by
          generalize z :: l = m
          induction m with
          | nil => rfl
          | cons x m ih => simp only [List.map_cons, List.flatMap_cons, ih]; rfl
        rw [this]
        have key : ∀ l : List Value, RelL W (Old W) W.heap.size [] (l.map AV.val) l := fun l => by induction l with
          | nil => exact .nil
          | cons x l ih => exact .cons (.val x) ih
        exact key _
      · intro x hx
        simp only [List.mem_map] at hx
        obtain ⟨n, _, rfl⟩ := hx
        exact ⟨rfl, fun c hc => by simp [AV.cells] at hc; subst hc; rfl⟩
      · intro j v hj
        rw [← hq, List.getElem?_map, List.getElem?_take] at hj
        split at hj
        · rename_i hjl
          simp only [Option.map_eq_some_iff] at hj
          obtain ⟨n, hn, rfl⟩ := hj
          have hlt : j < zs.length := by have := List.getElem?_eq_some_iff.1 hn; exact this.1
          have := h7 j hlt
          rw [addr_add] at this
          rw [this, List.getD_eq_getElem?_getD, hn]; rfl
        · simp at hj
end
end Go.Abs
/- Nodes, read. -/
set_option linter.unusedVariables false
set_option linter.unusedSimpArgs false
namespace Go.Proofs.YtjbbkbpnagefoaaGreatDoor.C
open Go.Abs Go.ChangeShapes Go.WideShapes Go.ChangeAt Go.RowKit
theorem own : ownKnob Tryz.prog.godebug = none := by kernel_rfl
theorem laidOut : laidOutB Tryz.prog = true := by kernel_rfl
theorem nat_of {n : Int} {m : Nat} (h : 0 ≤ n ∧ n ≤ m) : ∃ x : Nat, n = N x ∧ x < m + 1 := ⟨n.toNat, by unfold N; omega, by omega⟩
theorem u16_of {n : Int} (h : (Lit.int .u16 n).wf = true) : ∃ m : Nat, n = N m ∧ m < 2 ^ 16 := nat_of (m := 65535) (by simpa [Lit.wf, IntKind.min, IntKind.max, IntKind.signed, IntKind.bits] using h)
theorem u32_of {n : Int} (h : (Lit.int .u32 n).wf = true) : ∃ m : Nat, n = N m ∧ m < 2 ^ 32 := nat_of (m := 4294967295) (by simpa [Lit.wf, IntKind.min, IntKind.max, IntKind.signed, IntKind.bits] using h)
theorem int_bounds {k : IntKind} {n : Int} (h : (Lit.int k n).wf = true) : k.min ≤ n ∧ n ≤ k.max := by simpa [Lit.wf] using h
theorem bys_of {zs : List Int} (h : ∀ n ∈ zs, (Lit.int .u8 n).wf = true) : (zs.map fun n => AV.val (.int .u8 n)) = bys (zs.map fun n => UInt8.ofNat n.toNat) := by
  unfold bys
  rw [List.map_map]
  refine List.map_congr_left fun n hn => ?_
  have h2 : 0 ≤ n ∧ n ≤ 255 := by simpa [Lit.wf, IntKind.min, IntKind.max, IntKind.signed, IntKind.bits] using h n hn
  have h3 : N (UInt8.ofNat n.toNat).toNat = n := by
    rw [UInt8.toNat_ofNat']; unfold N; omega
  show AV.val (.int .u8 n) = .val (.int .u8 (N (UInt8.ofNat n.toNat).toNat))
  rw [h3]
theorem bulk_one {H : Type} (d : DataW H) : 1 ≤ Rows.uptoBulk d := by
  cases d with
  | lit l => cases l <;> simp [Rows.uptoBulk]
  | _ => simp [Rows.uptoBulk]
theorem bulk_len {H : Type} : ∀ l : List (DataW H), l.length ≤ Rows.uptoBulkAll l
  | [] => by simp [Rows.uptoBulkAll]
  | x :: r => by
    have h1 := bulk_one x
    have h2 := bulk_len r
    simp only [Rows.uptoBulkAll, List.length_cons]; omega
theorem bulk_lits' {H : Type} (k : IntKind) (zs : List Int) (rest : List (DataW H)) : zs.length + 1 ≤ Rows.uptoBulk (.slice (lits k zs) rest : DataW H) := by
  have := bulk_len (lits k zs : List (DataW H))
  simp only [lits, List.length_map] at this
  simp only [Rows.uptoBulk, lits]
  omega
section
variable {H : Type} {enc : TypeId × Value → H} {W : World}
/-- bytes -/
theorem rel_bytes0 {v : Value} {d : DataW H} {ps : List MemPlace} {fuel : Nat} (hf : DataW.trod enc Tryz.prog W 0 (fun _ => true) true fuel 23 [v] = some (d, ps)) :
    ∃ l : List UInt8, Rel W (Old W) W.heap.size [] (.sl false 1 (bys l)) v ∧ l.length ≤ Rows.uptoBulk d := by
  have hc : Tryz.prog.cellsOf 5 = 1 := by kernel_rfl
  obtain ⟨zs, k0, k1, k2⟩ := rel_ints0 Tryz.underlying23 Tryz.underlying5 hc hf
  rw [bys_of k1] at k0
  refine ⟨_, k0, ?_⟩
  rw [List.length_map]
  rcases k2 with ⟨_, rfl⟩ | ⟨rest, rfl⟩
  · simp
  · have := bulk_lits' .u8 zs rest; omega
theorem nodeA_one (n : GNode) : ∀ c ∈ (nodeA false n).cells, c.one = true := by
  rw [nodeA_eq]; simp [AV.cells, AV.one, Value.oneCell']
theorem node_fields : ∃ f0 f1 f2 : Field, Tryz.prog.underlying 36 = some (.struct #[f0, f1, f2]) ∧ f0.type = 34 ∧ f0.offset = 0 ∧ f1.type = 23 ∧ f1.offset = 1 ∧ f2.type = 26 ∧ f2.offset = 2 :=
  ⟨_, _, _, Tryz.underlying36, rfl, rfl, rfl, rfl, rfl, rfl⟩
set_option maxRecDepth 100000 in
theorem rel_node0 : ∀ (fuel : Nat),
    (∀ (cs : List Value) (d : DataW H) (ps : List MemPlace), DataW.trod enc Tryz.prog W 0 (fun _ => true) true fuel 36 cs = some (d, ps) → ∃ n : GNode, RelL W (Old W) W.heap.size [] (nodeA false n).cells cs ∧ n.sz ≤ Rows.uptoBulk d ∧ n.tyOk = true) ∧
    (∀ (v : Value) (d : DataW H) (ps : List MemPlace), DataW.trod enc Tryz.prog W 0 (fun _ => true) true fuel 26 [v] = some (d, ps) → ∃ l : List GNode, Rel W (Old W) W.heap.size [] (.sl false 3 (nodesA false l)) v ∧ szs l ≤ Rows.uptoBulk d ∧ tysOk l = true) := by
  have c16 : Tryz.prog.cellsOf 34 = 1 := by kernel_rfl
  have c8 : Tryz.prog.cellsOf 23 = 1 := by kernel_rfl
  have cn : Tryz.prog.cellsOf 26 = 1 := by kernel_rfl
  have c3 : Tryz.prog.cellsOf 36 = 3 := by kernel_rfl
  intro fuel
  induction fuel with
  | zero => exact ⟨fun cs d ps h => by simp [DataW.trod] at h, fun v d ps h => by simp [DataW.trod] at h⟩
  | succ fuel ih =>
    refine ⟨?_, ?_⟩
    · intro cs d ps h
      obtain ⟨f0, f1, f2, hs, a0, b0, a1, b1, a2, b2⟩ := node_fields
      obtain ⟨xs, m, hm, hx, hl, hlen, hall⟩ := DataW.trod_struct hs h
      have hm' : m = fuel := by omega
      subst hm'
      have e0 := hall 0 f0 rfl
      have e1 := hall 1 f1 rfl
      have e2 := hall 2 f2 rfl
      rw [a0, b0, c16] at e0
      rw [a1, b1, c8] at e1
      rw [a2, b2, cn] at e2
      rw [c3] at hl
      match xs, hlen, cs, hl with
      | [y0, y1, y2], _, [v0, v1, v2], _ =>
        simp only [List.drop_zero, List.take_succ_cons, List.take_zero, List.drop_succ_cons, List.getElem?_cons_zero, List.getElem?_cons_succ] at e0 e1 e2
        obtain ⟨n0, h0, hy0, hw0⟩ := DataW.trod_int Tryz.underlying34 e0
        obtain ⟨l1, r1, s1⟩ := rel_bytes0 (d := y1.1) (ps := y1.2) e1
        obtain ⟨l2, r2, s2, t2⟩ := ih.2 v2 y2.1 y2.2 e2
        have hb := int_bounds hw0
        have hn : N n0.toNat = n0 := by
          have : (0 : Int) ≤ n0 := hb.1
          unfold N; omega
        have hle : n0 ≤ 65535 := hb.2
        refine ⟨.mk n0.toNat l1 l2, ?_, ?_, by rw [GNode.tyOk, t2]; simp; omega⟩
        · rw [nodeA_eq]
          simp only [List.cons.injEq, and_true] at h0
          subst h0
          have := Rel.val (w := W) (B := Old W) (bs := W.heap.size) (ρ := []) (.int .u16 (N n0.toNat))
          rw [hn] at this
          exact .cons (by show Rel _ _ _ _ (.val (.int .u16 (N n0.toNat))) _; rw [hn]; exact this) (.cons r1 (.cons r2 .nil))
        · have hd : d = .agg [y0.1, y1.1, y2.1] := congrArg Prod.fst hx
          rw [hd]
          have := bulk_one y0.1
          simp only [GNode.sz, Rows.uptoBulk, Rows.uptoBulkAll]
          omega
    · intro v d ps h
      rcases DataW.trod_slice Tryz.underlying26 h with ⟨h1, h2⟩ | ⟨a, len, cap, elems, rest, m, hm, h1, h2, _, hlc, hcm, hlen, hel, _, _⟩
      · simp only [List.cons.injEq, and_true] at h1
        subst h1
        refine ⟨[], by simpa [nodesA] using Rel.slE false 3 none 0, by simp [szs], rfl⟩
      · have hm' : m = fuel := by omega
        subst hm'
        simp only [List.cons.injEq, and_true] at h1
        subst h1
        rw [c3] at hel
        -- every element is a node
        have each : ∀ i (hi : i < elems.length), ∃ (n : GNode) (cs : List Value), cs.length = 3 ∧ (∀ j, j < 3 → W.cell? ((a.add (i * 3)).add j) = cs[j]?) ∧ RelL W (Old W) W.heap.size [] (nodeA false n).cells cs ∧ n.sz ≤ Rows.uptoBulk elems[i].1 ∧ n.tyOk = true := by
          intro i hi
          have hk := hel i (by omega)
          rw [List.getElem?_eq_getElem hi] at hk
          obtain ⟨cs, hcs, hy⟩ := Option.bind_eq_some_iff.1 hk
          obtain ⟨_, hl3, hcell⟩ := World.cells?_some hcs
          obtain ⟨n, r, s, tt⟩ := ih.1 cs elems[i].1 elems[i].2 hy
          exact ⟨n, cs, hl3, hcell, r, s, tt⟩
        cases hq : elems with
        | nil =>
          rw [hq] at hlen
          simp at hlen
          subst hlen
          exact ⟨[], by simpa [nodesA] using Rel.slE false 3 (some a) cap, by simp [szs], rfl⟩
        | cons x r =>
          have hpos : 0 < elems.length := by rw [hq]; simp
          obtain ⟨n0, cs0, hl0, hc0, _, _, _⟩ := each 0 hpos
          have hcell0 := hc0 0 (by omega)
          simp only [Nat.zero_mul] at hcell0
          rw [List.getElem?_eq_getElem (by omega)] at hcell0
          have hsp : a.spot = none := addr_of_cell (show W.cell? a = _ from hcell0)
          obtain ⟨b, o, sp⟩ := a
          simp only at hsp
          subst hsp
          have hblk : b < W.heap.size := by
            have := World.block_lt_of_cell? W _ hcell0
            simpa [Addr.add] using this
          have rows : ∀ k, k ≤ elems.length → ∃ l : List GNode, l.length = k ∧ RelRow W (Old W) W.heap.size [] false b 3 (o + (elems.length - k) * 3) (nodesA false l) ∧ szs l ≤ Rows.uptoBulkAll ((elems.drop (elems.length - k)).map (·.1)) ∧ tysOk l = true := by
            intro k
            induction k with
            | zero => exact fun _ => ⟨[], rfl, by simpa [nodesA] using RelRow.nil, by simp [szs], rfl⟩
            | succ k ihk =>
              intro hk
              obtain ⟨l, p1, p2, p3, p4⟩ := ihk (by omega)
              have hi : elems.length - (k + 1) < elems.length := by omega
              obtain ⟨n, cs, q1, q2, q3, q4, q5⟩ := each _ hi
              have hd : elems.drop (elems.length - (k + 1)) = elems[elems.length - (k + 1)] :: elems.drop (elems.length - k) := by
                rw [List.drop_eq_getElem_cons hi, show elems.length - (k + 1) + 1 = elems.length - k by omega]
              refine ⟨n :: l, by simp [p1], ?_, ?_, by rw [tysOk, q5, p4]; rfl⟩
              · rw [nodesA_cons]
                refine .cons (RelCells.mk (B := Old W) (bs := W.heap.size) (nw := false) hblk (fun h => by cases h) q3 (nodeA_one n) ?_) (by rw [nodeA_eq]; rfl) ?_
                · intro j v hj
                  have hj3 : j < 3 := by rw [← q1]; exact (List.getElem?_eq_some_iff.1 hj).1
                  have := q2 j hj3
                  rw [addr_add, addr_add] at this
                  rw [this, hj]
                · have e : o + (elems.length - (k + 1)) * 3 + 3 = o + (elems.length - k) * 3 := by omega
                  rw [e]; exact p2
              · rw [hd]
                simp only [szs, List.map_cons, Rows.uptoBulkAll]
                omega
          obtain ⟨l, p1, p2, p3, p4⟩ := rows elems.length (Nat.le_refl _)
          rw [Nat.sub_self] at p2 p3
          have hd : d = .slice (elems.map (·.1)) (rest.map (·.1)) := congrArg Prod.fst h2
          refine ⟨l, ?_, ?_, p4⟩
          · match l, p1 with
            | n :: l, p1 =>
              rw [nodesA_cons] at p2 ⊢
              have := Rel.sl (cap := cap) (by simpa using p2) (by rw [nodesA_len]; simp at p1; omega)
              rw [nodesA_len] at this
              have e : l.length + 1 = len := by simp at p1; omega
              rw [e] at this
              exact this
            | [], p1 => simp at p1; omega
          · rw [hd]
            simp only [Rows.uptoBulk, List.drop_zero] at *
            omega
set_option maxRecDepth 100000 in
/-- nodes, read -/
theorem rel_nodesT {r : Reach} {b0 : Nat} {v : Value} {d : DataW H} {ps : List MemPlace} (hval : Value.okWide Tryz.prog W r b0 26 v) (hd : DataW.Trod enc Tryz.prog W 0 (fun _ => true) true 26 v d ps) :
    ∃ l : List GNode, Rel W (Old W) W.heap.size [] (.sl false 3 (nodesA false l)) v ∧ szs l ≤ Rows.uptoBulk d ∧ tysOk l = true := by
  obtain ⟨A, len0, cap0, rfl⟩ := okWide_slice Tryz.underlying26 hval
  obtain ⟨fuel, hf⟩ := hd
  exact (rel_node0 fuel).2 _ d ps hf
set_option maxRecDepth 100000 in
theorem rel_nodes {r : Reach} {b0 : Nat} {v : Value} {d : DataW H} {ps : List MemPlace} (hval : Value.okWide Tryz.prog W r b0 26 v) (hd : DataW.Trod enc Tryz.prog W 0 (fun _ => true) true 26 v d ps) :
    ∃ l : List GNode, Rel W (Old W) W.heap.size [] (.sl false 3 (nodesA false l)) v ∧ szs l ≤ Rows.uptoBulk d := by
  obtain ⟨l, h1, h2, _⟩ := rel_nodesT hval hd; exact ⟨l, h1, h2⟩
end
end Go.Proofs.YtjbbkbpnagefoaaGreatDoor.C
/- What a datum of numbers and texts says of the cells that read as it. -/
set_option linter.unusedVariables false
set_option linter.unusedSimpArgs false
namespace Go.Proofs.YtjbbkbpnagefoaaGreatDoor.C
mutual
def flatD : DataW Unit → List Value
  | .lit (.int k n) => [.int k n]
  | .lit (.string s) => [.string ⟨s.toArray⟩]
  | .agg ps => flatDs ps
  | _ => []
def flatDs : List (DataW Unit) → List Value
  | [] => []
  | d :: r => flatD d ++ flatDs r
end
theorem flatDs_flatMap : ∀ l : List (DataW Unit), flatDs l = l.flatMap flatD
  | [] => rfl
  | d :: r => by rw [flatDs, flatDs_flatMap r, List.flatMap_cons]
section
variable {P : Program} {W : World}
/-- what reads as a datum is its cells -/
def Flat (P : Program) (W : World) (t : TypeId) : Prop := ∀ (fuel : Nat) (cs : List Value) (x : DataW Unit × List MemPlace), DataW.trod (fun _ => ()) P W 0 (fun _ => true) false fuel t cs = some x → cs = flatD x.1
theorem flat_int {t : TypeId} {k : IntKind} (h : P.underlying t = some (.int k)) : Flat P W t := by
  intro fuel cs x hx
  obtain ⟨n, rfl, rfl, _⟩ := DataW.trod_int h hx
  rfl
theorem flat_string {t : TypeId} (h : P.underlying t = some .string) : Flat P W t := by
  intro fuel cs x hx
  obtain ⟨s, rfl, rfl, _⟩ := DataW.trod_string h hx
  simp [flatD]
theorem blocks_flat (f : DataW Unit × List MemPlace → List Value) (m : Nat) : ∀ (xs : List (DataW Unit × List MemPlace)) (cs : List Value), cs.length = xs.length * m → (∀ i x, xs[i]? = some x → (cs.drop (i * m)).take m = f x) → cs = xs.flatMap f
  | [], cs, h, _ => by simpa using h
  | x :: r, cs, h, hk => by
    have h0 := hk 0 x rfl
    rw [Nat.zero_mul, List.drop_zero] at h0
    have ih := blocks_flat f m r (cs.drop m) (by rw [List.length_drop, h, List.length_cons, Nat.succ_mul]; omega) fun i y hy => by
      have := hk (i + 1) y hy
      rwa [Nat.succ_mul, Nat.add_comm, ← List.drop_drop] at this
    rw [List.flatMap_cons, ← h0, ← ih, List.take_append_drop]
theorem flat_of_parts {xs : List (DataW Unit × List MemPlace)} : flatD (.agg (xs.map (·.1))) = xs.flatMap fun x => flatD x.1 := by
  rw [flatD, flatDs_flatMap, List.flatMap_map]
theorem flat_array {t e : TypeId} {n : Nat} (ht : P.underlying t = some (.array n e)) (hc : P.cellsOf t = n * P.cellsOf e) (he : Flat P W e) : Flat P W t := by
  intro fuel cs x hx
  obtain ⟨xs, m, rfl, rfl, hl, hn, hk⟩ := DataW.trod_array ht hx
  show cs = flatD (.agg (xs.map (·.1)))
  rw [flat_of_parts]
  refine blocks_flat _ (P.cellsOf e) xs cs (by rw [hl, hc, hn]) fun i y hy => ?_
  have hi : i < n := by rw [← hn]; exact (List.getElem?_eq_some_iff.1 hy).1
  have := hk i hi
  rw [hy] at this
  exact he _ _ _ this
theorem flat_struct {t : TypeId} {fs : Array Field} (ht : P.underlying t = some (.struct fs)) (hc : P.cellsOf t = fs.size) (hf : ∀ (i : Nat) (f : Field), fs[i]? = some f → f.offset = i ∧ P.cellsOf f.type = 1 ∧ Flat P W f.type) : Flat P W t := by
  intro fuel cs x hx
  obtain ⟨xs, m, rfl, rfl, hl, hn, hk⟩ := DataW.trod_struct ht hx
  show cs = flatD (.agg (xs.map (·.1)))
  rw [flat_of_parts]
  refine blocks_flat _ 1 xs cs (by rw [hl, hc, hn, Nat.mul_one]) fun i y hy => ?_
  have hi : i < fs.size := by rw [← hn]; exact (List.getElem?_eq_some_iff.1 hy).1
  obtain ⟨h1, h2, h3⟩ := hf i fs[i] (Array.getElem?_eq_getElem hi)
  have := hk i fs[i] (Array.getElem?_eq_getElem hi)
  rw [hy, h1, h2] at this
  rw [Nat.mul_one]
  exact h3 _ _ _ this
/-- a listed variable's cells -/
theorem laid_cells {l : List (String × DataW Unit)} (h : laidMet P l W) {n : String} {d : DataW Unit} {g : Nat} {t : TypeId} {L : List Value} (hm : (n, d) ∈ l) (hg : P.globalNamed n = some g) (ht : (P.globals[g]?).map (·.type) = some t) (hf : Flat P W t) (hd : flatD d = L) :
    ∀ (i : Nat) (v : Value), L[i]? = some v → W.cell? ⟨g, i, none⟩ = some v := by
  obtain ⟨ps, hv, _⟩ := h
  have key : ∀ {l : List (String × DataW Unit)} {ps : List MemPlace}, DataW.LaidVars P W l ps → (n, d) ∈ l → ∃ cs fuel p, W.var? P n = some cs ∧ DataW.trod (fun _ => ()) P W 0 (fun _ => true) false fuel t cs.toList = some (d, p) := by
    intro l
    induction l with
    | nil => intro ps _ hm; cases hm
    | cons y r ih =>
      intro ps hv hm
      obtain ⟨g', t', cs, fuel, p, q, h1, h2, h3, h4, h5, _⟩ := hv
      rcases List.mem_cons.1 hm with e | e
      · cases e
        obtain rfl := Option.some.inj (hg.symm.trans h1)
        obtain rfl := Option.some.inj (ht.symm.trans h2)
        exact ⟨cs, fuel, p, h3, h4⟩
      · exact ih h5 e
  obtain ⟨cs, fuel, p, h1, h2⟩ := key hv hm
  have h3 : cs.toList = L := (hf _ _ _ h2).trans hd
  intro i v hi
  rw [World.var?_cell hg h1 i, ← Array.getElem?_toList, h3]
  exact hi
end
end Go.Proofs.YtjbbkbpnagefoaaGreatDoor.C
/- What the rows' list of package-level variables gives: the tables of kinds, the cell of errors.errorType; a world that meets the list. -/
set_option linter.unusedVariables false
set_option linter.unusedSimpArgs false
namespace Go.Proofs.YtjbbkbpnagefoaaGreatDoor.C
open Go.Abs Go.ChangeShapes Go.WideShapes Go.ChangeAt Go.RowKit
def laidL : List (String × DataW Unit) := [("errors.errorType", Rows.laid_errors_errorType), ("wharf/kind.table", Rows.laid_wharf_kind_table), ("wharf/kind.inside", Rows.laid_wharf_kind_inside)]
def etCells : List Value := [.iface 186 (.agg #[.pointer (some ⟨3, 92, none⟩)])]
theorem etG : Tryz.prog.globalNamed "errors.errorType" = some 2 := by kernel_rfl
theorem etRt : (Tryz.prog.cutTypes.find? (·.1 == "internal/reflectlite.rtype")).map (·.2) = some 186 := by kernel_rfl
theorem etRow : ((List.range Tryz.prog.types.size).filter fun t => Tryz.prog.rowNamed t [101, 114, 114, 111, 114]) = [92] := by kernel_rfl
theorem etHandle : typeHandle Tryz.prog 92 = .pointer (some ⟨3, 92, none⟩) := by kernel_rfl
theorem laid_parts {W : World} (h : laidMetH Tryz.prog laidL W) : laidMet Tryz.prog [("wharf/kind.table", Rows.laid_wharf_kind_table), ("wharf/kind.inside", Rows.laid_wharf_kind_inside)] W ∧ handlesMet Tryz.prog [("errors.errorType", Rows.laid_errors_errorType)] W := h
theorem handle_of_laid {W : World} (h : laidMetH Tryz.prog laidL W) : W.cell? ⟨2, 0, none⟩ = some (.iface 186 (.agg #[.pointer (some ⟨3, 92, none⟩)])) := by
  have h' := laid_parts h
  obtain ⟨name, u, ty, e1, e2, e3, e4, e5⟩ := h'.2 _ (List.mem_singleton.2 rfl)
  have en : name = [101, 114, 114, 111, 114] := (Option.some.inj e1).symm
  subst en
  obtain rfl := Option.some.inj (etRt.symm.trans e2)
  have hm : ty ∈ (List.range Tryz.prog.types.size).filter fun t => Tryz.prog.rowNamed t [101, 114, 114, 111, 114] := List.mem_filter.2 ⟨List.mem_range.2 e3, e4⟩
  rw [etRow] at hm
  obtain rfl := List.mem_singleton.1 hm
  rw [etHandle] at e5
  simpa using World.var?_cell etG e5 0
theorem cell_lt {W : World} {b i : Nat} {v : Value} (h : W.cell? ⟨b, i, none⟩ = some v) : b < W.heap.size := by
  rcases Nat.lt_or_ge b W.heap.size with h' | h'
  · exact h'
  · simp [World.cell?, Array.getElem?_eq_none h'] at h
theorem flat_kinds (W : World) : Flat Tryz.prog W 137 := by
  have h1 : Flat Tryz.prog W 5 := flat_int Tryz.underlying5
  have h2 : Flat Tryz.prog W 3 := flat_int Tryz.underlying3
  have h3 : Flat Tryz.prog W 9 := flat_string Tryz.underlying9
  refine flat_array Tryz.underlying137 (by kernel_rfl) (flat_struct Tryz.underlying110 (by kernel_rfl) fun i f hf => ?_)
  match i, hf with
  | 0, hf => simp at hf; subst hf; exact ⟨rfl, by kernel_rfl, h1⟩
  | 1, hf => simp at hf; subst hf; exact ⟨rfl, by kernel_rfl, h3⟩
  | 2, hf => simp at hf; subst hf; exact ⟨rfl, by kernel_rfl, h1⟩
  | 3, hf => simp at hf; subst hf; exact ⟨rfl, by kernel_rfl, h2⟩
  | 4, hf => simp at hf; subst hf; exact ⟨rfl, by kernel_rfl, h2⟩
  | 5, hf => simp at hf; subst hf; exact ⟨rfl, by kernel_rfl, h2⟩
  | 6, hf => simp at hf; subst hf; exact ⟨rfl, by kernel_rfl, h2⟩
  | i + 7, hf => simp at hf
theorem flat_inside (W : World) : Flat Tryz.prog W 140 :=
  flat_array Tryz.underlying140 (by kernel_rfl) (flat_array Tryz.underlying139 (by kernel_rfl) (flat_int Tryz.underlying3))
theorem cells_table {W : World} (h : laidMetH Tryz.prog laidL W) : GlobC W 0 kcells :=
  laid_cells (laid_parts h).1 (.head _) (by kernel_rfl) (by kernel_rfl) (flat_kinds W) (by kernel_rfl)
theorem cells_inside {W : World} (h : laidMetH Tryz.prog laidL W) : GlobC W 1 icells :=
  laid_cells (laid_parts h).1 (.tail _ (.head _)) (by kernel_rfl) (by kernel_rfl) (flat_inside W) (by kernel_rfl)
theorem cells_et {W : World} (h : laidMetH Tryz.prog laidL W) : GlobC W 2 etCells := by
  intro i v hi
  match i with
  | 0 => simp [etCells] at hi; subst hi; exact handle_of_laid h
  | i + 1 => simp [etCells] at hi
theorem glb_eq : glb = [(0, kcells), (1, icells), (2, etCells)] := by kernel_rfl
theorem globs_of_laid {W : World} (h : laidMetH Tryz.prog laidL W) : Globs W (Old W) [] := by
  intro p hp
  rw [glb_eq] at hp
  simp only [List.mem_cons, List.not_mem_nil, or_false] at hp
  rcases hp with rfl | rfl | rfl
  · exact ⟨cell_lt (cells_table h 0 _ rfl), fun v hv => (by cases hv), cells_table h⟩
  · exact ⟨cell_lt (cells_inside h 0 _ rfl), fun v hv => (by cases hv), cells_inside h⟩
  · exact ⟨cell_lt (handle_of_laid h), fun v hv => (by cases hv), cells_et h⟩
def setCells (cs : List Value) : Obj → Obj
  | .cells _ t frozen => .cells cs.toArray t frozen
  | o => o
noncomputable def laidWorld (os : Os) : World :=
  let w0 := World.holding Tryz.prog os ⟨#[], #[], []⟩
  { w0 with heap := ((w0.heap.modify 0 (setCells kcells)).modify 1 (setCells icells)).modify 2 (setCells etCells) }
theorem laid_met (os : Os) (args : Array Value) : laidMetH Tryz.prog laidL ((laidWorld os).forCall (fun _ _ => 0) ⟨#[], args, []⟩).memory :=
  laidMetH_of_parts (laidMet_of_run' 8 (by kernel_rfl) (by kernel_rfl)) (by kernel_rfl)
end Go.Proofs.YtjbbkbpnagefoaaGreatDoor.C
/- The numbers of an initial chunk, read. -/
set_option linter.unusedVariables false
set_option linter.unusedSimpArgs false
namespace Go.Proofs.YtjbbkbpnagefoaaGreatDoor.C
open Go.Abs Go.ChangeShapes Go.WideShapes Go.ChangeAt Go.RowKit
section
variable {H : Type} {enc : TypeId × Value → H} {W : World}
theorem vals_fields : ∃ f0 f1 f2 f3 f4 : Field, Tryz.prog.underlying 52 = some (.struct #[f0, f1, f2, f3, f4]) ∧ f0.type = 22 ∧ f0.offset = 0 ∧ f1.type = 22 ∧ f1.offset = 1 ∧ f2.type = 34 ∧ f2.offset = 2 ∧ f3.type = 34 ∧ f3.offset = 3 ∧ f4.type = 22 ∧ f4.offset = 4 :=
  ⟨_, _, _, _, _, Tryz.underlying52, rfl, rfl, rfl, rfl, rfl, rfl, rfl, rfl, rfl, rfl⟩
theorem val_u16 {n : Int} (h : (Lit.int .u16 n).wf = true) : ∃ m : Nat, m < 2 ^ 16 ∧ Rel W (Old W) W.heap.size [] (u16 m) (.int .u16 n) := by
  obtain ⟨m, rfl, hm⟩ := u16_of h
  exact ⟨m, hm, .val _⟩
theorem val_u32 {n : Int} (h : (Lit.int .u32 n).wf = true) : ∃ m : Nat, m < 2 ^ 32 ∧ Rel W (Old W) W.heap.size [] (u32 m) (.int .u32 n) := by
  obtain ⟨m, rfl, hm⟩ := u32_of h
  exact ⟨m, hm, .val _⟩
set_option maxRecDepth 100000 in
theorem rel_vals {r : Reach} {b0 : Nat} {v : Value} {d : DataW H} {ps : List MemPlace} (hval : Value.okWide Tryz.prog W r b0 52 v) (hd : DataW.Trod enc Tryz.prog W 0 (fun _ => true) true 52 v d ps) :
    ∃ c : Vals, Rel W (Old W) W.heap.size [] (valsA c) v ∧ c.Ok ∧ 1 ≤ Rows.uptoBulk d := by
  have c32 : Tryz.prog.cellsOf 22 = 1 := by kernel_rfl
  have c16 : Tryz.prog.cellsOf 34 = 1 := by kernel_rfl
  have c5 : Tryz.prog.cellsOf 52 = 5 := by kernel_rfl
  obtain ⟨f0, f1, f2, f3, f4, hs, a0, b0, a1, b1, a2, b2, a3, b3, a4, b4⟩ := vals_fields
  obtain ⟨cs, rfl, _⟩ := okWide_struct hs hval
  obtain ⟨fuel, hf⟩ := hd
  obtain ⟨xs, m, rfl, hx, hl, hlen, hall⟩ := DataW.trod_struct hs hf
  have e0 := hall 0 f0 rfl
  have e1 := hall 1 f1 rfl
  have e2 := hall 2 f2 rfl
  have e3 := hall 3 f3 rfl
  have e4 := hall 4 f4 rfl
  rw [a0, b0, c32] at e0
  rw [a1, b1, c32] at e1
  rw [a2, b2, c16] at e2
  rw [a3, b3, c16] at e3
  rw [a4, b4, c32] at e4
  rw [c5] at hl
  obtain ⟨cs⟩ := cs
  match xs, hlen, cs, hl with
  | [y0, y1, y2, y3, y4], _, [v0, v1, v2, v3, v4], _ =>
    simp only [Value.cells, List.drop_zero, List.take_succ_cons, List.take_zero, List.drop_succ_cons, List.getElem?_cons_zero, List.getElem?_cons_succ] at e0 e1 e2 e3 e4
    obtain ⟨n0, h0, hy0, hw0⟩ := DataW.trod_int Tryz.underlying22 e0
    obtain ⟨n1, h1, hy1, hw1⟩ := DataW.trod_int Tryz.underlying22 e1
    obtain ⟨n2, h2, hy2, hw2⟩ := DataW.trod_int Tryz.underlying34 e2
    obtain ⟨n3, h3, hy3, hw3⟩ := DataW.trod_int Tryz.underlying34 e3
    obtain ⟨n4, h4, hy4, hw4⟩ := DataW.trod_int Tryz.underlying22 e4
    obtain ⟨m0, z0, q0⟩ := val_u32 (W := W) hw0
    obtain ⟨m1, z1, q1⟩ := val_u32 (W := W) hw1
    obtain ⟨m2, z2, q2⟩ := val_u16 (W := W) hw2
    obtain ⟨m3, z3, q3⟩ := val_u16 (W := W) hw3
    obtain ⟨m4, z4, q4⟩ := val_u32 (W := W) hw4
    simp only [List.cons.injEq, and_true] at h0 h1 h2 h3 h4
    subst h0; subst h1; subst h2; subst h3; subst h4
    refine ⟨⟨m0, m1, m2, m3, m4⟩, ?_, ⟨z0, z1, z2, z3, z4⟩, bulk_one _⟩
    exact Rel.agg (l := [u32 m0, u32 m1, u16 m2, u16 m3, u32 m4]) (.cons q0 (.cons q1 (.cons q2 (.cons q3 (.cons q4 .nil)))))
end
end Go.Proofs.YtjbbkbpnagefoaaGreatDoor.C
