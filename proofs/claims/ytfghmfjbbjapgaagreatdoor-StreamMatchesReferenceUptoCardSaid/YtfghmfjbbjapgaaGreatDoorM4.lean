/- The reference: Gap, Number, Counted, Inside, Fits, wanted, Table, Of. -/
import Derived.Test.YtfghmfjbbjapgaaGreatDoorM3
import Derived.Laws.StructEq
import Derived.ChangeKeysEq
set_option linter.unusedVariables false
set_option linter.unusedSimpArgs false
namespace Go.Proofs.YtfghmfjbbjapgaaGreatDoor.C
open Go.Abs
theorem gap03_c (n : Nat) (h : n < 2 ^ 60) : PC Tryz.prog 121 [nat n] (nat (gapN n)) := by
  refine PC.of_bodyW (by simp only [push_cast]) Tryz.func121 rfl (by rw [Tryz.ntmps121]; simp) ?_
  refine AWp.regionW ?_
  refine AWp.regionW ?_
  refine AWp.seqK fun K1 hK1 => ?_
  refine AWp.block ?_
  refine AWp.loopK0 [0] (fun (i : Nat) => [(3, nat i)]) (fun i => i ≤ gapN n ∧ i ≤ 3) (fun i => gapN n - i) (0) ?_ ⟨Nat.zero_le _, by omega⟩ ?_
  · skip
    refine Le.m 0 ?_ ?_
    · first | with_reducible rfl | (simp only [push_cast, ↓reduceIte, Nat.reduceEqDiff, Nat.reduceLT, Nat.reduceAdd, Nat.reduceSub, Nat.reduceMul, Nat.reduceLeDiff, Nat.reducePow, Int.reduceLT, Int.reduceToNat, reduceCtorEq, Int.reduceNeg, Int.reduceEq, Nat.reduceBEq, Nat.reduceBNe, Int.reduceBEq, Int.reduceBNe, String.reduceEq]; first | done | rfl | (simp (disch := omega) only [w_nat, w_add, w_addl, w_addr, w_sub, w_subl, w_mul, w_mull, w_mulr, w_u32, w_u16, w_u8, w_u32a, N_zero]; first | done | rfl))
    · first | (simp only [push_cast, ↓reduceIte, Nat.reduceEqDiff, Nat.reduceLT, Nat.reduceAdd, Nat.reduceSub, Nat.reduceMul, Nat.reduceLeDiff, Nat.reducePow, Int.reduceLT, Int.reduceToNat, reduceCtorEq, Int.reduceNeg, Int.reduceEq, Nat.reduceBEq, Nat.reduceBNe, Int.reduceBEq, Int.reduceBNe, String.reduceEq]; first | done | rfl | (simp (disch := omega) only [w_nat, w_add, w_addl, w_addr, w_sub, w_subl, w_mul, w_mull, w_mulr, w_u32, w_u16, w_u8, w_u32a, N_zero]; first | done | rfl))
  · intro i hi K2 hK2
    refine AWp.seqK fun K3 hK3 => ?_
    refine AWp.regionW ?_
    refine AWp.condLM (fun c0 => ?_) (fun c0 => ?_)
    · skip
      have h0 : i < gapN n := by have := hi.1; simp at c0; unfold gapN at *; omega
      refine AWp.skip ?_
      refine hK3 _ ?_
      refine AWp.block ?_
      refine AWp.regionV ?_
      refine hK2 _ (i + 1) (⟨h0, by have := gapN_le n; omega⟩) (by omega) ?_
      refine Le.m 0 ?_ ?_
      · first | with_reducible rfl | (simp only [push_cast, ↓reduceIte, Nat.reduceEqDiff, Nat.reduceLT, Nat.reduceAdd, Nat.reduceSub, Nat.reduceMul, Nat.reduceLeDiff, Nat.reducePow, Int.reduceLT, Int.reduceToNat, reduceCtorEq, Int.reduceNeg, Int.reduceEq, Nat.reduceBEq, Nat.reduceBNe, Int.reduceBEq, Int.reduceBNe, String.reduceEq]; first | done | rfl | (simp (disch := omega) only [w_nat, w_add, w_addl, w_addr, w_sub, w_subl, w_mul, w_mull, w_mulr, w_u32, w_u16, w_u8, w_u32a, N_zero]; first | done | rfl))
      · first | (simp only [push_cast, ↓reduceIte, Nat.reduceEqDiff, Nat.reduceLT, Nat.reduceAdd, Nat.reduceSub, Nat.reduceMul, Nat.reduceLeDiff, Nat.reducePow, Int.reduceLT, Int.reduceToNat, reduceCtorEq, Int.reduceNeg, Int.reduceEq, Nat.reduceBEq, Nat.reduceBNe, Int.reduceBEq, Int.reduceBNe, String.reduceEq]; first | done | rfl | (simp (disch := omega) only [w_nat, w_add, w_addl, w_addr, w_sub, w_subl, w_mul, w_mull, w_mulr, w_u32, w_u16, w_u8, w_u32a, N_zero]; first | done | rfl))
    · skip
      have h0 : i = gapN n := by have := hi.1; simp at c0; unfold gapN at *; omega
      refine AWp.exit ?_
      try simp only [thenQ, blockQ, noGo, reduceIte, Nat.reduceEqDiff]
      refine hK1 _ ?_
      refine AWp.regionW ?_
      refine AWp.ret ?_
      try simp only [thenQ, blockQ, noGo]
      refine bodyQ.m ?_
      clear hK3 K3 hK2 K2 hK1 K1
      rw [h0]
      first | done | exact Hand.go
theorem right01_c (k : Nat) : PC Tryz.prog 76 [nat k] (bool (k == 1 || k == 2 || k == 4)) := by
  refine PC.of_bodyW (by simp only [push_cast]) Tryz.func76 rfl (by rw [Tryz.ntmps76]; simp) ?_
  refine AWp.regionW ?_
  refine AWp.regionA fun K1 hK1 => ?_
  refine ARun.segm 3 fun KS hKS => ?_
  refine ARun2.endm (hKS _ ?_); clear hKS KS
  apply ARun.grpM 2 2 false 7 [0, 5]
  · intro g2 KG hKG
    refine ARun2.gom ?_
    exact ARun2.endm (hKG _ Le.grpM)
  refine ARun.segm 2 fun KS hKS => ?_
  refine ARun2.endm (hKS _ ?_); clear hKS KS
  apply ARun.grpM 2 6 false 11 [9]
  · intro g6 KG hKG
    refine ARun2.gom ?_
    exact ARun2.endm (hKG _ Le.grpM)
  refine ARun2.gom ?_
  refine ARun2.endm (hK1 _ ?_)
  refine AWp.ret ?_
  try simp only [thenQ, blockQ, noGo]
  refine bodyQ.m ?_
  clear hK1 K1
  simp only [Bool.or_assoc]
  first | done | exact Hand.go
theorem mul8 {x : Nat} {b : UInt8} (h : x < 2 ^ 24) : IntKind.u32.wrap (IntKind.u32.wrap (N x * 256) + N b.toNat) = N (x * 256 + b.toNat) := by
  have := b.toNat_lt
  rw [IntKind.wrap_u32, IntKind.wrap_u32]; unfold N; omega
theorem number01_c (k : Nat) (l : List UInt8) (i : Nat) (hk : k = 1 ∨ k = 2 ∨ k = 4) (hl : l.length ≤ 2 ^ 40) (hi : i ≤ 2 ^ 40) :
    PC Tryz.prog 45 [.sl false 1 (bys l), nat i, nat k] (.tup [u32 (peekN k l i), bool (decide (i + k ≤ l.length))]) := by
  have hr : (k == 1 || k == 2 || k == 4) = true := by rcases hk with rfl | rfl | rfl <;> rfl
  refine PC.of_bodyW (by simp only [push_cast]) Tryz.func45 rfl (by rw [Tryz.ntmps45]; simp) ?_
  refine AWp.regionW ?_
  refine AWp.seqK fun K1 hK1 => ?_
  refine AWp.regionM fun K2 hK2 => ?_
  refine ARun2.callM (hr ▸ right01_c k) ?_
  refine ARun2.endm (hK2 _ ?_)
  refine AWp.condLM (fun c0 => ?_) (fun c0 => ?_)
  · skip
    have h0 : ¬ i + k ≤ l.length := by simpa using c0
    have e : peekN k l i = 0 := if_neg h0
    have e2 : decide (i + k ≤ l.length) = false := decide_eq_false h0
    refine AWp.regionW ?_
    refine AWp.ret ?_
    try simp only [thenQ, blockQ, noGo]
    refine bodyQ.m ?_
    clear hK2 K2 hK1 K1
    rw [e, e2]
    first | done | exact Hand.go
  · skip
    have h0 : i + k ≤ l.length := by simpa using c0
    have e : peekN k l i = beN ((l.drop i).take k) := if_pos h0
    have e2 : decide (i + k ≤ l.length) = true := decide_eq_true h0
    refine AWp.skip ?_
    refine hK1 _ ?_
    refine AWp.regionW ?_
    refine AWp.seqK fun K3 hK3 => ?_
    refine AWp.regionW ?_
    refine AWp.block ?_
    refine AWp.loopK0 [0, 1, 2] (fun (j : Nat) => [(9, nat j), (8, u32 (beN ((l.drop i).take j)))]) (fun j => j ≤ k) (fun j => k - j) (0) ?_ (Nat.zero_le _) ?_
    · skip
      refine Le.m 0 ?_ ?_
      · first | with_reducible rfl | (simp only [push_cast, ↓reduceIte, Nat.reduceEqDiff, Nat.reduceLT, Nat.reduceAdd, Nat.reduceSub, Nat.reduceMul, Nat.reduceLeDiff, Nat.reducePow, Int.reduceLT, Int.reduceToNat, reduceCtorEq, Int.reduceNeg, Int.reduceEq, Nat.reduceBEq, Nat.reduceBNe, Int.reduceBEq, Int.reduceBNe, String.reduceEq]; first | done | rfl | (simp (disch := omega) only [w_nat, w_add, w_addl, w_addr, w_sub, w_subl, w_mul, w_mull, w_mulr, w_u32, w_u16, w_u8, w_u32a, N_zero]; first | done | rfl))
      · first | (simp only [push_cast, ↓reduceIte, Nat.reduceEqDiff, Nat.reduceLT, Nat.reduceAdd, Nat.reduceSub, Nat.reduceMul, Nat.reduceLeDiff, Nat.reducePow, Int.reduceLT, Int.reduceToNat, reduceCtorEq, Int.reduceNeg, Int.reduceEq, Nat.reduceBEq, Nat.reduceBNe, Int.reduceBEq, Int.reduceBNe, String.reduceEq]; first | done | rfl | (simp (disch := omega) only [w_nat, w_add, w_addl, w_addr, w_sub, w_subl, w_mul, w_mull, w_mulr, w_u32, w_u16, w_u8, w_u32a, N_zero]; first | done | rfl))
    · intro j hj K4 hK4
      refine AWp.seqK fun K5 hK5 => ?_
      refine AWp.regionW ?_
      refine AWp.condLM (fun c1 => ?_) (fun c1 => ?_)
      · skip
        have hjk : j < k := by simpa using c1
        have hlt : i + j < l.length := by omega
        have hjd : j < (l.drop i).length := by rw [List.length_drop]; omega
        have hx : beN ((l.drop i).take j) < 2 ^ 24 := Nat.lt_of_lt_of_le (beN_lt2 _ 3 (Nat.le_trans (List.length_take_le _ _) (by omega))) (by decide)
        have hs : beN ((l.drop i).take (j + 1)) = beN ((l.drop i).take j) * 256 + l[i + j].toNat := by
          rw [List.take_succ_eq_append_getElem hjd, beN_snoc, List.getElem_drop]
        refine AWp.skip ?_
        refine hK5 _ ?_
        refine AWp.seqK fun K6 hK6 => ?_
        refine AWp.block ?_
        refine AWp.regionN fun K7 hK7 => ?_
        refine ARun2.indexM (i + j) (.val (.int .u8 (N l[i + j].toNat))) ?_ ?_
        · exact bys_at _ _ hlt
        refine ARun2.endm (hK7 _ ?_)
        refine hK6 _ ?_
        refine AWp.regionV ?_
        refine hK4 _ (j + 1) (by omega) (by omega) ?_
        refine Le.m 0 ?_ ?_
        · first | with_reducible rfl | (simp only [push_cast, ↓reduceIte, Nat.reduceEqDiff, Nat.reduceLT, Nat.reduceAdd, Nat.reduceSub, Nat.reduceMul, Nat.reduceLeDiff, Nat.reducePow, Int.reduceLT, Int.reduceToNat, reduceCtorEq, Int.reduceNeg, Int.reduceEq, Nat.reduceBEq, Nat.reduceBNe, Int.reduceBEq, Int.reduceBNe, String.reduceEq]; first | done | rfl | (simp (disch := omega) only [w_nat, w_add, w_addl, w_addr, w_sub, w_subl, w_mul, w_mull, w_mulr, w_u32, w_u16, w_u8, w_u32a, N_zero]; first | done | rfl))
        · simp only [push_cast, ↓reduceIte, Nat.reduceEqDiff, Nat.reduceLT, Nat.reduceAdd, Nat.reduceSub, Nat.reduceMul, Nat.reduceLeDiff, Nat.reducePow, Int.reduceLT, Int.reduceToNat, reduceCtorEq, Int.reduceNeg, Int.reduceEq, Nat.reduceBEq, Nat.reduceBNe, Int.reduceBEq, Int.reduceBNe, String.reduceEq]
          try simp (disch := omega) only [w_nat, w_add, w_addl, w_addr, w_sub, w_subl, w_mul, w_mull, w_mulr, w_u32, w_u16, w_u8, w_u32a, N_zero]
          rw [mul8 hx, hs]
      · skip
        have hjk : j = k := by simp at c1; omega
        subst hjk
        refine AWp.exit ?_
        try simp only [thenQ, blockQ, noGo, reduceIte, Nat.reduceEqDiff]
        refine hK3 _ ?_
        refine AWp.regionW ?_
        refine AWp.ret ?_
        try simp only [thenQ, blockQ, noGo]
        refine bodyQ.m ?_
        clear hK5 K5 hK4 K4 hK3 K3 hK2 K2 hK1 K1
        rw [e, e2]
        first | done | exact Hand.go
/-- is the number in the data right? -/
def countedR (d : List UInt8) : Bool := decide (4 ≤ d.length ∧ 2 * peekN 4 d 0 = d.length - 4)
theorem counted08_c (d : List UInt8) (hl : d.length ≤ 2 ^ 40) : PC Tryz.prog 95 [.sl false 1 (bys d)] (bool (countedR d)) := by
  have hp := peekN_lt 4 d 0 (by omega)
  have hc : (N (2 * peekN 4 d 0) == IntKind.i64.wrap (N d.length - 4)) = countedR d := by
    unfold countedR
    rw [IntKind.wrap_i64, Bool.eq_iff_iff, beq_iff_eq, decide_eq_true_iff]
    unfold N; omega
  refine PC.of_bodyW (by simp only [push_cast]) Tryz.func95 rfl (by rw [Tryz.ntmps95]; simp) ?_
  refine AWp.regionW ?_
  refine AWp.regionM fun K1 hK1 => ?_
  refine ARun2.callM (number01_c 4 d 0 (by omega) hl (by omega)) ?_
  refine ARun2.endm (hK1 _ ?_)
  refine AWp.regionW ?_
  refine AWp.ret ?_
  try simp only [thenQ, blockQ, noGo]
  refine bodyQ.m ?_
  clear hK1 K1
  rw [hc]
  first | done | exact Hand.go
theorem inside08_c (k : Nat) (hk : k ≤ 4) : PC Tryz.prog 96 [nat k] (nat (insideN k).1) := by
  have hq : (insideN k).1 = if k = 3 then 2 else if k = 0 then 0 else 1 := by
    have h : k = 0 ∨ k = 1 ∨ k = 2 ∨ k = 3 ∨ k = 4 := by omega
    rcases h with rfl | rfl | rfl | rfl | rfl <;> rfl
  refine PC.of_bodyW (by simp only [push_cast]) Tryz.func96 rfl (by rw [Tryz.ntmps96]; simp) ?_
  refine AWp.regionW ?_
  refine AWp.seqK fun K1 hK1 => ?_
  refine AWp.regionW ?_
  refine AWp.condLM (fun c0 => ?_) (fun c0 => ?_)
  · skip
    refine AWp.regionW ?_
    refine AWp.ret ?_
    try simp only [thenQ, blockQ, noGo]
    refine bodyQ.m ?_
    clear hK1 K1
    rw [hq, if_pos (by simpa using c0)]
    first | done | exact Hand.go
  · skip
    refine AWp.skip ?_
    refine hK1 _ ?_
    refine AWp.seqK fun K2 hK2 => ?_
    refine AWp.regionW ?_
    refine AWp.condLM (fun c1 => ?_) (fun c1 => ?_)
    · skip
      refine AWp.regionW ?_
      refine AWp.ret ?_
      try simp only [thenQ, blockQ, noGo]
      refine bodyQ.m ?_
      clear hK2 K2 hK1 K1
      rw [hq, if_neg (by simpa using c0), if_pos (by simpa using c1)]
      first | done | exact Hand.go
    · skip
      refine AWp.skip ?_
      refine hK2 _ ?_
      refine AWp.regionW ?_
      refine AWp.ret ?_
      try simp only [thenQ, blockQ, noGo]
      refine bodyQ.m ?_
      clear hK2 K2 hK1 K1
      rw [hq, if_neg (by simpa using c0), if_neg (by simpa using c1)]
      first | done | exact Hand.go
theorem fits07_c (f : ShForm) (n : Nat) (hn : n < 2 ^ 40) (hl : f.least < 2 ^ 40) (hm : f.most < 2 ^ 40) (hu : 0 < f.unit) (hu2 : f.unit < 2 ^ 40) : PC Tryz.prog 93 [formA f, nat n] (bool (fitsN f n)) := by
  refine PC.of_bodyW (by simp only [push_cast]) Tryz.func93 rfl (by rw [Tryz.ntmps93]; simp) ?_
  refine AWp.regionW ?_
  refine AWp.seqK fun K1 hK1 => ?_
  refine AWp.regionW ?_
  refine AWp.block ?_
  refine AWp.loopK [1, 2] (fun (i : Nat) => [(5, nat (f.least + i * f.unit))]) (fun i => [.box 123 [nat f.cls, u16 f.ty, .val (.string f.name), nat f.least, nat f.most, nat f.unit, nat f.kids]]) (fun i => ∀ j, j < i → f.least + j * f.unit ≠ n) (fun i => f.most + 1 - (f.least + i * f.unit)) (0) ?_ (fun j h => by omega) ?_
  · skip
    refine Le.m 1 ?_ ?_
    · first | with_reducible rfl | (simp only [push_cast, ↓reduceIte, Nat.reduceEqDiff, Nat.reduceLT, Nat.reduceAdd, Nat.reduceSub, Nat.reduceMul, Nat.reduceLeDiff, Nat.reducePow, Int.reduceLT, Int.reduceToNat, reduceCtorEq, Int.reduceNeg, Int.reduceEq, Nat.reduceBEq, Nat.reduceBNe, Int.reduceBEq, Int.reduceBNe, String.reduceEq]; first | done | rfl | (simp (disch := omega) only [w_nat, w_add, w_addl, w_addr, w_sub, w_subl, w_mul, w_mull, w_mulr, w_u32, w_u16, w_u8, w_u32a, N_zero]; first | done | rfl))
    · simp only [push_cast, ↓reduceIte, Nat.reduceEqDiff, Nat.reduceLT, Nat.reduceAdd, Nat.reduceSub, Nat.reduceMul, Nat.reduceLeDiff, Nat.reducePow, Int.reduceLT, Int.reduceToNat, reduceCtorEq, Int.reduceNeg, Int.reduceEq, Nat.reduceBEq, Nat.reduceBNe, Int.reduceBEq, Int.reduceBNe, String.reduceEq]
      try simp (disch := omega) only [w_nat, w_add, w_addl, w_addr, w_sub, w_subl, w_mul, w_mull, w_mulr, w_u32, w_u16, w_u8, w_u32a, N_zero]
      simp only [Nat.zero_mul, Nat.add_zero]
  · intro i hi K2 hK2
    refine AWp.seqK fun K3 hK3 => ?_
    refine AWp.regionW ?_
    refine AWp.condLM (fun c0 => ?_) (fun c0 => ?_)
    · skip
      have h0 : f.least + i * f.unit ≤ f.most := by simpa using c0
      have hs : (i + 1) * f.unit = i * f.unit + f.unit := by rw [Nat.add_mul, Nat.one_mul]
      refine AWp.skip ?_
      refine hK3 _ ?_
      refine AWp.seqK fun K4 hK4 => ?_
      refine AWp.block ?_
      refine AWp.regionW ?_
      refine AWp.condLM (fun c1 => ?_) (fun c1 => ?_)
      · skip
        have h1 : f.least + i * f.unit = n := by simpa using c1
        have hf : fitsN f n = true := by
          have e : n - f.least = i * f.unit := by omega
          unfold fitsN
          rw [e, Nat.mul_mod_left]
          simp
          omega
        refine AWp.regionW ?_
        refine AWp.ret ?_
        try simp only [thenQ, blockQ, noGo]
        refine bodyQ.m ?_
        clear hK4 K4 hK3 K3 hK2 K2 hK1 K1
        rw [hf]
        first | done | exact Hand.go
      · skip
        have h1 : f.least + i * f.unit ≠ n := by simpa using c1
        refine AWp.skip ?_
        refine hK4 _ ?_
        refine AWp.regionV ?_
        refine hK2 _ (i + 1) ((fun j hj => (Nat.lt_or_ge j i).elim (fun h => hi j h) (fun h => (show j = i by omega) ▸ h1))) (by omega) ?_
        refine Le.m 1 ?_ ?_
        · first | with_reducible rfl | (simp only [push_cast, ↓reduceIte, Nat.reduceEqDiff, Nat.reduceLT, Nat.reduceAdd, Nat.reduceSub, Nat.reduceMul, Nat.reduceLeDiff, Nat.reducePow, Int.reduceLT, Int.reduceToNat, reduceCtorEq, Int.reduceNeg, Int.reduceEq, Nat.reduceBEq, Nat.reduceBNe, Int.reduceBEq, Int.reduceBNe, String.reduceEq]; first | done | rfl | (simp (disch := omega) only [w_nat, w_add, w_addl, w_addr, w_sub, w_subl, w_mul, w_mull, w_mulr, w_u32, w_u16, w_u8, w_u32a, N_zero]; first | done | rfl))
        · simp only [push_cast, ↓reduceIte, Nat.reduceEqDiff, Nat.reduceLT, Nat.reduceAdd, Nat.reduceSub, Nat.reduceMul, Nat.reduceLeDiff, Nat.reducePow, Int.reduceLT, Int.reduceToNat, reduceCtorEq, Int.reduceNeg, Int.reduceEq, Nat.reduceBEq, Nat.reduceBNe, Int.reduceBEq, Int.reduceBNe, String.reduceEq]
          try simp (disch := omega) only [w_nat, w_add, w_addl, w_addr, w_sub, w_subl, w_mul, w_mull, w_mulr, w_u32, w_u16, w_u8, w_u32a, N_zero]
          rw [hs, ← Nat.add_assoc]
    · skip
      have h0 : f.most < f.least + i * f.unit := by simpa using c0
      have hf : fitsN f n = false := by
        unfold fitsN
        by_cases h2 : f.least ≤ n ∧ n ≤ f.most
        · have h3 : (n - f.least) % f.unit ≠ 0 := by
            intro h3
            obtain ⟨j, hj⟩ := Nat.dvd_of_mod_eq_zero h3
            rw [Nat.mul_comm] at hj
            have hlt : j < i := by
              rcases Nat.lt_or_ge j i with h | h
              · exact h
              · have := Nat.mul_le_mul_right f.unit h
                omega
            exact hi j hlt (by omega)
          simp [h3]
        · rcases Nat.lt_or_ge n f.least with h4 | h4
          · simp; omega
          · simp; omega
      refine AWp.exit ?_
      try simp only [thenQ, blockQ, noGo, reduceIte, Nat.reduceEqDiff]
      refine hK1 _ ?_
      refine AWp.regionW ?_
      refine AWp.ret ?_
      try simp only [thenQ, blockQ, noGo]
      refine bodyQ.m ?_
      clear hK3 K3 hK2 K2 hK1 K1
      rw [hf]
      first | done | exact Hand.go
end Go.Proofs.YtfghmfjbbjapgaaGreatDoor.C
/- The reference: wanted, Table, Of, Size. -/
set_option linter.unusedVariables false
set_option linter.unusedSimpArgs false
namespace Go.Proofs.YtfghmfjbbjapgaaGreatDoor.C
open Go.Abs
theorem kidsOk_eq (f : ShForm) (l : List GNode) (hf : f.kids ≤ 4) : kidsOk f l =
    if f.kids = 0 then l.length == 0 else if f.kids = 1 then l.length == 1 else if f.kids = 4 then (l.length == 1 && ((l.headD default).ty == 5 || (l.headD default).ty == 6)) else (decide (1 ≤ l.length) && decide (l.length ≤ 16384)) := by
  have key : ∀ k n : Nat, k ≤ 4 → ∀ b : Bool, (decide ((insideN k).2.1 ≤ n) && decide (n ≤ (insideN k).2.2) && (k != 4 || b)) = if k = 0 then n == 0 else if k = 1 then n == 1 else if k = 4 then (n == 1 && b) else (decide (1 ≤ n) && decide (n ≤ 16384)) := by
    intro k n hk b
    have h : k = 0 ∨ k = 1 ∨ k = 2 ∨ k = 3 ∨ k = 4 := by omega
    have h1 : (decide (1 ≤ n) && decide (n ≤ 1)) = (n == 1) := by rw [Bool.eq_iff_iff]; simp; omega
    rcases h with rfl | rfl | rfl | rfl | rfl
    · rw [Bool.eq_iff_iff]; simp [insideN]
    · rw [Bool.eq_iff_iff]; simp [insideN]; omega
    · simp [insideN]
    · simp [insideN]
    · simp [insideN, ← h1]
  unfold kidsOk
  rw [Bool.or_assoc]
  exact key _ _ hf _
theorem wanted_c (f : ShForm) (l : List GNode) (hl : l.length ≤ 2 ^ 40) (hf : f.kids ≤ 4) : PC Tryz.prog 94 [formA f, .sl false 3 (nodesA false l)] (bool (kidsOk f l)) := by
  have hq := kidsOk_eq f l hf
  refine PC.of_bodyW (by simp only [push_cast]) Tryz.func94 rfl (by rw [Tryz.ntmps94]; simp) ?_
  refine AWp.regionW ?_
  refine AWp.seqK fun K1 hK1 => ?_
  refine AWp.regionW ?_
  refine AWp.block ?_
  refine AWp.regionW ?_
  refine AWp.condLM (fun c0 => ?_) (fun c0 => ?_)
  · skip
    have h0 : f.kids = 0 := by simpa using c0
    refine AWp.regionW ?_
    refine AWp.ret ?_
    try simp only [thenQ, blockQ, noGo]
    refine bodyQ.m ?_
    clear hK1 K1
    rw [hq, if_pos h0]
    first | done | exact Hand.go
  · skip
    have h0 : ¬ f.kids = 0 := by simpa using c0
    refine AWp.regionW ?_
    refine AWp.condLM (fun c1 => ?_) (fun c1 => ?_)
    · skip
      have h1 : f.kids = 1 := by simpa using c1
      refine AWp.regionW ?_
      refine AWp.ret ?_
      try simp only [thenQ, blockQ, noGo]
      refine bodyQ.m ?_
      clear hK1 K1
      rw [hq, if_neg h0, if_pos h1]
      first | done | exact Hand.go
    · skip
      have h1 : ¬ f.kids = 1 := by simpa using c1
      refine AWp.regionW ?_
      refine AWp.condLM (fun c2 => ?_) (fun c2 => ?_)
      · skip
        have h2 : f.kids = 4 := by simpa using c2
        refine AWp.regionA fun K2 hK2 => ?_
        refine ARun.segm 4 fun KS hKS => ?_
        refine ARun2.endm (hKS _ ?_); clear hKS KS
        apply ARun.grpM 12 3 true 34 [22]
        · intro g3 KG hKG
          have hne : 0 < l.length := by have := beq_iff_eq.1 g3; omega
          refine ARun.segm 6 fun KS hKS => ?_
          refine ARun2.indexM (0) (nodeA false (l.headD default)) ?_ ?_
          · exact nodesA_head _ _ hne
          refine ARun2.endm (hKS _ ?_); clear hKS KS
          apply ARun.grpM 5 9 false 33 [22, 28]
          · intro g9 KG hKG
            refine ARun2.gom ?_
            refine ARun2.indexM (0) (nodeA false (l.headD default)) ?_ ?_
            · exact nodesA_head _ _ hne
            exact ARun2.endm (hKG _ Le.grpM)
          refine ARun2.gom ?_
          exact ARun2.endm (hKG _ Le.grpM)
        refine ARun2.gom ?_
        refine ARun2.endm (hK2 _ ?_)
        refine AWp.ret ?_
        try simp only [thenQ, blockQ, noGo]
        refine bodyQ.m ?_
        clear hK2 K2 hK1 K1
        rw [hq, if_neg h0, if_neg h1, if_pos h2]
        first | done | exact Hand.go
      · skip
        have h2 : ¬ f.kids = 4 := by simpa using c2
        refine AWp.skip ?_
        refine hK1 _ ?_
        refine AWp.regionA fun K3 hK3 => ?_
        refine ARun.segm 4 fun KS hKS => ?_
        refine ARun2.endm (hKS _ ?_); clear hKS KS
        apply ARun.grpM 3 3 true 42 [39]
        · intro g3 KG hKG
          refine ARun2.gom ?_
          exact ARun2.endm (hKG _ Le.grpM)
        refine ARun2.gom ?_
        refine ARun2.endm (hK3 _ ?_)
        refine AWp.ret ?_
        try simp only [thenQ, blockQ, noGo]
        refine bodyQ.m ?_
        clear hK3 K3 hK1 K1
        rw [hq, if_neg h0, if_neg h1, if_neg h2]
        first | done | exact Hand.go
def refForms : List ShForm := paramForms.map (fun f => { f with cls := 1 }) ++ causeForms.map (fun f => { f with cls := 2 })
set_option maxRecDepth 100000 in
set_option maxHeartbeats 1000000 in
theorem table07_c : PC Tryz.prog 120 [] (.sl false 7 (formsA refForms)) := by
  refine PC.of_bodyW (by simp only [push_cast]) Tryz.func120 rfl (by rw [Tryz.ntmps120]; simp) ?_
  refine AWp.regionW ?_
  refine AWp.regionW ?_
  refine AWp.regionW ?_
  refine AWp.ret ?_
  try simp only [thenQ, blockQ, noGo]
  refine bodyQ.m ?_
  simp only [refForms, formsA, paramForms, causeForms, List.map_cons, List.map_nil, List.cons_append, List.nil_append]
  first | done | exact Hand.go
theorem refOf_eq (c t : Nat) (hc : c = 1 ∨ c = 2) : (refForms.find? fun f => f.cls == c && f.ty == t).getD zeroForm = shapeOf c t := by
  have key : ∀ (l : List ShForm) (c' : Nat), (l.map (fun f => { f with cls := c' })).find? (fun f => f.cls == c && f.ty == t) = if c' = c then (l.find? fun f => f.ty == t).map (fun f => { f with cls := c' }) else none := by
    intro l c'
    induction l with
    | nil => simp
    | cons a l ih =>
      by_cases h : c' = c
      · subst h
        simp only [if_true] at ih
        by_cases ht : a.ty = t
        · simp [List.find?_cons, ht]
        · have ht' : (a.ty == t) = false := by simpa using ht
          simp [List.find?_cons, ht', ih]
      · have hcc : (c' == c) = false := by simpa using h
        simp only [if_neg h] at ih ⊢
        simp [List.find?_cons, hcc, ih]
  unfold refForms shapeOf
  rw [List.find?_append, key, key]
  rcases hc with rfl | rfl
  · simp [formsN]
  · simp [formsN]
theorem of07_c (c t : Nat) (hc : c = 1 ∨ c = 2) : PC Tryz.prog 92 [nat c, u16 t] (formA (shapeOf c t)) := by
  have hlen : refForms.length ≤ 2 ^ 40 := by decide
  have hq := refOf_eq c t hc
  refine PC.of_bodyW (by simp only [push_cast]) Tryz.func92 rfl (by rw [Tryz.ntmps92]; simp) ?_
  refine AWp.regionW ?_
  refine AWp.regionM fun K1 hK1 => ?_
  refine ARun2.callM (table07_c) ?_
  refine ARun2.endm (hK1 _ ?_)
  refine AWp.seqK fun K2 hK2 => ?_
  refine AWp.regionW ?_
  refine AWp.block ?_
  refine AWp.loopK0 [0, 1, 4, 5] (fun (i : Nat) => [(6, nat i)]) (fun i => i ≤ refForms.length ∧ refForms.find? (fun f => f.cls == c && f.ty == t) = (refForms.drop i).find? fun f => f.cls == c && f.ty == t) (fun i => refForms.length - i) (0) ?_ ⟨Nat.zero_le _, rfl⟩ ?_
  · skip
    refine Le.m 1 ?_ ?_
    · first | with_reducible rfl | (simp only [push_cast, ↓reduceIte, Nat.reduceEqDiff, Nat.reduceLT, Nat.reduceAdd, Nat.reduceSub, Nat.reduceMul, Nat.reduceLeDiff, Nat.reducePow, Int.reduceLT, Int.reduceToNat, reduceCtorEq, Int.reduceNeg, Int.reduceEq, Nat.reduceBEq, Nat.reduceBNe, Int.reduceBEq, Int.reduceBNe, String.reduceEq]; first | done | rfl | (simp (disch := omega) only [w_nat, w_add, w_addl, w_addr, w_sub, w_subl, w_mul, w_mull, w_mulr, w_u32, w_u16, w_u8, w_u32a, N_zero]; first | done | rfl))
    · first | (simp only [push_cast, ↓reduceIte, Nat.reduceEqDiff, Nat.reduceLT, Nat.reduceAdd, Nat.reduceSub, Nat.reduceMul, Nat.reduceLeDiff, Nat.reducePow, Int.reduceLT, Int.reduceToNat, reduceCtorEq, Int.reduceNeg, Int.reduceEq, Nat.reduceBEq, Nat.reduceBNe, Int.reduceBEq, Int.reduceBNe, String.reduceEq]; first | done | rfl | (simp (disch := omega) only [w_nat, w_add, w_addl, w_addr, w_sub, w_subl, w_mul, w_mull, w_mulr, w_u32, w_u16, w_u8, w_u32a, N_zero]; first | done | rfl))
  · intro i hi K3 hK3
    refine AWp.seqK fun K4 hK4 => ?_
    refine AWp.regionW ?_
    refine AWp.condLM (fun c0 => ?_) (fun c0 => ?_)
    · skip
      have hil : i < refForms.length := by simpa using c0
      have hd : refForms.drop i = refForms[i] :: refForms.drop (i + 1) := List.drop_eq_getElem_cons hil
      refine AWp.skip ?_
      refine hK4 _ ?_
      refine AWp.seqK fun K5 hK5 => ?_
      refine AWp.block ?_
      refine AWp.regionA fun K6 hK6 => ?_
      refine ARun.segm 8 fun KS hKS => ?_
      refine ARun2.indexM (i) (formA refForms[i]) ?_ ?_
      · exact formsA_at _ _ hil
      refine ARun2.endm (hKS _ ?_); clear hKS KS
      apply ARun.grpM 7 7 true 28 [0, 1, 4, 5, 6, 21]
      · intro g7 KG hKG
        refine ARun2.gom ?_
        refine ARun2.indexM (i) (formA refForms[i]) ?_ ?_
        · exact formsA_at _ _ hil
        exact ARun2.endm (hKG _ Le.grpM)
      refine ARun2.gom ?_
      refine ARun2.endm (hK6 _ ?_)
      refine AWp.condLM (fun c1 => ?_) (fun c1 => ?_)
      · skip
        have h1 : (refForms[i].cls == c && refForms[i].ty == t) = true := by simpa using c1
        have hv : shapeOf c t = refForms[i] := by rw [← hq, hi.2, hd, List.find?_cons, h1]; rfl
        refine AWp.regionM fun K7 hK7 => ?_
        refine ARun2.indexM (i) (formA refForms[i]) ?_ ?_
        · exact formsA_at _ _ hil
        refine ARun2.endm (hK7 _ ?_)
        refine AWp.ret ?_
        try simp only [thenQ, blockQ, noGo]
        refine bodyQ.m ?_
        clear hK7 K7 hK6 K6 hK5 K5 hK4 K4 hK3 K3 hK2 K2 hK1 K1
        rw [hv]
        first | done | exact Hand.go
      · skip
        have h1 : (refForms[i].cls == c && refForms[i].ty == t) = false := by simpa using c1
        refine AWp.skip ?_
        refine hK5 _ ?_
        refine AWp.regionV ?_
        refine hK3 _ (i + 1) (⟨by omega, by rw [hi.2, hd, List.find?_cons, h1]⟩) (by omega) ?_
        refine Le.m 1 ?_ ?_
        · first | with_reducible rfl | (simp only [push_cast, ↓reduceIte, Nat.reduceEqDiff, Nat.reduceLT, Nat.reduceAdd, Nat.reduceSub, Nat.reduceMul, Nat.reduceLeDiff, Nat.reducePow, Int.reduceLT, Int.reduceToNat, reduceCtorEq, Int.reduceNeg, Int.reduceEq, Nat.reduceBEq, Nat.reduceBNe, Int.reduceBEq, Int.reduceBNe, String.reduceEq]; first | done | rfl | (simp (disch := omega) only [w_nat, w_add, w_addl, w_addr, w_sub, w_subl, w_mul, w_mull, w_mulr, w_u32, w_u16, w_u8, w_u32a, N_zero]; first | done | rfl))
        · first | (simp only [push_cast, ↓reduceIte, Nat.reduceEqDiff, Nat.reduceLT, Nat.reduceAdd, Nat.reduceSub, Nat.reduceMul, Nat.reduceLeDiff, Nat.reducePow, Int.reduceLT, Int.reduceToNat, reduceCtorEq, Int.reduceNeg, Int.reduceEq, Nat.reduceBEq, Nat.reduceBNe, Int.reduceBEq, Int.reduceBNe, String.reduceEq]; first | done | rfl | (simp (disch := omega) only [w_nat, w_add, w_addl, w_addr, w_sub, w_subl, w_mul, w_mull, w_mulr, w_u32, w_u16, w_u8, w_u32a, N_zero]; first | done | rfl))
    · skip
      have hil : refForms.length ≤ i := by simpa using c0
      have hv : shapeOf c t = zeroForm := by rw [← hq, hi.2, List.drop_of_length_le hil]; rfl
      refine AWp.exit ?_
      try simp only [thenQ, blockQ, noGo, reduceIte, Nat.reduceEqDiff]
      refine hK2 _ ?_
      refine AWp.regionW ?_
      refine AWp.ret ?_
      try simp only [thenQ, blockQ, noGo]
      refine bodyQ.m ?_
      clear hK4 K4 hK3 K3 hK2 K2 hK1 K1
      rw [hv]
      first | done | exact Hand.go
theorem sumUp_le (l : List GNode) (i : Nat) : sumUp 0 ((nLens (l.take i)).map (4 + ·)) ≤ nSize l := by
  have e : (nLens (l.take i)).map (4 + ·) = ((nLens l).map (4 + ·)).take i := by
    rw [nLens_map, nLens_map, List.map_take, List.map_take]
  rw [e]; exact sumUp_take _ i
/-- the size as the reference has it behind i nodes -/
def szR (l : List GNode) (i : Nat) : Nat := if i < l.length then upN (sumUp 0 ((nLens (l.take i)).map (4 + ·))) else nSize l
theorem upN_mod (n : Nat) : upN n % 4 = 0 := by unfold upN gapN; omega
theorem szR_step (l : List GNode) (i : Nat) (h : i < l.length) : szR l (i + 1) = if i < l.length - 1 then szR l i + (4 + vlen l[i]) + gapN (4 + vlen l[i]) else szR l i + (4 + vlen l[i]) := by
  have e : sumUp 0 ((nLens (l.take (i + 1))).map (4 + ·)) = upN (sumUp 0 ((nLens (l.take i)).map (4 + ·))) + (4 + vlen l[i]) := by
    rw [List.take_succ_eq_append_getElem h]
    have : nLens (l.take i ++ [l[i]]) = nLens (l.take i) ++ [vlen l[i]] := by rw [nLens_map, nLens_map, List.map_append]; rfl
    rw [this, List.map_append]
    exact sumUp_append _ _ _
  have hu := upN_mod (sumUp 0 ((nLens (l.take i)).map (4 + ·)))
  unfold szR
  rw [if_pos h]
  by_cases h2 : i < l.length - 1
  · rw [if_pos (by omega), if_pos h2, e]
    generalize upN (sumUp 0 ((nLens (l.take i)).map (4 + ·))) = u at hu
    unfold upN gapN; omega
  · rw [if_neg (by omega), if_neg h2, ← e]
    have : i + 1 = l.length := by omega
    rw [this, List.take_length]; rfl
theorem szR_le (l : List GNode) (i : Nat) : szR l i ≤ nSize l + 3 := by
  unfold szR
  split
  · have h1 := sumUp_le l i
    have h2 := gapN_le (sumUp 0 ((nLens (l.take i)).map (4 + ·)))
    unfold upN; omega
  · omega
theorem szR_zero (l : List GNode) : szR l 0 = 0 := by
  unfold szR
  split
  · simp [nLens, sumUp, upN, gapN]
  · have : l = [] := by cases l <;> simp_all
    subst this; rfl
theorem size08_step (l : List GNode) (hs : nSize l ≤ 2 ^ 30) (ih : ∀ a ∈ l, PC Tryz.prog 97 [.sl false 3 (nodesA false a.kids)] (nat (nSize a.kids))) :
    PC Tryz.prog 97 [.sl false 3 (nodesA false l)] (nat (nSize l)) := by
  have hlen := nSize_len l
  refine PC.of_bodyW (by simp only [push_cast]) Tryz.func97 rfl (by rw [Tryz.ntmps97]; simp) ?_
  refine AWp.regionW ?_
  refine AWp.regionW ?_
  refine AWp.seqK fun K1 hK1 => ?_
  refine AWp.regionW ?_
  refine AWp.block ?_
  refine AWp.loopK0 [0] (fun (i : Nat) => [(4, nat i), (3, nat (szR l i))]) (fun i => i ≤ l.length) (fun i => l.length - i) (0) ?_ (Nat.zero_le _) ?_
  · skip
    refine Le.m 0 ?_ ?_
    · first | with_reducible rfl | (simp only [push_cast, ↓reduceIte, Nat.reduceEqDiff, Nat.reduceLT, Nat.reduceAdd, Nat.reduceSub, Nat.reduceMul, Nat.reduceLeDiff, Nat.reducePow, Int.reduceLT, Int.reduceToNat, reduceCtorEq, Int.reduceNeg, Int.reduceEq, Nat.reduceBEq, Nat.reduceBNe, Int.reduceBEq, Int.reduceBNe, String.reduceEq]; first | done | rfl | (simp (disch := omega) only [w_nat, w_add, w_addl, w_addr, w_sub, w_subl, w_mul, w_mull, w_mulr, w_u32, w_u16, w_u8, w_u32a, N_zero]; first | done | rfl))
    · simp only [push_cast, ↓reduceIte, Nat.reduceEqDiff, Nat.reduceLT, Nat.reduceAdd, Nat.reduceSub, Nat.reduceMul, Nat.reduceLeDiff, Nat.reducePow, Int.reduceLT, Int.reduceToNat, reduceCtorEq, Int.reduceNeg, Int.reduceEq, Nat.reduceBEq, Nat.reduceBNe, Int.reduceBEq, Int.reduceBNe, String.reduceEq]
      try simp (disch := omega) only [w_nat, w_add, w_addl, w_addr, w_sub, w_subl, w_mul, w_mull, w_mulr, w_u32, w_u16, w_u8, w_u32a, N_zero]
      rw [szR_zero]; rfl
  · intro i hi K2 hK2
    refine AWp.seqK fun K3 hK3 => ?_
    refine AWp.regionW ?_
    refine AWp.condLM (fun c0 => ?_) (fun c0 => ?_)
    · skip
      have hil : i < l.length := by simpa using c0
      have hm := List.getElem_mem hil
      have hv := vlen_mem hm
      have he := vlen_eq l[i]
      have hst := szR_step l i hil
      have hle := szR_le l i
      have hg := gapN_le (4 + vlen l[i])
      refine AWp.skip ?_
      refine hK3 _ ?_
      refine AWp.seqK fun K4 hK4 => ?_
      refine AWp.block ?_
      refine AWp.drS [[(0, none)], [(4, none)], [(12, some 0), (13, some 1)], [(14, some 2)], [(15, some 3)], [(16, some 4)], [(17, some 5)], [(0, none)], [(4, none)], [(19, some 7), (20, some 8)], [(21, some 9)], [(22, some 10)], [(23, some 11)], [(18, some 6), (24, some 12)], [(25, some 13)]] fun G hG => ?_
      refine Dr.sim ?_
      try simp only [List.cons_append, List.nil_append]
      refine Dr.sim ?_
      try simp only [List.cons_append, List.nil_append]
      refine Dr.idx (i) (nodeA false l[i]) ?_ ?_
      · exact nodesA_at _ _ _ hil
      try simp only [List.cons_append, List.nil_append]
      refine Dr.sim ?_
      try simp only [List.cons_append, List.nil_append]
      refine Dr.sim ?_
      try simp only [List.cons_append, List.nil_append]
      refine Dr.sim ?_
      try simp only [List.cons_append, List.nil_append]
      refine Dr.sim ?_
      try simp only [List.cons_append, List.nil_append]
      refine Dr.sim ?_
      try simp only [List.cons_append, List.nil_append]
      refine Dr.sim ?_
      try simp only [List.cons_append, List.nil_append]
      refine Dr.idx (i) (nodeA false l[i]) ?_ ?_
      · exact nodesA_at _ _ _ hil
      try simp only [List.cons_append, List.nil_append]
      refine Dr.sim ?_
      try simp only [List.cons_append, List.nil_append]
      refine Dr.sim ?_
      try simp only [List.cons_append, List.nil_append]
      refine Dr.call (ih l[i] hm) ?_
      try simp only [List.cons_append, List.nil_append]
      refine Dr.sim ?_
      try simp only [List.cons_append, List.nil_append]
      refine Dr.sim ?_
      try simp only [List.cons_append, List.nil_append]
      refine Dr.finM (n := 15) [(5, 14)] [0, 3, 4] hG YtfghmfjbbjapgaaGreatDoor.Facts.mixed fun KD hKD => ?_
      refine ARun2.endm (hKD _ ?_); clear hKD KD hG G
      refine AWp.regionW ?_
      refine AWp.regionW ?_
      refine AWp.condLM (fun c1 => ?_) (fun c1 => ?_)
      · skip
        have h1 : i < l.length - 1 := by simpa using c1
        rw [if_pos h1] at hst
        refine AWp.regionN fun K5 hK5 => ?_
        rw [show 4 + l[i].data.length + nSize l[i].kids = 4 + vlen l[i] by omega]
        refine ARun2.callM (gap03_c (4 + vlen l[i]) (by omega)) ?_
        refine ARun2.endm (hK5 _ ?_)
        refine hK4 _ ?_
        refine AWp.regionV ?_
        refine hK2 _ (i + 1) (by omega) (by omega) ?_
        refine Le.m 0 ?_ ?_
        · first | with_reducible rfl | (simp only [push_cast, ↓reduceIte, Nat.reduceEqDiff, Nat.reduceLT, Nat.reduceAdd, Nat.reduceSub, Nat.reduceMul, Nat.reduceLeDiff, Nat.reducePow, Int.reduceLT, Int.reduceToNat, reduceCtorEq, Int.reduceNeg, Int.reduceEq, Nat.reduceBEq, Nat.reduceBNe, Int.reduceBEq, Int.reduceBNe, String.reduceEq]; first | done | rfl | (simp (disch := omega) only [w_nat, w_add, w_addl, w_addr, w_sub, w_subl, w_mul, w_mull, w_mulr, w_u32, w_u16, w_u8, w_u32a, N_zero]; first | done | rfl))
        · simp only [push_cast, ↓reduceIte, Nat.reduceEqDiff, Nat.reduceLT, Nat.reduceAdd, Nat.reduceSub, Nat.reduceMul, Nat.reduceLeDiff, Nat.reducePow, Int.reduceLT, Int.reduceToNat, reduceCtorEq, Int.reduceNeg, Int.reduceEq, Nat.reduceBEq, Nat.reduceBNe, Int.reduceBEq, Int.reduceBNe, String.reduceEq]
          try simp (disch := omega) only [w_nat, w_add, w_addl, w_addr, w_sub, w_subl, w_mul, w_mull, w_mulr, w_u32, w_u16, w_u8, w_u32a, N_zero]
          first | (rw [hst]; done) | (rw [hst]; congr 3; omega)
      · skip
        have h1 : ¬ i < l.length - 1 := by simpa using c1
        rw [if_neg h1] at hst
        refine AWp.skip ?_
        refine hK4 _ ?_
        refine AWp.regionV ?_
        refine hK2 _ (i + 1) (by omega) (by omega) ?_
        refine Le.m 0 ?_ ?_
        · first | with_reducible rfl | (simp only [push_cast, ↓reduceIte, Nat.reduceEqDiff, Nat.reduceLT, Nat.reduceAdd, Nat.reduceSub, Nat.reduceMul, Nat.reduceLeDiff, Nat.reducePow, Int.reduceLT, Int.reduceToNat, reduceCtorEq, Int.reduceNeg, Int.reduceEq, Nat.reduceBEq, Nat.reduceBNe, Int.reduceBEq, Int.reduceBNe, String.reduceEq]; first | done | rfl | (simp (disch := omega) only [w_nat, w_add, w_addl, w_addr, w_sub, w_subl, w_mul, w_mull, w_mulr, w_u32, w_u16, w_u8, w_u32a, N_zero]; first | done | rfl))
        · simp only [push_cast, ↓reduceIte, Nat.reduceEqDiff, Nat.reduceLT, Nat.reduceAdd, Nat.reduceSub, Nat.reduceMul, Nat.reduceLeDiff, Nat.reducePow, Int.reduceLT, Int.reduceToNat, reduceCtorEq, Int.reduceNeg, Int.reduceEq, Nat.reduceBEq, Nat.reduceBNe, Int.reduceBEq, Int.reduceBNe, String.reduceEq]
          try simp (disch := omega) only [w_nat, w_add, w_addl, w_addr, w_sub, w_subl, w_mul, w_mull, w_mulr, w_u32, w_u16, w_u8, w_u32a, N_zero]
          first | (rw [hst]; done) | (rw [hst]; congr 3; omega)
    · skip
      have hil : i = l.length := by simp at c0; omega
      subst hil
      refine AWp.exit ?_
      try simp only [thenQ, blockQ, noGo, reduceIte, Nat.reduceEqDiff]
      refine hK1 _ ?_
      refine AWp.regionW ?_
      refine AWp.ret ?_
      try simp only [thenQ, blockQ, noGo]
      refine bodyQ.m ?_
      clear hK3 K3 hK2 K2 hK1 K1
      unfold szR; rw [if_neg (Nat.lt_irrefl _)]
      first | done | exact Hand.go
theorem size08_w : ∀ (w : Nat) (l : List GNode), szs l ≤ w → nSize l ≤ 2 ^ 30 → PC Tryz.prog 97 [.sl false 3 (nodesA false l)] (nat (nSize l)) := by
  have kl : ∀ (a : GNode) (l : List GNode), a ∈ l → szs a.kids < szs l := by
    intro a l ha
    have := szs_mem ha; rw [GNode.sz_eq] at this; omega
  intro w
  induction w with
  | zero => exact fun l hw hs => size08_step l hs (fun a ha => by have := kl a l ha; omega)
  | succ w ih => exact fun l hw hs => size08_step l hs (fun a ha => by have := kl a l ha; have := nSize_kids ha; exact ih _ (by omega) (by omega))
theorem size08_c (l : List GNode) (hs : nSize l ≤ 2 ^ 30) : PC Tryz.prog 97 [.sl false 3 (nodesA false l)] (nat (nSize l)) := size08_w _ l (Nat.le_refl _) hs
end Go.Proofs.YtfghmfjbbjapgaaGreatDoor.C
/- The reference: Check, Count, Value, Types. -/
set_option linter.unusedVariables false
set_option linter.unusedSimpArgs false
namespace Go.Proofs.YtfghmfjbbjapgaaGreatDoor.C
open Go.Abs
theorem form_small (c t : Nat) : (shapeOf c t).kids ≤ 4 ∧ (shapeOf c t).least < 2 ^ 40 ∧ (shapeOf c t).most < 2 ^ 40 ∧ (shapeOf c t).unit < 2 ^ 40 ∧ (shapeHas c t = true → (shapeOf c t).cls = c ∧ 0 < (shapeOf c t).unit) ∧ (shapeHas c t = false → shapeOf c t = zeroForm) := by
  have key : ∀ l : List ShForm, (∀ f ∈ l, f.kids ≤ 4 ∧ f.least < 2 ^ 40 ∧ f.most < 2 ^ 40 ∧ f.unit < 2 ^ 40 ∧ 0 < f.unit) →
      let g := (((l.find? fun f => f.ty == t).map fun f => { f with cls := c }).getD zeroForm)
      g.kids ≤ 4 ∧ g.least < 2 ^ 40 ∧ g.most < 2 ^ 40 ∧ g.unit < 2 ^ 40 ∧ ((l.find? fun f => f.ty == t).isSome = true → g.cls = c ∧ 0 < g.unit) ∧ ((l.find? fun f => f.ty == t).isSome = false → g = zeroForm) := by
    intro l hl
    cases hf : l.find? (fun f => f.ty == t) with
    | none => simp [zeroForm]
    | some f =>
      have := hl f (List.mem_of_find?_eq_some hf)
      simp
      omega
  refine key (formsN c) ?_
  match c with
  | 0 => intro f hf; simp [formsN] at hf
  | 1 => decide
  | 2 => decide
  | _ + 3 => intro f hf; simp [formsN] at hf
theorem counted_eq (c t : Nat) (d : List UInt8) (k : List GNode) (h : badN c t d.length k = false) (hc : c = 2) (ht : t = 2) : (!countedR d) = countedN c t d := by
  subst hc; subst ht
  have hf : fitsN (shapeOf 2 2) d.length = true := by
    unfold badN at h
    have : shapeHas 2 2 = true := rfl
    rw [this] at h
    cases hq : fitsN (shapeOf 2 2) d.length with
    | true => rfl
    | false => rw [hq] at h; simp at h
  have hl : 6 ≤ d.length ∧ (d.length - 6) % 2 = 0 := by
    have e : shapeOf 2 2 = ⟨2, 2, ⟨#[109, 105, 115, 115, 105, 110, 103, 45, 112, 97, 114, 97, 109, 101, 116, 101, 114]⟩, 6, 65531, 2, 0⟩ := rfl
    rw [e] at hf
    unfold fitsN at hf
    simp only [Bool.and_eq_true, decide_eq_true_eq, beq_iff_eq] at hf
    exact ⟨hf.1.1, hf.2⟩
  unfold countedR countedN
  rw [Bool.eq_iff_iff]
  simp
  omega
theorem check08_step (c dp : Nat) (n : GNode) (hc : c = 1 ∨ c = 2) (hdp : dp < 2 ^ 60) (hs : nSize [n] ≤ 2 ^ 30)
    (ih : ∀ (c dp : Nat) (a : GNode), a ∈ n.kids → (c = 1 ∨ c = 2) → dp < 2 ^ 60 → nSize [a] ≤ 2 ^ 30 → PC Tryz.prog 51 [nat c, nodeA false a, nat dp] (nat (checkN c dp a))) :
    PC Tryz.prog 51 [nat c, nodeA false n, nat dp] (nat (checkN c dp n)) := by
  have hkl := nSize_len n.kids
  have hk1 := nSize_kids1 n
  have hdl := nSize_data n
  obtain ⟨f1, f2, f3, f4, f5, f6⟩ := form_small c n.ty
  have hcl : (shapeOf c n.ty).cls = if shapeHas c n.ty = true then c else 0 := by
    cases h : shapeHas c n.ty with
    | true => exact (f5 h).1
    | false => rw [f6 h]; rfl
  have hc0 : ((shapeOf c n.ty).cls == 0) = !shapeHas c n.ty := by
    rw [hcl]; cases shapeHas c n.ty <;> simp; omega
  have hc1 : decide (0 < (shapeOf c n.ty).cls) = shapeHas c n.ty := by
    rw [hcl]; cases shapeHas c n.ty <;> simp; omega
  refine PC.of_bodyW (by simp only [push_cast]) Tryz.func51 rfl (by rw [Tryz.ntmps51]; simp) ?_
  refine AWp.regionW ?_
  refine AWp.seqK fun K1 hK1 => ?_
  refine AWp.regionW ?_
  refine AWp.condLM (fun c0 => ?_) (fun c0 => ?_)
  · skip
    have h0 : 4 < dp := by simpa using c0
    refine AWp.regionW ?_
    refine AWp.ret ?_
    try simp only [thenQ, blockQ, noGo]
    refine bodyQ.m ?_
    clear hK1 K1
    rw [checkN_eq, if_pos h0]
    first | done | exact Hand.go
  · skip
    have h0 : ¬ 4 < dp := by simpa using c0
    refine AWp.skip ?_
    refine hK1 _ ?_
    refine AWp.regionM fun K2 hK2 => ?_
    refine ARun2.callM (of07_c c n.ty hc) ?_
    refine ARun2.endm (hK2 _ ?_)
    refine AWp.seqK fun K3 hK3 => ?_
    refine AWp.regionA fun K4 hK4 => ?_
    refine ARun.segm 4 fun KS hKS => ?_
    refine ARun2.endm (hKS _ ?_); clear hKS KS
    apply ARun.grpM 4 3 true 23 [0, 2, 4, 7, 19]
    · intro g3 KG hKG
      refine ARun2.gom ?_
      exact ARun2.endm (hKG _ Le.grpM)
    refine ARun2.gom ?_
    refine ARun2.endm (hK4 _ ?_)
    refine AWp.condLM (fun c1 => ?_) (fun c1 => ?_)
    · skip
      rw [hc0] at c1
      have hb : badN c n.ty n.data.length n.kids = true := by unfold badN; rw [c1]; rfl
      refine AWp.regionW ?_
      refine AWp.ret ?_
      try simp only [thenQ, blockQ, noGo]
      refine bodyQ.m ?_
      clear hK4 K4 hK3 K3 hK2 K2 hK1 K1
      rw [checkN_eq, if_neg h0, if_pos hb]
      first | done | exact Hand.go
    · skip
      rw [hc0] at c1
      refine AWp.skip ?_
      refine hK3 _ ?_
      refine AWp.seqK fun K5 hK5 => ?_
      refine AWp.regionA fun K6 hK6 => ?_
      refine ARun.segm 4 fun KS hKS => ?_
      refine ARun2.endm (hKS _ ?_); clear hKS KS
      apply ARun.grpM 13 3 true 41 [0, 2, 4, 7, 28]
      · intro g3 KG hKG
        rw [hc1] at g3
        refine ARun.segm 7 fun KS hKS => ?_
        refine ARun2.callM (fits07_c (shapeOf c n.ty) n.data.length (by omega) f2 f3 (f5 g3).2 f4) ?_
        refine ARun2.endm (hKS _ ?_); clear hKS KS
        apply ARun.grpM 5 10 false 40 [0, 2, 4, 7, 28, 35]
        · intro g10 KG hKG
          refine ARun2.gom ?_
          refine ARun2.callM (wanted_c (shapeOf c n.ty) n.kids (by omega) f1) ?_
          exact ARun2.endm (hKG _ Le.grpM)
        refine ARun2.gom ?_
        exact ARun2.endm (hKG _ Le.grpM)
      refine ARun2.gom ?_
      refine ARun2.endm (hK6 _ ?_)
      refine AWp.condLM (fun c2 => ?_) (fun c2 => ?_)
      · skip
        rw [hc1] at c2
        have hb : badN c n.ty n.data.length n.kids = true := by
          unfold badN; revert c1 c2
          cases shapeHas c n.ty <;> cases fitsN (shapeOf c n.ty) n.data.length <;> cases kidsOk (shapeOf c n.ty) n.kids <;> simp
        refine AWp.regionW ?_
        refine AWp.ret ?_
        try simp only [thenQ, blockQ, noGo]
        refine bodyQ.m ?_
        clear hK6 K6 hK5 K5 hK4 K4 hK3 K3 hK2 K2 hK1 K1
        rw [checkN_eq, if_neg h0, if_pos hb]
        first | done | exact Hand.go
      · skip
        rw [hc1] at c2
        have hb : badN c n.ty n.data.length n.kids = false := by
          unfold badN; revert c1 c2
          cases shapeHas c n.ty <;> cases fitsN (shapeOf c n.ty) n.data.length <;> cases kidsOk (shapeOf c n.ty) n.kids <;> simp
        have hb' : ¬ badN c n.ty n.data.length n.kids = true := by rw [hb]; simp
        refine AWp.skip ?_
        refine hK5 _ ?_
        refine AWp.seqK fun K7 hK7 => ?_
        refine AWp.regionA fun K8 hK8 => ?_
        refine ARun.segm 3 fun KS hKS => ?_
        refine ARun2.endm (hKS _ ?_); clear hKS KS
        apply ARun.grpM 3 2 true 48 [2, 4, 7, 45]
        · intro g2 KG hKG
          refine ARun2.gom ?_
          exact ARun2.endm (hKG _ Le.grpM)
        refine ARun.segm 2 fun KS hKS => ?_
        refine ARun2.endm (hKS _ ?_); clear hKS KS
        apply ARun.grpM 4 7 true 54 [2, 4, 7, 50]
        · intro g7 KG hKG
          refine ARun2.gom ?_
          refine ARun2.callM (counted08_c n.data (by omega)) ?_
          exact ARun2.endm (hKG _ Le.grpM)
        refine ARun2.gom ?_
        refine ARun2.endm (hK8 _ ?_)
        refine AWp.condLM (fun c3 => ?_) (fun c3 => ?_)
        · skip
          have h3 : countedN c n.ty n.data = true := by
            simp only [Bool.and_eq_true, beq_iff_eq] at c3
            rw [← counted_eq c n.ty n.data n.kids hb c3.1.1 c3.1.2]; exact c3.2
          refine AWp.regionW ?_
          refine AWp.ret ?_
          try simp only [thenQ, blockQ, noGo]
          refine bodyQ.m ?_
          clear hK8 K8 hK7 K7 hK6 K6 hK5 K5 hK4 K4 hK3 K3 hK2 K2 hK1 K1
          rw [checkN_eq, if_neg h0, if_neg hb', if_pos h3]
          first | done | exact Hand.go
        · skip
          have h3 : ¬ countedN c n.ty n.data = true := by
            intro h3
            have e : c = 2 ∧ n.ty = 2 := by unfold countedN at h3; simp only [Bool.and_eq_true, beq_iff_eq] at h3; exact ⟨h3.1, h3.2.1⟩
            rw [← counted_eq c n.ty n.data n.kids hb e.1 e.2] at h3
            rw [e.1, e.2, h3] at c3
            simp at c3
          refine AWp.skip ?_
          refine hK7 _ ?_
          refine AWp.seqK fun K9 hK9 => ?_
          refine AWp.regionW ?_
          refine AWp.block ?_
          refine AWp.loopK0 [2, 4, 7] (fun (i : Nat) => [(8, nat i)]) (fun i => i ≤ n.kids.length ∧ checkL (insideN (shapeOf c n.ty).kids).1 (dp + 1) (n.kids.take i) = 0) (fun i => n.kids.length - i) (0) ?_ ⟨Nat.zero_le _, rfl⟩ ?_
          · skip
            refine Le.m 2 ?_ ?_
            · first | with_reducible rfl | (simp only [push_cast, ↓reduceIte, Nat.reduceEqDiff, Nat.reduceLT, Nat.reduceAdd, Nat.reduceSub, Nat.reduceMul, Nat.reduceLeDiff, Nat.reducePow, Int.reduceLT, Int.reduceToNat, reduceCtorEq, Int.reduceNeg, Int.reduceEq, Nat.reduceBEq, Nat.reduceBNe, Int.reduceBEq, Int.reduceBNe, String.reduceEq]; first | done | rfl | (simp (disch := omega) only [w_nat, w_add, w_addl, w_addr, w_sub, w_subl, w_mul, w_mull, w_mulr, w_u32, w_u16, w_u8, w_u32a, N_zero]; first | done | rfl))
            · first | (simp only [push_cast, ↓reduceIte, Nat.reduceEqDiff, Nat.reduceLT, Nat.reduceAdd, Nat.reduceSub, Nat.reduceMul, Nat.reduceLeDiff, Nat.reducePow, Int.reduceLT, Int.reduceToNat, reduceCtorEq, Int.reduceNeg, Int.reduceEq, Nat.reduceBEq, Nat.reduceBNe, Int.reduceBEq, Int.reduceBNe, String.reduceEq]; first | done | rfl | (simp (disch := omega) only [w_nat, w_add, w_addl, w_addr, w_sub, w_subl, w_mul, w_mull, w_mulr, w_u32, w_u16, w_u8, w_u32a, N_zero]; first | done | rfl))
          · intro i hi K10 hK10
            refine AWp.seqK fun K11 hK11 => ?_
            refine AWp.regionW ?_
            refine AWp.condLM (fun c4 => ?_) (fun c4 => ?_)
            · skip
              have hil : i < n.kids.length := by simpa using c4
              have hm := List.getElem_mem hil
              have hci := inside_class c n.ty n.data.length n.kids hb (by omega)
              refine AWp.skip ?_
              refine hK11 _ ?_
              refine AWp.seqK fun K12 hK12 => ?_
              refine AWp.block ?_
              refine AWp.drS [[(7, none)], [(63, some 0)], [(64, some 1)], [(4, none)], [(66, some 3)], [(8, none)], [(67, some 4), (68, some 5)], [(69, some 6)], [(2, none)], [(71, some 8)], [(65, some 2), (70, some 7), (72, some 9)], [(73, some 10)]] fun G hG => ?_
              refine Dr.sim ?_
              try simp only [List.cons_append, List.nil_append]
              refine Dr.sim ?_
              try simp only [List.cons_append, List.nil_append]
              refine Dr.call (inside08_c (shapeOf c n.ty).kids f1) ?_
              try simp only [List.cons_append, List.nil_append]
              refine Dr.sim ?_
              try simp only [List.cons_append, List.nil_append]
              refine Dr.sim ?_
              try simp only [List.cons_append, List.nil_append]
              refine Dr.sim ?_
              try simp only [List.cons_append, List.nil_append]
              refine Dr.idx (i) (nodeA false n.kids[i]) ?_ ?_
              · exact nodesA_at _ _ _ hil
              try simp only [List.cons_append, List.nil_append]
              refine Dr.sim ?_
              try simp only [List.cons_append, List.nil_append]
              refine Dr.sim ?_
              try simp only [List.cons_append, List.nil_append]
              refine Dr.sim ?_
              try simp only [List.cons_append, List.nil_append]
              refine Dr.call (ih (insideN (shapeOf c n.ty).kids).1 (dp + 1) n.kids[i] hm hci (by omega) (by have := nSize_one hm; omega)) ?_
              try simp only [List.cons_append, List.nil_append]
              refine Dr.sim ?_
              try simp only [List.cons_append, List.nil_append]
              refine Dr.finM (n := 12) [(9, 11)] [2, 4, 7, 8] hG YtfghmfjbbjapgaaGreatDoor.Facts.mixed fun KD hKD => ?_
              refine ARun2.endm (hKD _ ?_); clear hKD KD hG G
              refine AWp.regionW ?_
              refine AWp.condLM (fun c5 => ?_) (fun c5 => ?_)
              · skip
                have h5 : checkN (insideN (shapeOf c n.ty).kids).1 (dp + 1) n.kids[i] ≠ 0 := by simpa using c5
                refine AWp.regionW ?_
                refine AWp.ret ?_
                try simp only [thenQ, blockQ, noGo]
                refine bodyQ.m ?_
                clear hK12 K12 hK11 K11 hK10 K10 hK9 K9 hK8 K8 hK7 K7 hK6 K6 hK5 K5 hK4 K4 hK3 K3 hK2 K2 hK1 K1
                have hL := checkL_at _ _ n.kids i hil hi.2 h5
                rw [checkN_eq c dp n, if_neg h0, if_neg hb', if_neg h3, if_pos (by rw [hL]; exact h5), hL]
                first | done | exact Hand.go
              · skip
                have h5 : checkN (insideN (shapeOf c n.ty).kids).1 (dp + 1) n.kids[i] = 0 := by simpa using c5
                refine AWp.skip ?_
                refine hK12 _ ?_
                refine AWp.regionV ?_
                refine hK10 _ (i + 1) (⟨by omega, by rw [List.take_succ_eq_append_getElem hil, checkL_snoc, hi.2]; simpa using h5⟩) (by omega) ?_
                refine Le.m 2 ?_ ?_
                · first | with_reducible rfl | (simp only [push_cast, ↓reduceIte, Nat.reduceEqDiff, Nat.reduceLT, Nat.reduceAdd, Nat.reduceSub, Nat.reduceMul, Nat.reduceLeDiff, Nat.reducePow, Int.reduceLT, Int.reduceToNat, reduceCtorEq, Int.reduceNeg, Int.reduceEq, Nat.reduceBEq, Nat.reduceBNe, Int.reduceBEq, Int.reduceBNe, String.reduceEq]; first | done | rfl | (simp (disch := omega) only [w_nat, w_add, w_addl, w_addr, w_sub, w_subl, w_mul, w_mull, w_mulr, w_u32, w_u16, w_u8, w_u32a, N_zero]; first | done | rfl))
                · first | (simp only [push_cast, ↓reduceIte, Nat.reduceEqDiff, Nat.reduceLT, Nat.reduceAdd, Nat.reduceSub, Nat.reduceMul, Nat.reduceLeDiff, Nat.reducePow, Int.reduceLT, Int.reduceToNat, reduceCtorEq, Int.reduceNeg, Int.reduceEq, Nat.reduceBEq, Nat.reduceBNe, Int.reduceBEq, Int.reduceBNe, String.reduceEq]; first | done | rfl | (simp (disch := omega) only [w_nat, w_add, w_addl, w_addr, w_sub, w_subl, w_mul, w_mull, w_mulr, w_u32, w_u16, w_u8, w_u32a, N_zero]; first | done | rfl))
            · skip
              have hil : i = n.kids.length := by have := hi.1; simp at c4; omega
              have hL : checkL (insideN (shapeOf c n.ty).kids).1 (dp + 1) n.kids = 0 := by have := hi.2; rwa [hil, List.take_length] at this
              subst hil
              refine AWp.exit ?_
              try simp only [thenQ, blockQ, noGo, reduceIte, Nat.reduceEqDiff]
              refine hK9 _ ?_
              refine AWp.seqK fun K13 hK13 => ?_
              refine AWp.regionM fun K14 hK14 => ?_
              refine ARun2.callM (size08_c [n] hs) ?_
              refine ARun2.endm (hK14 _ ?_)
              refine AWp.condLM (fun c6 => ?_) (fun c6 => ?_)
              · skip
                have h6 : 65535 < nSize [n] := by simpa using c6
                refine AWp.regionW ?_
                refine AWp.ret ?_
                try simp only [thenQ, blockQ, noGo]
                refine bodyQ.m ?_
                clear hK14 K14 hK13 K13 hK11 K11 hK10 K10 hK9 K9 hK8 K8 hK7 K7 hK6 K6 hK5 K5 hK4 K4 hK3 K3 hK2 K2 hK1 K1
                rw [checkN_eq, if_neg h0, if_neg hb', if_neg h3, if_neg (by rw [hL]; simp), if_pos h6]
                first | done | exact Hand.go
              · skip
                have h6 : ¬ 65535 < nSize [n] := by simpa using c6
                refine AWp.skip ?_
                refine hK13 _ ?_
                refine AWp.regionW ?_
                refine AWp.ret ?_
                try simp only [thenQ, blockQ, noGo]
                refine bodyQ.m ?_
                clear hK14 K14 hK13 K13 hK11 K11 hK10 K10 hK9 K9 hK8 K8 hK7 K7 hK6 K6 hK5 K5 hK4 K4 hK3 K3 hK2 K2 hK1 K1
                rw [checkN_eq, if_neg h0, if_neg hb', if_neg h3, if_neg (by rw [hL]; simp), if_neg h6]
                first | done | exact Hand.go
theorem check08_w : ∀ (w c dp : Nat) (n : GNode), n.sz ≤ w → (c = 1 ∨ c = 2) → dp < 2 ^ 60 → nSize [n] ≤ 2 ^ 30 → PC Tryz.prog 51 [nat c, nodeA false n, nat dp] (nat (checkN c dp n)) := by
  intro w
  induction w with
  | zero => intro c dp n h; have := n.sz_eq; omega
  | succ w ih => exact fun c dp n hw hc hdp hs => check08_step c dp n hc hdp hs (fun c dp a ha hc hdp hs => ih c dp a (by have := szs_lt ha; omega) hc hdp hs)
theorem check08_c (c dp : Nat) (n : GNode) (hc : c = 1 ∨ c = 2) (hdp : dp < 2 ^ 60) (hs : nSize [n] ≤ 2 ^ 30) : PC Tryz.prog 51 [nat c, nodeA false n, nat dp] (nat (checkN c dp n)) := check08_w _ c dp n (Nat.le_refl _) hc hdp hs
end Go.Proofs.YtfghmfjbbjapgaaGreatDoor.C
/- The reference: Count, Few, Value, Types. -/
set_option linter.unusedVariables false
set_option linter.unusedSimpArgs false
namespace Go.Proofs.YtfghmfjbbjapgaaGreatDoor.C
open Go.Abs
/-- the loop of Count -/
def cntL (g : GNode → Nat) : List GNode → Nat → Nat
  | [], s => s
  | n :: l, s => if s < 1000 then cntL g l (s + 1 + n.data.length / 1000 + g n) else s
/-- how many nodes there are, up to a bound; f: how much deeper it may go -/
def countF : Nat → List GNode → Nat
  | 0, _ => 1000
  | f + 1, l => cntL (fun n => countF f n.kids) l 0
theorem cntL_le (g : GNode → Nat) (hg : ∀ n, g n ≤ 1000 + 2000 * szs n.kids) : ∀ (l : List GNode) (s : Nat), cntL g l s ≤ s + 2000 * szs l
  | [], s => by simp [cntL, szs]
  | n :: l, s => by
    have h1 := n.sz_eq
    have h2 := hg n
    have h3 := cntL_le g hg l (s + 1 + n.data.length / 1000 + g n)
    simp only [cntL, szs]
    split <;> omega
theorem countF_le : ∀ (f : Nat) (l : List GNode), countF f l ≤ 1000 + 2000 * szs l
  | 0, l => by simp [countF]
  | f + 1, l => by
    have := cntL_le (fun n => countF f n.kids) (fun n => countF_le f n.kids) l 0
    simp only [countF]; omega
theorem szs_take (l : List GNode) (i : Nat) (h : i < l.length) : szs (l.take (i + 1)) = szs (l.take i) + l[i].sz := by
  rw [List.take_succ_eq_append_getElem h]
  generalize l.take i = a
  induction a with
  | nil => simp [szs]
  | cons x a ih => simp only [List.cons_append, szs, ih]; omega
theorem count_step (f dp : Nat) (hf : f + dp = 21) (l : List GNode) (hs : szs l ≤ 2 ^ 30) (ih : ∀ a ∈ l, 0 < f → PC Tryz.prog 41 [.sl false 3 (nodesA false a.kids), nat (dp + 1)] (nat (countF (f - 1) a.kids))) :
    PC Tryz.prog 41 [.sl false 3 (nodesA false l), nat dp] (nat (countF f l)) := by
  have hlen := szs_len l
  refine PC.of_bodyW (by simp only [push_cast]) Tryz.func41 rfl (by rw [Tryz.ntmps41]; simp) ?_
  refine AWp.regionW ?_
  refine AWp.regionW ?_
  refine AWp.seqK fun K1 hK1 => ?_
  refine AWp.regionW ?_
  refine AWp.condLM (fun c0 => ?_) (fun c0 => ?_)
  · skip
    have h0 : f = 0 := by have := of_decide_eq_true c0; omega
    refine AWp.regionW ?_
    refine AWp.ret ?_
    try simp only [thenQ, blockQ, noGo]
    refine bodyQ.m ?_
    clear hK1 K1
    rw [h0, countF]
    first | done | exact Hand.go
  · skip
    obtain ⟨e, rfl⟩ : ∃ e, f = e + 1 := ⟨f - 1, by have : ¬ 20 < dp := of_decide_eq_false c0; omega⟩
    rw [Nat.add_sub_cancel] at ih
    have hq : countF (e + 1) l = cntL (fun n => countF e n.kids) l 0 := rfl
    refine AWp.skip ?_
    refine hK1 _ ?_
    refine AWp.seqK fun K2 hK2 => ?_
    refine AWp.regionW ?_
    refine AWp.block ?_
    refine AWp.loopK0 [0, 1] (fun (x : Nat × Nat) => [(6, nat x.1), (5, nat x.2)]) (fun x => x.1 ≤ l.length ∧ cntL (fun n => countF e n.kids) (l.drop x.1) x.2 = countF (e + 1) l ∧ x.2 ≤ 2000 * szs (l.take x.1)) (fun x => l.length - x.1) ((0, 0)) ?_ ⟨Nat.zero_le _, rfl, Nat.zero_le _⟩ ?_
    · skip
      refine Le.m 0 ?_ ?_
      · first | with_reducible rfl | (simp only [push_cast, ↓reduceIte, Nat.reduceEqDiff, Nat.reduceLT, Nat.reduceAdd, Nat.reduceSub, Nat.reduceMul, Nat.reduceLeDiff, Nat.reducePow, Int.reduceLT, Int.reduceToNat, reduceCtorEq, Int.reduceNeg, Int.reduceEq, Nat.reduceBEq, Nat.reduceBNe, Int.reduceBEq, Int.reduceBNe, String.reduceEq]; first | done | rfl | (simp (disch := omega) only [w_nat, w_add, w_addl, w_addr, w_sub, w_subl, w_mul, w_mull, w_mulr, w_u32, w_u16, w_u8, w_u32a, N_zero]; first | done | rfl))
      · first | (simp only [push_cast, ↓reduceIte, Nat.reduceEqDiff, Nat.reduceLT, Nat.reduceAdd, Nat.reduceSub, Nat.reduceMul, Nat.reduceLeDiff, Nat.reducePow, Int.reduceLT, Int.reduceToNat, reduceCtorEq, Int.reduceNeg, Int.reduceEq, Nat.reduceBEq, Nat.reduceBNe, Int.reduceBEq, Int.reduceBNe, String.reduceEq]; first | done | rfl | (simp (disch := omega) only [w_nat, w_add, w_addl, w_addr, w_sub, w_subl, w_mul, w_mull, w_mulr, w_u32, w_u16, w_u8, w_u32a, N_zero]; first | done | rfl))
    · intro x hx K3 hK3
      obtain ⟨i, s⟩ := x
      obtain ⟨hi, hc, hb⟩ := hx
      simp only at hi hc hb
      refine AWp.seqK fun K4 hK4 => ?_
      refine AWp.regionA fun K5 hK5 => ?_
      refine ARun.segm 5 fun KS hKS => ?_
      refine ARun2.endm (hKS _ ?_); clear hKS KS
      apply ARun.grpM 2 4 true 15 [0, 1, 5, 6, 13]
      · intro g4 KG hKG
        refine ARun2.gom ?_
        exact ARun2.endm (hKG _ Le.grpM)
      refine ARun2.gom ?_
      refine ARun2.endm (hK5 _ ?_)
      refine AWp.condLM (fun c1 => ?_) (fun c1 => ?_)
      · skip
        have h1 : i < l.length ∧ s < 1000 := by simpa using c1
        have hil := h1.1
        have hm := List.getElem_mem hil
        have hsm := szs_mem hm
        have hse := GNode.sz_eq l[i]
        have hcl := countF_le e l[i].kids
        have hst := szs_take l i hil
        have hd : l.drop i = l[i] :: l.drop (i + 1) := List.drop_eq_getElem_cons hil
        refine AWp.skip ?_
        refine hK4 _ ?_
        refine AWp.seqK fun K6 hK6 => ?_
        refine AWp.block ?_
        refine AWp.drE [[(5, none)], [(19, some 0)], [(0, none)], [(6, none)], [(21, some 2), (22, some 3)], [(23, some 4)], [(24, some 5)], [(25, some 6)], [(26, some 7)], [(20, some 1), (27, some 8)], [(0, none)], [(6, none)], [(29, some 10), (30, some 11)], [(31, some 12)], [(32, some 13)], [(1, none)], [(34, some 15)], [(33, some 14), (35, some 16)], [(28, some 9), (36, some 17)], [(37, some 18)]] fun G hG => ?_
        refine Dr.sim ?_
        try simp only [List.cons_append, List.nil_append]
        refine Dr.sim ?_
        try simp only [List.cons_append, List.nil_append]
        refine Dr.sim ?_
        try simp only [List.cons_append, List.nil_append]
        refine Dr.sim ?_
        try simp only [List.cons_append, List.nil_append]
        refine Dr.idx (i) (nodeA false l[i]) ?_ ?_
        · exact nodesA_at _ _ _ hil
        try simp only [List.cons_append, List.nil_append]
        refine Dr.sim ?_
        try simp only [List.cons_append, List.nil_append]
        refine Dr.sim ?_
        try simp only [List.cons_append, List.nil_append]
        refine Dr.sim ?_
        try simp only [List.cons_append, List.nil_append]
        refine Dr.sim ?_
        try simp only [List.cons_append, List.nil_append]
        refine Dr.sim ?_
        try simp only [List.cons_append, List.nil_append]
        refine Dr.sim ?_
        try simp only [List.cons_append, List.nil_append]
        refine Dr.sim ?_
        try simp only [List.cons_append, List.nil_append]
        refine Dr.idx (i) (nodeA false l[i]) ?_ ?_
        · exact nodesA_at _ _ _ hil
        try simp only [List.cons_append, List.nil_append]
        refine Dr.sim ?_
        try simp only [List.cons_append, List.nil_append]
        refine Dr.sim ?_
        try simp only [List.cons_append, List.nil_append]
        refine Dr.sim ?_
        try simp only [List.cons_append, List.nil_append]
        refine Dr.sim ?_
        try simp only [List.cons_append, List.nil_append]
        refine Dr.call (ih l[i] hm (by omega)) ?_
        try simp only [List.cons_append, List.nil_append]
        refine Dr.sim ?_
        try simp only [List.cons_append, List.nil_append]
        refine Dr.sim ?_
        try simp only [List.cons_append, List.nil_append]
        refine Dr.finN (n := 20) [(5, 19)] [0, 1, 6] hG YtfghmfjbbjapgaaGreatDoor.Facts.mixed fun KD hKD => ?_
        refine ARun2.endm (hKD _ ?_); clear hKD KD hG G
        refine hK6 _ ?_
        refine AWp.regionV ?_
        refine hK3 _ ((i + 1, s + 1 + l[i].data.length / 1000 + countF e l[i].kids)) (⟨hil, by rw [← hc, hd, cntL, if_pos h1.2], by simp only; omega⟩) (by simp only; omega) ?_
        refine Le.m 0 ?_ ?_
        · first | with_reducible rfl | (simp only [push_cast, ↓reduceIte, Nat.reduceEqDiff, Nat.reduceLT, Nat.reduceAdd, Nat.reduceSub, Nat.reduceMul, Nat.reduceLeDiff, Nat.reducePow, Int.reduceLT, Int.reduceToNat, reduceCtorEq, Int.reduceNeg, Int.reduceEq, Nat.reduceBEq, Nat.reduceBNe, Int.reduceBEq, Int.reduceBNe, String.reduceEq]; first | done | rfl | (simp (disch := omega) only [w_nat, w_add, w_addl, w_addr, w_sub, w_subl, w_mul, w_mull, w_mulr, w_u32, w_u16, w_u8, w_u32a, N_zero]; first | done | rfl))
        · first | (simp only [push_cast, ↓reduceIte, Nat.reduceEqDiff, Nat.reduceLT, Nat.reduceAdd, Nat.reduceSub, Nat.reduceMul, Nat.reduceLeDiff, Nat.reducePow, Int.reduceLT, Int.reduceToNat, reduceCtorEq, Int.reduceNeg, Int.reduceEq, Nat.reduceBEq, Nat.reduceBNe, Int.reduceBEq, Int.reduceBNe, String.reduceEq]; first | done | rfl | (simp (disch := omega) only [w_nat, w_add, w_addl, w_addr, w_sub, w_subl, w_mul, w_mull, w_mulr, w_u32, w_u16, w_u8, w_u32a, N_zero]; first | done | rfl))
      · skip
        have h1 : ¬ (i < l.length ∧ s < 1000) := by intro h; simp [h.1, h.2] at c1
        have hr : countF (e + 1) l = s := by
          rw [← hc]
          rcases Nat.lt_or_ge i l.length with h | h
          · rw [List.drop_eq_getElem_cons h, cntL, if_neg (fun h2 => h1 ⟨h, h2⟩)]
          · rw [List.drop_of_length_le h, cntL]
        refine AWp.exit ?_
        try simp only [thenQ, blockQ, noGo, reduceIte, Nat.reduceEqDiff]
        refine hK2 _ ?_
        refine AWp.regionW ?_
        refine AWp.ret ?_
        try simp only [thenQ, blockQ, noGo]
        refine bodyQ.m ?_
        clear hK5 K5 hK4 K4 hK3 K3 hK2 K2 hK1 K1
        rw [hr]
        first | done | exact Hand.go
theorem count_w : ∀ (f dp : Nat) (l : List GNode), f + dp = 21 → szs l ≤ 2 ^ 30 → PC Tryz.prog 41 [.sl false 3 (nodesA false l), nat dp] (nat (countF f l)) := by
  intro f
  induction f with
  | zero => exact fun dp l h hs => count_step 0 dp h l hs (fun a _ h => by omega)
  | succ f ih => exact fun dp l h hs => count_step (f + 1) dp h l hs (fun a ha _ => ih (dp + 1) a.kids (by omega) (by have := szs_mem ha; rw [GNode.sz_eq] at this; omega))
/-- are there few nodes? -/
def fewN (l : List GNode) : Bool := decide (countF 21 l ≤ 200)
theorem few_c (l : List GNode) (hs : szs l ≤ 2 ^ 30) : PC Tryz.prog 11 [.sl false 3 (nodesA false l)] (bool (fewN l)) := by
  refine PC.of_bodyW (by simp only [push_cast]) Tryz.func11 rfl (by rw [Tryz.ntmps11]; simp) ?_
  refine AWp.regionW ?_
  refine AWp.regionM fun K1 hK1 => ?_
  refine ARun2.callM (count_w 21 0 l rfl hs) ?_
  refine ARun2.endm (hK1 _ ?_)
  refine AWp.ret ?_
  try simp only [thenQ, blockQ, noGo]
  refine bodyQ.m ?_
  clear hK1 K1
  rw [fewN]
  first | done | exact Hand.go
end Go.Proofs.YtfghmfjbbjapgaaGreatDoor.C
/- The reference: Types; plain laws on values. -/
set_option linter.unusedVariables false
set_option linter.unusedSimpArgs false
namespace Go.Proofs.YtfghmfjbbjapgaaGreatDoor.C
open Go.Abs
theorem two_u16 (a b : UInt8) : IntKind.u16.wrap (IntKind.u16.wrap (N a.toNat * 2 ^ min 8 IntKind.u16.bits) + N b.toNat) = N (a.toNat * 256 + b.toNat) := by
  have h2 : IntKind.u16.bits = 16 := rfl
  have h3 : (2 : Int) ^ min 8 16 = 256 := rfl
  have := a.toNat_lt
  have := b.toNat_lt
  rw [h2, h3, wrap_u16, wrap_u16]
  unfold N; omega
end Go.Proofs.YtfghmfjbbjapgaaGreatDoor.C
/- What is made anew: Clone, right, Chunk, Message. -/
set_option linter.unusedVariables false
set_option linter.unusedSimpArgs false
namespace Go.Abs
@[push_cast] theorem bys_fresh (l : List UInt8) : AV.freshL (bys l) = true := by
  unfold bys
  induction l with
  | nil => rfl
  | cons x l ih => simp only [List.map_cons, AV.freshL, AV.fresh, ih]; rfl
@[push_cast] theorem bys_ones (l : List UInt8) : (bys l).all AV.one = true := by
  unfold bys
  rw [List.all_eq_true]; intro x hx; simp only [List.mem_map] at hx; obtain ⟨b, _, rfl⟩ := hx; rfl
mutual
theorem nodeA_fresh : ∀ n : GNode, (nodeA true n).fresh = true
  | .mk t d k => by simp only [nodeA, AV.fresh, AV.freshL, bys_fresh, nodesA_fresh k, Bool.and_true]
theorem nodesA_fresh : ∀ l : List GNode, AV.freshL (nodesA true l) = true
  | [] => by simp [nodesA, AV.freshL]
  | n :: l => by simp only [nodesA, AV.freshL, nodeA_fresh n, nodesA_fresh l, Bool.and_true]
end
attribute [push_cast] nodesA_fresh
end Go.Abs
namespace Go.Proofs.YtfghmfjbbjapgaaGreatDoor.C
open Go.Abs
theorem nclone_fstep (n : GNode) (hs : n.sz ≤ 2 ^ 40) (ih : ∀ a : GNode, a.sz < n.sz → PC Tryz.prog 91 [nodeA false a] (nodeA true a)) : PC Tryz.prog 91 [nodeA false n] (nodeA true n) := by
  have hsz := n.sz_eq
  have hlen := szs_len n.kids
  refine PC.of_bodyK (by simp only [push_cast]) Tryz.func91 rfl (by rw [Tryz.ntmps91]; simp) ?_
  refine AWp.regionW ?_
  refine AWp.drS [[(1, none)], [(6, some 0)], [(1, none)], [(8, some 2)], [(9, some 3)], [(7, some 1), (10, some 4)], []] fun G hG => ?_
  refine Dr.sim ?_
  try simp only [List.cons_append, List.nil_append]
  refine Dr.sim ?_
  try simp only [List.cons_append, List.nil_append]
  refine Dr.sim ?_
  try simp only [List.cons_append, List.nil_append]
  refine Dr.sim ?_
  try simp only [List.cons_append, List.nil_append]
  refine Dr.call (clone_c n.data (by omega)) ?_
  try simp only [List.cons_append, List.nil_append]
  refine Dr.sim ?_
  try simp only [List.cons_append, List.nil_append]
  refine Dr.al ?_
  try simp only [List.cons_append, List.nil_append]
  refine Dr.finA (n := 7) 6 [(11, 5), (3, 6)] [1, 2] hG YtfghmfjbbjapgaaGreatDoor.Facts.mixed fun KD hKD => ?_
  refine ARun2.endm (hKD _ ?_); clear hKD KD hG G
  refine AWp.seqK fun K1 hK1 => ?_
  refine AWp.regionW ?_
  refine AWp.block ?_
  refine AWp.nilBox 2 2 26 3 rfl rfl ?_
  simp only [push_cast, ↓reduceIte, Nat.reduceEqDiff, Nat.reduceLT, Nat.reduceAdd, Nat.reduceSub, Nat.reduceMul, Nat.reduceLeDiff, Nat.reducePow, Int.reduceLT, Int.reduceToNat, reduceCtorEq, Int.reduceNeg, Int.reduceEq, Nat.reduceBEq, Nat.reduceBNe, Int.reduceBEq, Int.reduceBNe, String.reduceEq]
  refine AWp.loopK [2, 3, 13, 14] (fun (i : Nat) => [(15, nat i)]) (fun i => [.box 26 [u16 n.ty, .sl false 1 (bys n.data), .sl false 3 (nodesA false n.kids)], .box 26 [.val (.int .u16 0), .val (.slice none 0 0), .val (.slice none 0 0)], .box 26 [u16 n.ty, .sl true 1 (bys n.data), .own 3], .row 26 3 (nodesA true (n.kids.take i))]) (fun i => i ≤ n.kids.length) (fun i => n.kids.length - i) (0) ?_ (Nat.zero_le _) ?_
  · skip
    refine Le.m 4 ?_ ?_
    · first | with_reducible rfl | (simp only [push_cast, ↓reduceIte, Nat.reduceEqDiff, Nat.reduceLT, Nat.reduceAdd, Nat.reduceSub, Nat.reduceMul, Nat.reduceLeDiff, Nat.reducePow, Int.reduceLT, Int.reduceToNat, reduceCtorEq, Int.reduceNeg, Int.reduceEq, Nat.reduceBEq, Nat.reduceBNe, Int.reduceBEq, Int.reduceBNe, String.reduceEq]; first | done | rfl | (simp (disch := omega) only [w_nat, w_add, w_addl, w_addr, w_sub, w_subl, w_mul, w_mull, w_mulr, w_u32, w_u16, w_u8, w_u32a, N_zero]; first | done | rfl))
    · first | (simp only [push_cast, ↓reduceIte, Nat.reduceEqDiff, Nat.reduceLT, Nat.reduceAdd, Nat.reduceSub, Nat.reduceMul, Nat.reduceLeDiff, Nat.reducePow, Int.reduceLT, Int.reduceToNat, reduceCtorEq, Int.reduceNeg, Int.reduceEq, Nat.reduceBEq, Nat.reduceBNe, Int.reduceBEq, Int.reduceBNe, String.reduceEq]; first | done | rfl | (simp (disch := omega) only [w_nat, w_add, w_addl, w_addr, w_sub, w_subl, w_mul, w_mull, w_mulr, w_u32, w_u16, w_u8, w_u32a, N_zero]; first | done | rfl))
  · intro i hi K2 hK2
    refine AWp.regionW ?_
    refine AWp.seqK fun K3 hK3 => ?_
    refine AWp.condLM (fun c0 => ?_) (fun c0 => ?_)
    · skip
      have hil : i < n.kids.length := by simpa using c0
      refine AWp.skip ?_
      refine hK3 _ ?_
      refine AWp.seqK fun K4 hK4 => ?_
      refine AWp.block ?_
      refine AWp.regionM fun K5 hK5 => ?_
      refine ARun2.indexM (i) (nodeA false n.kids[i]) ?_ ?_
      · exact nodesA_at _ _ _ hil
      refine ARun2.endm (hK5 _ ?_)
      refine AWp.drE [[(3, none)], [(19, some 0)], [(5, none)], [(21, some 2)], [(22, some 3)]] fun G hG => ?_
      refine Dr.sim ?_
      try simp only [List.cons_append, List.nil_append]
      refine Dr.sim ?_
      try simp only [List.cons_append, List.nil_append]
      refine Dr.sim ?_
      try simp only [List.cons_append, List.nil_append]
      refine Dr.call (ih n.kids[i] (szs_lt (List.getElem_mem hil))) ?_
      try simp only [List.cons_append, List.nil_append]
      refine Dr.build ?_
      try simp only [List.cons_append, List.nil_append]
      refine Dr.finN (n := 5) [(20, 1), (23, 4)] [2, 3, 13, 14, 15] hG YtfghmfjbbjapgaaGreatDoor.Facts.mixed fun KD hKD => ?_
      refine ARun2.appendM ?_ ?_ ?_
      · rw [YtfghmfjbbjapgaaGreatDoor.Facts.eb24, nodesA_len, List.length_take, List.length_cons, List.length_nil]; omega
      · rw [nodesA_len, List.length_take, List.length_cons, List.length_nil]; omega
      refine ARun2.endm (hKD _ ?_); clear hKD KD hG G
      refine hK4 _ ?_
      refine AWp.regionV ?_
      refine hK2 _ (i + 1) (by omega) (by omega) ?_
      refine Le.m 4 ?_ ?_
      · try simp only [push_cast, ↓reduceIte, Nat.reduceEqDiff, Nat.reduceLT, Nat.reduceAdd, Nat.reduceSub, Nat.reduceMul, Nat.reduceLeDiff, Nat.reducePow, Int.reduceLT, Int.reduceToNat, reduceCtorEq, Int.reduceNeg, Int.reduceEq, Nat.reduceBEq, Nat.reduceBNe, Int.reduceBEq, Int.reduceBNe, String.reduceEq]
        try simp (disch := omega) only [w_nat, w_add, w_addl, w_addr, w_sub, w_subl, w_mul, w_mull, w_mulr, w_u32, w_u16, w_u8, w_u32a, N_zero]
        first | done | skip
        rw [List.take_succ_eq_append_getElem hil, nodesA_snoc, nodeA_eq]
      · first | (simp only [push_cast, ↓reduceIte, Nat.reduceEqDiff, Nat.reduceLT, Nat.reduceAdd, Nat.reduceSub, Nat.reduceMul, Nat.reduceLeDiff, Nat.reducePow, Int.reduceLT, Int.reduceToNat, reduceCtorEq, Int.reduceNeg, Int.reduceEq, Nat.reduceBEq, Nat.reduceBNe, Int.reduceBEq, Int.reduceBNe, String.reduceEq]; first | done | rfl | (simp (disch := omega) only [w_nat, w_add, w_addl, w_addr, w_sub, w_subl, w_mul, w_mull, w_mulr, w_u32, w_u16, w_u8, w_u32a, N_zero]; first | done | rfl))
    · skip
      have hil : i = n.kids.length := by simp at c0; omega
      subst hil
      refine AWp.exit ?_
      try simp only [thenQ, blockQ, noGo, reduceIte, Nat.reduceEqDiff]
      refine hK1 _ ?_
      refine AWp.pubD 3 ?_
      refine AWp.regionW ?_
      refine AWp.ret ?_
      try simp only [thenQ, blockQ, noGo]
      refine bodyQ.m ?_
      clear hK3 K3 hK2 K2 hK1 K1
      rw [List.take_length]
      first | done | exact Wk.go
theorem nclone_fw : ∀ (w : Nat) (n : GNode), n.sz ≤ w → n.sz ≤ 2 ^ 40 → PC Tryz.prog 91 [nodeA false n] (nodeA true n) := by
  intro w
  induction w with
  | zero => intro n h; have := n.sz_eq; omega
  | succ w ih => exact fun n hw hs => nclone_fstep n hs (fun a h => ih a (by omega) (by omega))
theorem nclone_f (n : GNode) (hs : n.sz ≤ 2 ^ 40) : PC Tryz.prog 91 [nodeA false n] (nodeA true n) := nclone_fw _ n (Nat.le_refl _) hs
end Go.Proofs.YtfghmfjbbjapgaaGreatDoor.C
/- chunk: Check, Clone, Params. -/
set_option linter.unusedVariables false
set_option linter.unusedSimpArgs false
namespace Go.Proofs.YtfghmfjbbjapgaaGreatDoor.C
open Go.Abs
/-- the class of the nodes inside -/
def classOf (t : Nat) : Nat := (kinsideN (kindOf t).kids).1
/-- the first error of the chunk itself -/
def preE (c : GChunk) : Er := firstE [flagsE c (kindOf c.ty), dataE c (kindOf c.ty), kidsE c (kindOf c.ty), countE c, valueE c]
def startC (c : GChunk) : Nat := if kindHas c.ty = true then (preE c).codeOf.1 else if 0 < c.kids.length then 7 else 0
/-- the code of a chunk's error; 0: none -/
def checkC (c : GChunk) : Nat :=
  if startC c ≠ 0 then startC c else if checkL (classOf c.ty) 1 c.kids ≠ 0 then checkL (classOf c.ty) 1 c.kids
  else if 65535 < 4 + c.data.length + nSize c.kids then 4 else 0
/-- an error with a number -/
def Er.isN : Er → Bool
  | .ok => true
  | .code c => c != 0
  | .flt c _ => c != 0
theorem firstE_isN : ∀ l : List Er, (∀ e ∈ l, e.isN = true) → (firstE l).isN = true
  | [], _ => rfl
  | e :: l, h => by
    rw [firstE]
    split
    · exact firstE_isN l fun x hx => h x (by simp [hx])
    · exact h e (by simp)
theorem preE_isN (c : GChunk) : (preE c).isN = true := by
  refine firstE_isN _ fun e he => ?_
  simp only [List.mem_cons, List.not_mem_nil, or_false] at he
  rcases he with rfl | rfl | rfl | rfl | rfl
  · unfold flagsE; split <;> rfl
  · unfold dataE; split <;> rfl
  · unfold kidsE; split <;> rfl
  · unfold countE; split <;> rfl
  · unfold valueE; split <;> rfl
theorem isN_code {e : Er} (h : e.isN = true) : e.codeOf.2 = true ↔ e.codeOf.1 ≠ 0 := by
  cases e <;> simp [Er.codeOf, Er.isN] at * <;> exact h
theorem isN_ok {e : Er} (h : e.isN = true) : e.codeOf.1 = 0 ↔ e = .ok := by
  cases e <;> simp [Er.codeOf, Er.isN] at * <;> exact h
theorem errA_code {e : Nat} (h : e ≠ 0) : errA e = .ifc 118 (nat e) := by
  unfold errA; rw [show (e == 0) = false by simpa using h]; rfl
theorem data_ok {c : GChunk} (h : dataE c (kindOf c.ty) = .ok) : (c.ty = 3 → 12 ≤ c.data.length) ∧ (c.ty = 64 → 17 ≤ c.data.length) ∧ (c.ty = 194 → 4 ≤ c.data.length ∧ (c.data.length - 4) % 8 = 0) := by
  have hf : kfitsN (kindOf c.ty) c.data.length = true := by
    unfold dataE at h
    cases hk : kfitsN (kindOf c.ty) c.data.length with
    | true => rfl
    | false => rw [hk] at h; cases h
  unfold kfitsN at hf
  simp only [Bool.and_eq_true, decide_eq_true_eq, beq_iff_eq] at hf
  obtain ⟨⟨h1, h2⟩, h3⟩ := hf
  refine ⟨fun e => ?_, fun e => ?_, fun e => ?_⟩
  · rw [e] at h1; exact h1
  · rw [e] at h1; exact h1
  · rw [e] at h1 h3; exact ⟨h1, h3⟩
theorem firstE_pre {l : List Er} (h : firstE l = .ok) : ∀ e ∈ l, e = .ok := by
  induction l with
  | nil => simp
  | cons e l ih =>
    rw [firstE] at h
    split at h
    · rename_i he
      intro x hx
      rcases List.mem_cons.1 hx with rfl | hx
      · exact he
      · exact ih h x hx
    · rename_i he; exact absurd h he
theorem kclass (k : KForm) (l : List GNode) (h : kkidsOk k l = true) (hk : k.kids ≤ 6) (hl : 0 < l.length) : (kinsideN k.kids).1 = 1 ∨ (kinsideN k.kids).1 = 2 := by
  have hh : k.kids = 0 ∨ k.kids = 1 ∨ k.kids = 2 ∨ k.kids = 3 ∨ k.kids = 4 ∨ k.kids = 5 ∨ k.kids = 6 := by omega
  unfold kkidsOk at h
  rcases hh with e | e | e | e | e | e | e <;> rw [e] at h ⊢ <;> first | exact .inl rfl | exact .inr rfl | skip
  simp [kinsideN] at h
  rw [h] at hl; simp at hl
theorem pre_kids {c : GChunk} (h : preE c = .ok) : kkidsOk (kindOf c.ty) c.kids = true := by
  have := firstE_pre h (kidsE c (kindOf c.ty)) (by simp)
  unfold kidsE at this
  cases hk : kkidsOk (kindOf c.ty) c.kids with
  | true => rfl
  | false => rw [hk] at this; cases this
set_option maxRecDepth 100000 in
theorem firsts_c (c : GChunk) (hd : c.data.length ≤ 2 ^ 40) (hk : c.kids.length ≤ 2 ^ 40) (hh : kindHas c.ty = true) :
    PC Tryz.prog 83 [chunkA false c, kformA (kindOf c.ty), .sl false 1 [.fn (.func 84) [] [], .fn (.func 85) [] [], .fn (.func 86) [] [], .fn (.func 87) [] [], .fn (.func 88) [] []]] (erA (preE c)) := by
  have hb := kind_bd c.ty
  have hu := (hb.2.2.2.2.2.2.1 hh).1
  refine cfirst_c c (kindOf c.ty) [84, 85, 86, 87, 88] [flagsE c (kindOf c.ty), dataE c (kindOf c.ty), kidsE c (kindOf c.ty), countE c, valueE c] rfl (by decide) ?_ ?_
  · intro i hi
    match i, hi with
    | 0, _ => rfl
    | 1, _ => rfl
    | 2, _ => rfl
    | 3, _ => rfl
    | 4, _ => rfl
    | i + 5, h => simp at h; omega
  · intro i hi hok
    match i, hi with
    | 0, _ => exact cflags_c c _
    | 1, _ => exact cdata_c c _ hd (by omega) hu (by omega)
    | 2, _ => exact ckids_c c _ (by omega) hk
    | 3, _ => exact ccount_c c _ hd (data_ok (hok 1 (by omega))).1
    | 4, _ => exact cvalue_c c _ hd (data_ok (hok 1 (by omega))).2.1 (data_ok (hok 1 (by omega))).2.2
    | i + 5, h => simp at h; omega
theorem ccheck_c (c : GChunk) (ht : c.ty < 256) (hd : c.data.length ≤ 2 ^ 40) (hs : nSize c.kids ≤ 2 ^ 30) : PC Tryz.prog 49 [chunkA false c] (errA (checkC c)) := by
  have hkl := nSize_len c.kids
  have hb := kind_bd c.ty
  have hC : checkC c = checkC c := rfl
  conv at hC => rhs; unfold checkC
  generalize checkC c = C at hC
  have hst : startC c = startC c := rfl
  conv at hst => rhs; unfold startC
  have hki := kinside_c (kindOf c.ty).kids (by omega)
  have hcc : classOf c.ty = (kinsideN (kindOf c.ty).kids).1 := rfl
  generalize (kinsideN (kindOf c.ty).kids).2.1 = u1 at hki
  generalize (kinsideN (kindOf c.ty).kids).2.2 = u2 at hki
  rw [← hcc] at hki
  generalize hcl : classOf c.ty = cl at hki hC
  refine PC.of_bodyW (by simp only [push_cast]) Tryz.func49 rfl (by rw [Tryz.ntmps49]; simp) ?_
  refine AWp.regionW ?_
  refine AWp.regionM fun K1 hK1 => ?_
  refine ARun2.callM (kof_c c.ty ht) ?_
  refine ARun2.endm (hK1 _ ?_)
  refine AWp.regionM fun K2 hK2 => ?_
  refine ARun2.callM (hki) ?_
  refine ARun2.endm (hK2 _ ?_)
  refine AWp.regionW ?_
  refine AWp.seqK fun K3 hK3 => ?_
  refine AWp.block ?_
  refine AWp.regionW ?_
  refine AWp.condLM (fun c0 => ?_) (fun c0 => ?_)
  · skip
    have hh : kindHas c.ty = true := c0
    have hfs := firsts_c c hd (by omega) hh
    rw [if_pos hh] at hst
    have hN := preE_isN c
    refine AWp.regionN fun K4 hK4 => ?_
    refine ARun2.callM (hfs) ?_
    refine ARun2.endm (hK4 _ ?_)
    refine hK3 _ ?_
    refine AWp.seqK fun K5 hK5 => ?_
    refine AWp.regionM fun K6 hK6 => ?_
    refine ARun2.callM (code_c (preE c)) ?_
    refine ARun2.endm (hK6 _ ?_)
    refine AWp.regionW ?_
    refine AWp.condLM (fun c2 => ?_) (fun c2 => ?_)
    · skip
      have hne := (isN_code hN).1 c2
      rw [hst, if_pos hne] at hC
      refine AWp.regionW ?_
      refine AWp.ret ?_
      try simp only [thenQ, blockQ, noGo]
      refine bodyQ.m ?_
      clear hK6 K6 hK5 K5 hK4 K4 hK3 K3 hK2 K2 hK1 K1
      rw [hC, errA_code hne]
      first | done | exact Hand.go
    · skip
      have h0 : (preE c).codeOf.1 = 0 := by
        cases h : (preE c).codeOf.1 with
        | zero => rfl
        | succ n => have := (isN_code hN).2 (by rw [h]; simp); rw [c2] at this; cases this
      have hcls : 0 < c.kids.length → cl = 1 ∨ cl = 2 := fun h => hcl ▸ kclass _ _ (pre_kids ((isN_ok hN).1 h0)) (by omega) h
      rw [hst, h0, if_neg (by simp)] at hC
      refine AWp.skip ?_
      refine hK5 _ ?_
      refine AWp.seqK fun K7 hK7 => ?_
      refine AWp.regionW ?_
      refine AWp.block ?_
      refine AWp.loopK0 [1, 5, 48, 49] (fun (i : Nat) => [(50, nat i)]) (fun i => i ≤ c.kids.length ∧ checkL cl 1 (c.kids.take i) = 0) (fun i => c.kids.length - i) (0) ?_ ⟨Nat.zero_le _, rfl⟩ ?_
      · skip
        refine Le.m 2 ?_ ?_
        · first | with_reducible rfl | (simp only [push_cast, ↓reduceIte, Nat.reduceEqDiff, Nat.reduceLT, Nat.reduceAdd, Nat.reduceSub, Nat.reduceMul, Nat.reduceLeDiff, Nat.reducePow, Int.reduceLT, Int.reduceToNat, reduceCtorEq, Int.reduceNeg, Int.reduceEq, Nat.reduceBEq, Nat.reduceBNe, Int.reduceBEq, Int.reduceBNe, String.reduceEq]; first | done | rfl | (simp (disch := omega) only [w_nat, w_add, w_addl, w_addr, w_sub, w_subl, w_mul, w_mull, w_mulr, w_u32, w_u16, w_u8, w_u32a, N_zero]; first | done | rfl))
        · first | (simp only [push_cast, ↓reduceIte, Nat.reduceEqDiff, Nat.reduceLT, Nat.reduceAdd, Nat.reduceSub, Nat.reduceMul, Nat.reduceLeDiff, Nat.reducePow, Int.reduceLT, Int.reduceToNat, reduceCtorEq, Int.reduceNeg, Int.reduceEq, Nat.reduceBEq, Nat.reduceBNe, Int.reduceBEq, Int.reduceBNe, String.reduceEq]; first | done | rfl | (simp (disch := omega) only [w_nat, w_add, w_addl, w_addr, w_sub, w_subl, w_mul, w_mull, w_mulr, w_u32, w_u16, w_u8, w_u32a, N_zero]; first | done | rfl))
      · intro i hi K8 hK8
        refine AWp.regionW ?_
        refine AWp.seqK fun K9 hK9 => ?_
        refine AWp.condLM (fun c3 => ?_) (fun c3 => ?_)
        · skip
          have hil : i < c.kids.length := by simpa using c3
          have hm := List.getElem_mem hil
          have hcl2 := hcls (by omega)
          refine AWp.skip ?_
          refine hK9 _ ?_
          refine AWp.seqK fun K10 hK10 => ?_
          refine AWp.block ?_
          refine AWp.regionM fun K11 hK11 => ?_
          refine ARun2.indexM (i) (nodeA false c.kids[i]) ?_ ?_
          · exact nodesA_at _ _ _ hil
          refine ARun2.endm (hK11 _ ?_)
          refine AWp.regionM fun K12 hK12 => ?_
          refine ARun2.callM (check_c cl c.kids[i] hcl2 (by have := nSize_one hm; omega)) ?_
          refine ARun2.endm (hK12 _ ?_)
          refine AWp.regionW ?_
          refine AWp.condLM (fun c4 => ?_) (fun c4 => ?_)
          · skip
            have h5 : checkN cl 1 c.kids[i] ≠ 0 := by simpa using c4
            have hL := checkL_at _ _ c.kids i hil hi.2 h5
            rw [hL, if_pos h5] at hC
            refine AWp.regionW ?_
            refine AWp.ret ?_
            try simp only [thenQ, blockQ, noGo]
            refine bodyQ.m ?_
            clear hK12 K12 hK11 K11 hK10 K10 hK9 K9 hK8 K8 hK7 K7 hK6 K6 hK5 K5 hK4 K4 hK3 K3 hK2 K2 hK1 K1
            rw [hC]
            first | done | exact Hand.go
          · skip
            have h5 : checkN cl 1 c.kids[i] = 0 := by simpa using c4
            refine AWp.skip ?_
            refine hK10 _ ?_
            refine AWp.regionV ?_
            refine hK8 _ (i + 1) (⟨by omega, by rw [List.take_succ_eq_append_getElem hil, checkL_snoc, hi.2]; simpa using h5⟩) (by omega) ?_
            refine Le.m 2 ?_ ?_
            · first | with_reducible rfl | (simp only [push_cast, ↓reduceIte, Nat.reduceEqDiff, Nat.reduceLT, Nat.reduceAdd, Nat.reduceSub, Nat.reduceMul, Nat.reduceLeDiff, Nat.reducePow, Int.reduceLT, Int.reduceToNat, reduceCtorEq, Int.reduceNeg, Int.reduceEq, Nat.reduceBEq, Nat.reduceBNe, Int.reduceBEq, Int.reduceBNe, String.reduceEq]; first | done | rfl | (simp (disch := omega) only [w_nat, w_add, w_addl, w_addr, w_sub, w_subl, w_mul, w_mull, w_mulr, w_u32, w_u16, w_u8, w_u32a, N_zero]; first | done | rfl))
            · first | (simp only [push_cast, ↓reduceIte, Nat.reduceEqDiff, Nat.reduceLT, Nat.reduceAdd, Nat.reduceSub, Nat.reduceMul, Nat.reduceLeDiff, Nat.reducePow, Int.reduceLT, Int.reduceToNat, reduceCtorEq, Int.reduceNeg, Int.reduceEq, Nat.reduceBEq, Nat.reduceBNe, Int.reduceBEq, Int.reduceBNe, String.reduceEq]; first | done | rfl | (simp (disch := omega) only [w_nat, w_add, w_addl, w_addr, w_sub, w_subl, w_mul, w_mull, w_mulr, w_u32, w_u16, w_u8, w_u32a, N_zero]; first | done | rfl))
        · skip
          have hil : i = c.kids.length := by have := hi.1; simp at c3; omega
          have hL : checkL cl 1 c.kids = 0 := by have := hi.2; rwa [hil, List.take_length] at this
          subst hil
          rw [hL, if_neg (by simp)] at hC
          refine AWp.exit ?_
          try simp only [thenQ, blockQ, noGo, reduceIte, Nat.reduceEqDiff]
          refine hK7 _ ?_
          refine AWp.seqK fun K13 hK13 => ?_
          refine AWp.regionM fun K14 hK14 => ?_
          refine ARun2.callM (csize_c c hd hs) ?_
          refine ARun2.endm (hK14 _ ?_)
          refine AWp.condLM (fun c5 => ?_) (fun c5 => ?_)
          · skip
            rw [if_pos (by simpa using c5)] at hC
            refine AWp.regionW ?_
            refine AWp.ret ?_
            try simp only [thenQ, blockQ, noGo]
            refine bodyQ.m ?_
            clear hK14 K14 hK13 K13 hK9 K9 hK8 K8 hK7 K7 hK6 K6 hK5 K5 hK4 K4 hK3 K3 hK2 K2 hK1 K1
            rw [hC]
            first | done | exact Hand.go
          · skip
            rw [if_neg (by simpa using c5)] at hC
            refine AWp.skip ?_
            refine hK13 _ ?_
            refine AWp.regionW ?_
            refine AWp.ret ?_
            try simp only [thenQ, blockQ, noGo]
            refine bodyQ.m ?_
            clear hK14 K14 hK13 K13 hK9 K9 hK8 K8 hK7 K7 hK6 K6 hK5 K5 hK4 K4 hK3 K3 hK2 K2 hK1 K1
            rw [hC]
            first | done | exact Hand.go
  · skip
    have hh : ¬ kindHas c.ty = true := by rw [c0]; simp
    rw [if_neg hh] at hst
    refine AWp.regionW ?_
    refine AWp.condLM (fun c1 => ?_) (fun c1 => ?_)
    · skip
      have hp : 0 < c.kids.length := by simpa using c1
      rw [if_pos hp] at hst
      refine AWp.regionV ?_
      refine hK3 _ ?_
      refine AWp.seqK fun K15 hK15 => ?_
      refine AWp.regionM fun K16 hK16 => ?_
      refine ARun2.callM (code_c (.code 7)) ?_
      refine ARun2.endm (hK16 _ ?_)
      refine AWp.regionW ?_
      refine AWp.condT ?_ (by first | (simp only [push_cast, ↓reduceIte, Nat.reduceEqDiff, Nat.reduceLT, Nat.reduceAdd, Nat.reduceSub, Nat.reduceMul, Nat.reduceLeDiff, Nat.reducePow, Int.reduceLT, Int.reduceToNat, reduceCtorEq, Int.reduceNeg, Int.reduceEq, Nat.reduceBEq, Nat.reduceBNe, Int.reduceBEq, Int.reduceBNe, String.reduceEq]; done) | (simp only [push_cast, ↓reduceIte, Nat.reduceEqDiff, Nat.reduceLT, Nat.reduceAdd, Nat.reduceSub, Nat.reduceMul, Nat.reduceLeDiff, Nat.reducePow, Int.reduceLT, Int.reduceToNat, reduceCtorEq, Int.reduceNeg, Int.reduceEq, Nat.reduceBEq, Nat.reduceBNe, Int.reduceBEq, Int.reduceBNe, String.reduceEq]; rfl))
      refine AWp.regionW ?_
      refine AWp.ret ?_
      try simp only [thenQ, blockQ, noGo]
      refine bodyQ.m ?_
      clear hK16 K16 hK15 K15 hK3 K3 hK2 K2 hK1 K1
      rw [hC, hst, if_pos (by simp), errA_code (by simp)]; simp only [Er.codeOf]
      first | done | exact Hand.go
    · skip
      have hp : ¬ 0 < c.kids.length := by simpa using c1
      rw [if_neg hp] at hst
      refine AWp.skip ?_
      refine hK3 _ ?_
      refine AWp.seqK fun K17 hK17 => ?_
      refine AWp.regionM fun K18 hK18 => ?_
      refine ARun2.callM (code_c .ok) ?_
      refine ARun2.endm (hK18 _ ?_)
      refine AWp.regionW ?_
      refine AWp.condF ?_ (by first | (simp only [push_cast, ↓reduceIte, Nat.reduceEqDiff, Nat.reduceLT, Nat.reduceAdd, Nat.reduceSub, Nat.reduceMul, Nat.reduceLeDiff, Nat.reducePow, Int.reduceLT, Int.reduceToNat, reduceCtorEq, Int.reduceNeg, Int.reduceEq, Nat.reduceBEq, Nat.reduceBNe, Int.reduceBEq, Int.reduceBNe, String.reduceEq]; done) | (simp only [push_cast, ↓reduceIte, Nat.reduceEqDiff, Nat.reduceLT, Nat.reduceAdd, Nat.reduceSub, Nat.reduceMul, Nat.reduceLeDiff, Nat.reducePow, Int.reduceLT, Int.reduceToNat, reduceCtorEq, Int.reduceNeg, Int.reduceEq, Nat.reduceBEq, Nat.reduceBNe, Int.reduceBEq, Int.reduceBNe, String.reduceEq]; rfl))
      refine AWp.skip ?_
      refine hK17 _ ?_
      refine AWp.seqK fun K19 hK19 => ?_
      refine AWp.regionW ?_
      refine AWp.block ?_
      have hcls : 0 < c.kids.length → cl = 1 ∨ cl = 2 := fun h => absurd h hp
      rw [hst, if_neg (by simp)] at hC
      refine AWp.loopK0 [1, 5, 48, 49] (fun (i : Nat) => [(50, nat i)]) (fun i => i ≤ c.kids.length ∧ checkL cl 1 (c.kids.take i) = 0) (fun i => c.kids.length - i) (0) ?_ ⟨Nat.zero_le _, rfl⟩ ?_
      · skip
        refine Le.m 2 ?_ ?_
        · first | with_reducible rfl | (simp only [push_cast, ↓reduceIte, Nat.reduceEqDiff, Nat.reduceLT, Nat.reduceAdd, Nat.reduceSub, Nat.reduceMul, Nat.reduceLeDiff, Nat.reducePow, Int.reduceLT, Int.reduceToNat, reduceCtorEq, Int.reduceNeg, Int.reduceEq, Nat.reduceBEq, Nat.reduceBNe, Int.reduceBEq, Int.reduceBNe, String.reduceEq]; first | done | rfl | (simp (disch := omega) only [w_nat, w_add, w_addl, w_addr, w_sub, w_subl, w_mul, w_mull, w_mulr, w_u32, w_u16, w_u8, w_u32a, N_zero]; first | done | rfl))
        · first | (simp only [push_cast, ↓reduceIte, Nat.reduceEqDiff, Nat.reduceLT, Nat.reduceAdd, Nat.reduceSub, Nat.reduceMul, Nat.reduceLeDiff, Nat.reducePow, Int.reduceLT, Int.reduceToNat, reduceCtorEq, Int.reduceNeg, Int.reduceEq, Nat.reduceBEq, Nat.reduceBNe, Int.reduceBEq, Int.reduceBNe, String.reduceEq]; first | done | rfl | (simp (disch := omega) only [w_nat, w_add, w_addl, w_addr, w_sub, w_subl, w_mul, w_mull, w_mulr, w_u32, w_u16, w_u8, w_u32a, N_zero]; first | done | rfl))
      · intro i hi K20 hK20
        refine AWp.regionW ?_
        refine AWp.seqK fun K21 hK21 => ?_
        refine AWp.condLM (fun c3 => ?_) (fun c3 => ?_)
        · skip
          have hil : i < c.kids.length := by simpa using c3
          have hm := List.getElem_mem hil
          have hcl2 := hcls (by omega)
          exfalso; omega
        · skip
          have hil : i = c.kids.length := by have := hi.1; simp at c3; omega
          have hL : checkL cl 1 c.kids = 0 := by have := hi.2; rwa [hil, List.take_length] at this
          subst hil
          rw [hL, if_neg (by simp)] at hC
          refine AWp.exit ?_
          try simp only [thenQ, blockQ, noGo, reduceIte, Nat.reduceEqDiff]
          refine hK19 _ ?_
          refine AWp.seqK fun K22 hK22 => ?_
          refine AWp.regionM fun K23 hK23 => ?_
          refine ARun2.callM (csize_c c hd hs) ?_
          refine ARun2.endm (hK23 _ ?_)
          refine AWp.condLM (fun c5 => ?_) (fun c5 => ?_)
          · skip
            rw [if_pos (by simpa using c5)] at hC
            refine AWp.regionW ?_
            refine AWp.ret ?_
            try simp only [thenQ, blockQ, noGo]
            refine bodyQ.m ?_
            clear hK23 K23 hK22 K22 hK21 K21 hK20 K20 hK19 K19 hK18 K18 hK17 K17 hK3 K3 hK2 K2 hK1 K1
            rw [hC]
            first | done | exact Hand.go
          · skip
            rw [if_neg (by simpa using c5)] at hC
            refine AWp.skip ?_
            refine hK22 _ ?_
            refine AWp.regionW ?_
            refine AWp.ret ?_
            try simp only [thenQ, blockQ, noGo]
            refine bodyQ.m ?_
            clear hK23 K23 hK22 K22 hK21 K21 hK20 K20 hK19 K19 hK18 K18 hK17 K17 hK3 K3 hK2 K2 hK1 K1
            rw [hC]
            first | done | exact Hand.go
@[push_cast] theorem chunkA_hand (ids : List Nat) (b : Bool) (c : GChunk) : (chunkA b c).hand ids = chunkA false c := by
  simp only [chunkA, AV.hand, AV.handL, bys_hand, nodesA_hand]
theorem cclone_f (c : GChunk) (hd : c.data.length ≤ 2 ^ 40) (hs : szs c.kids ≤ 2 ^ 39) : PC Tryz.prog 50 [chunkA false c] (chunkA true c) := by
  refine PC.of_bodyK (by simp only [push_cast]) Tryz.func50 rfl (by rw [Tryz.ntmps50]; simp) ?_
  refine AWp.regionW ?_
  refine AWp.regionM fun K1 hK1 => ?_
  refine ARun2.callM (nclone_f (.mk 0 [] c.kids) (by simp only [GNode.sz]; simp; omega)) ?_
  refine ARun2.endm (hK1 _ ?_)
  refine AWp.drS [[(1, none)], [(9, some 0)], [(1, none)], [(11, some 2)], [(1, none)], [(13, some 4)], [(14, some 5)], [(3, none)], [(10, some 1), (12, some 3), (15, some 6), (16, some 7)]] fun G hG => ?_
  refine Dr.sim ?_
  try simp only [List.cons_append, List.nil_append]
  refine Dr.sim ?_
  try simp only [List.cons_append, List.nil_append]
  refine Dr.sim ?_
  try simp only [List.cons_append, List.nil_append]
  refine Dr.sim ?_
  try simp only [List.cons_append, List.nil_append]
  refine Dr.sim ?_
  try simp only [List.cons_append, List.nil_append]
  refine Dr.sim ?_
  try simp only [List.cons_append, List.nil_append]
  refine Dr.call (clone_c c.data hd) ?_
  try simp only [List.cons_append, List.nil_append]
  refine Dr.sim ?_
  try simp only [List.cons_append, List.nil_append]
  refine Dr.sim ?_
  try simp only [List.cons_append, List.nil_append]
  refine Dr.finM (n := 9) [(17, 8)] [2] hG YtfghmfjbbjapgaaGreatDoor.Facts.mixed fun KD hKD => ?_
  refine ARun2.endm (hKD _ ?_); clear hKD KD hG G
  refine AWp.ret ?_
  try simp only [thenQ, blockQ, noGo]
  refine bodyQ.m ?_
  clear hK1 K1
  first | done | exact Wk.go
end Go.Proofs.YtfghmfjbbjapgaaGreatDoor.C
/- The reference's chunks: wharfref11, wharfref12.Check. -/
set_option linter.unusedVariables false
set_option linter.unusedSimpArgs false
namespace Go.Proofs.YtfghmfjbbjapgaaGreatDoor.C
open Go.Abs
set_option maxRecDepth 100000 in
set_option maxHeartbeats 1000000 in
theorem table11_c : PC Tryz.prog 98 [] (.sl false 7 (kformsA kindForms)) := by
  refine PC.of_bodyW (by simp only [push_cast]) Tryz.func98 rfl (by rw [Tryz.ntmps98]; simp) ?_
  refine AWp.regionW ?_
  refine AWp.regionW ?_
  refine AWp.regionW ?_
  refine AWp.ret ?_
  try simp only [thenQ, blockQ, noGo]
  refine bodyQ.m ?_
  simp only [kformsA, kindForms, List.map_cons, List.map_nil]
  first | done | exact Hand.go
theorem of11_c (t : Nat) : PC Tryz.prog 52 [u8 t] (.tup [kformA (kindOf t), bool (kindHas t)]) := by
  refine PC.of_bodyW (by simp only [push_cast]) Tryz.func52 rfl (by rw [Tryz.ntmps52]; simp) ?_
  refine AWp.regionW ?_
  refine AWp.regionM fun K1 hK1 => ?_
  refine ARun2.callM (table11_c) ?_
  refine ARun2.endm (hK1 _ ?_)
  refine AWp.seqK fun K2 hK2 => ?_
  refine AWp.regionW ?_
  refine AWp.block ?_
  refine AWp.loopK0 [0, 2, 4] (fun (i : Nat) => [(5, nat i)]) (fun i => i ≤ 23 ∧ ∀ m, m < i → (kf m).ty ≠ t) (fun i => 23 - i) (0) ?_ ⟨Nat.zero_le _, fun m h => by omega⟩ ?_
  · skip
    refine Le.m 1 ?_ ?_
    · first | with_reducible rfl | (simp only [push_cast, ↓reduceIte, Nat.reduceEqDiff, Nat.reduceLT, Nat.reduceAdd, Nat.reduceSub, Nat.reduceMul, Nat.reduceLeDiff, Nat.reducePow, Int.reduceLT, Int.reduceToNat, reduceCtorEq, Int.reduceNeg, Int.reduceEq, Nat.reduceBEq, Nat.reduceBNe, Int.reduceBEq, Int.reduceBNe, String.reduceEq]; first | done | rfl | (simp (disch := omega) only [w_nat, w_add, w_addl, w_addr, w_sub, w_subl, w_mul, w_mull, w_mulr, w_u32, w_u16, w_u8, w_u32a, N_zero]; first | done | rfl))
    · first | (simp only [push_cast, ↓reduceIte, Nat.reduceEqDiff, Nat.reduceLT, Nat.reduceAdd, Nat.reduceSub, Nat.reduceMul, Nat.reduceLeDiff, Nat.reducePow, Int.reduceLT, Int.reduceToNat, reduceCtorEq, Int.reduceNeg, Int.reduceEq, Nat.reduceBEq, Nat.reduceBNe, Int.reduceBEq, Int.reduceBNe, String.reduceEq]; first | done | rfl | (simp (disch := omega) only [w_nat, w_add, w_addl, w_addr, w_sub, w_subl, w_mul, w_mull, w_mulr, w_u32, w_u16, w_u8, w_u32a, N_zero]; first | done | rfl))
  · intro i hi K3 hK3
    refine AWp.seqK fun K4 hK4 => ?_
    refine AWp.regionW ?_
    refine AWp.condLM (fun c0 => ?_) (fun c0 => ?_)
    · skip
      have hil : i < 23 := by simpa using c0
      refine AWp.skip ?_
      refine hK4 _ ?_
      refine AWp.seqK fun K5 hK5 => ?_
      refine AWp.block ?_
      refine AWp.regionM fun K6 hK6 => ?_
      refine ARun2.indexM (i) (kformA (kf i)) ?_ ?_
      · exact kformsA_kf i hil
      refine ARun2.endm (hK6 _ ?_)
      refine AWp.condLM (fun c1 => ?_) (fun c1 => ?_)
      · skip
        have h1 : (kf i).ty = t := by simpa using c1
        obtain ⟨e1, e2⟩ := kind_at t i hil h1
        refine AWp.regionM fun K7 hK7 => ?_
        refine ARun2.indexM (i) (kformA (kf i)) ?_ ?_
        · exact kformsA_kf i hil
        refine ARun2.endm (hK7 _ ?_)
        refine AWp.ret ?_
        try simp only [thenQ, blockQ, noGo]
        refine bodyQ.m ?_
        clear hK7 K7 hK6 K6 hK5 K5 hK4 K4 hK3 K3 hK2 K2 hK1 K1
        rw [e1, e2]
        first | done | exact Hand.go
      · skip
        have h1 : (kf i).ty ≠ t := by simpa using c1
        refine AWp.skip ?_
        refine hK5 _ ?_
        refine AWp.regionV ?_
        refine hK3 _ (i + 1) (⟨hil, fun m hm => (Nat.lt_or_ge m i).elim (hi.2 m) (fun h => (show i = m by omega) ▸ h1)⟩) (by omega) ?_
        refine Le.m 1 ?_ ?_
        · first | with_reducible rfl | (simp only [push_cast, ↓reduceIte, Nat.reduceEqDiff, Nat.reduceLT, Nat.reduceAdd, Nat.reduceSub, Nat.reduceMul, Nat.reduceLeDiff, Nat.reducePow, Int.reduceLT, Int.reduceToNat, reduceCtorEq, Int.reduceNeg, Int.reduceEq, Nat.reduceBEq, Nat.reduceBNe, Int.reduceBEq, Int.reduceBNe, String.reduceEq]; first | done | rfl | (simp (disch := omega) only [w_nat, w_add, w_addl, w_addr, w_sub, w_subl, w_mul, w_mull, w_mulr, w_u32, w_u16, w_u8, w_u32a, N_zero]; first | done | rfl))
        · first | (simp only [push_cast, ↓reduceIte, Nat.reduceEqDiff, Nat.reduceLT, Nat.reduceAdd, Nat.reduceSub, Nat.reduceMul, Nat.reduceLeDiff, Nat.reducePow, Int.reduceLT, Int.reduceToNat, reduceCtorEq, Int.reduceNeg, Int.reduceEq, Nat.reduceBEq, Nat.reduceBNe, Int.reduceBEq, Int.reduceBNe, String.reduceEq]; first | done | rfl | (simp (disch := omega) only [w_nat, w_add, w_addl, w_addr, w_sub, w_subl, w_mul, w_mull, w_mulr, w_u32, w_u16, w_u8, w_u32a, N_zero]; first | done | rfl))
    · skip
      have hil : 23 ≤ i := by simpa using c0
      obtain ⟨e1, e2⟩ := kind_none t fun m hm => hi.2 m (by omega)
      refine AWp.exit ?_
      try simp only [thenQ, blockQ, noGo, reduceIte, Nat.reduceEqDiff]
      refine hK2 _ ?_
      refine AWp.regionW ?_
      refine AWp.ret ?_
      try simp only [thenQ, blockQ, noGo]
      refine bodyQ.m ?_
      clear hK4 K4 hK3 K3 hK2 K2 hK1 K1
      rw [e1, e2]; simp only [zeroK]
      first | done | exact Hand.go
theorem fits11_c (f : KForm) (n : Nat) (hn : n < 2 ^ 40) (hl : f.least < 2 ^ 40) (hm : f.most < 2 ^ 40) (hu : 0 < f.unit) (hu2 : f.unit < 2 ^ 40) : PC Tryz.prog 53 [kformA f, nat n] (bool (kfitsN f n)) := by
  refine PC.of_bodyW (by simp only [push_cast]) Tryz.func53 rfl (by rw [Tryz.ntmps53]; simp) ?_
  refine AWp.regionW ?_
  refine AWp.seqK fun K1 hK1 => ?_
  refine AWp.regionW ?_
  refine AWp.block ?_
  refine AWp.loopK [1, 2] (fun (i : Nat) => [(5, nat (f.least + i * f.unit))]) (fun i => [.box 81 [u8 f.ty, .val (.string f.name), u8 f.mask, nat f.least, nat f.most, nat f.unit, nat f.kids]]) (fun i => ∀ j, j < i → f.least + j * f.unit ≠ n) (fun i => f.most + 1 - (f.least + i * f.unit)) (0) ?_ (fun j h => by omega) ?_
  · skip
    refine Le.m 1 ?_ ?_
    · first | with_reducible rfl | (simp only [push_cast, ↓reduceIte, Nat.reduceEqDiff, Nat.reduceLT, Nat.reduceAdd, Nat.reduceSub, Nat.reduceMul, Nat.reduceLeDiff, Nat.reducePow, Int.reduceLT, Int.reduceToNat, reduceCtorEq, Int.reduceNeg, Int.reduceEq, Nat.reduceBEq, Nat.reduceBNe, Int.reduceBEq, Int.reduceBNe, String.reduceEq]; first | done | rfl | (simp (disch := omega) only [w_nat, w_add, w_addl, w_addr, w_sub, w_subl, w_mul, w_mull, w_mulr, w_u32, w_u16, w_u8, w_u32a, N_zero]; first | done | rfl))
    · simp only [push_cast, ↓reduceIte, Nat.reduceEqDiff, Nat.reduceLT, Nat.reduceAdd, Nat.reduceSub, Nat.reduceMul, Nat.reduceLeDiff, Nat.reducePow, Int.reduceLT, Int.reduceToNat, reduceCtorEq, Int.reduceNeg, Int.reduceEq, Nat.reduceBEq, Nat.reduceBNe, Int.reduceBEq, Int.reduceBNe, String.reduceEq]
      try simp (disch := omega) only [w_nat, w_add, w_addl, w_addr, w_sub, w_subl, w_mul, w_mull, w_mulr, w_u32, w_u16, w_u8, w_u32a, N_zero]
      simp only [Nat.zero_mul, Nat.add_zero]
  · intro i hi K2 hK2
    refine AWp.seqK fun K3 hK3 => ?_
    refine AWp.regionW ?_
    refine AWp.condLM (fun c0 => ?_) (fun c0 => ?_)
    · skip
      have h0 : f.least + i * f.unit ≤ f.most := by simpa using c0
      have hs : (i + 1) * f.unit = i * f.unit + f.unit := by rw [Nat.add_mul, Nat.one_mul]
      refine AWp.skip ?_
      refine hK3 _ ?_
      refine AWp.seqK fun K4 hK4 => ?_
      refine AWp.block ?_
      refine AWp.regionW ?_
      refine AWp.condLM (fun c1 => ?_) (fun c1 => ?_)
      · skip
        have h1 : f.least + i * f.unit = n := by simpa using c1
        have hf : kfitsN f n = true := by
          have e : n - f.least = i * f.unit := by omega
          unfold kfitsN
          rw [e, Nat.mul_mod_left]
          simp
          omega
        refine AWp.regionW ?_
        refine AWp.ret ?_
        try simp only [thenQ, blockQ, noGo]
        refine bodyQ.m ?_
        clear hK4 K4 hK3 K3 hK2 K2 hK1 K1
        rw [hf]
        first | done | exact Hand.go
      · skip
        have h1 : f.least + i * f.unit ≠ n := by simpa using c1
        refine AWp.skip ?_
        refine hK4 _ ?_
        refine AWp.regionV ?_
        refine hK2 _ (i + 1) ((fun j hj => (Nat.lt_or_ge j i).elim (fun h => hi j h) (fun h => (show j = i by omega) ▸ h1))) (by omega) ?_
        refine Le.m 1 ?_ ?_
        · first | with_reducible rfl | (simp only [push_cast, ↓reduceIte, Nat.reduceEqDiff, Nat.reduceLT, Nat.reduceAdd, Nat.reduceSub, Nat.reduceMul, Nat.reduceLeDiff, Nat.reducePow, Int.reduceLT, Int.reduceToNat, reduceCtorEq, Int.reduceNeg, Int.reduceEq, Nat.reduceBEq, Nat.reduceBNe, Int.reduceBEq, Int.reduceBNe, String.reduceEq]; first | done | rfl | (simp (disch := omega) only [w_nat, w_add, w_addl, w_addr, w_sub, w_subl, w_mul, w_mull, w_mulr, w_u32, w_u16, w_u8, w_u32a, N_zero]; first | done | rfl))
        · simp only [push_cast, ↓reduceIte, Nat.reduceEqDiff, Nat.reduceLT, Nat.reduceAdd, Nat.reduceSub, Nat.reduceMul, Nat.reduceLeDiff, Nat.reducePow, Int.reduceLT, Int.reduceToNat, reduceCtorEq, Int.reduceNeg, Int.reduceEq, Nat.reduceBEq, Nat.reduceBNe, Int.reduceBEq, Int.reduceBNe, String.reduceEq]
          try simp (disch := omega) only [w_nat, w_add, w_addl, w_addr, w_sub, w_subl, w_mul, w_mull, w_mulr, w_u32, w_u16, w_u8, w_u32a, N_zero]
          rw [hs, ← Nat.add_assoc]
    · skip
      have h0 : f.most < f.least + i * f.unit := by simpa using c0
      have hf : kfitsN f n = false := by
        unfold kfitsN
        by_cases h2 : f.least ≤ n ∧ n ≤ f.most
        · have h3 : (n - f.least) % f.unit ≠ 0 := by
            intro h3
            obtain ⟨j, hj⟩ := Nat.dvd_of_mod_eq_zero h3
            rw [Nat.mul_comm] at hj
            have hlt : j < i := by
              rcases Nat.lt_or_ge j i with h | h
              · exact h
              · have := Nat.mul_le_mul_right f.unit h
                omega
            exact hi j hlt (by omega)
          simp [h3]
        · rcases Nat.lt_or_ge n f.least with h4 | h4
          · simp; omega
          · simp; omega
      refine AWp.exit ?_
      try simp only [thenQ, blockQ, noGo, reduceIte, Nat.reduceEqDiff]
      refine hK1 _ ?_
      refine AWp.regionW ?_
      refine AWp.ret ?_
      try simp only [thenQ, blockQ, noGo]
      refine bodyQ.m ?_
      clear hK3 K3 hK2 K2 hK1 K1
      rw [hf]
      first | done | exact Hand.go
theorem class11_c (k : Nat) (hk : k ≤ 6) : PC Tryz.prog 58 [nat k] (nat (kinsideN k).1) := by
  have hq : (kinsideN k).1 = if k = 3 ∨ k = 4 then 2 else if 1 ≤ k then 1 else 0 := by
    have h : k = 0 ∨ k = 1 ∨ k = 2 ∨ k = 3 ∨ k = 4 ∨ k = 5 ∨ k = 6 := by omega
    rcases h with rfl | rfl | rfl | rfl | rfl | rfl | rfl <;> rfl
  refine PC.of_bodyW (by simp only [push_cast]) Tryz.func58 rfl (by rw [Tryz.ntmps58]; simp) ?_
  refine AWp.regionW ?_
  refine AWp.seqK fun K1 hK1 => ?_
  refine AWp.regionA fun K2 hK2 => ?_
  refine ARun.segm 3 fun KS hKS => ?_
  refine ARun2.endm (hKS _ ?_); clear hKS KS
  apply ARun.grpM 2 2 false 7 [0, 5]
  · intro g2 KG hKG
    refine ARun2.gom ?_
    exact ARun2.endm (hKG _ Le.grpM)
  refine ARun2.gom ?_
  refine ARun2.endm (hK2 _ ?_)
  refine AWp.condLM (fun c0 => ?_) (fun c0 => ?_)
  · skip
    refine AWp.regionW ?_
    refine AWp.ret ?_
    try simp only [thenQ, blockQ, noGo]
    refine bodyQ.m ?_
    clear hK2 K2 hK1 K1
    rw [hq, if_pos (by simpa using c0)]
    first | done | exact Hand.go
  · skip
    refine AWp.skip ?_
    refine hK1 _ ?_
    refine AWp.seqK fun K3 hK3 => ?_
    refine AWp.regionA fun K4 hK4 => ?_
    refine ARun.segm 3 fun KS hKS => ?_
    refine ARun2.endm (hKS _ ?_); clear hKS KS
    apply ARun.grpM 2 2 true 13 [11]
    · intro g2 KG hKG
      refine ARun2.gom ?_
      exact ARun2.endm (hKG _ Le.grpM)
    refine ARun2.gom ?_
    refine ARun2.endm (hK4 _ ?_)
    refine AWp.condLM (fun c1 => ?_) (fun c1 => ?_)
    · skip
      refine AWp.regionW ?_
      refine AWp.ret ?_
      try simp only [thenQ, blockQ, noGo]
      refine bodyQ.m ?_
      clear hK4 K4 hK3 K3 hK2 K2 hK1 K1
      rw [hq, if_neg (by simpa using c0), if_pos (by simp at c1; omega)]
      first | done | exact Hand.go
    · skip
      refine AWp.skip ?_
      refine hK3 _ ?_
      refine AWp.regionW ?_
      refine AWp.ret ?_
      try simp only [thenQ, blockQ, noGo]
      refine bodyQ.m ?_
      clear hK4 K4 hK3 K3 hK2 K2 hK1 K1
      rw [hq, if_neg (by simpa using c0), if_neg (by simp at c1; omega)]
      first | done | exact Hand.go
theorem kk_ref (q n y : Nat) (hq : q ≤ 6) : (decide ((kinsideN q).2.1 ≤ n) && decide (n ≤ (kinsideN q).2.2) && (q != 1 || y == 1) && (q != 6 || (y == 5 || y == 6))) =
    if q = 0 then n == 0 else if q = 1 then (n == 1 && y == 1) else if q = 4 then (decide (1 ≤ n) && decide (n ≤ 16384)) else if q = 5 then (n == 1 || n == 2) else if q = 6 then (decide (2 ≤ n) && decide (n ≤ 16384) && (y == 5 || y == 6)) else decide (n ≤ 16384) := by
  have h : q = 0 ∨ q = 1 ∨ q = 2 ∨ q = 3 ∨ q = 4 ∨ q = 5 ∨ q = 6 := by omega
  rcases h with rfl | rfl | rfl | rfl | rfl | rfl | rfl <;> rw [Bool.eq_iff_iff] <;> simp [kinsideN] <;> omega
theorem wanted12_c (k : KForm) (l : List GNode) (hk : k.kids ≤ 6) (hl : l.length ≤ 2 ^ 40) : PC Tryz.prog 54 [kformA k, .sl false 3 (nodesA false l)] (bool (kkidsOk k l)) := by
  have hq : kkidsOk k l = _ := kk_ref k.kids l.length (l.headD default).ty hk
  refine PC.of_bodyW (by simp only [push_cast]) Tryz.func54 rfl (by rw [Tryz.ntmps54]; simp) ?_
  refine AWp.regionW ?_
  refine AWp.regionW ?_
  refine AWp.seqK fun K1 hK1 => ?_
  refine AWp.regionW ?_
  refine AWp.block ?_
  refine AWp.regionW ?_
  refine AWp.condLM (fun c0 => ?_) (fun c0 => ?_)
  · skip
    have h0 : k.kids = 0 := by simpa using c0
    rw [if_pos h0] at hq
    refine AWp.regionW ?_
    refine AWp.ret ?_
    try simp only [thenQ, blockQ, noGo]
    refine bodyQ.m ?_
    clear hK1 K1
    rw [hq]
    first | done | exact Hand.go
  · skip
    have h0 : ¬ k.kids = 0 := by simpa using c0
    rw [if_neg h0] at hq
    refine AWp.regionW ?_
    refine AWp.condLM (fun c1 => ?_) (fun c1 => ?_)
    · skip
      rw [if_pos (by simpa using c1)] at hq
      refine AWp.regionA fun K2 hK2 => ?_
      refine ARun.segm 3 fun KS hKS => ?_
      refine ARun2.endm (hKS _ ?_); clear hKS KS
      apply ARun.grpM 5 2 true 23 [18]
      · intro g2 KG hKG
        have hn : 0 < l.length := by simp at g2; omega
        refine ARun2.gom ?_
        refine ARun2.indexM (0) (nodeA false (l.headD default)) ?_ ?_
        · exact nodesA_head false l hn
        exact ARun2.endm (hKG _ Le.grpM)
      refine ARun2.gom ?_
      refine ARun2.endm (hK2 _ ?_)
      refine AWp.ret ?_
      try simp only [thenQ, blockQ, noGo]
      refine bodyQ.m ?_
      clear hK2 K2 hK1 K1
      rw [hq]
      first | done | exact Hand.go
    · skip
      rw [if_neg (by simpa using c1)] at hq
      refine AWp.regionW ?_
      refine AWp.condLM (fun c2 => ?_) (fun c2 => ?_)
      · skip
        rw [if_pos (by simpa using c2)] at hq
        refine AWp.regionA fun K3 hK3 => ?_
        refine ARun.segm 3 fun KS hKS => ?_
        refine ARun2.endm (hKS _ ?_); clear hKS KS
        apply ARun.grpM 2 2 true 31 [29]
        · intro g2 KG hKG
          refine ARun2.gom ?_
          exact ARun2.endm (hKG _ Le.grpM)
        refine ARun2.gom ?_
        refine ARun2.endm (hK3 _ ?_)
        refine AWp.ret ?_
        try simp only [thenQ, blockQ, noGo]
        refine bodyQ.m ?_
        clear hK3 K3 hK1 K1
        rw [hq]
        first | done | exact Hand.go
      · skip
        rw [if_neg (by simpa using c2)] at hq
        refine AWp.regionW ?_
        refine AWp.condLM (fun c3 => ?_) (fun c3 => ?_)
        · skip
          rw [if_pos (by simpa using c3)] at hq
          refine AWp.regionA fun K4 hK4 => ?_
          refine ARun.segm 3 fun KS hKS => ?_
          refine ARun2.endm (hKS _ ?_); clear hKS KS
          apply ARun.grpM 2 2 false 39 [37]
          · intro g2 KG hKG
            refine ARun2.gom ?_
            exact ARun2.endm (hKG _ Le.grpM)
          refine ARun2.gom ?_
          refine ARun2.endm (hK4 _ ?_)
          refine AWp.ret ?_
          try simp only [thenQ, blockQ, noGo]
          refine bodyQ.m ?_
          clear hK4 K4 hK1 K1
          rw [hq]
          first | done | exact Hand.go
        · skip
          rw [if_neg (by simpa using c3)] at hq
          refine AWp.regionW ?_
          refine AWp.condLM (fun c4 => ?_) (fun c4 => ?_)
          · skip
            rw [if_pos (by simpa using c4)] at hq
            refine AWp.regionA fun K5 hK5 => ?_
            refine ARun.segm 3 fun KS hKS => ?_
            refine ARun2.endm (hKS _ ?_); clear hKS KS
            apply ARun.grpM 2 2 true 47 [1, 45]
            · intro g2 KG hKG
              refine ARun2.gom ?_
              exact ARun2.endm (hKG _ Le.grpM)
            refine ARun.segm 2 fun KS hKS => ?_
            refine ARun2.endm (hKS _ ?_); clear hKS KS
            apply ARun.grpM 12 6 true 61 [49]
            · intro g6 KG hKG
              have hn : 0 < l.length := by simp at g6; omega
              refine ARun.segm 6 fun KS hKS => ?_
              refine ARun2.indexM (0) (nodeA false (l.headD default)) ?_ ?_
              · exact nodesA_head false l hn
              refine ARun2.endm (hKS _ ?_); clear hKS KS
              apply ARun.grpM 5 12 false 60 [49, 55]
              · intro g12 KG hKG
                refine ARun2.gom ?_
                refine ARun2.indexM (0) (nodeA false (l.headD default)) ?_ ?_
                · exact nodesA_head false l hn
                exact ARun2.endm (hKG _ Le.grpM)
              refine ARun2.gom ?_
              exact ARun2.endm (hKG _ Le.grpM)
            refine ARun2.gom ?_
            refine ARun2.endm (hK5 _ ?_)
            refine AWp.ret ?_
            try simp only [thenQ, blockQ, noGo]
            refine bodyQ.m ?_
            clear hK5 K5 hK1 K1
            rw [hq]
            first | done | exact Hand.go
          · skip
            rw [if_neg (by simpa using c4)] at hq
            refine AWp.skip ?_
            refine hK1 _ ?_
            refine AWp.regionW ?_
            refine AWp.ret ?_
            try simp only [thenQ, blockQ, noGo]
            refine bodyQ.m ?_
            clear hK1 K1
            rw [hq]
            first | done | exact Hand.go
theorem number12_c (d : List UInt8) (i : Nat) (hd : d.length ≤ 2 ^ 40) (hi : i + 2 ≤ d.length) : PC Tryz.prog 99 [.sl false 1 (bys d), nat i] (nat (peekN 2 d i)) := by
  have hp := peek_bytes d i hi
  have h1 := (d[i]'(by omega)).toNat_lt
  have h2 := (d[i + 1]'(by omega)).toNat_lt
  refine PC.of_bodyW (by simp only [push_cast]) Tryz.func99 rfl (by rw [Tryz.ntmps99]; simp) ?_
  refine AWp.regionW ?_
  refine AWp.drS [[(0, none)], [(1, none)], [(5, some 0), (6, some 1)], [(7, some 2)], [(8, some 3)], [(9, some 4)], [(0, none)], [(1, none)], [(12, some 7)], [(11, some 6), (13, some 8)], [(14, some 9)], [(15, some 10)], [(10, some 5), (16, some 11)], [(17, some 12)]] fun G hG => ?_
  refine Dr.sim ?_
  try simp only [List.cons_append, List.nil_append]
  refine Dr.sim ?_
  try simp only [List.cons_append, List.nil_append]
  refine Dr.idx (i) (.val (.int .u8 (N (d[i]'(by omega)).toNat))) ?_ ?_
  · exact bys_at _ _ (by omega)
  try simp only [List.cons_append, List.nil_append]
  refine Dr.sim ?_
  try simp only [List.cons_append, List.nil_append]
  refine Dr.sim ?_
  try simp only [List.cons_append, List.nil_append]
  refine Dr.sim ?_
  try simp only [List.cons_append, List.nil_append]
  refine Dr.sim ?_
  try simp only [List.cons_append, List.nil_append]
  refine Dr.sim ?_
  try simp only [List.cons_append, List.nil_append]
  refine Dr.sim ?_
  try simp only [List.cons_append, List.nil_append]
  refine Dr.idx (i + 1) (.val (.int .u8 (N (d[i + 1]'(by omega)).toNat))) ?_ ?_
  · exact bys_at _ _ (by omega)
  try simp only [List.cons_append, List.nil_append]
  refine Dr.sim ?_
  try simp only [List.cons_append, List.nil_append]
  refine Dr.sim ?_
  try simp only [List.cons_append, List.nil_append]
  refine Dr.sim ?_
  try simp only [List.cons_append, List.nil_append]
  refine Dr.sim ?_
  try simp only [List.cons_append, List.nil_append]
  refine Dr.finM (n := 14) [(4, 13)] [] hG YtfghmfjbbjapgaaGreatDoor.Facts.mixed fun KD hKD => ?_
  refine ARun2.endm (hKD _ ?_); clear hKD KD hG G
  refine AWp.ret ?_
  try simp only [thenQ, blockQ, noGo]
  refine bodyQ.m ?_
  rw [hp, Nat.mul_comm]
  first | done | exact Hand.go
theorem counted12_c (c : GChunk) (hd : c.data.length ≤ 2 ^ 40) (h : c.ty = 3 → 12 ≤ c.data.length ∧ (c.data.length - 12) % 4 = 0) : PC Tryz.prog 55 [u8 c.ty, .sl false 1 (bys c.data)] (bool (!sackBad c)) := by
  have p1 := peek2_lt c.data 8
  have p2 := peek2_lt c.data 10
  have hs : (c.ty != 3 || 4 * (peekN 2 c.data 8 + peekN 2 c.data 10) == c.data.length - 12) = !sackBad c := by
    unfold sackBad
    by_cases h3 : c.ty = 3
    · have := h h3
      rw [Bool.eq_iff_iff]; simp [h3]; omega
    · have e : (c.ty == 3) = false := by simpa using h3
      simp [bne, e]
  refine PC.of_bodyW (by simp only [push_cast]) Tryz.func55 rfl (by rw [Tryz.ntmps55]; simp) ?_
  refine AWp.regionW ?_
  refine AWp.regionA fun K1 hK1 => ?_
  refine ARun.segm 3 fun KS hKS => ?_
  refine ARun2.endm (hKS _ ?_); clear hKS KS
  apply ARun.grpM 10 2 false 17 [7]
  · intro g2 KG hKG
    have h3 : c.ty = 3 := by simpa using g2
    have hl := h h3
    refine ARun2.gom ?_
    refine ARun2.callM (number12_c c.data 8 hd (by omega)) ?_
    refine ARun2.callM (number12_c c.data 10 hd (by omega)) ?_
    exact ARun2.endm (hKG _ Le.grpM)
  refine ARun2.gom ?_
  refine ARun2.endm (hK1 _ ?_)
  refine AWp.ret ?_
  try simp only [thenQ, blockQ, noGo]
  refine bodyQ.m ?_
  clear hK1 K1
  rw [← hs]
  first | done | exact Hand.go
/-- the place of what is odd; -1: nowhere -/
def oddI (c : GChunk) : Int := match oddN c with
  | some i => N i
  | none => -1
theorem odd12_c (c : GChunk) (hd : c.data.length ≤ 2 ^ 40) (h64 : c.ty = 64 → 17 ≤ c.data.length) (h194 : c.ty = 194 → 4 ≤ c.data.length ∧ (c.data.length - 4) % 8 = 0) :
    PC Tryz.prog 56 [u8 c.ty, .sl false 1 (bys c.data)] (.val (.int .i64 (oddI c))) := by
  refine PC.of_bodyW (by simp only [push_cast]) Tryz.func56 rfl (by rw [Tryz.ntmps56]; simp) ?_
  refine AWp.regionW ?_
  refine AWp.seqK fun K1 hK1 => ?_
  refine AWp.regionA fun K2 hK2 => ?_
  refine ARun.segm 3 fun KS hKS => ?_
  refine ARun2.endm (hKS _ ?_); clear hKS KS
  apply ARun.grpM 3 2 true 11 [0, 1, 8]
  · intro g2 KG hKG
    have h3 : c.ty = 64 := by simpa using g2
    have hl := h64 h3
    refine ARun2.gom ?_
    refine ARun2.callM (number12_c c.data 6 hd (by omega)) ?_
    exact ARun2.endm (hKG _ Le.grpM)
  refine ARun2.gom ?_
  refine ARun2.endm (hK2 _ ?_)
  refine AWp.condLM (fun c0 => ?_) (fun c0 => ?_)
  · skip
    have hr : oddI c = 6 := by
      simp at c0
      unfold oddI oddN; rw [if_pos c0.1, if_pos c0.2]; rfl
    refine AWp.regionW ?_
    refine AWp.ret ?_
    try simp only [thenQ, blockQ, noGo]
    refine bodyQ.m ?_
    clear hK2 K2 hK1 K1
    rw [hr]
    first | done | exact Hand.go
  · skip
    have hq : oddN c = if c.ty = 194 then oddAt c.data c.data.length 4 else none := by
      unfold oddN
      by_cases h3 : c.ty = 64
      · have hp : peekN 2 c.data 6 = 0 := by simp [h3] at c0; exact c0
        rw [if_pos h3, if_neg (by rw [hp]; simp), if_neg (by omega)]
      · rw [if_neg h3]
    refine AWp.skip ?_
    refine hK1 _ ?_
    refine AWp.seqK fun K3 hK3 => ?_
    refine AWp.regionW ?_
    refine AWp.block ?_
    refine AWp.loopK0 [0, 1] (fun (g : Nat × Nat) => [(5, nat (g.2 + 2))]) (fun g => (c.ty = 194 → oddAt c.data c.data.length 4 = oddAt c.data g.1 g.2 ∧ g.2 ≤ c.data.length ∧ (c.data.length - g.2) % 8 = 0 ∧ c.data.length - g.2 ≤ g.1)) (fun g => c.data.length - g.2) ((c.data.length, 4)) ?_ (fun h => ⟨rfl, (h194 h).1, (h194 h).2, Nat.sub_le _ _⟩) ?_
    · skip
      refine Le.m 0 ?_ ?_
      · first | with_reducible rfl | (simp only [push_cast, ↓reduceIte, Nat.reduceEqDiff, Nat.reduceLT, Nat.reduceAdd, Nat.reduceSub, Nat.reduceMul, Nat.reduceLeDiff, Nat.reducePow, Int.reduceLT, Int.reduceToNat, reduceCtorEq, Int.reduceNeg, Int.reduceEq, Nat.reduceBEq, Nat.reduceBNe, Int.reduceBEq, Int.reduceBNe, String.reduceEq]; first | done | rfl | (simp (disch := omega) only [w_nat, w_add, w_addl, w_addr, w_sub, w_subl, w_mul, w_mull, w_mulr, w_u32, w_u16, w_u8, w_u32a, N_zero]; first | done | rfl))
      · first | (simp only [push_cast, ↓reduceIte, Nat.reduceEqDiff, Nat.reduceLT, Nat.reduceAdd, Nat.reduceSub, Nat.reduceMul, Nat.reduceLeDiff, Nat.reducePow, Int.reduceLT, Int.reduceToNat, reduceCtorEq, Int.reduceNeg, Int.reduceEq, Nat.reduceBEq, Nat.reduceBNe, Int.reduceBEq, Int.reduceBNe, String.reduceEq]; first | done | rfl | (simp (disch := omega) only [w_nat, w_add, w_addl, w_addr, w_sub, w_subl, w_mul, w_mull, w_mulr, w_u32, w_u16, w_u8, w_u32a, N_zero]; first | done | rfl))
    · intro g hg K4 hK4
      obtain ⟨q, i⟩ := g
      dsimp only at hg ⊢
      refine AWp.seqK fun K5 hK5 => ?_
      refine AWp.regionA fun K6 hK6 => ?_
      refine ARun.segm 3 fun KS hKS => ?_
      refine ARun2.endm (hKS _ ?_); clear hKS KS
      apply ARun.grpM 4 2 true 19 [0, 1, 5, 15]
      · intro g2 KG hKG
        have h4 : c.ty = 194 := by simpa using g2
        have hgg := hg h4
        refine ARun2.gom ?_
        exact ARun2.endm (hKG _ Le.grpM)
      refine ARun2.gom ?_
      refine ARun2.endm (hK6 _ ?_)
      refine AWp.condLM (fun c1 => ?_) (fun c1 => ?_)
      · skip
        have h4 : c.ty = 194 ∧ i + 2 < c.data.length := by simpa using c1
        obtain ⟨hg1, hg2, hg3, hg4⟩ := hg h4.1
        obtain ⟨q, rfl⟩ : ∃ q', q = q' + 1 := ⟨q - 1, by omega⟩
        rw [oddAt, if_pos (by omega)] at hg1
        refine AWp.skip ?_
        refine hK5 _ ?_
        refine AWp.seqK fun K7 hK7 => ?_
        refine AWp.block ?_
        refine AWp.regionM fun K8 hK8 => ?_
        refine ARun2.callM (number12_c c.data (i + 2) hd (by omega)) ?_
        refine ARun2.endm (hK8 _ ?_)
        refine AWp.condLM (fun c2 => ?_) (fun c2 => ?_)
        · skip
          have hp : 1 < peekN 2 c.data (i + 2) := by simpa using c2
          rw [if_pos hp] at hg1
          have hr : oddI c = N (i + 2) := by unfold oddI; rw [hq, if_pos h4.1, hg1]
          refine AWp.regionW ?_
          refine AWp.ret ?_
          try simp only [thenQ, blockQ, noGo]
          refine bodyQ.m ?_
          clear hK8 K8 hK7 K7 hK6 K6 hK5 K5 hK4 K4 hK3 K3 hK2 K2 hK1 K1
          rw [hr]
          first | done | exact Hand.go
        · skip
          have hp : ¬ 1 < peekN 2 c.data (i + 2) := by simpa using c2
          rw [if_neg hp] at hg1
          refine AWp.skip ?_
          refine hK7 _ ?_
          refine AWp.regionV ?_
          refine hK4 _ ((q, i + 8)) ((fun _ => ⟨hg1, by show i + 8 ≤ _; omega, by show (c.data.length - (i + 8)) % 8 = 0; omega, by show c.data.length - (i + 8) ≤ q; omega⟩)) (by show c.data.length - (i + 8) < c.data.length - i; omega) ?_
          refine Le.m 0 ?_ ?_
          · first | with_reducible rfl | (simp only [push_cast, ↓reduceIte, Nat.reduceEqDiff, Nat.reduceLT, Nat.reduceAdd, Nat.reduceSub, Nat.reduceMul, Nat.reduceLeDiff, Nat.reducePow, Int.reduceLT, Int.reduceToNat, reduceCtorEq, Int.reduceNeg, Int.reduceEq, Nat.reduceBEq, Nat.reduceBNe, Int.reduceBEq, Int.reduceBNe, String.reduceEq]; first | done | rfl | (simp (disch := omega) only [w_nat, w_add, w_addl, w_addr, w_sub, w_subl, w_mul, w_mull, w_mulr, w_u32, w_u16, w_u8, w_u32a, N_zero]; first | done | rfl))
          · first | (simp only [push_cast, ↓reduceIte, Nat.reduceEqDiff, Nat.reduceLT, Nat.reduceAdd, Nat.reduceSub, Nat.reduceMul, Nat.reduceLeDiff, Nat.reducePow, Int.reduceLT, Int.reduceToNat, reduceCtorEq, Int.reduceNeg, Int.reduceEq, Nat.reduceBEq, Nat.reduceBNe, Int.reduceBEq, Int.reduceBNe, String.reduceEq]; first | done | rfl | (simp (disch := omega) only [w_nat, w_add, w_addl, w_addr, w_sub, w_subl, w_mul, w_mull, w_mulr, w_u32, w_u16, w_u8, w_u32a, N_zero]; first | done | rfl))
      · skip
        have hr : oddI c = -1 := by
          unfold oddI; rw [hq]
          by_cases h4 : c.ty = 194
          · obtain ⟨hg1, hg2, hg3, hg4⟩ := hg h4
            simp [h4] at c1
            rw [if_pos h4, hg1]
            cases q with
            | zero => rfl
            | succ q => rw [oddAt, if_neg (by omega)]
          · rw [if_neg h4]
        refine AWp.exit ?_
        try simp only [thenQ, blockQ, noGo, reduceIte, Nat.reduceEqDiff]
        refine hK3 _ ?_
        refine AWp.regionW ?_
        refine AWp.ret ?_
        try simp only [thenQ, blockQ, noGo]
        refine bodyQ.m ?_
        clear hK6 K6 hK5 K5 hK4 K4 hK3 K3 hK2 K2 hK1 K1
        rw [hr]
        first | done | exact Hand.go
theorem refAll2_c (c : Nat) (l : List GNode) (hcl : 0 < l.length → c = 1 ∨ c = 2) (hs : nSize l ≤ 2 ^ 30) : PC Tryz.prog 57 [nat c, .sl false 3 (nodesA false l)] (nat (checkL c 1 l)) := by
  have hlen := nSize_len l
  refine PC.of_bodyW (by simp only [push_cast]) Tryz.func57 rfl (by rw [Tryz.ntmps57]; simp) ?_
  refine AWp.regionW ?_
  refine AWp.seqK fun K1 hK1 => ?_
  refine AWp.regionW ?_
  refine AWp.block ?_
  refine AWp.loopK0 [0, 1] (fun (i : Nat) => [(5, nat i)]) (fun i => i ≤ l.length ∧ checkL c 1 (l.take i) = 0) (fun i => l.length - i) (0) ?_ ⟨Nat.zero_le _, rfl⟩ ?_
  · skip
    refine Le.m 0 ?_ ?_
    · first | with_reducible rfl | (simp only [push_cast, ↓reduceIte, Nat.reduceEqDiff, Nat.reduceLT, Nat.reduceAdd, Nat.reduceSub, Nat.reduceMul, Nat.reduceLeDiff, Nat.reducePow, Int.reduceLT, Int.reduceToNat, reduceCtorEq, Int.reduceNeg, Int.reduceEq, Nat.reduceBEq, Nat.reduceBNe, Int.reduceBEq, Int.reduceBNe, String.reduceEq]; first | done | rfl | (simp (disch := omega) only [w_nat, w_add, w_addl, w_addr, w_sub, w_subl, w_mul, w_mull, w_mulr, w_u32, w_u16, w_u8, w_u32a, N_zero]; first | done | rfl))
    · first | (simp only [push_cast, ↓reduceIte, Nat.reduceEqDiff, Nat.reduceLT, Nat.reduceAdd, Nat.reduceSub, Nat.reduceMul, Nat.reduceLeDiff, Nat.reducePow, Int.reduceLT, Int.reduceToNat, reduceCtorEq, Int.reduceNeg, Int.reduceEq, Nat.reduceBEq, Nat.reduceBNe, Int.reduceBEq, Int.reduceBNe, String.reduceEq]; first | done | rfl | (simp (disch := omega) only [w_nat, w_add, w_addl, w_addr, w_sub, w_subl, w_mul, w_mull, w_mulr, w_u32, w_u16, w_u8, w_u32a, N_zero]; first | done | rfl))
  · intro i hi K2 hK2
    refine AWp.seqK fun K3 hK3 => ?_
    refine AWp.regionW ?_
    refine AWp.condLM (fun c0 => ?_) (fun c0 => ?_)
    · skip
      have hil : i < l.length := by simpa using c0
      have hc := hcl (by omega)
      have hm := List.getElem_mem hil
      have hn1 := nSize_one hm
      refine AWp.skip ?_
      refine hK3 _ ?_
      refine AWp.seqK fun K4 hK4 => ?_
      refine AWp.block ?_
      refine AWp.regionM fun K5 hK5 => ?_
      refine ARun2.indexM (i) (nodeA false l[i]) ?_ ?_
      · exact nodesA_at _ _ _ hil
      refine ARun2.callM (check08_c c 1 l[i] hc (by omega) (by omega)) ?_
      refine ARun2.endm (hK5 _ ?_)
      refine AWp.regionW ?_
      refine AWp.condLM (fun c1 => ?_) (fun c1 => ?_)
      · skip
        have hne : checkN c 1 l[i] ≠ 0 := by simpa using c1
        have hr := checkL_at c 1 l i hil hi.2 hne
        refine AWp.regionW ?_
        refine AWp.ret ?_
        try simp only [thenQ, blockQ, noGo]
        refine bodyQ.m ?_
        clear hK5 K5 hK4 K4 hK3 K3 hK2 K2 hK1 K1
        rw [hr]
        first | done | exact Hand.go
      · skip
        have heq : checkN c 1 l[i] = 0 := by simpa using c1
        refine AWp.skip ?_
        refine hK4 _ ?_
        refine AWp.regionV ?_
        refine hK2 _ (i + 1) (⟨hil, by rw [List.take_succ_eq_append_getElem hil, checkL_snoc, hi.2]; simpa using heq⟩) (by omega) ?_
        refine Le.m 0 ?_ ?_
        · first | with_reducible rfl | (simp only [push_cast, ↓reduceIte, Nat.reduceEqDiff, Nat.reduceLT, Nat.reduceAdd, Nat.reduceSub, Nat.reduceMul, Nat.reduceLeDiff, Nat.reducePow, Int.reduceLT, Int.reduceToNat, reduceCtorEq, Int.reduceNeg, Int.reduceEq, Nat.reduceBEq, Nat.reduceBNe, Int.reduceBEq, Int.reduceBNe, String.reduceEq]; first | done | rfl | (simp (disch := omega) only [w_nat, w_add, w_addl, w_addr, w_sub, w_subl, w_mul, w_mull, w_mulr, w_u32, w_u16, w_u8, w_u32a, N_zero]; first | done | rfl))
        · first | (simp only [push_cast, ↓reduceIte, Nat.reduceEqDiff, Nat.reduceLT, Nat.reduceAdd, Nat.reduceSub, Nat.reduceMul, Nat.reduceLeDiff, Nat.reducePow, Int.reduceLT, Int.reduceToNat, reduceCtorEq, Int.reduceNeg, Int.reduceEq, Nat.reduceBEq, Nat.reduceBNe, Int.reduceBEq, Int.reduceBNe, String.reduceEq]; first | done | rfl | (simp (disch := omega) only [w_nat, w_add, w_addl, w_addr, w_sub, w_subl, w_mul, w_mull, w_mulr, w_u32, w_u16, w_u8, w_u32a, N_zero]; first | done | rfl))
    · skip
      have hil : i = l.length := by have := hi.1; simp at c0; omega
      subst hil
      have hr : checkL c 1 l = 0 := by have := hi.2; rwa [List.take_length] at this
      refine AWp.exit ?_
      try simp only [thenQ, blockQ, noGo, reduceIte, Nat.reduceEqDiff]
      refine hK1 _ ?_
      refine AWp.regionW ?_
      refine AWp.ret ?_
      try simp only [thenQ, blockQ, noGo]
      refine bodyQ.m ?_
      clear hK3 K3 hK2 K2 hK1 K1
      rw [hr]
      first | done | exact Hand.go
theorem size12_c (c : GChunk) (hd : c.data.length ≤ 2 ^ 40) (hs : nSize c.kids ≤ 2 ^ 30) : PC Tryz.prog 59 [chunkA false c] (nat (4 + c.data.length + nSize c.kids)) := by
  refine PC.of_bodyW (by simp only [push_cast]) Tryz.func59 rfl (by rw [Tryz.ntmps59]; simp) ?_
  refine AWp.regionW ?_
  refine AWp.drS [[(1, none)], [(3, some 0)], [(4, some 1)], [(5, some 2)], [(1, none)], [(7, some 4)], [(8, some 5)], [(6, some 3), (9, some 6)], [(10, some 7)]] fun G hG => ?_
  refine Dr.sim ?_
  try simp only [List.cons_append, List.nil_append]
  refine Dr.sim ?_
  try simp only [List.cons_append, List.nil_append]
  refine Dr.sim ?_
  try simp only [List.cons_append, List.nil_append]
  refine Dr.sim ?_
  try simp only [List.cons_append, List.nil_append]
  refine Dr.sim ?_
  try simp only [List.cons_append, List.nil_append]
  refine Dr.sim ?_
  try simp only [List.cons_append, List.nil_append]
  refine Dr.call (size08_c c.kids hs) ?_
  try simp only [List.cons_append, List.nil_append]
  refine Dr.sim ?_
  try simp only [List.cons_append, List.nil_append]
  refine Dr.sim ?_
  try simp only [List.cons_append, List.nil_append]
  refine Dr.finM (n := 9) [(2, 8)] [] hG YtfghmfjbbjapgaaGreatDoor.Facts.mixed fun KD hKD => ?_
  refine ARun2.endm (hKD _ ?_); clear hKD KD hG G
  refine AWp.ret ?_
  try simp only [thenQ, blockQ, noGo]
  refine bodyQ.m ?_
  first | done | exact Hand.go
set_option maxRecDepth 100000 in
theorem mask_ref : ((List.range 256).all fun f => [0, 1, 15].all fun m => (bitsV .and .i64 (N f) (N (255 - m)) != 0) == maskBad f m) = true := by kernel_rfl
theorem mask_eq (f m : Nat) (hf : f < 256) (hm : m = 0 ∨ m = 1 ∨ m = 15) : (bitsV .and .i64 (N f) (N (255 - m)) != 0) = maskBad f m := by
  have h := List.all_eq_true.1 mask_ref f (by simpa using hf)
  have h2 := List.all_eq_true.1 h m (by simpa using hm)
  simpa using h2
theorem value_odd (c : GChunk) : (valueE c).codeOf.1 = if 0 ≤ oddI c then 11 else 0 := by
  unfold valueE oddI
  cases oddN c <;> simp [Er.codeOf, N]
theorem code_if (e : Er) : (if e = .ok then Er.ok else e).codeOf = e.codeOf := by
  split
  · rename_i h; rw [h]
  · rfl
theorem preE_eq (c : GChunk) : (preE c).codeOf.1 =
    if maskBad c.flags (kindOf c.ty).mask = true then 6 else if kfitsN (kindOf c.ty) c.data.length = false then 7 else if kkidsOk (kindOf c.ty) c.kids = false then 7 else if sackBad c = true then 8 else if 0 ≤ oddI c then 11 else 0 := by
  unfold preE
  simp only [firstE, flagsE, dataE, kidsE, countE]
  by_cases h1 : maskBad c.flags (kindOf c.ty).mask = true
  · simp [h1, Er.codeOf]
  · by_cases h2 : kfitsN (kindOf c.ty) c.data.length = false
    · simp [h1, h2, Er.codeOf]
    · by_cases h3 : kkidsOk (kindOf c.ty) c.kids = false
      · simp [h1, h2, h3, Er.codeOf]
      · by_cases h4 : sackBad c = true
        · simp [h1, h2, h3, h4, Er.codeOf]
        · simp [h1, h2, h3, h4, code_if, value_odd]
theorem fits_facts {c : GChunk} (h : kfitsN (kindOf c.ty) c.data.length = true) : (c.ty = 3 → 12 ≤ c.data.length ∧ (c.data.length - 12) % 4 = 0) ∧ (c.ty = 64 → 17 ≤ c.data.length) ∧ (c.ty = 194 → 4 ≤ c.data.length ∧ (c.data.length - 4) % 8 = 0) := by
  unfold kfitsN at h
  simp only [Bool.and_eq_true, decide_eq_true_eq, beq_iff_eq] at h
  obtain ⟨⟨h1, h2⟩, h3⟩ := h
  refine ⟨fun e => ?_, fun e => ?_, fun e => ?_⟩
  · rw [e] at h1 h3; exact ⟨h1, h3⟩
  · rw [e] at h1; exact h1
  · rw [e] at h1 h3; exact ⟨h1, h3⟩
theorem check12_c (c : GChunk) (hfl : c.flags < 256) (hd : c.data.length ≤ 2 ^ 39) (hs : nSize c.kids ≤ 2 ^ 30) : PC Tryz.prog 19 [chunkA false c] (nat (checkC c)) := by
  have hkl := nSize_len c.kids
  have hb := kind_bd c.ty
  have hof := of11_c c.ty
  have hm := mask_eq c.flags (kindOf c.ty).mask hfl hb.2.2.2.2.2.1
  obtain ⟨C, hC0⟩ : ∃ C, C = checkC c := ⟨_, rfl⟩
  obtain ⟨S, hS0⟩ : ∃ S, S = startC c := ⟨_, rfl⟩
  have hC : C = if S ≠ 0 then S else if checkL (classOf c.ty) 1 c.kids ≠ 0 then checkL (classOf c.ty) 1 c.kids else if 65535 < 4 + c.data.length + nSize c.kids then 4 else 0 := by rw [hC0, hS0]; rfl
  have hst : S = if kindHas c.ty = true then (if maskBad c.flags (kindOf c.ty).mask = true then 6 else if kfitsN (kindOf c.ty) c.data.length = false then 7 else if kkidsOk (kindOf c.ty) c.kids = false then 7 else if sackBad c = true then 8 else if 0 ≤ oddI c then 11 else 0) else if 0 < c.kids.length then 7 else 0 := by
    rw [hS0, ← preE_eq]; rfl
  rw [← hC0]
  have e255 : IntKind.i64.wrap (255 - N (kindOf c.ty).mask) = N (255 - (kindOf c.ty).mask) := by rw [IntKind.wrap_i64]; unfold N; omega
  have hcl : (kinsideN (kindOf c.ty).kids).1 = classOf c.ty := rfl
  have hcx := class11_c (kindOf c.ty).kids (by omega)
  rw [hcl] at hcx
  refine PC.of_bodyW (by simp only [push_cast]) Tryz.func19 rfl (by rw [Tryz.ntmps19]; simp) ?_
  refine AWp.regionW ?_
  refine AWp.regionM fun K1 hK1 => ?_
  refine ARun2.callM (hof) ?_
  refine ARun2.endm (hK1 _ ?_)
  refine AWp.seqK fun K2 hK2 => ?_
  refine AWp.regionA fun K3 hK3 => ?_
  refine ARun.segm 2 fun KS hKS => ?_
  refine ARun2.endm (hKS _ ?_); clear hKS KS
  apply ARun.grpM 9 1 true 22 [1, 3, 4, 13]
  · intro g1 KG hKG
    refine ARun2.gom ?_
    exact ARun2.endm (hKG _ Le.grpM)
  refine ARun2.gom ?_
  refine ARun2.endm (hK3 _ ?_)
  refine AWp.condLM (fun c0 => ?_) (fun c0 => ?_)
  · skip
    rw [e255, hm] at c0
    simp at c0
    rw [if_pos c0.1, if_pos c0.2] at hst
    rw [hst, if_pos (by simp)] at hC
    refine AWp.regionW ?_
    refine AWp.ret ?_
    try simp only [thenQ, blockQ, noGo]
    refine bodyQ.m ?_
    clear hK3 K3 hK2 K2 hK1 K1
    rw [hC]
    first | done | exact Hand.go
  · skip
    rw [e255, hm] at c0
    refine AWp.skip ?_
    refine hK2 _ ?_
    refine AWp.seqK fun K4 hK4 => ?_
    refine AWp.regionA fun K5 hK5 => ?_
    refine ARun.segm 3 fun KS hKS => ?_
    refine ARun2.endm (hKS _ ?_); clear hKS KS
    apply ARun.grpM 4 2 true 30 [1, 3, 4, 26]
    · intro g2 KG hKG
      refine ARun2.gom ?_
      exact ARun2.endm (hKG _ Le.grpM)
    refine ARun.segm 2 fun KS hKS => ?_
    refine ARun2.endm (hKS _ ?_); clear hKS KS
    apply ARun.grpM 16 8 false 48 [1, 3, 4, 32]
    · intro g8 KG hKG
      refine ARun.segm 2 fun KS hKS => ?_
      refine ARun2.endm (hKS _ ?_); clear hKS KS
      apply ARun.grpM 13 10 true 47 [1, 3, 4, 32, 34]
      · intro g10 KG hKG
        have hh : kindHas c.ty = true := g10
        obtain ⟨u1, u2⟩ := hb.2.2.2.2.2.2.1 hh
        refine ARun.segm 7 fun KS hKS => ?_
        refine ARun2.callM (fits11_c (kindOf c.ty) c.data.length (by omega) (by omega) (by omega) u1 (by omega)) ?_
        refine ARun2.endm (hKS _ ?_); clear hKS KS
        apply ARun.grpM 5 17 false 46 [1, 3, 4, 32, 34, 41]
        · intro g17 KG hKG
          refine ARun2.gom ?_
          refine ARun2.callM (wanted12_c (kindOf c.ty) c.kids (by omega) (by omega)) ?_
          exact ARun2.endm (hKG _ Le.grpM)
        refine ARun2.gom ?_
        exact ARun2.endm (hKG _ Le.grpM)
      refine ARun2.gom ?_
      exact ARun2.endm (hKG _ Le.grpM)
    refine ARun2.gom ?_
    refine ARun2.endm (hK5 _ ?_)
    refine AWp.condLM (fun c1 => ?_) (fun c1 => ?_)
    · skip
      have h7 : S = 7 := by
        rw [hst]; revert c0 c1
        cases kindHas c.ty <;> cases maskBad c.flags (kindOf c.ty).mask <;> cases kfitsN (kindOf c.ty) c.data.length <;> cases kkidsOk (kindOf c.ty) c.kids <;> by_cases hk0 : 0 < c.kids.length <;> simp [hk0]
      rw [h7, if_pos (by simp)] at hC
      refine AWp.regionW ?_
      refine AWp.ret ?_
      try simp only [thenQ, blockQ, noGo]
      refine bodyQ.m ?_
      clear hK5 K5 hK4 K4 hK3 K3 hK2 K2 hK1 K1
      rw [hC]
      first | done | exact Hand.go
    · skip
      have hx : (kindHas c.ty = true → maskBad c.flags (kindOf c.ty).mask = false ∧ kfitsN (kindOf c.ty) c.data.length = true ∧ kkidsOk (kindOf c.ty) c.kids = true) ∧ (kindHas c.ty = false → ¬ 0 < c.kids.length) := by
        revert c0 c1
        cases kindHas c.ty <;> cases maskBad c.flags (kindOf c.ty).mask <;> cases kfitsN (kindOf c.ty) c.data.length <;> cases kkidsOk (kindOf c.ty) c.kids <;> by_cases hk0 : 0 < c.kids.length <;> simp [hk0]
      have hst2 : S = if kindHas c.ty = true then (if sackBad c = true then 8 else if 0 ≤ oddI c then 11 else 0) else 0 := by
        rw [hst]
        cases hk : kindHas c.ty with
        | true => obtain ⟨x1, x2, x3⟩ := hx.1 hk; simp [x1, x2, x3]
        | false => simp [hx.2 hk]
      have hff : kindHas c.ty = true → _ := fun hk => fits_facts (hx.1 hk).2.1
      have hcls : 0 < c.kids.length → classOf c.ty = 1 ∨ classOf c.ty = 2 := fun hl => by
        cases hk : kindHas c.ty with
        | true => exact kclass _ _ (hx.1 hk).2.2 (by omega) hl
        | false => exact absurd hl (hx.2 hk)
      refine AWp.skip ?_
      refine hK4 _ ?_
      refine AWp.seqK fun K6 hK6 => ?_
      refine AWp.regionA fun K7 hK7 => ?_
      refine ARun.segm 2 fun KS hKS => ?_
      refine ARun2.endm (hKS _ ?_); clear hKS KS
      apply ARun.grpM 6 1 true 57 [1, 3, 4, 51]
      · intro g1 KG hKG
        have hh : kindHas c.ty = true := g1
        refine ARun2.gom ?_
        refine ARun2.callM (counted12_c c (by omega) (hff hh).1) ?_
        exact ARun2.endm (hKG _ Le.grpM)
      refine ARun2.gom ?_
      refine ARun2.endm (hK7 _ ?_)
      refine AWp.condLM (fun c2 => ?_) (fun c2 => ?_)
      · skip
        have h8 : S = 8 := by
          rw [hst2]; revert c2
          cases kindHas c.ty <;> cases sackBad c <;> simp
        rw [h8, if_pos (by simp)] at hC
        refine AWp.regionW ?_
        refine AWp.ret ?_
        try simp only [thenQ, blockQ, noGo]
        refine bodyQ.m ?_
        clear hK7 K7 hK6 K6 hK5 K5 hK4 K4 hK3 K3 hK2 K2 hK1 K1
        rw [hC]
        first | done | exact Hand.go
      · skip
        refine AWp.skip ?_
        refine hK6 _ ?_
        refine AWp.seqK fun K8 hK8 => ?_
        refine AWp.regionA fun K9 hK9 => ?_
        refine ARun.segm 2 fun KS hKS => ?_
        refine ARun2.endm (hKS _ ?_); clear hKS KS
        apply ARun.grpM 6 1 true 66 [1, 3, 60]
        · intro g1 KG hKG
          have hh : kindHas c.ty = true := g1
          refine ARun2.gom ?_
          refine ARun2.callM (odd12_c c (by omega) (hff hh).2.1 (hff hh).2.2) ?_
          exact ARun2.endm (hKG _ Le.grpM)
        refine ARun2.gom ?_
        refine ARun2.endm (hK9 _ ?_)
        refine AWp.condLM (fun c3 => ?_) (fun c3 => ?_)
        · skip
          have h11 : S = 11 := by
            rw [hst2]; revert c2 c3
            cases kindHas c.ty <;> cases sackBad c <;> by_cases ho : 0 ≤ oddI c <;> simp [ho]
          rw [h11, if_pos (by simp)] at hC
          refine AWp.regionW ?_
          refine AWp.ret ?_
          try simp only [thenQ, blockQ, noGo]
          refine bodyQ.m ?_
          clear hK9 K9 hK8 K8 hK7 K7 hK6 K6 hK5 K5 hK4 K4 hK3 K3 hK2 K2 hK1 K1
          rw [hC]
          first | done | exact Hand.go
        · skip
          have h0 : S = 0 := by
            rw [hst2]; revert c2 c3
            cases kindHas c.ty <;> cases sackBad c <;> by_cases ho : 0 ≤ oddI c <;> simp [ho]
          rw [h0, if_neg (by simp)] at hC
          refine AWp.skip ?_
          refine hK8 _ ?_
          refine AWp.drS [[(3, none)], [(68, some 0)], [(69, some 1)], [(1, none)], [(71, some 3)], [(70, some 2), (72, some 4)], [(73, some 5)]] fun G hG => ?_
          refine Dr.sim ?_
          try simp only [List.cons_append, List.nil_append]
          refine Dr.sim ?_
          try simp only [List.cons_append, List.nil_append]
          refine Dr.call (hcx) ?_
          try simp only [List.cons_append, List.nil_append]
          refine Dr.sim ?_
          try simp only [List.cons_append, List.nil_append]
          refine Dr.sim ?_
          try simp only [List.cons_append, List.nil_append]
          refine Dr.call (refAll2_c (classOf c.ty) c.kids hcls hs) ?_
          try simp only [List.cons_append, List.nil_append]
          refine Dr.sim ?_
          try simp only [List.cons_append, List.nil_append]
          refine Dr.finM (n := 7) [(5, 6)] [1] hG YtfghmfjbbjapgaaGreatDoor.Facts.mixed fun KD hKD => ?_
          refine ARun2.endm (hKD _ ?_); clear hKD KD hG G
          refine AWp.seqK fun K10 hK10 => ?_
          refine AWp.regionW ?_
          refine AWp.condLM (fun c4 => ?_) (fun c4 => ?_)
          · skip
            rw [if_pos (by simpa using c4)] at hC
            refine AWp.regionW ?_
            refine AWp.ret ?_
            try simp only [thenQ, blockQ, noGo]
            refine bodyQ.m ?_
            clear hK10 K10 hK9 K9 hK8 K8 hK7 K7 hK6 K6 hK5 K5 hK4 K4 hK3 K3 hK2 K2 hK1 K1
            rw [hC]
            first | done | exact Hand.go
          · skip
            rw [if_neg (by simpa using c4)] at hC
            refine AWp.skip ?_
            refine hK10 _ ?_
            refine AWp.seqK fun K11 hK11 => ?_
            refine AWp.regionM fun K12 hK12 => ?_
            refine ARun2.callM (size12_c c (by omega) hs) ?_
            refine ARun2.endm (hK12 _ ?_)
            refine AWp.condLM (fun c5 => ?_) (fun c5 => ?_)
            · skip
              rw [if_pos (by simpa using c5)] at hC
              refine AWp.regionW ?_
              refine AWp.ret ?_
              try simp only [thenQ, blockQ, noGo]
              refine bodyQ.m ?_
              clear hK12 K12 hK11 K11 hK10 K10 hK9 K9 hK8 K8 hK7 K7 hK6 K6 hK5 K5 hK4 K4 hK3 K3 hK2 K2 hK1 K1
              rw [hC]
              first | done | exact Hand.go
            · skip
              rw [if_neg (by simpa using c5)] at hC
              refine AWp.skip ?_
              refine hK11 _ ?_
              refine AWp.regionW ?_
              refine AWp.ret ?_
              try simp only [thenQ, blockQ, noGo]
              refine bodyQ.m ?_
              clear hK12 K12 hK11 K11 hK10 K10 hK9 K9 hK8 K8 hK7 K7 hK6 K6 hK5 K5 hK4 K4 hK3 K3 hK2 K2 hK1 K1
              rw [hC]
              first | done | exact Hand.go
end Go.Proofs.YtfghmfjbbjapgaaGreatDoor.C
/- Bytes counted up, one after the other. -/
set_option linter.unusedVariables false
set_option linter.unusedSimpArgs false
namespace Go.Proofs.YtfghmfjbbjapgaaGreatDoor.C
open Go.Abs
end Go.Proofs.YtfghmfjbbjapgaaGreatDoor.C
/- Entries of map literals. No condition. -/
namespace Go.Abs
set_option linter.unusedVariables false
set_option linter.unusedSectionVars false
set_option linter.unusedSimpArgs false
section
variable {P : Program} {ops : Array Oper} {E : Env} {s s' : AS} {ρ σ : List Value} {B : Nat → Prop} {a : Act} {w w' : World} {o : Oper} {rest : List Oper} {Q : AS → Prop} {R : Exit → AS → Prop}
variable {nds : List (List (Nat × Option Nat))} {vals : List AV} {G : Prop}
end
end Go.Abs
/- control: right, is, Number, Plain, Heartbeat, Abort, Report, Value, Info; and the reference's. -/
set_option linter.unusedVariables false
set_option linter.unusedSimpArgs false
namespace Go.Proofs.YtfghmfjbbjapgaaGreatDoor.C
open Go.Abs
theorem nSize_szs2 (l : List GNode) : nSize l ≤ 8 * szs l + 8 := by
  have h := nSize_sz (.mk 0 [] l)
  have e := vlen_eq (.mk 0 [] l)
  have e1 : nSize [GNode.mk 0 [] l] = 4 + vlen (.mk 0 [] l) := by simp [nSize, nLens, tlvSize, sumUp, upN, gapN]
  simp only [GNode.data, GNode.kids, List.length_nil] at e
  rw [e1, e, GNode.sz, List.length_nil] at h
  omega
structure Small (c : GChunk) : Prop where
  ty : c.ty < 256
  flags : c.flags < 256
  data : c.data.length ≤ 2 ^ 26
  kids : szs c.kids ≤ 2 ^ 26
theorem Small.check {c : GChunk} (h : Small c) : PC Tryz.prog 49 [chunkA false c] (errA (checkC c)) :=
  ccheck_c c h.ty (Nat.le_trans h.data (by decide)) (by have := nSize_szs2 c.kids; have := h.kids; omega)
theorem Small.check12 {c : GChunk} (h : Small c) : PC Tryz.prog 19 [chunkA false c] (nat (checkC c)) :=
  check12_c c h.flags (Nat.le_trans h.data (by decide)) (by have := nSize_szs2 c.kids; have := h.kids; omega)
theorem Small.clone {c : GChunk} (h : Small c) : PC Tryz.prog 50 [chunkA false c] (chunkA true c) :=
  cclone_f c (Nat.le_trans h.data (by decide)) (Nat.le_trans h.kids (by decide))
theorem small_zero : Small .zero := ⟨by decide, by decide, by decide, by decide⟩
def sameC (a b : GChunk) : Bool := a.ty == b.ty && a.flags == b.flags && decide (a.data = b.data) && sameL a.kids b.kids
theorem sameC_self (a : GChunk) : sameC a a = true := by
  unfold sameC; rw [(sameL_iff _ _).2 rfl]; simp
theorem same12_c (a b : GChunk) (hd : a.data.length ≤ 2 ^ 40) (hs : szs a.kids ≤ 2 ^ 40) : PC Tryz.prog 20 [chunkA false a, chunkA false b] (bool (sameC a b)) := by
  refine PC.of_bodyW (by simp only [push_cast]) Tryz.func20 rfl (by rw [Tryz.ntmps20]; simp) ?_
  refine AWp.regionW ?_
  refine AWp.regionA fun K1 hK1 => ?_
  refine ARun.segm 6 fun KS hKS => ?_
  refine ARun2.endm (hKS _ ?_); clear hKS KS
  apply ARun.grpM 5 5 true 15 [2, 3, 10]
  · intro g5 KG hKG
    refine ARun2.gom ?_
    exact ARun2.endm (hKG _ Le.grpM)
  refine ARun.segm 2 fun KS hKS => ?_
  refine ARun2.endm (hKS _ ?_); clear hKS KS
  apply ARun.grpM 5 12 true 22 [2, 3, 17]
  · intro g12 KG hKG
    refine ARun2.gom ?_
    refine ARun2.callM (same01_c a.data b.data hd) ?_
    exact ARun2.endm (hKG _ Le.grpM)
  refine ARun.segm 2 fun KS hKS => ?_
  refine ARun2.endm (hKS _ ?_); clear hKS KS
  apply ARun.grpM 5 19 true 29 [24]
  · intro g19 KG hKG
    refine ARun2.gom ?_
    refine ARun2.callM (same08_c a.kids b.kids hs) ?_
    exact ARun2.endm (hKG _ Le.grpM)
  refine ARun2.gom ?_
  refine ARun2.endm (hK1 _ ?_)
  refine AWp.ret ?_
  try simp only [thenQ, blockQ, noGo]
  refine bodyQ.m ?_
  clear hK1 K1
  simp only [sameC]
  first | done | exact Hand.go
theorem Small.same {a b : GChunk} (h : Small a) : PC Tryz.prog 20 [chunkA false a, chunkA false b] (bool (sameC a b)) :=
  same12_c a b (Nat.le_trans h.data (by decide)) (Nat.le_trans h.kids (by decide))
@[push_cast] theorem errA_nil (e : Nat) : nilIs .ifc (errA e) = some (e == 0) := nilIs_err e
end Go.Proofs.YtfghmfjbbjapgaaGreatDoor.C
/- control: Value, Info, Answer; the reference's Value, Info, Answer. -/
set_option linter.unusedVariables false
set_option linter.unusedSimpArgs false
namespace Go.Proofs.YtfghmfjbbjapgaaGreatDoor.C
open Go.Abs
/-- what is known of a chunk that is right -/
theorem check_zero {c : GChunk} (h : checkC c = 0) (hh : kindHas c.ty = true) : maskBad c.flags (kindOf c.ty).mask = false ∧ kfitsN (kindOf c.ty) c.data.length = true ∧ kkidsOk (kindOf c.ty) c.kids = true ∧ checkL (classOf c.ty) 1 c.kids = 0 := by
  have hs : startC c = 0 := by
    unfold checkC at h
    split at h
    · rename_i h1; exact absurd h h1
    · rename_i h1; simpa using h1
  have hl : checkL (classOf c.ty) 1 c.kids = 0 := by
    unfold checkC at h
    rw [hs, if_neg (by simp)] at h
    split at h
    · rename_i h1; exact absurd h h1
    · rename_i h1; simpa using h1
  unfold startC at hs
  rw [if_pos hh, preE_eq] at hs
  cases h1 : maskBad c.flags (kindOf c.ty).mask with
  | true => rw [h1] at hs; simp at hs
  | false =>
    cases h2 : kfitsN (kindOf c.ty) c.data.length with
    | false => rw [h1, h2] at hs; simp at hs
    | true =>
      cases h3 : kkidsOk (kindOf c.ty) c.kids with
      | false => rw [h1, h2, h3] at hs; simp at hs
      | true => exact ⟨rfl, rfl, rfl, hl⟩
end Go.Proofs.YtfghmfjbbjapgaaGreatDoor.C
/- Structs of numbers compared. No condition. -/
namespace Go.Abs
set_option linter.unusedVariables false
set_option linter.unusedSectionVars false
set_option linter.unusedSimpArgs false
@[push_cast] def eqAll : List (IntKind × Int × Int) → Bool
  | [] => true
  | p :: r => (p.2.1 == p.2.2) && eqAll r
section
variable {P : Program} {ops : Array Oper} {E : Env} {s s' : AS} {ρ : List Value} {B : Nat → Prop} {a : Act} {w w' : World} {o : Oper} {rest : List Oper} {Q : AS → Prop} {R : Exit → AS → Prop} {nds : List (List (Nat × Option Nat))} {vals : List AV} {G : Prop}
/-- a literal in a drawn head, its elements told -/
theorem Dr.buildV {T : TypeId} {len sz : Nat} {parts : Array (Nat × Operand)} {xs : List AV} (k : Dr P ops s nds (vals ++ [.sl true sz xs]) G) (hn : ndsB nds = true := by first | rfl | decide) (hol : ops[vals.length]? = some o := by exact Go.Abs.evT)
    (ho : o.op = .buildSlice T len parts := by rfl) (hg : gd ops { s with fr := needFr s.fr vals (nds.getD vals.length []) } o = some true := by exact Go.Abs.evT) (hz : elSz P T = some sz := by exact Go.Abs.evT)
    (hp : parts.toList.map (·.1) = List.range len := by rfl) (hl : decide (len * sz ≤ 2 ^ 24) = true := by first | rfl | decide)
    (hxs : (parts.toList.map fun p => AS.ev { s with fr := needFr s.fr vals (nds.getD vals.length []) } p.2) = xs := by
      simp only [List.map_cons, List.map_nil]
      exact Go.Abs.evT)
    (hx : ∀ x ∈ xs, x.flat = true ∧ x.cells.length = sz := by exact Go.Abs.evT) : Dr P ops s nds vals G :=
  Dr.step hn hol (by
    have h := NSpec.buildSlice hg ho hz ⟨hp, fun p hpm => hx _ (by rw [← hxs]; exact List.mem_map.2 ⟨p, hpm, rfl⟩), of_decide_eq_true hl⟩
    rw [← hxs]; exact h) k
/-! ### a function's value with bound arguments is called -/
end
end Go.Abs
/- initial: is, Of, all, Cookie, Has, Echo, Streams. -/
set_option linter.unusedVariables false
set_option linter.unusedSimpArgs false
namespace Go.Proofs.YtfghmfjbbjapgaaGreatDoor.C
open Go.Abs
structure Vals where
  tag : Nat
  window : Nat
  out : Nat
  inn : Nat
  tsn : Nat
@[push_cast] def valsA (v : Vals) : AV := .agg [u32 v.tag, u32 v.window, u16 v.out, u16 v.inn, u32 v.tsn]
structure Vals.Ok (v : Vals) : Prop where
  tag : v.tag < 2 ^ 32
  window : v.window < 2 ^ 32
  out : v.out < 2 ^ 16
  inn : v.inn < 2 ^ 16
  tsn : v.tsn < 2 ^ 32
def Vals.zero : Vals := ⟨0, 0, 0, 0, 0⟩
def valsOf (d : List UInt8) : Vals := ⟨peekN 4 d 0, peekN 4 d 4, peekN 2 d 8, peekN 2 d 10, peekN 4 d 12⟩
end Go.Proofs.YtfghmfjbbjapgaaGreatDoor.C
/- initial: all, Cookie, Has, Echo, Extensions, Streams, Make; the reference's Make. -/
set_option linter.unusedVariables false
set_option linter.unusedSimpArgs false
namespace Go.Proofs.YtfghmfjbbjapgaaGreatDoor.C
open Go.Abs
end Go.Proofs.YtfghmfjbbjapgaaGreatDoor.C
/- initial.Make; wharfref01.Put, Numbers; wharfref15: Make, Of, Cookie, Has, Extensions. -/
set_option linter.unusedVariables false
set_option linter.unusedSimpArgs false
namespace Go.Proofs.YtfghmfjbbjapgaaGreatDoor.C
open Go.Abs
end Go.Proofs.YtfghmfjbbjapgaaGreatDoor.C
/- Frames written: tlv.All (the iterator itself), tlv.Put, tlv.Join; nodes written: frames, Encode. -/
set_option linter.unusedVariables false
set_option linter.unusedSimpArgs false
namespace Go.Proofs.YtfghmfjbbjapgaaGreatDoor.C
open Go.Abs
end Go.Proofs.YtfghmfjbbjapgaaGreatDoor.C
/- Nodes read: one, parse, Parse. -/
set_option linter.unusedVariables false
set_option linter.unusedSimpArgs false
namespace Go.Proofs.YtfghmfjbbjapgaaGreatDoor.C
open Go.Abs
end Go.Proofs.YtfghmfjbbjapgaaGreatDoor.C
/- Nodes written: frames, Encode. -/
set_option linter.unusedVariables false
set_option linter.unusedSimpArgs false
namespace Go.Proofs.YtfghmfjbbjapgaaGreatDoor.C
open Go.Abs
@[push_cast] theorem errA_zero : errA 0 = .val .nilIface := rfl
end Go.Proofs.YtfghmfjbbjapgaaGreatDoor.C
/- wharflaw08: coded, told, node.Walk (the iterator itself), awake. -/
set_option linter.unusedVariables false
set_option linter.unusedSimpArgs false
namespace Go.Proofs.YtfghmfjbbjapgaaGreatDoor.C
open Go.Abs
end Go.Proofs.YtfghmfjbbjapgaaGreatDoor.C
/- The reference's bytes of nodes: wharfref03.Bytes, wharfref08.Bytes. -/
set_option linter.unusedVariables false
set_option linter.unusedSimpArgs false
namespace Go.Proofs.YtfghmfjbbjapgaaGreatDoor.C
open Go.Abs
end Go.Proofs.YtfghmfjbbjapgaaGreatDoor.C
/- wharflaw08: NodeDepths. -/
set_option linter.unusedVariables false
set_option linter.unusedSimpArgs false
namespace Go.Proofs.YtfghmfjbbjapgaaGreatDoor.C
open Go.Abs
end Go.Proofs.YtfghmfjbbjapgaaGreatDoor.C
/- Nodes written and read again: the plain law. -/
set_option linter.unusedVariables false
set_option linter.unusedSimpArgs false
namespace Go.Proofs.YtfghmfjbbjapgaaGreatDoor.C
open Go.Abs
/-! ### frames, one after the other -/
theorem checkL_mem {c dp : Nat} : ∀ {l : List GNode}, checkL c dp l = 0 → ∀ n ∈ l, checkN c dp n = 0
  | [], h, n, hn => by simp at hn
  | m :: l, h, n, hn => by
    rw [checkL] at h
    split at h
    · rename_i hm; exact absurd h hm
    · rename_i hm
      rcases List.mem_cons.1 hn with rfl | hn
      · simpa using hm
      · exact checkL_mem h n hn
theorem checkN_zero {c dp : Nat} {n : GNode} (h : checkN c dp n = 0) : dp ≤ 4 ∧ badN c n.ty n.data.length n.kids = false ∧ countedN c n.ty n.data = false ∧ checkL (insideN (shapeOf c n.ty).kids).1 (dp + 1) n.kids = 0 ∧ nSize [n] ≤ 65535 := by
  rw [checkN_eq] at h
  split at h
  · cases h
  · rename_i h1
    split at h
    · cases h
    · rename_i h2
      split at h
      · cases h
      · rename_i h3
        split at h
        · rename_i h4; exact absurd h h4
        · rename_i h4
          split at h
          · cases h
          · rename_i h5
            exact ⟨by omega, by simpa using h2, by simpa using h3, by simpa using h4, by omega⟩
theorem size_one (n : GNode) : nSize [n] = 4 + vlen n := by simp [nSize, nLens, tlvSize, sumUp, upN, gapN]
end Go.Proofs.YtfghmfjbbjapgaaGreatDoor.C
/- wharflaw20: made, awake; ControlMatchesReference, ControlReads, ControlCauses. -/
set_option linter.unusedVariables false
set_option linter.unusedSimpArgs false
namespace Go.Proofs.YtfghmfjbbjapgaaGreatDoor.C
open Go.Abs
theorem u8_shx (x k : Nat) (hk : k ≤ 32) : IntKind.u8.wrap ((N x).fdiv (2 ^ min k IntKind.u32.bits)) = N (UInt8.ofNat (x / 2 ^ k)).toNat := by
  have h2 : IntKind.u32.bits = 32 := rfl
  rw [h2, Nat.min_eq_left hk, ← u8_low]
  congr 1
  have h3 : (2 : Int) ^ k = ((2 ^ k : Nat) : Int) := by simp
  rw [h3]
  show (x : Int).fdiv ((2 ^ k : Nat) : Int) = ((x / 2 ^ k : Nat) : Int)
  rw [Int.fdiv_eq_ediv_of_nonneg _ (Int.natCast_nonneg _)]; rfl
@[push_cast] theorem u8_shr24 (x : Nat) : IntKind.u8.wrap ((N x).fdiv (2 ^ min 24 IntKind.u32.bits)) = N (UInt8.ofNat (x / 256 ^ 3)).toNat := u8_shx x 24 (by decide)
@[push_cast] theorem u8_shr16 (x : Nat) : IntKind.u8.wrap ((N x).fdiv (2 ^ min 16 IntKind.u32.bits)) = N (UInt8.ofNat (x / 256 ^ 2)).toNat := u8_shx x 16 (by decide)
@[push_cast] theorem u8_shr8 (x : Nat) : IntKind.u8.wrap ((N x).fdiv (2 ^ min 8 IntKind.u32.bits)) = N (UInt8.ofNat (x / 256 ^ 1)).toNat := u8_shx x 8 (by decide)
theorem u8_shr0 (x : Nat) : IntKind.u8.wrap (N x) = N (UInt8.ofNat (x / 256 ^ 0)).toNat := by rw [Nat.pow_zero, Nat.div_one, IntKind.wrap_u8]; simp [N, UInt8.toNat_ofNat']
end Go.Proofs.YtfghmfjbbjapgaaGreatDoor.C
/- wharfref01.Put, Numbers; wharfref15.Make, Of, Has, Extensions. -/
set_option linter.unusedVariables false
set_option linter.unusedSimpArgs false
namespace Go.Proofs.YtfghmfjbbjapgaaGreatDoor.C
open Go.Abs
theorem lits4b (a b c d : UInt8) : [AV.val (.int .u8 (N a.toNat)), AV.val (.int .u8 (N b.toNat)), AV.val (.int .u8 (N c.toNat)), AV.val (.int .u8 (N d.toNat))] = bys [a, b, c, d] := rfl
theorem putB4_lit (x : Nat) : [UInt8.ofNat (x / 256 ^ 3), UInt8.ofNat (x / 256 ^ 2), UInt8.ofNat (x / 256 ^ 1), UInt8.ofNat (x / 256 ^ 0)] = putB 4 x := rfl
theorem putB4_drop (k x : Nat) (hk : k = 1 ∨ k = 2 ∨ k = 4) : (putB 4 x).drop (4 - k) = putB k x := by rcases hk with rfl | rfl | rfl <;> rfl
theorem sub4_w (k : Nat) (hk : k ≤ 4) : IntKind.i64.wrap (4 - N k) = N (4 - k) := by rw [IntKind.wrap_i64]; unfold N; omega
theorem flat_bd (k : Nat) (l : List Nat) (i : Nat) (hk : k = 1 ∨ k = 2 ∨ k = 4) (hn : l.length ≤ 2 ^ 30) : ((l.take i).flatMap (putB k)).length ≤ 2 ^ 32 := by
  rw [flat_len2, List.length_take]
  have : min i l.length * k ≤ 2 ^ 30 * 4 := Nat.mul_le_mul (by omega) (by omega)
  omega
end Go.Proofs.YtfghmfjbbjapgaaGreatDoor.C
/- Parameters that are right: rightP; what checkN says of known types; wharflaw's same; IndexFunc over nodes. -/
set_option linter.unusedVariables false
set_option linter.unusedSimpArgs false
namespace Go.Proofs.YtfghmfjbbjapgaaGreatDoor.C
open Go.Abs
@[push_cast] theorem u32s_drop (l : List Nat) (k : Nat) : (u32s l).drop k = u32s (l.drop k) := by simp [u32s]
/-- a right parameter, or none -/
def rightP (n : GNode) : GNode × Bool := bif checkN 1 1 n == 0 then (n, true) else (.zero, false)
theorem rightP_yes {n : GNode} (h : checkN 1 1 n = 0) : rightP n = (n, true) := by unfold rightP; rw [h]; rfl
theorem rightP_no {n : GNode} (h : ¬ checkN 1 1 n = 0) : rightP n = (.zero, false) := by
  have : (checkN 1 1 n == 0) = false := by simpa using h
  unfold rightP; rw [this]; rfl
/-- what is known of a right node of a known type -/
theorem node_zero {c dp : Nat} {n : GNode} (h : checkN c dp n = 0) (hh : shapeHas c n.ty = true) : fitsN (shapeOf c n.ty) n.data.length = true ∧ kidsOk (shapeOf c n.ty) n.kids = true := by
  have h1 := (checkN_zero h).2.1
  unfold badN at h1
  rw [hh] at h1
  simpa using h1
/-- a node without nodes inside is right -/
theorem node_plain {c dp : Nat} (hdp : dp ≤ 4) (t : Nat) (d : List UInt8) (hh : shapeHas c t = true) (hf : fitsN (shapeOf c t) d.length = true) (hk : (shapeOf c t).kids = 0) (hc : countedN c t d = false) (hl : d.length ≤ 65531) :
    checkN c dp (.mk t d []) = 0 := by
  have hs : nSize [GNode.mk t d []] = 4 + d.length := by
    rw [size_one, vlen_eq]; simp [GNode.data, GNode.kids, nSize, nLens, tlvSize, sumUp, upN, gapN]
  have hb : badN c t d.length [] = false := by
    have hk0 : kidsOk (shapeOf c t) [] = true := by unfold kidsOk; rw [hk]; rfl
    unfold badN; rw [hh, hf, hk0]; rfl
  rw [checkN_eq]
  simp only [GNode.ty, GNode.data, GNode.kids, hb, hc, hs, checkL]
  rw [if_neg (by omega), if_neg (by simp), if_neg (by simp), if_neg (by simp), if_neg (by omega)]
/-- the first place where p holds -/
def fIdx (p : GNode → Bool) (l : List GNode) : Int := match l.findIdx? p with
  | some i => N i
  | none => -1
theorem fIdx_hit {p : GNode → Bool} {l : List GNode} {i : Nat} (h : i < l.length) (h0 : ∀ j (hj : j < i), p (l[j]'(by omega)) = false) (hi : p l[i] = true) : fIdx p l = N i := by
  unfold fIdx
  rw [show l.findIdx? p = some i from List.findIdx?_eq_some_iff_getElem.2 ⟨h, hi, fun j hj => by simpa using h0 j hj⟩]
theorem fIdx_none {p : GNode → Bool} {l : List GNode} (h0 : ∀ j (hj : j < l.length), p l[j] = false) : fIdx p l = -1 := by
  unfold fIdx
  rw [show l.findIdx? p = none from List.findIdx?_eq_none_iff.2 fun x hx => by
    obtain ⟨j, hj, rfl⟩ := List.getElem_of_mem hx
    exact h0 j hj]
theorem fIdx_any (p : GNode → Bool) (l : List GNode) : decide (0 ≤ fIdx p l) = l.any p := by
  unfold fIdx
  cases h : l.findIdx? p with
  | some i =>
    obtain ⟨h1, h2, _⟩ := List.findIdx?_eq_some_iff_getElem.1 h
    have : l.any p = true := List.any_eq_true.2 ⟨l[i], List.getElem_mem h1, h2⟩
    rw [this]; simp [N]
  | none =>
    have h1 := List.findIdx?_eq_none_iff.1 h
    have : l.any p = false := by rw [List.any_eq_false]; intro x hx; rw [h1 x hx]; simp
    rw [this]; decide
theorem nindexF_c (f : FuncId) (hcall : callable Tryz.prog f = true) (p : GNode → Bool) (l : List GNode) (hl : l.length ≤ 2 ^ 40) (hp : ∀ x ∈ l, PC Tryz.prog f [nodeA false x] (bool (p x))) :
    PC Tryz.prog 80 [.sl false 3 (nodesA false l), .fn (.func f) [] []] (.val (.int .i64 (fIdx p l))) := by
  refine PC.of_bodyW (by simp only [push_cast]) Tryz.func80 rfl (by rw [Tryz.ntmps80]; simp) ?_
  refine AWp.regionW ?_
  refine AWp.seqK fun K1 hK1 => ?_
  refine AWp.regionW ?_
  refine AWp.block ?_
  refine AWp.loopK0 [0, 1, 7] (fun (i : Nat) => [(8, nat i)]) (fun i => i ≤ l.length ∧ ∀ j (hj : j < l.length), j < i → p l[j] = false) (fun i => l.length - i) (0) ?_ ⟨Nat.zero_le _, fun j _ hj => by omega⟩ ?_
  · skip
    refine Le.m 0 ?_ ?_
    · first | with_reducible rfl | (simp only [push_cast, ↓reduceIte, Nat.reduceEqDiff, Nat.reduceLT, Nat.reduceAdd, Nat.reduceSub, Nat.reduceMul, Nat.reduceLeDiff, Nat.reducePow, Int.reduceLT, Int.reduceToNat, reduceCtorEq, Int.reduceNeg, Int.reduceEq, Nat.reduceBEq, Nat.reduceBNe, Int.reduceBEq, Int.reduceBNe, String.reduceEq]; first | done | rfl | (simp (disch := omega) only [w_nat, w_add, w_addl, w_addr, w_sub, w_subl, w_mul, w_mull, w_mulr, w_u32, w_u16, w_u8, w_u32a, N_zero]; first | done | rfl))
    · first | (simp only [push_cast, ↓reduceIte, Nat.reduceEqDiff, Nat.reduceLT, Nat.reduceAdd, Nat.reduceSub, Nat.reduceMul, Nat.reduceLeDiff, Nat.reducePow, Int.reduceLT, Int.reduceToNat, reduceCtorEq, Int.reduceNeg, Int.reduceEq, Nat.reduceBEq, Nat.reduceBNe, Int.reduceBEq, Int.reduceBNe, String.reduceEq]; first | done | rfl | (simp (disch := omega) only [w_nat, w_add, w_addl, w_addr, w_sub, w_subl, w_mul, w_mull, w_mulr, w_u32, w_u16, w_u8, w_u32a, N_zero]; first | done | rfl))
  · intro i hi K2 hK2
    refine AWp.regionW ?_
    refine AWp.seqK fun K3 hK3 => ?_
    refine AWp.condLM (fun c0 => ?_) (fun c0 => ?_)
    · skip
      have hil : i < l.length := by simpa using c0
      have hpi := hp l[i] (List.getElem_mem hil)
      have hci := hcall
      refine AWp.skip ?_
      refine hK3 _ ?_
      refine AWp.seqK fun K4 hK4 => ?_
      refine AWp.block ?_
      refine AWp.regionW ?_
      refine AWp.regionM fun K5 hK5 => ?_
      refine ARun2.indexM (i) (nodeA false l[i]) ?_ ?_
      · exact nodesA_at _ _ _ hil
      refine ARun2.callVM (hpi) ?_
      refine ARun2.endm (hK5 _ ?_)
      refine AWp.condLM (fun c1 => ?_) (fun c1 => ?_)
      · skip
        have hne : p l[i] = true := by simpa using c1
        have hz := fIdx_hit hil (fun j hj => hi.2 j (by omega) hj) hne
        refine AWp.regionW ?_
        refine AWp.ret ?_
        try simp only [thenQ, blockQ, noGo]
        refine bodyQ.m ?_
        clear hK5 K5 hK4 K4 hK3 K3 hK2 K2 hK1 K1
        rw [hz]
        first | done | exact Hand.go
      · skip
        have heq : p l[i] = false := by simpa using c1
        refine AWp.skip ?_
        refine hK4 _ ?_
        refine AWp.regionV ?_
        refine hK2 _ (i + 1) (⟨hil, fun j hj hji => (Nat.lt_or_ge j i).elim (fun h => hi.2 j hj h) (fun h => by have e : j = i := (by omega); subst e; exact heq)⟩) (by omega) ?_
        refine Le.m 0 ?_ ?_
        · first | with_reducible rfl | (simp only [push_cast, ↓reduceIte, Nat.reduceEqDiff, Nat.reduceLT, Nat.reduceAdd, Nat.reduceSub, Nat.reduceMul, Nat.reduceLeDiff, Nat.reducePow, Int.reduceLT, Int.reduceToNat, reduceCtorEq, Int.reduceNeg, Int.reduceEq, Nat.reduceBEq, Nat.reduceBNe, Int.reduceBEq, Int.reduceBNe, String.reduceEq]; first | done | rfl | (simp (disch := omega) only [w_nat, w_add, w_addl, w_addr, w_sub, w_subl, w_mul, w_mull, w_mulr, w_u32, w_u16, w_u8, w_u32a, N_zero]; first | done | rfl))
        · first | (simp only [push_cast, ↓reduceIte, Nat.reduceEqDiff, Nat.reduceLT, Nat.reduceAdd, Nat.reduceSub, Nat.reduceMul, Nat.reduceLeDiff, Nat.reducePow, Int.reduceLT, Int.reduceToNat, reduceCtorEq, Int.reduceNeg, Int.reduceEq, Nat.reduceBEq, Nat.reduceBNe, Int.reduceBEq, Int.reduceBNe, String.reduceEq]; first | done | rfl | (simp (disch := omega) only [w_nat, w_add, w_addl, w_addr, w_sub, w_subl, w_mul, w_mull, w_mulr, w_u32, w_u16, w_u8, w_u32a, N_zero]; first | done | rfl))
    · skip
      have hil : i = l.length := by have := hi.1; simp at c0; omega
      have hz := fIdx_none (p := p) (l := l) fun j hj => hi.2 j hj (by omega)
      refine AWp.exit ?_
      try simp only [thenQ, blockQ, noGo, reduceIte, Nat.reduceEqDiff]
      refine hK1 _ ?_
      refine AWp.regionW ?_
      refine AWp.ret ?_
      try simp only [thenQ, blockQ, noGo]
      refine bodyQ.m ?_
      clear hK3 K3 hK2 K2 hK1 K1
      rw [hz]
      first | done | exact Hand.go
theorem ncontF_c (f : FuncId) (hcall : callable Tryz.prog f = true) (p : GNode → Bool) (l : List GNode) (hl : l.length ≤ 2 ^ 40) (hp : ∀ x ∈ l, PC Tryz.prog f [nodeA false x] (bool (p x))) :
    PC Tryz.prog 48 [.sl false 3 (nodesA false l), .fn (.func f) [] []] (bool (l.any p)) := by
  have h := nindexF_c f hcall p l hl hp
  have ha := fIdx_any p l
  generalize fIdx p l = z at h ha
  refine PC.of_bodyW (by simp only [push_cast]) Tryz.func48 rfl (by rw [Tryz.ntmps48]; simp) ?_
  refine AWp.regionW ?_
  refine AWp.regionM fun K1 hK1 => ?_
  refine ARun2.callM (h) ?_
  refine ARun2.endm (hK1 _ ?_)
  refine AWp.ret ?_
  try simp only [thenQ, blockQ, noGo]
  refine bodyQ.m ?_
  clear hK1 K1
  rw [ha]
  first | done | exact Hand.go
end Go.Proofs.YtfghmfjbbjapgaaGreatDoor.C
/- stream: right, list, Outgoing, Incoming, Reset, Response, More, is, Seq, Streams, Answers, Make. -/
set_option linter.unusedVariables false
set_option linter.unusedSimpArgs false
namespace Go.Proofs.YtfghmfjbbjapgaaGreatDoor.C
open Go.Abs
theorem sright_c (t : Nat) (ls : List (List UInt8)) (hl : lens ls ≤ 2 ^ 24) (hn : ls.length ≤ 2 ^ 20) : PC Tryz.prog 61 [u16 t, .sl false 1 (rowsA ls)] (.tup [nodeA true (rightP (.mk t ls.flatten [])).1, bool (rightP (.mk t ls.flatten [])).2]) := by
  have hlf := lens_flat ls
  have hj := wjoin_c ls (by omega) (by omega)
  have hs := nSize_sz (.mk t ls.flatten [])
  simp only [GNode.sz, szs] at hs
  have hk := check_c 1 (.mk t ls.flatten []) (by omega) (by omega)
  refine PC.of_bodyK (by simp only [push_cast]) Tryz.func61 rfl (by rw [Tryz.ntmps61]; simp) ?_
  refine AWp.regionW ?_
  refine AWp.regionM fun K1 hK1 => ?_
  refine ARun2.callM (hj) ?_
  refine ARun2.endm (hK1 _ ?_)
  refine AWp.seqK fun K2 hK2 => ?_
  refine AWp.regionM fun K3 hK3 => ?_
  refine ARun2.callM (hk) ?_
  refine ARun2.endm (hK3 _ ?_)
  refine AWp.condLM (fun c0 => ?_) (fun c0 => ?_)
  · skip
    have hr := rightP_no (n := .mk t ls.flatten []) (by simpa using c0)
    refine AWp.regionW ?_
    refine AWp.ret ?_
    try simp only [thenQ, blockQ, noGo]
    refine bodyQ.m ?_
    clear hK3 K3 hK2 K2 hK1 K1
    rw [hr]
    first | done | exact Wk.go
  · skip
    have hr := rightP_yes (n := .mk t ls.flatten []) (by simpa using c0)
    refine AWp.skip ?_
    refine hK2 _ ?_
    refine AWp.regionW ?_
    refine AWp.ret ?_
    try simp only [thenQ, blockQ, noGo]
    refine bodyQ.m ?_
    clear hK3 K3 hK2 K2 hK1 K1
    rw [hr]
    first | done | exact Wk.go
theorem slist1_c (t : Nat) (d : List UInt8) (ht : t < 2 ^ 16) (hd : d.length ≤ 2 ^ 40) :
    OC Tryz.prog 101 [u16 t, .ptr 0 0] [.box 23 [.own 1], .row 5 1 (bys d)] (.tup []) [.box 23 [.own 1], .row 5 1 (bys (d ++ putB 2 t))] := by
  have hp : PC Tryz.prog 62 [nat 2, .sl false 1 [u32 t]] (.sl true 1 (bys (putB 2 t))) := by
    have := wire_put 2 [t] (by omega) (by intro x hx; simp at hx; omega) (by simp)
    simpa [u32s, List.flatMap_cons, List.flatMap_nil] using this
  refine OC.of_body [0, 1] ids2 Tryz.func101 rfl (by rw [Tryz.ntmps101]; simp) ?_
  refine AWp.drE [[(1, none)], [(0, none)], [(4, some 1)], [(5, some 2)], [(6, some 3)]] fun G hG => ?_
  refine Dr.sim ?_
  try simp only [List.cons_append, List.nil_append]
  refine Dr.sim ?_
  try simp only [List.cons_append, List.nil_append]
  refine Dr.sim ?_
  try simp only [List.cons_append, List.nil_append]
  refine Dr.build ?_
  try simp only [List.cons_append, List.nil_append]
  refine Dr.call (hp) ?_
  try simp only [List.cons_append, List.nil_append]
  refine Dr.finN (n := 5) [(3, 0), (7, 4)] [1] hG YtfghmfjbbjapgaaGreatDoor.Facts.mixed fun KD hKD => ?_
  refine ARun2.appendM ?_ ?_ ?_
  · rw [YtfghmfjbbjapgaaGreatDoor.Facts.eb23, bys_len, bys_len, putB_len]; omega
  · rw [bys_len, bys_len, putB_len]; omega
  refine ARun2.endm (hKD _ ?_); clear hKD KD hG G
  try simp only [thenQ, blockQ, noGo]
  refine bodyQ.n ?_
  refine endO.m ?_ ?_
  · simp only [bys_append]
  · skip
    first | done | exact Hand.go
theorem slist_c (ts : List Nat) (hl : ts.length ≤ 2 ^ 22) (ht : ∀ t ∈ ts, t < 2 ^ 16) : PC Tryz.prog 64 [.sl false 1 (u16s ts)] (.sl true 1 (bys (ts.flatMap (putB 2)))) := by
  refine PC.of_bodyK (by simp only [push_cast]) Tryz.func64 rfl (by rw [Tryz.ntmps64]; simp) ?_
  refine AWp.regionW ?_
  refine AWp.regionW ?_
  refine AWp.regionW ?_
  refine AWp.seqK fun K1 hK1 => ?_
  refine AWp.regionW ?_
  refine AWp.block ?_
  refine AWp.nilBox 0 0 5 1 rfl rfl ?_
  simp only [push_cast, ↓reduceIte, Nat.reduceEqDiff, Nat.reduceLT, Nat.reduceAdd, Nat.reduceSub, Nat.reduceMul, Nat.reduceLeDiff, Nat.reducePow, Int.reduceLT, Int.reduceToNat, reduceCtorEq, Int.reduceNeg, Int.reduceEq, Nat.reduceBEq, Nat.reduceBNe, Int.reduceBEq, Int.reduceBNe, String.reduceEq]
  refine AWp.loopK [3, 4, 8, 9] (fun (i : Nat) => [(10, nat i)]) (fun i => [.box 23 [.own 1], .row 5 1 (bys ((ts.take i).flatMap (putB 2)))]) (fun i => i ≤ ts.length) (fun i => ts.length - i) (0) ?_ (Nat.zero_le _) ?_
  · skip
    refine Le.m 2 ?_ ?_
    · try simp only [push_cast, ↓reduceIte, Nat.reduceEqDiff, Nat.reduceLT, Nat.reduceAdd, Nat.reduceSub, Nat.reduceMul, Nat.reduceLeDiff, Nat.reducePow, Int.reduceLT, Int.reduceToNat, reduceCtorEq, Int.reduceNeg, Int.reduceEq, Nat.reduceBEq, Nat.reduceBNe, Int.reduceBEq, Int.reduceBNe, String.reduceEq]
      try simp (disch := omega) only [w_nat, w_add, w_addl, w_addr, w_sub, w_subl, w_mul, w_mull, w_mulr, w_u32, w_u16, w_u8, w_u32a, N_zero]
      first | done | skip
      rfl
    · first | (simp only [push_cast, ↓reduceIte, Nat.reduceEqDiff, Nat.reduceLT, Nat.reduceAdd, Nat.reduceSub, Nat.reduceMul, Nat.reduceLeDiff, Nat.reducePow, Int.reduceLT, Int.reduceToNat, reduceCtorEq, Int.reduceNeg, Int.reduceEq, Nat.reduceBEq, Nat.reduceBNe, Int.reduceBEq, Int.reduceBNe, String.reduceEq]; first | done | rfl | (simp (disch := omega) only [w_nat, w_add, w_addl, w_addr, w_sub, w_subl, w_mul, w_mull, w_mulr, w_u32, w_u16, w_u8, w_u32a, N_zero]; first | done | rfl))
  · intro i hi K2 hK2
    refine AWp.regionW ?_
    refine AWp.seqK fun K3 hK3 => ?_
    refine AWp.condLM (fun c0 => ?_) (fun c0 => ?_)
    · skip
      have hil : i < ts.length := by simpa using c0
      have hti := ht ts[i] (List.getElem_mem hil)
      have hfl := flat_len2 2 (ts.take i)
      have htk := List.length_take_le i ts
      refine AWp.skip ?_
      refine hK3 _ ?_
      refine AWp.seqK fun K4 hK4 => ?_
      refine AWp.block ?_
      refine AWp.regionM fun K5 hK5 => ?_
      refine ARun2.indexM (i) (u16 ts[i]) ?_ ?_
      · exact u16s_at _ _ hil
      refine ARun2.endm (hK5 _ ?_)
      refine AWp.regionN fun K6 hK6 => ?_
      refine ARun2.callOM [0, 1] (slist1_c ts[i] ((ts.take i).flatMap (putB 2)) hti (by omega)) ?_
      refine ARun2.endm (hK6 _ ?_)
      refine hK4 _ ?_
      refine AWp.regionV ?_
      refine hK2 _ (i + 1) (by omega) (by omega) ?_
      refine Le.m 2 ?_ ?_
      · try simp only [push_cast, ↓reduceIte, Nat.reduceEqDiff, Nat.reduceLT, Nat.reduceAdd, Nat.reduceSub, Nat.reduceMul, Nat.reduceLeDiff, Nat.reducePow, Int.reduceLT, Int.reduceToNat, reduceCtorEq, Int.reduceNeg, Int.reduceEq, Nat.reduceBEq, Nat.reduceBNe, Int.reduceBEq, Int.reduceBNe, String.reduceEq]
        try simp (disch := omega) only [w_nat, w_add, w_addl, w_addr, w_sub, w_subl, w_mul, w_mull, w_mulr, w_u32, w_u16, w_u8, w_u32a, N_zero]
        first | done | skip
        rw [List.take_succ_eq_append_getElem hil, List.flatMap_append]; simp
      · first | (simp only [push_cast, ↓reduceIte, Nat.reduceEqDiff, Nat.reduceLT, Nat.reduceAdd, Nat.reduceSub, Nat.reduceMul, Nat.reduceLeDiff, Nat.reducePow, Int.reduceLT, Int.reduceToNat, reduceCtorEq, Int.reduceNeg, Int.reduceEq, Nat.reduceBEq, Nat.reduceBNe, Int.reduceBEq, Int.reduceBNe, String.reduceEq]; first | done | rfl | (simp (disch := omega) only [w_nat, w_add, w_addl, w_addr, w_sub, w_subl, w_mul, w_mull, w_mulr, w_u32, w_u16, w_u8, w_u32a, N_zero]; first | done | rfl))
    · skip
      have hil : i = ts.length := by simp at c0; omega
      subst hil
      refine AWp.exit ?_
      try simp only [thenQ, blockQ, noGo, reduceIte, Nat.reduceEqDiff]
      refine hK1 _ ?_
      refine AWp.pubD 1 ?_
      refine AWp.regionW ?_
      refine AWp.ret ?_
      try simp only [thenQ, blockQ, noGo]
      refine bodyQ.m ?_
      clear hK3 K3 hK2 K2 hK1 K1
      rw [List.take_length]
      first | done | exact Wk.go
theorem lens2 (a b : List UInt8) : lens [a, b] = a.length + b.length := by simp [lens]
theorem flat4_len (k : Nat) (l : List Nat) : (l.flatMap (putB k)).length = l.length * k := flat_len2 k l
def outD (s a b : Nat) (ts : List Nat) : List UInt8 := putB 4 s ++ (putB 4 a ++ (putB 4 b ++ ts.flatMap (putB 2)))
theorem sout_c (s a b : Nat) (ts : List Nat) (hs : s < 2 ^ 32) (ha : a < 2 ^ 32) (hb : b < 2 ^ 32) (hl : ts.length ≤ 2 ^ 20) (ht : ∀ t ∈ ts, t < 2 ^ 16) : PC Tryz.prog 25 [u32 s, u32 a, u32 b, .sl false 1 (u16s ts)]
    (.tup [nodeA true (rightP (.mk 13 (outD s a b ts) [])).1, bool (rightP (.mk 13 (outD s a b ts) [])).2]) := by
  have hp : PC Tryz.prog 62 [nat 4, .sl false 1 [u32 s, u32 a, u32 b]] (.sl true 1 (bys (putB 4 s ++ (putB 4 a ++ putB 4 b)))) := by
    have := wire_put 4 [s, a, b] (by omega) (by intro x hx; simp at hx; omega) (by simp)
    simpa [u32s, List.flatMap_cons, List.flatMap_nil] using this
  have hq := slist_c ts (by omega) ht
  have hr := sright_c 13 [putB 4 s ++ (putB 4 a ++ putB 4 b), ts.flatMap (putB 2)] (by simp only [lens2, List.length_append, putB_len, flat4_len]; omega) (by simp)
  have e : [putB 4 s ++ (putB 4 a ++ putB 4 b), ts.flatMap (putB 2)].flatten = outD s a b ts := by simp [outD]
  rw [e] at hr
  refine PC.of_bodyK (by simp only [push_cast]) Tryz.func25 rfl (by rw [Tryz.ntmps25]; simp) ?_
  refine AWp.regionW ?_
  refine AWp.regionM fun K1 hK1 => ?_
  refine ARun2.callM (hp) ?_
  refine ARun2.callM (hq) ?_
  refine ARun2.callM (hr) ?_
  refine ARun2.endm (hK1 _ ?_)
  refine AWp.ret ?_
  try simp only [thenQ, blockQ, noGo]
  refine bodyQ.m ?_
  clear hK1 K1
  first | done | exact Wk.go
def inD (s : Nat) (ts : List Nat) : List UInt8 := putB 4 s ++ ts.flatMap (putB 2)
theorem sin_c (s : Nat) (ts : List Nat) (hs : s < 2 ^ 32) (hl : ts.length ≤ 2 ^ 20) (ht : ∀ t ∈ ts, t < 2 ^ 16) : PC Tryz.prog 26 [u32 s, .sl false 1 (u16s ts)]
    (.tup [nodeA true (rightP (.mk 14 (inD s ts) [])).1, bool (rightP (.mk 14 (inD s ts) [])).2]) := by
  have hp : PC Tryz.prog 62 [nat 4, .sl false 1 [u32 s]] (.sl true 1 (bys (putB 4 s))) := by
    have := wire_put 4 [s] (by omega) (by intro x hx; simp at hx; omega) (by simp)
    simpa [u32s, List.flatMap_cons, List.flatMap_nil] using this
  have hq := slist_c ts (by omega) ht
  have hr := sright_c 14 [putB 4 s, ts.flatMap (putB 2)] (by simp only [lens2, List.length_append, putB_len, flat4_len]; omega) (by simp)
  have e : [putB 4 s, ts.flatMap (putB 2)].flatten = inD s ts := by simp [inD]
  rw [e] at hr
  refine PC.of_bodyK (by simp only [push_cast]) Tryz.func26 rfl (by rw [Tryz.ntmps26]; simp) ?_
  refine AWp.regionW ?_
  refine AWp.regionM fun K1 hK1 => ?_
  refine ARun2.callM (hp) ?_
  refine ARun2.callM (hq) ?_
  refine ARun2.callM (hr) ?_
  refine ARun2.endm (hK1 _ ?_)
  refine AWp.ret ?_
  try simp only [thenQ, blockQ, noGo]
  refine bodyQ.m ?_
  clear hK1 K1
  first | done | exact Wk.go
def respD (s r : Nat) (l : List Nat) : List UInt8 := putB 4 s ++ (putB 4 r ++ l.flatMap (putB 4))
theorem sresp_c (s r : Nat) (l : List Nat) (hs : s < 2 ^ 32) (hr : r < 2 ^ 32) (hl : l.length ≤ 2 ^ 20) (ht : ∀ t ∈ l, t < 2 ^ 32) : PC Tryz.prog 27 [u32 s, u32 r, .sl false 1 (u32s l)]
    (.tup [nodeA true (rightP (.mk 16 (respD s r l) [])).1, bool (rightP (.mk 16 (respD s r l) [])).2]) := by
  have hp : PC Tryz.prog 62 [nat 4, .sl false 1 [u32 s, u32 r]] (.sl true 1 (bys (putB 4 s ++ putB 4 r))) := by
    have := wire_put 4 [s, r] (by omega) (by intro x hx; simp at hx; omega) (by simp)
    simpa [u32s, List.flatMap_cons, List.flatMap_nil] using this
  have hq := wire_put 4 l (by omega) ht (by omega)
  have hr := sright_c 16 [putB 4 s ++ putB 4 r, l.flatMap (putB 4)] (by simp only [lens2, List.length_append, putB_len, flat4_len]; omega) (by simp)
  have e : [putB 4 s ++ putB 4 r, l.flatMap (putB 4)].flatten = respD s r l := by simp [respD]
  rw [e] at hr
  refine PC.of_bodyK (by simp only [push_cast]) Tryz.func27 rfl (by rw [Tryz.ntmps27]; simp) ?_
  refine AWp.regionW ?_
  refine AWp.regionM fun K1 hK1 => ?_
  refine ARun2.callM (hp) ?_
  refine ARun2.callM (hq) ?_
  refine ARun2.callM (hr) ?_
  refine ARun2.endm (hK1 _ ?_)
  refine AWp.ret ?_
  try simp only [thenQ, blockQ, noGo]
  refine bodyQ.m ?_
  clear hK1 K1
  first | done | exact Wk.go
theorem reset_right (s : Nat) : rightP (.mk 15 (putB 4 s) []) = (.mk 15 (putB 4 s) [], true) :=
  rightP_yes (node_plain (by decide) 15 _ rfl (by rw [putB_len]; rfl) rfl rfl (by rw [putB_len]; decide))
theorem sreset_c (s : Nat) (hs : s < 2 ^ 32) : PC Tryz.prog 29 [u32 s] (nodeA true (.mk 15 (putB 4 s) [])) := by
  have hp : PC Tryz.prog 62 [nat 4, .sl false 1 [u32 s]] (.sl true 1 (bys (putB 4 s))) := by
    have := wire_put 4 [s] (by omega) (by intro x hx; simp at hx; omega) (by simp)
    simpa [u32s, List.flatMap_cons, List.flatMap_nil] using this
  have hr := sright_c 15 [putB 4 s] (by simp [lens, putB_len]) (by simp)
  have e : [putB 4 s].flatten = putB 4 s := by simp
  rw [e, reset_right] at hr
  refine PC.of_bodyK (by simp only [push_cast]) Tryz.func29 rfl (by rw [Tryz.ntmps29]; simp) ?_
  refine AWp.regionW ?_
  refine AWp.regionM fun K1 hK1 => ?_
  refine ARun2.callM (hp) ?_
  refine ARun2.callM (hr) ?_
  refine ARun2.endm (hK1 _ ?_)
  refine AWp.regionW ?_
  refine AWp.ret ?_
  try simp only [thenQ, blockQ, noGo]
  refine bodyQ.m ?_
  clear hK1 K1
  first | done | exact Wk.go
def moreD (s n : Nat) : List UInt8 := putB 4 s ++ (putB 2 n ++ putB 2 0)
def moreN (t s n : Nat) : GNode × Bool := if t = 17 ∨ t = 18 then (.mk t (moreD s n) [], true) else (.zero, false)
theorem more_right (t s n : Nat) (h : t = 17 ∨ t = 18) : rightP (.mk t (moreD s n) []) = (.mk t (moreD s n) [], true) := by
  have hl : (moreD s n).length = 8 := by simp [moreD, putB_len]
  refine rightP_yes (node_plain (by decide) t _ ?_ ?_ ?_ ?_ (by rw [hl]; decide))
  · rcases h with rfl | rfl <;> rfl
  · rw [hl]; rcases h with rfl | rfl <;> rfl
  · rcases h with rfl | rfl <;> rfl
  · rcases h with rfl | rfl <;> rfl
theorem smore_c (t s n : Nat) (hs : s < 2 ^ 32) (hn : n < 2 ^ 16) : PC Tryz.prog 22 [u16 t, u32 s, u16 n] (.tup [nodeA true (moreN t s n).1, bool (moreN t s n).2]) := by
  have hp : PC Tryz.prog 62 [nat 4, .sl false 1 [u32 s]] (.sl true 1 (bys (putB 4 s))) := by
    have := wire_put 4 [s] (by omega) (by intro x hx; simp at hx; omega) (by simp)
    simpa [u32s, List.flatMap_cons, List.flatMap_nil] using this
  have hp2 : PC Tryz.prog 62 [nat 2, .sl false 1 [u32 n, u32 0]] (.sl true 1 (bys (putB 2 n ++ putB 2 0))) := by
    have := wire_put 2 [n, 0] (by omega) (by intro x hx; simp at hx; omega) (by simp)
    simpa [u32s, List.flatMap_cons, List.flatMap_nil] using this
  have hr := sright_c t [putB 4 s, putB 2 n ++ putB 2 0] (by simp [lens, putB_len]) (by simp)
  have e : [putB 4 s, putB 2 n ++ putB 2 0].flatten = moreD s n := by simp [moreD]
  rw [e] at hr
  refine PC.of_bodyK (by simp only [push_cast]) Tryz.func22 rfl (by rw [Tryz.ntmps22]; simp) ?_
  refine AWp.regionW ?_
  refine AWp.seqK fun K1 hK1 => ?_
  refine AWp.regionA fun K2 hK2 => ?_
  refine ARun.segm 3 fun KS hKS => ?_
  refine ARun2.endm (hKS _ ?_); clear hKS KS
  apply ARun.grpM 2 2 true 12 [0, 1, 2, 6, 10]
  · intro g2 KG hKG
    refine ARun2.gom ?_
    exact ARun2.endm (hKG _ Le.grpM)
  refine ARun2.gom ?_
  refine ARun2.endm (hK2 _ ?_)
  refine AWp.condLM (fun c0 => ?_) (fun c0 => ?_)
  · skip
    have h0 : ¬ (t = 17 ∨ t = 18) := by simpa using c0
    have hm : moreN t s n = (.zero, false) := if_neg h0
    refine AWp.regionW ?_
    refine AWp.ret ?_
    try simp only [thenQ, blockQ, noGo]
    refine bodyQ.m ?_
    clear hK2 K2 hK1 K1
    rw [hm]
    first | done | exact Wk.go
  · skip
    have h0 : t = 17 ∨ t = 18 := by revert c0; by_cases h1 : t = 17 <;> simp [h1]
    have hm : moreN t s n = (.mk t (moreD s n) [], true) := if_pos h0
    rw [more_right t s n h0] at hr
    refine AWp.skip ?_
    refine hK1 _ ?_
    refine AWp.regionM fun K3 hK3 => ?_
    refine ARun2.callM (hp) ?_
    refine ARun2.callM (hp2) ?_
    refine ARun2.callM (hr) ?_
    refine ARun2.endm (hK3 _ ?_)
    refine AWp.ret ?_
    try simp only [thenQ, blockQ, noGo]
    refine bodyQ.m ?_
    clear hK3 K3 hK2 K2 hK1 K1
    rw [hm]
    first | done | exact Wk.go
def isS (n : GNode) (a b : Nat) : Bool := decide (a ≤ n.ty) && decide (n.ty ≤ b) && (checkN 1 1 n == 0)
theorem sis_c (n : GNode) (a b : Nat) (hs : n.sz ≤ 2 ^ 26) : PC Tryz.prog 42 [nodeA false n, u16 a, u16 b] (bool (isS n a b)) := by
  have h1 := nSize_sz n
  refine PC.of_bodyW (by simp only [push_cast]) Tryz.func42 rfl (by rw [Tryz.ntmps42]; simp) ?_
  refine AWp.regionW ?_
  refine AWp.regionA fun K1 hK1 => ?_
  refine ARun.segm 5 fun KS hKS => ?_
  refine ARun2.endm (hKS _ ?_); clear hKS KS
  apply ARun.grpM 4 4 true 15 [3, 11]
  · intro g4 KG hKG
    refine ARun2.gom ?_
    exact ARun2.endm (hKG _ Le.grpM)
  refine ARun.segm 2 fun KS hKS => ?_
  refine ARun2.endm (hKS _ ?_); clear hKS KS
  apply ARun.grpM 3 10 true 20 [17]
  · intro g10 KG hKG
    refine ARun2.gom ?_
    refine ARun2.callM (check_c 1 n (by omega) (by omega)) ?_
    exact ARun2.endm (hKG _ Le.grpM)
  refine ARun2.gom ?_
  refine ARun2.endm (hK1 _ ?_)
  refine AWp.ret ?_
  try simp only [thenQ, blockQ, noGo]
  refine bodyQ.m ?_
  clear hK1 K1
  simp only [isS]
  first | done | exact Hand.go
theorem isS_iff {n : GNode} {a b : Nat} : isS n a b = true ↔ a ≤ n.ty ∧ n.ty ≤ b ∧ checkN 1 1 n = 0 := by
  unfold isS; simp [and_assoc]
theorem isS_form {n : GNode} (h : isS n 13 18 = true) : 4 ≤ n.data.length ∧ (n.ty = 13 → 12 ≤ n.data.length ∧ (n.data.length - 12) % 2 = 0) ∧ (n.ty = 14 → (n.data.length - 4) % 2 = 0) := by
  obtain ⟨h1, h2, h3⟩ := isS_iff.1 h
  have ht : n.ty = 13 ∨ n.ty = 14 ∨ n.ty = 15 ∨ n.ty = 16 ∨ n.ty = 17 ∨ n.ty = 18 := by omega
  have hh : shapeHas 1 n.ty = true := by rcases ht with e | e | e | e | e | e <;> rw [e] <;> rfl
  have hf := (node_zero h3 hh).1
  rcases ht with e | e | e | e | e | e <;> rw [e] at hf ⊢ <;> (unfold fitsN at hf; simp [shapeOf, formsN, paramForms] at hf ⊢; omega)
def seqN (n : GNode) : Nat × Bool := if isS n 13 18 = true then (peekN 4 n.data 0, true) else (0, false)
theorem sseq_c (n : GNode) (hs : n.sz ≤ 2 ^ 26) : PC Tryz.prog 12 [nodeA false n] (.tup [u32 (seqN n).1, bool (seqN n).2]) := by
  have hsz := n.sz_eq
  refine PC.of_bodyW (by simp only [push_cast]) Tryz.func12 rfl (by rw [Tryz.ntmps12]; simp) ?_
  refine AWp.regionW ?_
  refine AWp.seqK fun K1 hK1 => ?_
  refine AWp.regionM fun K2 hK2 => ?_
  refine ARun2.callM (sis_c n 13 18 hs) ?_
  refine ARun2.endm (hK2 _ ?_)
  refine AWp.condLM (fun c0 => ?_) (fun c0 => ?_)
  · skip
    have hr : seqN n = (0, false) := if_neg (by simpa using c0)
    refine AWp.regionW ?_
    refine AWp.ret ?_
    try simp only [thenQ, blockQ, noGo]
    refine bodyQ.m ?_
    clear hK2 K2 hK1 K1
    rw [hr]
    first | done | exact Hand.go
  · skip
    have hi : isS n 13 18 = true := by simpa using c0
    have hr : seqN n = (peekN 4 n.data 0, true) := if_pos hi
    have hf := (isS_form hi).1
    refine AWp.skip ?_
    refine hK1 _ ?_
    refine AWp.regionM fun K3 hK3 => ?_
    refine ARun2.callOM [] (new_c n.data (by omega)) ?_
    refine ARun2.callOM [1] (num_hit 4 n.data 0 (by decide) (by omega) (by omega)) ?_
    refine ARun2.endm (hK3 _ ?_)
    refine AWp.ret ?_
    try simp only [thenQ, blockQ, noGo]
    refine bodyQ.m ?_
    clear hK3 K3 hK2 K2 hK1 K1
    rw [hr]
    first | done | exact Hand.go
/-- the streams that a node tells -/
def streamsN (n : GNode) : List Nat := if isS n 13 14 = true then numsA 2 (n.data.drop (bif n.ty == 13 then 12 else 4)) else []
theorem isS_mono {n : GNode} (h : isS n 13 14 = true) : isS n 13 18 = true := by
  rw [isS_iff] at h ⊢; omega
theorem sstreams_c (n : GNode) (hs : n.sz ≤ 2 ^ 26) : PC Tryz.prog 15 [nodeA false n] (.sl true 1 (u16s (streamsN n))) := by
  have hsz := n.sz_eq
  have hnl : ∀ k, (numsA 2 (n.data.drop k)).length ≤ n.data.length := fun k => by
    have := numsA_len 2 (n.data.drop k)
    rw [List.length_drop] at this; omega
  refine PC.of_bodyK (by simp only [push_cast]) Tryz.func15 rfl (by rw [Tryz.ntmps15]; simp) ?_
  refine AWp.regionW ?_
  refine AWp.seqK fun K1 hK1 => ?_
  refine AWp.regionM fun K2 hK2 => ?_
  refine ARun2.callM (sis_c n 13 14 hs) ?_
  refine ARun2.endm (hK2 _ ?_)
  refine AWp.condLM (fun c0 => ?_) (fun c0 => ?_)
  · skip
    have hr : streamsN n = [] := if_neg (by simpa using c0)
    refine AWp.regionW ?_
    refine AWp.ret ?_
    try simp only [thenQ, blockQ, noGo]
    refine bodyQ.m ?_
    clear hK2 K2 hK1 K1
    rw [hr]
    first | done | exact Wk.go
  · skip
    have hi : isS n 13 14 = true := by simpa using c0
    have hr : streamsN n = numsA 2 (n.data.drop (bif n.ty == 13 then 12 else 4)) := if_pos hi
    obtain ⟨hf1, hf2, hf3⟩ := isS_form (isS_mono hi)
    refine AWp.skip ?_
    refine hK1 _ ?_
    refine AWp.regionW ?_
    refine AWp.seqK fun K3 hK3 => ?_
    refine AWp.regionW ?_
    refine AWp.condLM (fun c1 => ?_) (fun c1 => ?_)
    · skip
      have ht : n.ty = 13 := by simpa using c1
      obtain ⟨K, hK⟩ : ∃ K, K = 12 := ⟨_, rfl⟩
      have hKl : K ≤ n.data.length := by have := (hf2 ht).1; omega
      rw [show (bif n.ty == 13 then 12 else 4) = K by rw [ht, hK]; rfl] at hr
      refine AWp.regionV ?_
      refine hK3 _ ?_
      refine AWp.regionW ?_
      refine AWp.seqK fun K4 hK4 => ?_
      obtain ⟨ns, hns⟩ : ∃ ns, ns = numsA 2 (n.data.drop K) := ⟨_, rfl⟩
      have hlt : ∀ x ∈ ns, x < 2 ^ 16 := by rw [hns]; exact fun x hx => numsA_lt hx
      have hnl2 := hnl K
      rw [← hns] at hr hnl2
      subst hK
      refine AWp.regionM fun K5 hK5 => ?_
      refine ARun2.sliceLoM (12) ?_ ?_
      · rw [bys_len]; exact hKl
      refine ARun2.callM (hns ▸ numbers_a 2 (n.data.drop 12) (by omega) (by rw [List.length_drop]; omega)) ?_
      refine ARun2.endm (hK5 _ ?_)
      refine AWp.block ?_
      -- SLOTS THAT TURN AND ARE NOT TOLD: [4]
      refine AWp.nilOwn 4 22 1 (by simp only [push_cast, ↓reduceIte, Nat.reduceEqDiff, Nat.reduceLT, Nat.reduceAdd, Nat.reduceSub, Nat.reduceMul, Nat.reduceLeDiff, Nat.reducePow, Int.reduceLT, Int.reduceToNat, reduceCtorEq, Int.reduceNeg, Int.reduceEq, Nat.reduceBEq, Nat.reduceBNe, Int.reduceBEq, Int.reduceBNe, String.reduceEq]) ?_
      simp only [push_cast, ↓reduceIte, Nat.reduceEqDiff, Nat.reduceLT, Nat.reduceAdd, Nat.reduceSub, Nat.reduceMul, Nat.reduceLeDiff, Nat.reducePow, Int.reduceLT, Int.reduceToNat, reduceCtorEq, Int.reduceNeg, Int.reduceEq, Nat.reduceBEq, Nat.reduceBNe, Int.reduceBEq, Int.reduceBNe, String.reduceEq]
      refine AWp.loopK [4, 17, 18] (fun (i : Nat) => [(19, nat i)]) (fun i => [.box 26 [u16 n.ty, .sl false 1 (bys n.data), .sl false 3 (nodesA false n.kids)], .row 22 1 (u16s (ns.take i))]) (fun i => i ≤ ns.length) (fun i => ns.length - i) (0) ?_ (Nat.zero_le _) ?_
      · skip
        refine Le.m 2 ?_ ?_
        · first | with_reducible rfl | (simp only [push_cast, ↓reduceIte, Nat.reduceEqDiff, Nat.reduceLT, Nat.reduceAdd, Nat.reduceSub, Nat.reduceMul, Nat.reduceLeDiff, Nat.reducePow, Int.reduceLT, Int.reduceToNat, reduceCtorEq, Int.reduceNeg, Int.reduceEq, Nat.reduceBEq, Nat.reduceBNe, Int.reduceBEq, Int.reduceBNe, String.reduceEq]; first | done | rfl | (simp (disch := omega) only [w_nat, w_add, w_addl, w_addr, w_sub, w_subl, w_mul, w_mull, w_mulr, w_u32, w_u16, w_u8, w_u32a, N_zero]; first | done | rfl))
        · first | (simp only [push_cast, ↓reduceIte, Nat.reduceEqDiff, Nat.reduceLT, Nat.reduceAdd, Nat.reduceSub, Nat.reduceMul, Nat.reduceLeDiff, Nat.reducePow, Int.reduceLT, Int.reduceToNat, reduceCtorEq, Int.reduceNeg, Int.reduceEq, Nat.reduceBEq, Nat.reduceBNe, Int.reduceBEq, Int.reduceBNe, String.reduceEq]; first | done | rfl | (simp (disch := omega) only [w_nat, w_add, w_addl, w_addr, w_sub, w_subl, w_mul, w_mull, w_mulr, w_u32, w_u16, w_u8, w_u32a, N_zero]; first | done | rfl))
      · intro i hi K6 hK6
        refine AWp.regionW ?_
        refine AWp.seqK fun K7 hK7 => ?_
        refine AWp.condLM (fun c2 => ?_) (fun c2 => ?_)
        · skip
          have hil : i < ns.length := by simpa using c2
          have hxi := hlt ns[i] (List.getElem_mem hil)
          refine AWp.skip ?_
          refine hK7 _ ?_
          refine AWp.seqK fun K8 hK8 => ?_
          refine AWp.block ?_
          refine AWp.regionM fun K9 hK9 => ?_
          refine ARun2.indexM (i) (u32 ns[i]) ?_ ?_
          · exact u32s_at _ _ hil
          refine ARun2.endm (hK9 _ ?_)
          refine AWp.regionN fun K10 hK10 => ?_
          refine ARun2.appendM ?_ ?_ ?_
          · rw [YtfghmfjbbjapgaaGreatDoor.Facts.eb33, u16s_len, List.length_take, List.length_cons, List.length_nil]; omega
          · rw [u16s_len, List.length_take, List.length_cons, List.length_nil]; omega
          refine ARun2.endm (hK10 _ ?_)
          refine hK8 _ ?_
          refine AWp.regionV ?_
          refine hK6 _ (i + 1) (by omega) (by omega) ?_
          refine Le.m 2 ?_ ?_
          · try simp only [push_cast, ↓reduceIte, Nat.reduceEqDiff, Nat.reduceLT, Nat.reduceAdd, Nat.reduceSub, Nat.reduceMul, Nat.reduceLeDiff, Nat.reducePow, Int.reduceLT, Int.reduceToNat, reduceCtorEq, Int.reduceNeg, Int.reduceEq, Nat.reduceBEq, Nat.reduceBNe, Int.reduceBEq, Int.reduceBNe, String.reduceEq]
            try simp (disch := omega) only [w_nat, w_add, w_addl, w_addr, w_sub, w_subl, w_mul, w_mull, w_mulr, w_u32, w_u16, w_u8, w_u32a, N_zero]
            first | done | skip
            rw [List.take_succ_eq_append_getElem hil, u16s_snoc]
          · first | (simp only [push_cast, ↓reduceIte, Nat.reduceEqDiff, Nat.reduceLT, Nat.reduceAdd, Nat.reduceSub, Nat.reduceMul, Nat.reduceLeDiff, Nat.reducePow, Int.reduceLT, Int.reduceToNat, reduceCtorEq, Int.reduceNeg, Int.reduceEq, Nat.reduceBEq, Nat.reduceBNe, Int.reduceBEq, Int.reduceBNe, String.reduceEq]; first | done | rfl | (simp (disch := omega) only [w_nat, w_add, w_addl, w_addr, w_sub, w_subl, w_mul, w_mull, w_mulr, w_u32, w_u16, w_u8, w_u32a, N_zero]; first | done | rfl))
        · skip
          have hil : i = ns.length := by simp at c2; omega
          subst hil
          refine AWp.exit ?_
          try simp only [thenQ, blockQ, noGo, reduceIte, Nat.reduceEqDiff]
          refine hK4 _ ?_
          refine AWp.pubD 1 ?_
          rw [List.take_length]
          refine AWp.regionW ?_
          refine AWp.ret ?_
          try simp only [thenQ, blockQ, noGo]
          refine bodyQ.m ?_
          clear hK7 K7 hK6 K6 hK5 K5 hK4 K4 hK3 K3 hK2 K2 hK1 K1
          rw [hr]
          first | done | exact Wk.go
    · skip
      have ht : ¬ n.ty = 13 := by simpa using c1
      obtain ⟨K, hK⟩ : ∃ K, K = 4 := ⟨_, rfl⟩
      have hKl : K ≤ n.data.length := by omega
      rw [show (bif n.ty == 13 then 12 else 4) = K by rw [show (n.ty == 13) = false by simpa using ht, hK]; rfl] at hr
      refine AWp.skip ?_
      refine hK3 _ ?_
      refine AWp.regionW ?_
      refine AWp.seqK fun K11 hK11 => ?_
      obtain ⟨ns, hns⟩ : ∃ ns, ns = numsA 2 (n.data.drop K) := ⟨_, rfl⟩
      have hlt : ∀ x ∈ ns, x < 2 ^ 16 := by rw [hns]; exact fun x hx => numsA_lt hx
      have hnl2 := hnl K
      rw [← hns] at hr hnl2
      subst hK
      refine AWp.regionM fun K12 hK12 => ?_
      refine ARun2.sliceLoM (4) ?_ ?_
      · rw [bys_len]; exact hKl
      refine ARun2.callM (hns ▸ numbers_a 2 (n.data.drop 4) (by omega) (by rw [List.length_drop]; omega)) ?_
      refine ARun2.endm (hK12 _ ?_)
      refine AWp.block ?_
      -- SLOTS THAT TURN AND ARE NOT TOLD: [4]
      refine AWp.nilOwn 4 22 1 (by simp only [push_cast, ↓reduceIte, Nat.reduceEqDiff, Nat.reduceLT, Nat.reduceAdd, Nat.reduceSub, Nat.reduceMul, Nat.reduceLeDiff, Nat.reducePow, Int.reduceLT, Int.reduceToNat, reduceCtorEq, Int.reduceNeg, Int.reduceEq, Nat.reduceBEq, Nat.reduceBNe, Int.reduceBEq, Int.reduceBNe, String.reduceEq]) ?_
      simp only [push_cast, ↓reduceIte, Nat.reduceEqDiff, Nat.reduceLT, Nat.reduceAdd, Nat.reduceSub, Nat.reduceMul, Nat.reduceLeDiff, Nat.reducePow, Int.reduceLT, Int.reduceToNat, reduceCtorEq, Int.reduceNeg, Int.reduceEq, Nat.reduceBEq, Nat.reduceBNe, Int.reduceBEq, Int.reduceBNe, String.reduceEq]
      refine AWp.loopK [4, 17, 18] (fun (i : Nat) => [(19, nat i)]) (fun i => [.box 26 [u16 n.ty, .sl false 1 (bys n.data), .sl false 3 (nodesA false n.kids)], .row 22 1 (u16s (ns.take i))]) (fun i => i ≤ ns.length) (fun i => ns.length - i) (0) ?_ (Nat.zero_le _) ?_
      · skip
        refine Le.m 2 ?_ ?_
        · first | with_reducible rfl | (simp only [push_cast, ↓reduceIte, Nat.reduceEqDiff, Nat.reduceLT, Nat.reduceAdd, Nat.reduceSub, Nat.reduceMul, Nat.reduceLeDiff, Nat.reducePow, Int.reduceLT, Int.reduceToNat, reduceCtorEq, Int.reduceNeg, Int.reduceEq, Nat.reduceBEq, Nat.reduceBNe, Int.reduceBEq, Int.reduceBNe, String.reduceEq]; first | done | rfl | (simp (disch := omega) only [w_nat, w_add, w_addl, w_addr, w_sub, w_subl, w_mul, w_mull, w_mulr, w_u32, w_u16, w_u8, w_u32a, N_zero]; first | done | rfl))
        · first | (simp only [push_cast, ↓reduceIte, Nat.reduceEqDiff, Nat.reduceLT, Nat.reduceAdd, Nat.reduceSub, Nat.reduceMul, Nat.reduceLeDiff, Nat.reducePow, Int.reduceLT, Int.reduceToNat, reduceCtorEq, Int.reduceNeg, Int.reduceEq, Nat.reduceBEq, Nat.reduceBNe, Int.reduceBEq, Int.reduceBNe, String.reduceEq]; first | done | rfl | (simp (disch := omega) only [w_nat, w_add, w_addl, w_addr, w_sub, w_subl, w_mul, w_mull, w_mulr, w_u32, w_u16, w_u8, w_u32a, N_zero]; first | done | rfl))
      · intro i hi K13 hK13
        refine AWp.regionW ?_
        refine AWp.seqK fun K14 hK14 => ?_
        refine AWp.condLM (fun c2 => ?_) (fun c2 => ?_)
        · skip
          have hil : i < ns.length := by simpa using c2
          have hxi := hlt ns[i] (List.getElem_mem hil)
          refine AWp.skip ?_
          refine hK14 _ ?_
          refine AWp.seqK fun K15 hK15 => ?_
          refine AWp.block ?_
          refine AWp.regionM fun K16 hK16 => ?_
          refine ARun2.indexM (i) (u32 ns[i]) ?_ ?_
          · exact u32s_at _ _ hil
          refine ARun2.endm (hK16 _ ?_)
          refine AWp.regionN fun K17 hK17 => ?_
          refine ARun2.appendM ?_ ?_ ?_
          · rw [YtfghmfjbbjapgaaGreatDoor.Facts.eb33, u16s_len, List.length_take, List.length_cons, List.length_nil]; omega
          · rw [u16s_len, List.length_take, List.length_cons, List.length_nil]; omega
          refine ARun2.endm (hK17 _ ?_)
          refine hK15 _ ?_
          refine AWp.regionV ?_
          refine hK13 _ (i + 1) (by omega) (by omega) ?_
          refine Le.m 2 ?_ ?_
          · try simp only [push_cast, ↓reduceIte, Nat.reduceEqDiff, Nat.reduceLT, Nat.reduceAdd, Nat.reduceSub, Nat.reduceMul, Nat.reduceLeDiff, Nat.reducePow, Int.reduceLT, Int.reduceToNat, reduceCtorEq, Int.reduceNeg, Int.reduceEq, Nat.reduceBEq, Nat.reduceBNe, Int.reduceBEq, Int.reduceBNe, String.reduceEq]
            try simp (disch := omega) only [w_nat, w_add, w_addl, w_addr, w_sub, w_subl, w_mul, w_mull, w_mulr, w_u32, w_u16, w_u8, w_u32a, N_zero]
            first | done | skip
            rw [List.take_succ_eq_append_getElem hil, u16s_snoc]
          · first | (simp only [push_cast, ↓reduceIte, Nat.reduceEqDiff, Nat.reduceLT, Nat.reduceAdd, Nat.reduceSub, Nat.reduceMul, Nat.reduceLeDiff, Nat.reducePow, Int.reduceLT, Int.reduceToNat, reduceCtorEq, Int.reduceNeg, Int.reduceEq, Nat.reduceBEq, Nat.reduceBNe, Int.reduceBEq, Int.reduceBNe, String.reduceEq]; first | done | rfl | (simp (disch := omega) only [w_nat, w_add, w_addl, w_addr, w_sub, w_subl, w_mul, w_mull, w_mulr, w_u32, w_u16, w_u8, w_u32a, N_zero]; first | done | rfl))
        · skip
          have hil : i = ns.length := by simp at c2; omega
          subst hil
          refine AWp.exit ?_
          try simp only [thenQ, blockQ, noGo, reduceIte, Nat.reduceEqDiff]
          refine hK11 _ ?_
          refine AWp.pubD 1 ?_
          rw [List.take_length]
          refine AWp.regionW ?_
          refine AWp.ret ?_
          try simp only [thenQ, blockQ, noGo]
          refine bodyQ.m ?_
          clear hK14 K14 hK13 K13 hK12 K12 hK11 K11 hK3 K3 hK2 K2 hK1 K1
          rw [hr]
          first | done | exact Wk.go
def answersS (q a : GNode) : Bool := (seqN q).2 && (seqN a).2 && (q.ty != 16) && (a.ty == 16) && ((seqN q).1 == (seqN a).1)
theorem sanswers_c (q a : GNode) (hq : q.sz ≤ 2 ^ 26) (ha : a.sz ≤ 2 ^ 26) : PC Tryz.prog 21 [nodeA false q, nodeA false a] (bool (answersS q a)) := by
  refine PC.of_bodyW (by simp only [push_cast]) Tryz.func21 rfl (by rw [Tryz.ntmps21]; simp) ?_
  refine AWp.regionW ?_
  refine AWp.regionM fun K1 hK1 => ?_
  refine ARun2.callM (sseq_c q hq) ?_
  refine ARun2.endm (hK1 _ ?_)
  refine AWp.regionM fun K2 hK2 => ?_
  refine ARun2.callM (sseq_c a ha) ?_
  refine ARun2.endm (hK2 _ ?_)
  refine AWp.regionA fun K3 hK3 => ?_
  refine ARun.segm 2 fun KS hKS => ?_
  refine ARun2.endm (hKS _ ?_); clear hKS KS
  apply ARun.grpM 1 1 true 21 [2, 3, 5, 7, 20]
  · intro g1 KG hKG
    refine ARun2.gom ?_
    exact ARun2.endm (hKG _ Le.grpM)
  refine ARun.segm 2 fun KS hKS => ?_
  refine ARun2.endm (hKS _ ?_); clear hKS KS
  apply ARun.grpM 3 4 true 26 [3, 5, 7, 23]
  · intro g4 KG hKG
    refine ARun2.gom ?_
    exact ARun2.endm (hKG _ Le.grpM)
  refine ARun.segm 2 fun KS hKS => ?_
  refine ARun2.endm (hKS _ ?_); clear hKS KS
  apply ARun.grpM 3 9 true 31 [5, 7, 28]
  · intro g9 KG hKG
    refine ARun2.gom ?_
    exact ARun2.endm (hKG _ Le.grpM)
  refine ARun.segm 2 fun KS hKS => ?_
  refine ARun2.endm (hKS _ ?_); clear hKS KS
  apply ARun.grpM 3 14 true 36 [33]
  · intro g14 KG hKG
    refine ARun2.gom ?_
    exact ARun2.endm (hKG _ Le.grpM)
  refine ARun2.gom ?_
  refine ARun2.endm (hK3 _ ?_)
  refine AWp.ret ?_
  try simp only [thenQ, blockQ, noGo]
  refine bodyQ.m ?_
  clear hK3 K3 hK2 K2 hK1 K1
  simp only [answersS]
  first | done | exact Hand.go
end Go.Proofs.YtfghmfjbbjapgaaGreatDoor.C
/- stream: Make; wharfref17: Is, Seq, Streams, Equal, Build. -/
set_option linter.unusedVariables false
set_option linter.unusedSimpArgs false
namespace Go.Proofs.YtfghmfjbbjapgaaGreatDoor.C
open Go.Abs
def oddS (n : GNode) : Bool := decide (n.ty < 13) || decide (18 < n.ty)
theorem smake1_c (n : GNode) : PC Tryz.prog 47 [nodeA false n] (bool (oddS n)) := by
  refine PC.of_bodyW (by simp only [push_cast]) Tryz.func47 rfl (by rw [Tryz.ntmps47]; simp) ?_
  refine AWp.regionW ?_
  refine AWp.regionA fun K1 hK1 => ?_
  refine ARun.segm 4 fun KS hKS => ?_
  refine ARun2.endm (hKS _ ?_); clear hKS KS
  apply ARun.grpM 3 3 false 9 [6]
  · intro g3 KG hKG
    refine ARun2.gom ?_
    exact ARun2.endm (hKG _ Le.grpM)
  refine ARun2.gom ?_
  refine ARun2.endm (hK1 _ ?_)
  refine AWp.ret ?_
  try simp only [thenQ, blockQ, noGo]
  refine bodyQ.m ?_
  clear hK1 K1
  simp only [oddS]
  first | done | exact Hand.go
def reconC (l : List GNode) : GChunk := ⟨130, 0, [], l⟩
theorem small_recon {l : List GNode} (h : szs l ≤ 2 ^ 26) : Small (reconC l) := ⟨by show 130 < 256; decide, by show 0 < 256; decide, Nat.zero_le _, h⟩
def smakeN (l : List GNode) : GChunk × Bool := if l.any oddS = false ∧ checkC (reconC l) = 0 then (reconC l, true) else (.zero, false)
theorem smake_c (l : List GNode) (h : szs l ≤ 2 ^ 26) : PC Tryz.prog 17 [.sl false 3 (nodesA false l)] (.tup [chunkA true (smakeN l).1, bool (smakeN l).2]) := by
  have hlen := szs_len l
  have h1 := ncontF_c 47 (by kernel_rfl) oddS l (by omega) (fun x _ => smake1_c x)
  have hs := small_recon h
  have h2 := hs.check
  have h3 := hs.clone
  refine PC.of_bodyK (by simp only [push_cast]) Tryz.func17 rfl (by rw [Tryz.ntmps17]; simp) ?_
  refine AWp.regionW ?_
  refine AWp.regionW ?_
  refine AWp.regionW ?_
  refine AWp.seqK fun K1 hK1 => ?_
  refine AWp.regionA fun K2 hK2 => ?_
  refine ARun.segm 4 fun KS hKS => ?_
  refine ARun2.callM (h1) ?_
  refine ARun2.endm (hKS _ ?_); clear hKS KS
  apply ARun.grpM 3 3 false 14 [2, 4, 11]
  · intro g3 KG hKG
    refine ARun2.gom ?_
    refine ARun2.callM (h2) ?_
    exact ARun2.endm (hKG _ Le.grpM)
  refine ARun2.gom ?_
  refine ARun2.endm (hK2 _ ?_)
  refine AWp.condLM (fun c0 => ?_) (fun c0 => ?_)
  · skip
    have h0 : ¬ (l.any oddS = false ∧ checkC (reconC l) = 0) := by rintro ⟨e1, e2⟩; rw [e1, e2] at c0; simp at c0
    have hr : smakeN l = (.zero, false) := if_neg h0
    refine AWp.regionW ?_
    refine AWp.ret ?_
    try simp only [thenQ, blockQ, noGo]
    refine bodyQ.m ?_
    clear hK2 K2 hK1 K1
    rw [hr]
    try simp only [GChunk.zero]
    first | done | exact Wk.go
  · skip
    have h0 : l.any oddS = false ∧ checkC (reconC l) = 0 := by revert c0; cases l.any oddS <;> simp
    have hr : smakeN l = (reconC l, true) := if_pos h0
    refine AWp.skip ?_
    refine hK1 _ ?_
    refine AWp.regionM fun K3 hK3 => ?_
    refine ARun2.callM (h3) ?_
    refine ARun2.endm (hK3 _ ?_)
    refine AWp.ret ?_
    try simp only [thenQ, blockQ, noGo]
    refine bodyQ.m ?_
    clear hK3 K3 hK2 K2 hK1 K1
    rw [hr]
    try simp only [GChunk.zero]
    first | done | exact Wk.go
theorem ris17_c (n : GNode) (hs : n.sz ≤ 2 ^ 26) : PC Tryz.prog 18 [nodeA false n] (bool (isS n 13 18)) := by
  have h1 := nSize_sz n
  refine PC.of_bodyW (by simp only [push_cast]) Tryz.func18 rfl (by rw [Tryz.ntmps18]; simp) ?_
  refine AWp.regionW ?_
  refine AWp.regionA fun K1 hK1 => ?_
  refine ARun.segm 4 fun KS hKS => ?_
  refine ARun2.endm (hKS _ ?_); clear hKS KS
  apply ARun.grpM 3 3 true 9 [1, 6]
  · intro g3 KG hKG
    refine ARun2.gom ?_
    exact ARun2.endm (hKG _ Le.grpM)
  refine ARun.segm 2 fun KS hKS => ?_
  refine ARun2.endm (hKS _ ?_); clear hKS KS
  apply ARun.grpM 3 8 true 14 [11]
  · intro g8 KG hKG
    refine ARun2.gom ?_
    refine ARun2.callM (check08_c 1 1 n (by decide) (by decide) (by omega)) ?_
    exact ARun2.endm (hKG _ Le.grpM)
  refine ARun2.gom ?_
  refine ARun2.endm (hK1 _ ?_)
  refine AWp.ret ?_
  try simp only [thenQ, blockQ, noGo]
  refine bodyQ.m ?_
  clear hK1 K1
  simp only [isS]
  first | done | exact Hand.go
theorem rseq17_c (n : GNode) (hs : n.sz ≤ 2 ^ 26) : PC Tryz.prog 13 [nodeA false n] (.tup [u32 (seqN n).1, bool (seqN n).2]) := by
  have hsz := n.sz_eq
  refine PC.of_bodyW (by simp only [push_cast]) Tryz.func13 rfl (by rw [Tryz.ntmps13]; simp) ?_
  refine AWp.regionW ?_
  refine AWp.seqK fun K1 hK1 => ?_
  refine AWp.regionM fun K2 hK2 => ?_
  refine ARun2.callM (ris17_c n hs) ?_
  refine ARun2.endm (hK2 _ ?_)
  refine AWp.condLM (fun c0 => ?_) (fun c0 => ?_)
  · skip
    have hr : seqN n = (0, false) := if_neg (by simpa using c0)
    refine AWp.regionW ?_
    refine AWp.ret ?_
    try simp only [thenQ, blockQ, noGo]
    refine bodyQ.m ?_
    clear hK2 K2 hK1 K1
    rw [hr]
    first | done | exact Hand.go
  · skip
    have hi : isS n 13 18 = true := by simpa using c0
    have hr : seqN n = (peekN 4 n.data 0, true) := if_pos hi
    have hf := (isS_form hi).1
    have hn := number01_c 4 n.data 0 (by omega) (by omega) (by omega)
    rw [show decide (0 + 4 ≤ n.data.length) = true by simpa using hf] at hn
    refine AWp.skip ?_
    refine hK1 _ ?_
    refine AWp.regionM fun K3 hK3 => ?_
    refine ARun2.callM (hn) ?_
    refine ARun2.endm (hK3 _ ?_)
    refine AWp.ret ?_
    try simp only [thenQ, blockQ, noGo]
    refine bodyQ.m ?_
    clear hK3 K3 hK2 K2 hK1 K1
    rw [hr]
    first | done | exact Hand.go
theorem requal_c (l m : List Nat) (hl : l.length ≤ 2 ^ 40) : PC Tryz.prog 14 [.sl false 1 (u16s l), .sl false 1 (u16s m)] (bool (decide (l = m))) := by
  refine PC.of_bodyW (by simp only [push_cast]) Tryz.func14 rfl (by rw [Tryz.ntmps14]; simp) ?_
  refine AWp.regionW ?_
  refine AWp.seqK fun K1 hK1 => ?_
  refine AWp.regionW ?_
  refine AWp.condLM (fun c0 => ?_) (fun c0 => ?_)
  · skip
    have hne : ¬ l = m := by rintro rfl; simp at c0
    have hr : decide (l = m) = false := by simpa using hne
    refine AWp.regionW ?_
    refine AWp.ret ?_
    try simp only [thenQ, blockQ, noGo]
    refine bodyQ.m ?_
    clear hK1 K1
    rw [hr]
    first | done | exact Hand.go
  · skip
    have he : l.length = m.length := by simpa using c0
    refine AWp.skip ?_
    refine hK1 _ ?_
    refine AWp.seqK fun K2 hK2 => ?_
    refine AWp.regionW ?_
    refine AWp.block ?_
    refine AWp.loopK0 [0, 1] (fun (i : Nat) => [(5, nat i)]) (fun i => i ≤ l.length ∧ l.take i = m.take i) (fun i => l.length - i) (0) ?_ ⟨Nat.zero_le _, rfl⟩ ?_
    · skip
      refine Le.m 0 ?_ ?_
      · first | with_reducible rfl | (simp only [push_cast, ↓reduceIte, Nat.reduceEqDiff, Nat.reduceLT, Nat.reduceAdd, Nat.reduceSub, Nat.reduceMul, Nat.reduceLeDiff, Nat.reducePow, Int.reduceLT, Int.reduceToNat, reduceCtorEq, Int.reduceNeg, Int.reduceEq, Nat.reduceBEq, Nat.reduceBNe, Int.reduceBEq, Int.reduceBNe, String.reduceEq]; first | done | rfl | (simp (disch := omega) only [w_nat, w_add, w_addl, w_addr, w_sub, w_subl, w_mul, w_mull, w_mulr, w_u32, w_u16, w_u8, w_u32a, N_zero]; first | done | rfl))
      · first | (simp only [push_cast, ↓reduceIte, Nat.reduceEqDiff, Nat.reduceLT, Nat.reduceAdd, Nat.reduceSub, Nat.reduceMul, Nat.reduceLeDiff, Nat.reducePow, Int.reduceLT, Int.reduceToNat, reduceCtorEq, Int.reduceNeg, Int.reduceEq, Nat.reduceBEq, Nat.reduceBNe, Int.reduceBEq, Int.reduceBNe, String.reduceEq]; first | done | rfl | (simp (disch := omega) only [w_nat, w_add, w_addl, w_addr, w_sub, w_subl, w_mul, w_mull, w_mulr, w_u32, w_u16, w_u8, w_u32a, N_zero]; first | done | rfl))
    · intro i hi K3 hK3
      refine AWp.seqK fun K4 hK4 => ?_
      refine AWp.regionW ?_
      refine AWp.condLM (fun c1 => ?_) (fun c1 => ?_)
      · skip
        have hil : i < l.length := by simpa using c1
        have him : i < m.length := by omega
        refine AWp.skip ?_
        refine hK4 _ ?_
        refine AWp.seqK fun K5 hK5 => ?_
        refine AWp.block ?_
        refine AWp.drS [[(0, none)], [(5, none)], [(17, some 0), (18, some 1)], [(19, some 2)], [(1, none)], [(5, none)], [(21, some 4), (22, some 5)], [(23, some 6)], [(20, some 3), (24, some 7)]] fun G hG => ?_
        refine Dr.sim ?_
        try simp only [List.cons_append, List.nil_append]
        refine Dr.sim ?_
        try simp only [List.cons_append, List.nil_append]
        refine Dr.idx (i) (u16 l[i]) ?_ ?_
        · exact u16s_at _ _ hil
        try simp only [List.cons_append, List.nil_append]
        refine Dr.sim ?_
        try simp only [List.cons_append, List.nil_append]
        refine Dr.sim ?_
        try simp only [List.cons_append, List.nil_append]
        refine Dr.sim ?_
        try simp only [List.cons_append, List.nil_append]
        refine Dr.idx (i) (u16 m[i]) ?_ ?_
        · exact u16s_at _ _ him
        try simp only [List.cons_append, List.nil_append]
        refine Dr.sim ?_
        try simp only [List.cons_append, List.nil_append]
        refine Dr.sim ?_
        try simp only [List.cons_append, List.nil_append]
        refine Dr.finM (n := 9) [(25, 8)] [0, 1, 5] hG YtfghmfjbbjapgaaGreatDoor.Facts.mixed fun KD hKD => ?_
        refine ARun2.endm (hKD _ ?_); clear hKD KD hG G
        refine AWp.condLM (fun c2 => ?_) (fun c2 => ?_)
        · skip
          have hne : ¬ l = m := by rintro rfl; simp at c2
          have hr : decide (l = m) = false := by simpa using hne
          refine AWp.regionW ?_
          refine AWp.ret ?_
          try simp only [thenQ, blockQ, noGo]
          refine bodyQ.m ?_
          clear hK5 K5 hK4 K4 hK3 K3 hK2 K2 hK1 K1
          rw [hr]
          first | done | exact Hand.go
        · skip
          have heq : l[i] = m[i] := by simpa using c2
          refine AWp.skip ?_
          refine hK5 _ ?_
          refine AWp.regionV ?_
          refine hK3 _ (i + 1) (⟨by omega, by rw [List.take_succ_eq_append_getElem hil, List.take_succ_eq_append_getElem him, hi.2, heq]⟩) (by omega) ?_
          refine Le.m 0 ?_ ?_
          · first | with_reducible rfl | (simp only [push_cast, ↓reduceIte, Nat.reduceEqDiff, Nat.reduceLT, Nat.reduceAdd, Nat.reduceSub, Nat.reduceMul, Nat.reduceLeDiff, Nat.reducePow, Int.reduceLT, Int.reduceToNat, reduceCtorEq, Int.reduceNeg, Int.reduceEq, Nat.reduceBEq, Nat.reduceBNe, Int.reduceBEq, Int.reduceBNe, String.reduceEq]; first | done | rfl | (simp (disch := omega) only [w_nat, w_add, w_addl, w_addr, w_sub, w_subl, w_mul, w_mull, w_mulr, w_u32, w_u16, w_u8, w_u32a, N_zero]; first | done | rfl))
          · first | (simp only [push_cast, ↓reduceIte, Nat.reduceEqDiff, Nat.reduceLT, Nat.reduceAdd, Nat.reduceSub, Nat.reduceMul, Nat.reduceLeDiff, Nat.reducePow, Int.reduceLT, Int.reduceToNat, reduceCtorEq, Int.reduceNeg, Int.reduceEq, Nat.reduceBEq, Nat.reduceBNe, Int.reduceBEq, Int.reduceBNe, String.reduceEq]; first | done | rfl | (simp (disch := omega) only [w_nat, w_add, w_addl, w_addr, w_sub, w_subl, w_mul, w_mull, w_mulr, w_u32, w_u16, w_u8, w_u32a, N_zero]; first | done | rfl))
      · skip
        have hil : i = l.length := by have := hi.1; simp at c1; omega
        have hr : decide (l = m) = true := by
          have := hi.2
          rw [hil, List.take_length, he, List.take_length] at this
          simpa using this
        refine AWp.exit ?_
        try simp only [thenQ, blockQ, noGo, reduceIte, Nat.reduceEqDiff]
        refine hK2 _ ?_
        refine AWp.regionW ?_
        refine AWp.ret ?_
        try simp only [thenQ, blockQ, noGo]
        refine bodyQ.m ?_
        clear hK4 K4 hK3 K3 hK2 K2 hK1 K1
        rw [hr]
        first | done | exact Hand.go
theorem rput_o (k : Nat) (l : List Nat) (hk : k = 1 ∨ k = 2 ∨ k = 4) (hn : l.length ≤ 2 ^ 30) : OC Tryz.prog 63 [nat k, .sl false 1 (u32s l)] [] (.own 0) [.row 5 1 (bys (l.flatMap (putB k)))] := by
  have hr : (k == 1 || k == 2 || k == 4) = true := by rcases hk with rfl | rfl | rfl <;> rfl
  have h4 := sub4_w k (by omega)
  refine OC.of_body [0] (by intro k hk; simp at hk) Tryz.func63 rfl (by rw [Tryz.ntmps63]; simp) ?_
  refine AWp.regionW ?_
  refine AWp.regionW ?_
  refine AWp.seqK fun K1 hK1 => ?_
  refine AWp.regionM fun K2 hK2 => ?_
  refine ARun2.callM (hr ▸ right01_c k) ?_
  refine ARun2.endm (hK2 _ ?_)
  refine AWp.condF ?_
  refine AWp.skip ?_
  refine hK1 _ ?_
  refine AWp.seqK fun K3 hK3 => ?_
  refine AWp.regionW ?_
  refine AWp.block ?_
  -- SLOTS THAT TURN AND ARE NOT TOLD: [5]
  refine AWp.nilOwn 5 5 1 (by simp only [push_cast, ↓reduceIte, Nat.reduceEqDiff, Nat.reduceLT, Nat.reduceAdd, Nat.reduceSub, Nat.reduceMul, Nat.reduceLeDiff, Nat.reducePow, Int.reduceLT, Int.reduceToNat, reduceCtorEq, Int.reduceNeg, Int.reduceEq, Nat.reduceBEq, Nat.reduceBNe, Int.reduceBEq, Int.reduceBNe, String.reduceEq]) ?_
  simp only [push_cast, ↓reduceIte, Nat.reduceEqDiff, Nat.reduceLT, Nat.reduceAdd, Nat.reduceSub, Nat.reduceMul, Nat.reduceLeDiff, Nat.reducePow, Int.reduceLT, Int.reduceToNat, reduceCtorEq, Int.reduceNeg, Int.reduceEq, Nat.reduceBEq, Nat.reduceBNe, Int.reduceBEq, Int.reduceBNe, String.reduceEq]
  refine AWp.loopK [0, 1, 5] (fun (i : Nat) => [(6, nat i)]) (fun i => [.row 5 1 (bys ((l.take i).flatMap (putB k)))]) (fun i => i ≤ l.length) (fun i => l.length - i) (0) ?_ (Nat.zero_le _) ?_
  · skip
    refine Le.m 1 ?_ ?_
    · try simp only [push_cast, ↓reduceIte, Nat.reduceEqDiff, Nat.reduceLT, Nat.reduceAdd, Nat.reduceSub, Nat.reduceMul, Nat.reduceLeDiff, Nat.reducePow, Int.reduceLT, Int.reduceToNat, reduceCtorEq, Int.reduceNeg, Int.reduceEq, Nat.reduceBEq, Nat.reduceBNe, Int.reduceBEq, Int.reduceBNe, String.reduceEq]
      try simp (disch := omega) only [w_nat, w_add, w_addl, w_addr, w_sub, w_subl, w_mul, w_mull, w_mulr, w_u32, w_u16, w_u8, w_u32a, N_zero]
      first | done | skip
      rfl
    · first | (simp only [push_cast, ↓reduceIte, Nat.reduceEqDiff, Nat.reduceLT, Nat.reduceAdd, Nat.reduceSub, Nat.reduceMul, Nat.reduceLeDiff, Nat.reducePow, Int.reduceLT, Int.reduceToNat, reduceCtorEq, Int.reduceNeg, Int.reduceEq, Nat.reduceBEq, Nat.reduceBNe, Int.reduceBEq, Int.reduceBNe, String.reduceEq]; first | done | rfl | (simp (disch := omega) only [w_nat, w_add, w_addl, w_addr, w_sub, w_subl, w_mul, w_mull, w_mulr, w_u32, w_u16, w_u8, w_u32a, N_zero]; first | done | rfl))
  · intro i hi K4 hK4
    refine AWp.seqK fun K5 hK5 => ?_
    refine AWp.regionW ?_
    refine AWp.condLM (fun c1 => ?_) (fun c1 => ?_)
    · skip
      have hil : i < l.length := by simpa using c1
      refine AWp.skip ?_
      refine hK5 _ ?_
      refine AWp.seqK fun K6 hK6 => ?_
      refine AWp.block ?_
      refine AWp.drS [[(1, none)], [(6, none)], [(18, some 0), (19, some 1)], [(20, some 2)], [(21, some 3)], [(22, some 4)], [(1, none)], [(6, none)], [(24, some 6), (25, some 7)], [(26, some 8)], [(27, some 9)], [(28, some 10)], [(1, none)], [(6, none)], [(30, some 12), (31, some 13)], [(32, some 14)], [(33, some 15)], [(34, some 16)], [(1, none)], [(6, none)], [(36, some 18), (37, some 19)], [(38, some 20)], [(39, some 21)], [(23, some 5), (29, some 11), (35, some 17), (40, some 22)], [(41, some 23)]] fun G hG => ?_
      refine Dr.sim ?_
      try simp only [List.cons_append, List.nil_append]
      refine Dr.sim ?_
      try simp only [List.cons_append, List.nil_append]
      refine Dr.idx (i) (u32 l[i]) ?_ ?_
      · exact u32s_at _ _ hil
      try simp only [List.cons_append, List.nil_append]
      refine Dr.sim ?_
      try simp only [List.cons_append, List.nil_append]
      refine Dr.sim ?_
      try simp only [List.cons_append, List.nil_append]
      refine Dr.sim ?_
      try simp only [List.cons_append, List.nil_append]
      refine Dr.sim ?_
      try simp only [List.cons_append, List.nil_append]
      refine Dr.sim ?_
      try simp only [List.cons_append, List.nil_append]
      refine Dr.idx (i) (u32 l[i]) ?_ ?_
      · exact u32s_at _ _ hil
      try simp only [List.cons_append, List.nil_append]
      refine Dr.sim ?_
      try simp only [List.cons_append, List.nil_append]
      refine Dr.sim ?_
      try simp only [List.cons_append, List.nil_append]
      refine Dr.sim ?_
      try simp only [List.cons_append, List.nil_append]
      refine Dr.sim ?_
      try simp only [List.cons_append, List.nil_append]
      refine Dr.sim ?_
      try simp only [List.cons_append, List.nil_append]
      refine Dr.idx (i) (u32 l[i]) ?_ ?_
      · exact u32s_at _ _ hil
      try simp only [List.cons_append, List.nil_append]
      refine Dr.sim ?_
      try simp only [List.cons_append, List.nil_append]
      refine Dr.sim ?_
      try simp only [List.cons_append, List.nil_append]
      refine Dr.sim ?_
      try simp only [List.cons_append, List.nil_append]
      refine Dr.sim ?_
      try simp only [List.cons_append, List.nil_append]
      refine Dr.sim ?_
      try simp only [List.cons_append, List.nil_append]
      refine Dr.idx (i) (u32 l[i]) ?_ ?_
      · exact u32s_at _ _ hil
      try simp only [List.cons_append, List.nil_append]
      refine Dr.sim ?_
      try simp only [List.cons_append, List.nil_append]
      refine Dr.sim ?_
      try simp only [List.cons_append, List.nil_append]
      refine Dr.buildV ?_
      try simp only [List.cons_append, List.nil_append]
      refine Dr.sim ?_
      try simp only [List.cons_append, List.nil_append]
      refine Dr.finM (n := 25) [(7, 24)] [0, 1, 5, 6] hG YtfghmfjbbjapgaaGreatDoor.Facts.mixed fun KD hKD => ?_
      refine ARun2.endm (hKD _ ?_); clear hKD KD hG G
      rw [u8_shr0 l[i], lits4b, putB4_lit]
      refine AWp.regionN fun K7 hK7 => ?_
      rw [h4]
      refine ARun2.sliceLoM (4 - k) ?_ ?_
      · rw [bys_len, putB_len]; omega
      refine ARun2.appendM ?_ ?_ ?_
      · have hx := flat_bd k l i hk hn; rw [putB4_drop k _ hk, YtfghmfjbbjapgaaGreatDoor.Facts.eb23, bys_len, bys_len, putB_len]; omega
      · have hx := flat_bd k l i hk hn; rw [putB4_drop k _ hk, bys_len, bys_len, putB_len]; omega
      refine ARun2.endm (hK7 _ ?_)
      refine hK6 _ ?_
      refine AWp.regionV ?_
      refine hK4 _ (i + 1) (by omega) (by omega) ?_
      refine Le.m 1 ?_ ?_
      · try simp only [push_cast, ↓reduceIte, Nat.reduceEqDiff, Nat.reduceLT, Nat.reduceAdd, Nat.reduceSub, Nat.reduceMul, Nat.reduceLeDiff, Nat.reducePow, Int.reduceLT, Int.reduceToNat, reduceCtorEq, Int.reduceNeg, Int.reduceEq, Nat.reduceBEq, Nat.reduceBNe, Int.reduceBEq, Int.reduceBNe, String.reduceEq]
        try simp (disch := omega) only [w_nat, w_add, w_addl, w_addr, w_sub, w_subl, w_mul, w_mull, w_mulr, w_u32, w_u16, w_u8, w_u32a, N_zero]
        first | done | skip
        rw [putB4_drop k _ hk, bys_append, List.take_succ_eq_append_getElem hil, List.flatMap_append]; simp only [List.flatMap_cons, List.flatMap_nil, List.append_nil]
      · first | (simp only [push_cast, ↓reduceIte, Nat.reduceEqDiff, Nat.reduceLT, Nat.reduceAdd, Nat.reduceSub, Nat.reduceMul, Nat.reduceLeDiff, Nat.reducePow, Int.reduceLT, Int.reduceToNat, reduceCtorEq, Int.reduceNeg, Int.reduceEq, Nat.reduceBEq, Nat.reduceBNe, Int.reduceBEq, Int.reduceBNe, String.reduceEq]; first | done | rfl | (simp (disch := omega) only [w_nat, w_add, w_addl, w_addr, w_sub, w_subl, w_mul, w_mull, w_mulr, w_u32, w_u16, w_u8, w_u32a, N_zero]; first | done | rfl))
    · skip
      have hil : i = l.length := by simp at c1; omega
      subst hil
      refine AWp.exit ?_
      try simp only [thenQ, blockQ, noGo, reduceIte, Nat.reduceEqDiff]
      refine hK3 _ ?_
      refine AWp.regionW ?_
      refine AWp.ret ?_
      try simp only [thenQ, blockQ, noGo]
      refine bodyQ.m ?_
      clear hK5 K5 hK4 K4 hK3 K3 hK2 K2 hK1 K1
      refine endO.m ?_ ?_
      · rw [List.take_length]
      · skip
        first | done | exact Hand.go
theorem rbuild_c (t : Nat) (l s : List Nat) (hl : l.length ≤ 2 ^ 20) (hs : s.length ≤ 2 ^ 20) : PC Tryz.prog 24 [u16 t, .sl false 1 (u32s l), .sl false 1 (u16s s)] (nodeA false (.mk t (l.flatMap (putB 4) ++ s.flatMap (putB 2)) [])) := by
  have hfl := flat4_len 4 l
  refine PC.of_bodyW (by simp only [push_cast]) Tryz.func24 rfl (by rw [Tryz.ntmps24]; simp) ?_
  refine AWp.regionW ?_
  refine AWp.regionM fun K1 hK1 => ?_
  refine ARun2.callOM [] (rput_o 4 l (by omega) (by omega)) ?_
  refine ARun2.endm (hK1 _ ?_)
  refine AWp.seqK fun K2 hK2 => ?_
  refine AWp.regionW ?_
  refine AWp.block ?_
  refine AWp.loopK [2, 6, 7] (fun (i : Nat) => [(8, nat i)]) (fun i => [.box 26 [.val (.int .u16 0), .val (.slice none 0 0), .val (.slice none 0 0)], .row 5 1 (bys (l.flatMap (putB 4) ++ (s.take i).flatMap (putB 2))), .box 26 [u16 t, .own 1, .val (.slice none 0 0)]]) (fun i => i ≤ s.length) (fun i => s.length - i) (0) ?_ (Nat.zero_le _) ?_
  · skip
    refine Le.m 3 ?_ ?_
    · try simp only [push_cast, ↓reduceIte, Nat.reduceEqDiff, Nat.reduceLT, Nat.reduceAdd, Nat.reduceSub, Nat.reduceMul, Nat.reduceLeDiff, Nat.reducePow, Int.reduceLT, Int.reduceToNat, reduceCtorEq, Int.reduceNeg, Int.reduceEq, Nat.reduceBEq, Nat.reduceBNe, Int.reduceBEq, Int.reduceBNe, String.reduceEq]
      try simp (disch := omega) only [w_nat, w_add, w_addl, w_addr, w_sub, w_subl, w_mul, w_mull, w_mulr, w_u32, w_u16, w_u8, w_u32a, N_zero]
      first | done | skip
      simp
    · first | (simp only [push_cast, ↓reduceIte, Nat.reduceEqDiff, Nat.reduceLT, Nat.reduceAdd, Nat.reduceSub, Nat.reduceMul, Nat.reduceLeDiff, Nat.reducePow, Int.reduceLT, Int.reduceToNat, reduceCtorEq, Int.reduceNeg, Int.reduceEq, Nat.reduceBEq, Nat.reduceBNe, Int.reduceBEq, Int.reduceBNe, String.reduceEq]; first | done | rfl | (simp (disch := omega) only [w_nat, w_add, w_addl, w_addr, w_sub, w_subl, w_mul, w_mull, w_mulr, w_u32, w_u16, w_u8, w_u32a, N_zero]; first | done | rfl))
  · intro i hi K3 hK3
    refine AWp.seqK fun K4 hK4 => ?_
    refine AWp.regionW ?_
    refine AWp.condLM (fun c0 => ?_) (fun c0 => ?_)
    · skip
      have hil : i < s.length := by simpa using c0
      have htk := List.length_take_le i s
      have hfs := flat4_len 2 (s.take i)
      refine AWp.skip ?_
      refine hK4 _ ?_
      refine AWp.seqK fun K5 hK5 => ?_
      refine AWp.block ?_
      refine AWp.drE [[(7, none)], [(19, some 0)], [(2, none)], [(8, none)], [(21, some 2), (22, some 3)], [(23, some 4)], [(24, some 5)], [(25, some 6)], [(2, none)], [(8, none)], [(27, some 8), (28, some 9)], [(29, some 10)], [(30, some 11)], [(26, some 7), (31, some 12)]] fun G hG => ?_
      refine Dr.sim ?_
      try simp only [List.cons_append, List.nil_append]
      refine Dr.sim ?_
      try simp only [List.cons_append, List.nil_append]
      refine Dr.sim ?_
      try simp only [List.cons_append, List.nil_append]
      refine Dr.sim ?_
      try simp only [List.cons_append, List.nil_append]
      refine Dr.idx (i) (u16 s[i]) ?_ ?_
      · exact u16s_at _ _ hil
      try simp only [List.cons_append, List.nil_append]
      refine Dr.sim ?_
      try simp only [List.cons_append, List.nil_append]
      refine Dr.sim ?_
      try simp only [List.cons_append, List.nil_append]
      refine Dr.sim ?_
      try simp only [List.cons_append, List.nil_append]
      refine Dr.sim ?_
      try simp only [List.cons_append, List.nil_append]
      refine Dr.sim ?_
      try simp only [List.cons_append, List.nil_append]
      refine Dr.idx (i) (u16 s[i]) ?_ ?_
      · exact u16s_at _ _ hil
      try simp only [List.cons_append, List.nil_append]
      refine Dr.sim ?_
      try simp only [List.cons_append, List.nil_append]
      refine Dr.sim ?_
      try simp only [List.cons_append, List.nil_append]
      refine Dr.build ?_
      try simp only [List.cons_append, List.nil_append]
      refine Dr.finN (n := 14) [(20, 1), (32, 13)] [2, 6, 7, 8] hG YtfghmfjbbjapgaaGreatDoor.Facts.mixed fun KD hKD => ?_
      refine ARun2.appendM ?_ ?_ ?_
      · rw [YtfghmfjbbjapgaaGreatDoor.Facts.eb23, bys_len, List.length_append]; simp only [List.length_cons, List.length_nil]; omega
      · rw [bys_len, List.length_append]; simp only [List.length_cons, List.length_nil]; omega
      refine ARun2.endm (hKD _ ?_); clear hKD KD hG G
      refine hK5 _ ?_
      refine AWp.regionV ?_
      refine hK3 _ (i + 1) (by omega) (by omega) ?_
      refine Le.m 3 ?_ ?_
      · try simp only [push_cast, ↓reduceIte, Nat.reduceEqDiff, Nat.reduceLT, Nat.reduceAdd, Nat.reduceSub, Nat.reduceMul, Nat.reduceLeDiff, Nat.reducePow, Int.reduceLT, Int.reduceToNat, reduceCtorEq, Int.reduceNeg, Int.reduceEq, Nat.reduceBEq, Nat.reduceBNe, Int.reduceBEq, Int.reduceBNe, String.reduceEq]
        try simp (disch := omega) only [w_nat, w_add, w_addl, w_addr, w_sub, w_subl, w_mul, w_mull, w_mulr, w_u32, w_u16, w_u8, w_u32a, N_zero]
        first | done | skip
        rw [u8_high, u8_low, List.take_succ_eq_append_getElem hil, List.flatMap_append]; simp [putB2, twoB, bys]
      · first | (simp only [push_cast, ↓reduceIte, Nat.reduceEqDiff, Nat.reduceLT, Nat.reduceAdd, Nat.reduceSub, Nat.reduceMul, Nat.reduceLeDiff, Nat.reducePow, Int.reduceLT, Int.reduceToNat, reduceCtorEq, Int.reduceNeg, Int.reduceEq, Nat.reduceBEq, Nat.reduceBNe, Int.reduceBEq, Int.reduceBNe, String.reduceEq]; first | done | rfl | (simp (disch := omega) only [w_nat, w_add, w_addl, w_addr, w_sub, w_subl, w_mul, w_mull, w_mulr, w_u32, w_u16, w_u8, w_u32a, N_zero]; first | done | rfl))
    · skip
      have hil : i = s.length := by simp at c0; omega
      subst hil
      refine AWp.exit ?_
      try simp only [thenQ, blockQ, noGo, reduceIte, Nat.reduceEqDiff]
      refine hK2 _ ?_
      refine AWp.pubD 1 ?_
      rw [List.take_length]
      refine AWp.regionW ?_
      refine AWp.ret ?_
      try simp only [thenQ, blockQ, noGo]
      refine bodyQ.m ?_
      clear hK4 K4 hK3 K3 hK2 K2 hK1 K1
      first | done | exact Hand.go
theorem nums_at2 (d : List UInt8) (K i : Nat) (h : i < (numsOf 2 (d.drop K)).length) (h2 : K + 2 * i + 1 < d.length) : (numsOf 2 (d.drop K))[i] = (d[K + 2 * i]'(by omega)).toNat * 256 + (d[K + 2 * i + 1]'h2).toNat := by
  have hd : (d.drop (K + 2 * i)).take 2 = [d[K + 2 * i]'(by omega), d[K + 2 * i + 1]'h2] := by
    rw [List.drop_eq_getElem_cons (by omega), List.drop_eq_getElem_cons (by omega)]; rfl
  simp only [numsOf, List.getElem_map, List.getElem_range, List.drop_drop]
  rw [Nat.mul_comm i 2, hd]
  simp [beN]
theorem off17 (t K : Nat) (h : t = 13 ∧ K = 12 ∨ t = 14 ∧ K = 4) : IntKind.i64.wrap (12 - IntKind.i64.wrap (8 * IntKind.i64.wrap (IntKind.u16.wrap (N t - 13)))) = N K := by
  rcases h with ⟨rfl, rfl⟩ | ⟨rfl, rfl⟩ <;> rfl
theorem rstreams_c (n : GNode) (hs : n.sz ≤ 2 ^ 26) : PC Tryz.prog 16 [nodeA false n] (.sl false 1 (u16s (streamsN n))) := by
  have hsz := n.sz_eq
  refine PC.of_bodyW (by simp only [push_cast]) Tryz.func16 rfl (by rw [Tryz.ntmps16]; simp) ?_
  refine AWp.regionW ?_
  refine AWp.regionW ?_
  refine AWp.seqK fun K1 hK1 => ?_
  refine AWp.regionA fun K2 hK2 => ?_
  refine ARun.segm 4 fun KS hKS => ?_
  refine ARun2.callM (ris17_c n hs) ?_
  refine ARun2.endm (hKS _ ?_); clear hKS KS
  apply ARun.grpM 3 3 false 11 [1, 3, 8]
  · intro g3 KG hKG
    refine ARun2.gom ?_
    exact ARun2.endm (hKG _ Le.grpM)
  refine ARun2.gom ?_
  refine ARun2.endm (hK2 _ ?_)
  refine AWp.condLM (fun c0 => ?_) (fun c0 => ?_)
  · skip
    have hr : streamsN n = [] := by
      refine if_neg ?_
      intro h
      have h1 := isS_mono h
      have h2 := (isS_iff.1 h).2.1
      rw [h1] at c0
      simp at c0
      omega
    refine AWp.regionW ?_
    refine AWp.ret ?_
    try simp only [thenQ, blockQ, noGo]
    refine bodyQ.m ?_
    clear hK2 K2 hK1 K1
    rw [hr]
    first | done | exact Hand.go
  · skip
    have hi : isS n 13 14 = true := by
      cases h1 : isS n 13 18 with
      | false => rw [h1] at c0; simp at c0
      | true =>
        rw [h1] at c0
        have h2 := isS_iff.1 h1
        rw [isS_iff]
        simp at c0
        omega
    have hr : streamsN n = numsA 2 (n.data.drop (bif n.ty == 13 then 12 else 4)) := if_pos hi
    obtain ⟨hf1, hf2, hf3⟩ := isS_form (isS_mono hi)
    obtain ⟨K, hK, hKl, hKm, hr⟩ : ∃ K, (n.ty = 13 ∧ K = 12 ∨ n.ty = 14 ∧ K = 4) ∧ K ≤ n.data.length ∧ (n.data.length - K) % 2 = 0 ∧ streamsN n = numsOf 2 (n.data.drop K) := by
      have h2 := isS_iff.1 hi
      have h3 : n.ty = 13 ∨ n.ty = 14 := by omega
      rcases h3 with e | e
      · refine ⟨12, .inl ⟨e, rfl⟩, (hf2 e).1, (hf2 e).2, ?_⟩
        rw [hr, e]; exact if_pos (by rw [List.length_drop]; exact (hf2 e).2)
      · refine ⟨4, .inr ⟨e, rfl⟩, hf1, hf3 e, ?_⟩
        rw [hr, e]; exact if_pos (by rw [List.length_drop]; exact hf3 e)
    have hoff := off17 n.ty K hK
    obtain ⟨ns, hns⟩ : ∃ ns, ns = numsOf 2 (n.data.drop K) := ⟨_, rfl⟩
    have hnl : ns.length = (n.data.length - K) / 2 := by rw [hns, nums_len, List.length_drop]
    have hat : ∀ i (h : i < ns.length), ns[i] = (n.data[K + 2 * i]'(by omega)).toNat * 256 + (n.data[K + 2 * i + 1]'(by omega)).toNat := by
      subst hns; exact fun i h => nums_at2 n.data K i h (by omega)
    rw [← hns] at hr
    refine AWp.skip ?_
    refine hK1 _ ?_
    refine AWp.seqK fun K3 hK3 => ?_
    refine AWp.regionW ?_
    refine AWp.block ?_
    -- SLOTS THAT TURN AND ARE NOT TOLD: [3]
    refine AWp.nilOwn 3 22 1 (by simp only [push_cast, ↓reduceIte, Nat.reduceEqDiff, Nat.reduceLT, Nat.reduceAdd, Nat.reduceSub, Nat.reduceMul, Nat.reduceLeDiff, Nat.reducePow, Int.reduceLT, Int.reduceToNat, reduceCtorEq, Int.reduceNeg, Int.reduceEq, Nat.reduceBEq, Nat.reduceBNe, Int.reduceBEq, Int.reduceBNe, String.reduceEq]) ?_
    simp only [push_cast, ↓reduceIte, Nat.reduceEqDiff, Nat.reduceLT, Nat.reduceAdd, Nat.reduceSub, Nat.reduceMul, Nat.reduceLeDiff, Nat.reducePow, Int.reduceLT, Int.reduceToNat, reduceCtorEq, Int.reduceNeg, Int.reduceEq, Nat.reduceBEq, Nat.reduceBNe, Int.reduceBEq, Int.reduceBNe, String.reduceEq]
    refine AWp.loopK [1, 3] (fun (i : Nat) => [(4, nat (K + 2 * i))]) (fun i => [.box 26 [u16 n.ty, .sl false 1 (bys n.data), .sl false 3 (nodesA false n.kids)], .row 22 1 (u16s (ns.take i))]) (fun i => i ≤ ns.length) (fun i => ns.length - i) (0) ?_ (Nat.zero_le _) ?_
    · skip
      refine Le.m 2 ?_ ?_
      · first | with_reducible rfl | (simp only [push_cast, ↓reduceIte, Nat.reduceEqDiff, Nat.reduceLT, Nat.reduceAdd, Nat.reduceSub, Nat.reduceMul, Nat.reduceLeDiff, Nat.reducePow, Int.reduceLT, Int.reduceToNat, reduceCtorEq, Int.reduceNeg, Int.reduceEq, Nat.reduceBEq, Nat.reduceBNe, Int.reduceBEq, Int.reduceBNe, String.reduceEq]; first | done | rfl | (simp (disch := omega) only [w_nat, w_add, w_addl, w_addr, w_sub, w_subl, w_mul, w_mull, w_mulr, w_u32, w_u16, w_u8, w_u32a, N_zero]; first | done | rfl))
      · simp only [push_cast, ↓reduceIte, Nat.reduceEqDiff, Nat.reduceLT, Nat.reduceAdd, Nat.reduceSub, Nat.reduceMul, Nat.reduceLeDiff, Nat.reducePow, Int.reduceLT, Int.reduceToNat, reduceCtorEq, Int.reduceNeg, Int.reduceEq, Nat.reduceBEq, Nat.reduceBNe, Int.reduceBEq, Int.reduceBNe, String.reduceEq]
        try simp (disch := omega) only [w_nat, w_add, w_addl, w_addr, w_sub, w_subl, w_mul, w_mull, w_mulr, w_u32, w_u16, w_u8, w_u32a, N_zero]
        rw [hoff]; rfl
    · intro i hi K4 hK4
      refine AWp.seqK fun K5 hK5 => ?_
      refine AWp.regionW ?_
      refine AWp.condLM (fun c1 => ?_) (fun c1 => ?_)
      · skip
        have hlt : K + 2 * i < n.data.length := by simpa using c1
        have hil : i < ns.length := by omega
        have hai := hat i hil
        refine AWp.skip ?_
        refine hK5 _ ?_
        refine AWp.seqK fun K6 hK6 => ?_
        refine AWp.block ?_
        refine AWp.drE [[(3, none)], [(1, none)], [(28, some 1)], [(4, none)], [(29, some 2), (30, some 3)], [(31, some 4)], [(32, some 5)], [(33, some 6)], [(1, none)], [(35, some 8)], [(4, none)], [(37, some 10)], [(36, some 9), (38, some 11)], [(39, some 12)], [(40, some 13)], [(34, some 7), (41, some 14)], [(42, some 15)]] fun G hG => ?_
        refine Dr.sim ?_
        try simp only [List.cons_append, List.nil_append]
        refine Dr.sim ?_
        try simp only [List.cons_append, List.nil_append]
        refine Dr.sim ?_
        try simp only [List.cons_append, List.nil_append]
        refine Dr.sim ?_
        try simp only [List.cons_append, List.nil_append]
        refine Dr.idx (K + 2 * i) (.val (.int .u8 (N (n.data[K + 2 * i]'(by omega)).toNat))) ?_ ?_
        · exact bys_at _ _ (by omega)
        try simp only [List.cons_append, List.nil_append]
        refine Dr.sim ?_
        try simp only [List.cons_append, List.nil_append]
        refine Dr.sim ?_
        try simp only [List.cons_append, List.nil_append]
        refine Dr.sim ?_
        try simp only [List.cons_append, List.nil_append]
        refine Dr.sim ?_
        try simp only [List.cons_append, List.nil_append]
        refine Dr.sim ?_
        try simp only [List.cons_append, List.nil_append]
        refine Dr.sim ?_
        try simp only [List.cons_append, List.nil_append]
        refine Dr.sim ?_
        try simp only [List.cons_append, List.nil_append]
        refine Dr.idx (K + 2 * i + 1) (.val (.int .u8 (N (n.data[K + 2 * i + 1]'(by omega)).toNat))) ?_ ?_
        · exact bys_at _ _ (by omega)
        try simp only [List.cons_append, List.nil_append]
        refine Dr.sim ?_
        try simp only [List.cons_append, List.nil_append]
        refine Dr.sim ?_
        try simp only [List.cons_append, List.nil_append]
        refine Dr.sim ?_
        try simp only [List.cons_append, List.nil_append]
        refine Dr.build ?_
        try simp only [List.cons_append, List.nil_append]
        refine Dr.finN (n := 17) [(27, 0), (43, 16)] [1, 4] hG YtfghmfjbbjapgaaGreatDoor.Facts.mixed fun KD hKD => ?_
        refine ARun2.appendM ?_ ?_ ?_
        · rw [YtfghmfjbbjapgaaGreatDoor.Facts.eb33, u16s_len, List.length_take, List.length_cons, List.length_nil]; omega
        · rw [u16s_len, List.length_take, List.length_cons, List.length_nil]; omega
        refine ARun2.endm (hKD _ ?_); clear hKD KD hG G
        refine hK6 _ ?_
        refine AWp.regionV ?_
        refine hK4 _ (i + 1) (by omega) (by omega) ?_
        refine Le.m 2 ?_ ?_
        · try simp only [push_cast, ↓reduceIte, Nat.reduceEqDiff, Nat.reduceLT, Nat.reduceAdd, Nat.reduceSub, Nat.reduceMul, Nat.reduceLeDiff, Nat.reducePow, Int.reduceLT, Int.reduceToNat, reduceCtorEq, Int.reduceNeg, Int.reduceEq, Nat.reduceBEq, Nat.reduceBNe, Int.reduceBEq, Int.reduceBNe, String.reduceEq]
          try simp (disch := omega) only [w_nat, w_add, w_addl, w_addr, w_sub, w_subl, w_mul, w_mull, w_mulr, w_u32, w_u16, w_u8, w_u32a, N_zero]
          first | done | skip
          rw [two_u16, List.take_succ_eq_append_getElem hil, u16s_snoc, hai]
        · first | (simp only [push_cast, ↓reduceIte, Nat.reduceEqDiff, Nat.reduceLT, Nat.reduceAdd, Nat.reduceSub, Nat.reduceMul, Nat.reduceLeDiff, Nat.reducePow, Int.reduceLT, Int.reduceToNat, reduceCtorEq, Int.reduceNeg, Int.reduceEq, Nat.reduceBEq, Nat.reduceBNe, Int.reduceBEq, Int.reduceBNe, String.reduceEq]; first | done | rfl | (simp (disch := omega) only [w_nat, w_add, w_addl, w_addr, w_sub, w_subl, w_mul, w_mull, w_mulr, w_u32, w_u16, w_u8, w_u32a, N_zero]; first | done | rfl))
      · skip
        have hge : n.data.length ≤ K + 2 * i := by simpa using c1
        have hil : i = ns.length := by omega
        subst hil
        refine AWp.exit ?_
        try simp only [thenQ, blockQ, noGo, reduceIte, Nat.reduceEqDiff]
        refine hK3 _ ?_
        refine AWp.pubD 1 ?_
        rw [List.take_length]
        refine AWp.regionW ?_
        refine AWp.ret ?_
        try simp only [thenQ, blockQ, noGo]
        refine bodyQ.m ?_
        clear hK5 K5 hK4 K4 hK3 K3 hK2 K2 hK1 K1
        rw [hr]
        first | done | exact Hand.go
end Go.Proofs.YtfghmfjbbjapgaaGreatDoor.C
/- wharflaw15: awake; InitialParams, InitialChunks. -/
set_option linter.unusedVariables false
set_option linter.unusedSimpArgs false
namespace Go.Proofs.YtfghmfjbbjapgaaGreatDoor.C
open Go.Abs
end Go.Proofs.YtfghmfjbbjapgaaGreatDoor.C
/- wharfref08.Clone. -/
set_option linter.unusedVariables false
set_option linter.unusedSimpArgs false
namespace Go.Proofs.YtfghmfjbbjapgaaGreatDoor.C
open Go.Abs
end Go.Proofs.YtfghmfjbbjapgaaGreatDoor.C
/- Drawn regions that make a variable in their head and of whose head one operation may come up late. No condition. -/
namespace Go.Abs
set_option linter.unusedVariables false
set_option linter.unusedSectionVars false
set_option linter.unusedSimpArgs false
section
variable {P : Program} {ops : Array Oper} {E : Env} {s s' : AS} {ρ : List Value} {B : Nat → Prop} {a : Act} {w w' : World} {o : Oper} {rest : List Oper} {Q : AS → Prop} {R : Exit → AS → Prop} {nds : List (List (Nat × Option Nat))} {vals : List AV} {G : Prop}
/-- the tail waits for all of the head but q -/
def tailF (ops : Array Oper) (n q : Nat) : Bool :=
  decide (n < ops.size) && ((List.range n).all fun i => decide (i = q) || Region.waitsFor .any ops n i || (List.range n).any fun j => decide (i < j) && decide (j ≠ q) && Region.waitsFor .any ops j i) &&
  ((List.range ops.size).all fun j => decide (j ≤ n) || (List.range j).any fun i => decide (n ≤ i) && Region.waitsFor .any ops j i)
theorem tailF.tail {n q : Nat} (h : tailF ops n q = true) {listed : Array Bool} (inv : HeadInv .any ops n listed) : ∀ (d i : Nat), n - i = d → i < n → i ≠ q → listed.getD i true = false → ∀ t, n ≤ t → t ∉ Region.ready .any ops listed := by
  simp only [tailF, Bool.and_eq_true, decide_eq_true_eq] at h
  obtain ⟨⟨hn, hs⟩, hc⟩ := h
  intro d
  induction d using Nat.strongRecOn with
  | _ d ih =>
    intro i hd hi hiq hun t ht hr
    obtain ⟨_, ot, hot, hall⟩ := mem_ready.1 hr
    have htlt : t < ops.size := (Array.getElem?_eq_some_iff.1 hot).1
    by_cases htn : t = n
    · subst htn
      have h1 := List.all_eq_true.1 hs i (List.mem_range.2 hi)
      simp only [Bool.or_eq_true, decide_eq_true_eq] at h1
      rcases h1 with (h1 | h1) | h1
      · exact hiq h1
      · obtain ⟨oj, hoj, e, he, hb, hon⟩ := Region.waitsFor_spec h1
        have : oj = ot := Option.some.inj (hoj.symm.trans hot)
        subst this
        have h2 := hall e he hb
        rw [hon, getD_both hun] at h2
        cases h2
      · obtain ⟨j, hj, hj2⟩ := List.any_eq_true.1 h1
        simp only [Bool.and_eq_true, decide_eq_true_eq] at hj2
        obtain ⟨oj, hoj, e, he, hb, hon⟩ := Region.waitsFor_spec hj2.2
        have hjlt := List.mem_range.1 hj
        cases hl : listed.getD j false with
        | true =>
          have h2 := inv.closed j oj hoj hl e he hb
          rw [hon, getD_both hun] at h2
          cases h2
        | false =>
          have hjs : j < listed.size := by rw [inv.size]; omega
          exact ih (t - j) (by omega) j rfl (by omega) hj2.1.2 (getD_in hjs hl) t (Nat.le_refl _) hr
    · have h1 := List.all_eq_true.1 hc t (List.mem_range.2 htlt)
      simp only [Bool.or_eq_true, decide_eq_true_eq] at h1
      rcases h1 with h1 | h1
      · omega
      · obtain ⟨i', hi', h1⟩ := List.any_eq_true.1 h1
        simp only [Bool.and_eq_true, decide_eq_true_eq] at h1
        obtain ⟨o', ho', e, he, hb, hon⟩ := Region.waitsFor_spec h1.2
        have : o' = ot := Option.some.inj (ho'.symm.trans hot)
        subst this
        have h2 := hall e he hb
        have := List.mem_range.1 hi'
        rw [hon, getD_both (inv.tail i' h1.1 (by omega))] at h2
        cases h2
/-- the slots where q has not come up -/
def drB2 (ops : Array Oper) (n q sn : Nat) (new : List (Nat × Nat)) (old : List Nat) : Bool :=
  (new.all fun p => decide (p.1 < sn) && decide (p.2 < n) && decide (p.2 ≠ q) && decide (dstOf ops p.2 = some p.1)) &&
  (old.all fun t => decide (t < sn) && (List.range n).all fun i => decide (i = q) || decide (dstOf ops i ≠ some t))
theorem drFr2 {n q : Nat} {new : List (Nat × Nat)} {old : List Nat} {vals : List AV} (hk : drB2 ops n q s.n new old = true) : ∀ t x, (t, x) ∈ (new.map fun p => (p.1, vals.getD p.2 .any)) ++ keepFr s.fr old →
    t < s.n ∧ ((∃ i, i < n ∧ i ≠ q ∧ dstOf ops i = some t ∧ x = vals.getD i .any) ∨ ((∀ i, i < n → i ≠ q → dstOf ops i ≠ some t) ∧ x = lk s.fr t)) := by
  intro t x hmem
  simp only [drB2, Bool.and_eq_true] at hk
  rcases List.mem_append.1 hmem with h | h
  · simp only [List.mem_map] at h
    obtain ⟨p, hp, e⟩ := h
    have e1 : p.1 = t := congrArg Prod.fst e
    have e2 : vals.getD p.2 .any = x := congrArg Prod.snd e
    have := List.all_eq_true.1 hk.1 p hp
    simp only [Bool.and_eq_true, decide_eq_true_eq] at this
    obtain ⟨⟨⟨h1, h2⟩, h3⟩, h4⟩ := this
    exact ⟨e1 ▸ h1, .inl ⟨p.2, h2, h3, e1 ▸ h4, e2.symm⟩⟩
  · obtain ⟨ht, rfl⟩ := keepFr_mem h
    have := List.all_eq_true.1 hk.2 t ht
    simp only [Bool.and_eq_true, decide_eq_true_eq] at this
    refine ⟨this.1, .inr ⟨fun i hi hiq => ?_, rfl⟩⟩
    have h3 := List.all_eq_true.1 this.2 i (List.mem_range.2 hi)
    simp only [Bool.or_eq_true, decide_eq_true_eq] at h3
    rcases h3 with h3 | h3
    · exact absurd h3 hiq
    · exact h3
theorem AWp.drAF {id : Nat} {n : Nat} (q i0 : Nat) {o0 : Oper} {T : TypeId} {z : List Value} (nds : List (List (Nat × Option Nat))) (new : List (Nat × Nat)) (old : List Nat) (new2 : List (Nat × Nat)) (old2 : List Nat) (vals : List AV) (hm : P.follows .mixedOrders = true)
    (hB : drawnH ops n s.n nds = true) (hT : tailF ops n q = true) (hk : drB ops n s.n s.fr new old = true) (hk2 : drB2 ops n q s.n new2 old2 = true) (ha : noAl ops n (some i0) = true) (hl : vals.length = n) (hp : PSpec P ops s nds vals) (h0 : ops[i0]? = some o0)
    (ho : o0.op = .alloc T) (hg : o0.guard = none) (hz : zc P T = some z) (hlt : i0 < n) (hiq : i0 ≠ q) (hv : vals.getD i0 .any = .ptr s.ob.length 0)
    (k : AAny P ops (ops.size - n) (listed0 n ops.size) (R .normal) { s with fr := (new.map fun p => (p.1, vals.getD p.2 .any)) ++ keepFr s.fr old, ob := s.ob ++ [.box T (z.map AV.val)] })
    (k2 : AAny P ops (ops.size - n + 1) ((listed0 n ops.size).setIfInBounds q false) (R .normal) { s with fr := (new2.map fun p => (p.1, vals.getD p.2 .any)) ++ keepFr s.fr old2, ob := s.ob ++ [.box T (z.map AV.val)] }) : AWp P (.region id ops true) s R := by
  subst hl
  have hT' := hT
  simp only [tailF, Bool.and_eq_true, decide_eq_true_eq] at hT'
  refine AWp.drawnF vals.length q nds vals (some (i0, .box T (z.map AV.val))) _ _ hm (Nat.le_of_lt hT'.1.1) hB (fun listed inv hex j h hj => ?_) (fun i o h => ?_) (fun i o h1 h2 h3 => hp i o h1 h2 ?_) (fun i o ob h h2 => ?_) (drFr hk) (fun _ => drFr2 hk2) (by simpa [oball] using k) (fun _ => by simpa [oball] using k2)
  · obtain ⟨i, hin, hiq, hil⟩ := hex
    exact tailF.tail hT inv _ i rfl hin hiq hil j h hj
  · cases h; exact ⟨hlt, hiq⟩
  · have := List.all_eq_true.1 ha i (List.mem_range.2 h1)
    simp only [h2, Bool.or_eq_true, decide_eq_true_eq, Bool.not_eq_true'] at this
    rcases this with h | h
    · cases h; exact absurd rfl (h3 _)
    · exact h
  · cases h
    rw [h0] at h2
    cases h2
    rw [hv]
    exact ASpec.alloc (by simp only [gd, hg]) ho hz
section fin
variable {id n : Nat} {y : Code} {T : TypeId} {z : List Value}
theorem Dr.finAFN (q i0 f : Nat) (new : List (Nat × Nat)) (old : List Nat) (new2 : List (Nat × Nat)) (old2 : List Nat) (hG : ∀ vals, PSpec P ops s nds vals → AWp P (.region id ops true) s R → G) (hm : P.follows .mixedOrders = true)
    (k : ∀ K : AS → Prop, (∀ s', R .normal s' → K s') → AAny P ops f (listed0 n (n + f)) K { s with fr := (new.map fun p => (p.1, vals.getD p.2 .any)) ++ keepFr s.fr old, ob := s.ob ++ [.box T (z.map AV.val)] })
    (k2 : ∀ K : AS → Prop, (∀ s', R .normal s' → K s') → AAny P ops (f + 1) ((listed0 n (n + f)).setIfInBounds q false) K { s with fr := (new2.map fun p => (p.1, vals.getD p.2 .any)) ++ keepFr s.fr old2, ob := s.ob ++ [.box T (z.map AV.val)] })
    (hl : vals.length = n := by rfl) (hf : ops.size = n + f := by kernel_rfl) (hB : (drawnH ops n s.n nds && tailF ops n q) = true := by kernel_rfl) (hk : (drB ops n s.n s.fr new old && drB2 ops n q s.n new2 old2 && noAl ops n (some i0)) = true := by kernel_rfl)
    (h0 : ops[i0]? = some o := by exact Go.Abs.evT) (ho : o.op = .alloc T := by rfl) (hg : o.guard = none := by rfl) (hz : zc P T = some z := by exact Go.Abs.evT) (hlt : (decide (i0 < n) && decide (i0 ≠ q)) = true := by first | rfl | decide) (hv : vals.getD i0 .any = .ptr s.ob.length 0 := by rfl) : Dr P ops s nds vals G := by
  intro hp
  rw [Bool.and_eq_true] at hB
  simp only [Bool.and_eq_true] at hk
  simp only [Bool.and_eq_true, decide_eq_true_eq] at hlt
  refine hG vals hp (AWp.drAF q i0 nds new old new2 old2 vals hm hB.1 hB.2 hk.1.1 hk.1.2 hk.2 hl hp h0 ho hg hz hlt.1 hlt.2 hv ?_ ?_)
  · rw [hf, Nat.add_sub_cancel_left]; exact k _ fun _ h => h
  · rw [hf, Nat.add_sub_cancel_left]; exact k2 _ fun _ h => h
end fin
end
end Go.Abs
/- wharflaw15: InitialMatchesReference. -/
set_option linter.unusedVariables false
set_option linter.unusedSimpArgs false
namespace Go.Proofs.YtfghmfjbbjapgaaGreatDoor.C
open Go.Abs
theorem beN_put4b (n : Nat) (h : n < 2 ^ 32) : beN (putB 4 n) = n := by
  simp [putB, beN, List.range_succ, UInt8.toNat_ofNat']; omega
theorem peek_put (k x i : Nat) (p q : List UInt8) (hp : p.length = i) (hb : beN (putB k x) = x) : peekN k (p ++ (putB k x ++ q)) i = x := by
  have hl := putB_len k x
  unfold peekN
  rw [if_pos (by simp only [List.length_append]; omega), List.drop_append_of_le_length (by omega), List.drop_of_length_le (by omega), List.nil_append, List.take_append_of_le_length (by omega), List.take_of_length_le (by omega), hb]
end Go.Proofs.YtfghmfjbbjapgaaGreatDoor.C
/- Maps of the call's own: an entry is written, whether its key is there or not; looked up without asking whether it is there. No condition. -/
namespace Go.Abs
set_option linter.unusedVariables false
set_option linter.unusedSectionVars false
set_option linter.unusedSimpArgs false
section
variable {P : Program} {ops : Array Oper} {E : Env} {s s' : AS} {ρ σ : List Value} {B : Nat → Prop} {a : Act} {w w' : World} {o : Oper} {rest : List Oper} {Q : AS → Prop} {R : Exit → AS → Prop}
/-! ### a literal with elements that begins a chain in a drawn head -/
theorem ASpec.ownB {T e : TypeId} {len sz : Nat} {parts : Array (Nat × Operand)} (hg : gd ops s o = some true) (ho : o.op = .buildSlice T len parts) (hz : elSz P T = some sz) (he : elT P T = some e)
    (hp : parts.toList.map (·.1) = List.range len) (hx : ∀ p ∈ parts.toList, (s.ev p.2).flat = true ∧ (s.ev p.2).cells.length = sz) (hle : len * sz ≤ 2 ^ 24) : ASpec P ops o s (.own s.ob.length) (.row e sz (parts.toList.map fun p => s.ev p.2)) := by
  intro E ρ B a w hs K Q' hK
  rw [if_pos (gd_wanted hg hs)]
  obtain ⟨e', vs, hu, hr, hrel, h1, hvl⟩ := run_buildSlice hz hp hx hle hs
  have hee : e' = e := by
    have := elT_spec he
    rw [hu] at this
    simpa using this
  subst hee
  have hn0 : parts.toList.length = len := by have := congrArg List.length hp; simpa using this
  have hl : (List.map (fun p => s.ev p.2) parts.toList).length = len := by simpa using hn0
  have hsame := same_alloc w (.cells (List.toArray vs) e')
  have hBw : ∀ b, B b → (w.alloc (.cells (List.toArray vs) e')).heap[b]? = w.heap[b]? := fun b hb => hsame.block b (hs.rw_.blt b hb)
  have hn : RS E { s with ob := s.ob ++ [.row e' sz (parts.toList.map fun p => s.ev p.2)] } (ρ ++ [.slice (some ⟨w.heap.size, 0, none⟩) len len]) B a (w.alloc (.cells (List.toArray vs) e')) := by
    refine hs.new hsame ⟨?_, .inr ⟨w.heap.size, len, vs, [], (0, 0), ?_, ?_, ?_, ?_, .inl (Nat.le_refl _), ?_⟩⟩ ?_
    · intro x hx'
      simp only [List.mem_map] at hx'
      obtain ⟨p, hpm, rfl⟩ := hx'
      refine ⟨(hx p hpm).2, fun c hc => h1 c ?_⟩
      simp only [List.mem_flatMap, List.mem_map]
      exact ⟨_, ⟨p, hpm, rfl⟩, hc⟩
    · rw [hl, ← hs.rw_.len, List.getElem?_append_right (Nat.le_refl _), Nat.sub_self]; rfl
    · rw [List.append_nil]; exact alloc_get _ _
    · rw [List.append_nil]; exact hvl
    · rw [hl]; exact Nat.le_refl _
    · exact hrel.mono (fun _ h => h) hBw (Nat.le_refl _) (fun _ _ h => get_append_some h)
    · intro b hb
      simp only [blk, Option.some.injEq] at hb
      subst hb
      exact ⟨Nat.le_refl _, by simp⟩
  have hrun : (execOp a.eval o).run P w = .ok (.value (.slice (some ⟨w.heap.size, 0, none⟩) len len)) (w.alloc (.cells (List.toArray vs) e')) := by
    simp only [execOp, ho]; exact val_run hr
  refine owp_value hrun (hK _ _ _ hn.rj hBw (.own ?_ rfl))
  rw [← hs.rw_.len, List.getElem?_append_right (Nat.le_refl _), Nat.sub_self]; rfl
theorem CSpec.ownB {T e : TypeId} {len sz : Nat} {parts : Array (Nat × Operand)} (hg : gd ops s o = some true) (ho : o.op = .buildSlice T len parts) (hz : elSz P T = some sz) (he : elT P T = some e)
    (hp : parts.toList.map (·.1) = List.range len) (hx : ∀ p ∈ parts.toList, (s.ev p.2).flat = true ∧ (s.ev p.2).cells.length = sz) (hle : len * sz ≤ 2 ^ 24) : CSpec P ops o s [] [.row e sz (parts.toList.map fun p => s.ev p.2)] (.own s.ob.length) := by
  intro E hE ρ B a w hs K Q' hK
  have hs' : RS E s ρ B a w := by simpa using hs
  refine ASpec.ownB hg ho hz he hp hx hle E ρ B a w hs' K Q' fun v w' u h1 h2 h3 => ?_
  exact hK v w' _ B h1 (fun _ h => h) h2 (fun j u _ h => get_append_some h) h3
variable {nds : List (List (Nat × Option Nat))} {vals : List AV} {G : Prop} {nds1 : List (List (Nat × Option Nat))} {X XL : List Ob} {i : Nat} {r : List Nat}
theorem CL.ownB {T e : TypeId} {len sz : Nat} {parts : Array (Nat × Operand)} {xs : List AV} (k : CL P ops s nds1 vals r [.row e sz xs] XL) (hol : ops[i]? = some o := by exact Go.Abs.evT) (ho : o.op = .buildSlice T len parts := by rfl)
    (hg : gd ops { s with fr := needFr s.fr vals (nds1.getD i []) } o = some true := by exact Go.Abs.evT)
    (hz : elSz P T = some sz := by exact Go.Abs.evT) (he : elT P T = some e := by exact Go.Abs.evT) (hp : parts.toList.map (·.1) = List.range len := by rfl)
    (hx : ∀ p ∈ parts.toList, (AS.ev { s with fr := needFr s.fr vals (nds1.getD i []) } p.2).flat = true ∧ (AS.ev { s with fr := needFr s.fr vals (nds1.getD i []) } p.2).cells.length = sz := by exact Go.Abs.evT)
    (hxs : (parts.toList.map fun p => AS.ev { s with fr := needFr s.fr vals (nds1.getD i []) } p.2) = xs := by exact Go.Abs.evT) (hle : decide (len * sz ≤ 2 ^ 24) = true := by first | rfl | decide) (hv : vals.getD i .any = .own s.ob.length := by rfl) : CL P ops s nds1 vals (i :: r) [] XL :=
  ⟨_, fun o' ho' => by
    have : o' = o := Option.some.inj (ho'.symm.trans hol)
    subst this
    rw [hv]
    exact CSpec.ownB (s := { s with fr := needFr s.fr vals (nds1.getD i []) }) hg ho hz he hp hx (of_decide_eq_true hle), hxs ▸ k⟩
end
end Go.Abs
