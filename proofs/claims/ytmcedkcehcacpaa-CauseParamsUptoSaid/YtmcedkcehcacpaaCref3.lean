/- The reference: wanted, Table, Of, Size. -/
import Derived.Test.YtmcedkcehcacpaaCref2
set_option linter.unusedVariables false
set_option linter.unusedSimpArgs false
namespace Go.Proofs.Ytmcedkcehcacpaa.C
open Go.Abs

theorem kidsOk_eq (f : ShForm) (l : List GNode) (hf : f.kids ≤ 4) : kidsOk f l =
    if f.kids = 0 then l.length == 0 else if f.kids = 1 then l.length == 1 else if f.kids = 4 then (l.length == 1 && ((l.headD default).ty == 5 || (l.headD default).ty == 6)) else (decide (1 ≤ l.length) && decide (l.length ≤ 16384)) := by
  have key : ∀ k n : Nat, k ≤ 4 → ∀ b : Bool, (decide ((insideN k).2.1 ≤ n) && decide (n ≤ (insideN k).2.2) && (k != 4 || b)) = if k = 0 then n == 0 else if k = 1 then n == 1 else if k = 4 then (n == 1 && b) else (decide (1 ≤ n) && decide (n ≤ 16384)) := by
    intro k n hk b
    have h : k = 0 ∨ k = 1 ∨ k = 2 ∨ k = 3 ∨ k = 4 := by omega
    have h1 : (decide (1 ≤ n) && decide (n ≤ 1)) = (n == 1) := by rw [Bool.eq_iff_iff]; simp; omega
    rcases h with rfl | rfl | rfl | rfl | rfl
    · rw [Bool.eq_iff_iff]; simp [insideN]
    · rw [Bool.eq_iff_iff]; simp [insideN]; omega
    · simp [insideN]
    · simp [insideN]
    · simp [insideN, ← h1]
  unfold kidsOk
  rw [Bool.or_assoc]
  exact key _ _ hf _

theorem wanted_c (f : ShForm) (l : List GNode) (hl : l.length ≤ 2 ^ 40) (hf : f.kids ≤ 4) : PC Try.prog 35 [formA f, .sl false 3 (nodesA false l)] (bool (kidsOk f l)) := by
  have hq := kidsOk_eq f l hf
  refine PC.of_bodyW (by simp only [push_cast]) Try.func35 rfl (by rw [Try.ntmps35]; simp) ?_
  refine AWp.regionW ?_
  refine AWp.seqK fun K1 hK1 => ?_
  refine AWp.regionW ?_
  refine AWp.block ?_
  refine AWp.regionW ?_
  refine AWp.condLM (fun c0 => ?_) (fun c0 => ?_)
  · skip
    have h0 : f.kids = 0 := by simpa using c0
    refine AWp.regionW ?_
    refine AWp.ret ?_
    try simp only [thenQ, blockQ]
    refine bodyQ.m ?_
    clear hK1 K1
    rw [hq, if_pos h0]
    first | done | exact Hand.go
  · skip
    have h0 : ¬ f.kids = 0 := by simpa using c0
    refine AWp.regionW ?_
    refine AWp.condLM (fun c1 => ?_) (fun c1 => ?_)
    · skip
      have h1 : f.kids = 1 := by simpa using c1
      refine AWp.regionW ?_
      refine AWp.ret ?_
      try simp only [thenQ, blockQ]
      refine bodyQ.m ?_
      clear hK1 K1
      rw [hq, if_neg h0, if_pos h1]
      first | done | exact Hand.go
    · skip
      have h1 : ¬ f.kids = 1 := by simpa using c1
      refine AWp.regionW ?_
      refine AWp.condLM (fun c2 => ?_) (fun c2 => ?_)
      · skip
        have h2 : f.kids = 4 := by simpa using c2
        refine AWp.regionA fun K2 hK2 => ?_
        refine ARun.segm 4 fun KS hKS => ?_
        refine ARun2.endm (hKS _ ?_); clear hKS KS
        apply ARun.grpM 12 3 true 34 [22]
        · intro g3 KG hKG
          have hne : 0 < l.length := by have := beq_iff_eq.1 g3; omega
          refine ARun.segm 6 fun KS hKS => ?_
          refine ARun2.indexM (0) (nodeA false (l.headD default)) ?_ ?_
          · exact nodesA_head _ _ hne
          refine ARun2.endm (hKS _ ?_); clear hKS KS
          apply ARun.grpM 5 9 false 33 [22, 28]
          · intro g9 KG hKG
            refine ARun2.gom ?_
            refine ARun2.indexM (0) (nodeA false (l.headD default)) ?_ ?_
            · exact nodesA_head _ _ hne
            exact ARun2.endm (hKG _ Le.grpM)
          refine ARun2.gom ?_
          exact ARun2.endm (hKG _ Le.grpM)
        refine ARun2.gom ?_
        refine ARun2.endm (hK2 _ ?_)
        refine AWp.ret ?_
        try simp only [thenQ, blockQ]
        refine bodyQ.m ?_
        clear hK2 K2 hK1 K1
        rw [hq, if_neg h0, if_neg h1, if_pos h2]
        first | done | exact Hand.go
      · skip
        have h2 : ¬ f.kids = 4 := by simpa using c2
        refine AWp.skip ?_
        refine hK1 _ ?_
        refine AWp.regionA fun K3 hK3 => ?_
        refine ARun.segm 4 fun KS hKS => ?_
        refine ARun2.endm (hKS _ ?_); clear hKS KS
        apply ARun.grpM 3 3 true 42 [39]
        · intro g3 KG hKG
          refine ARun2.gom ?_
          exact ARun2.endm (hKG _ Le.grpM)
        refine ARun2.gom ?_
        refine ARun2.endm (hK3 _ ?_)
        refine AWp.ret ?_
        try simp only [thenQ, blockQ]
        refine bodyQ.m ?_
        clear hK3 K3 hK1 K1
        rw [hq, if_neg h0, if_neg h1, if_neg h2]
        first | done | exact Hand.go

def refForms : List ShForm := paramForms.map (fun f => { f with cls := 1 }) ++ causeForms.map (fun f => { f with cls := 2 })
set_option maxRecDepth 100000 in
set_option maxHeartbeats 1000000 in
theorem table07_c : PC Try.prog 46 [] (.sl false 7 (formsA refForms)) := by
  refine PC.of_bodyW (by simp only [push_cast]) Try.func46 rfl (by rw [Try.ntmps46]; simp) ?_
  refine AWp.regionW ?_
  refine AWp.regionW ?_
  refine AWp.regionW ?_
  refine AWp.ret ?_
  try simp only [thenQ, blockQ]
  refine bodyQ.m ?_
  simp only [refForms, formsA, paramForms, causeForms, List.map_cons, List.map_nil, List.cons_append, List.nil_append]
  first | done | exact Hand.go

theorem refOf_eq (c t : Nat) (hc : c = 1 ∨ c = 2) : (refForms.find? fun f => f.cls == c && f.ty == t).getD zeroForm = shapeOf c t := by
  have key : ∀ (l : List ShForm) (c' : Nat), (l.map (fun f => { f with cls := c' })).find? (fun f => f.cls == c && f.ty == t) = if c' = c then (l.find? fun f => f.ty == t).map (fun f => { f with cls := c' }) else none := by
    intro l c'
    induction l with
    | nil => simp
    | cons a l ih =>
      by_cases h : c' = c
      · subst h
        simp only [if_true] at ih
        by_cases ht : a.ty = t
        · simp [List.find?_cons, ht]
        · have ht' : (a.ty == t) = false := by simpa using ht
          simp [List.find?_cons, ht', ih]
      · have hcc : (c' == c) = false := by simpa using h
        simp only [if_neg h] at ih ⊢
        simp [List.find?_cons, hcc, ih]
  unfold refForms shapeOf
  rw [List.find?_append, key, key]
  rcases hc with rfl | rfl
  · simp [formsN]
  · simp [formsN]

theorem of07_c (c t : Nat) (hc : c = 1 ∨ c = 2) : PC Try.prog 33 [nat c, u16 t] (formA (shapeOf c t)) := by
  have hlen : refForms.length ≤ 2 ^ 40 := by decide
  have hq := refOf_eq c t hc
  refine PC.of_bodyW (by simp only [push_cast]) Try.func33 rfl (by rw [Try.ntmps33]; simp) ?_
  refine AWp.regionW ?_
  refine AWp.regionM fun K1 hK1 => ?_
  refine ARun2.callM (table07_c) ?_
  refine ARun2.endm (hK1 _ ?_)
  refine AWp.seqK fun K2 hK2 => ?_
  refine AWp.regionW ?_
  refine AWp.block ?_
  refine AWp.loopK0 [0, 1, 4, 5] (fun (i : Nat) => [(6, nat i)]) (fun i => i ≤ refForms.length ∧ refForms.find? (fun f => f.cls == c && f.ty == t) = (refForms.drop i).find? fun f => f.cls == c && f.ty == t) (fun i => refForms.length - i) (0) ?_ ⟨Nat.zero_le _, rfl⟩ ?_
  · skip
    refine Le.m 1 ?_ ?_
    · first | with_reducible rfl | (simp only [push_cast, reduceIte, Nat.reduceEqDiff, Nat.reduceLT, Nat.reduceAdd, Nat.reduceSub, Nat.reduceMul, Nat.reduceLeDiff, Nat.reducePow, Int.reduceLT, Int.reduceToNat, reduceCtorEq, Int.reduceNeg, Int.reduceEq, Nat.reduceBEq, Nat.reduceBNe, Int.reduceBEq, Int.reduceBNe, String.reduceEq]; first | done | rfl | (simp (disch := omega) only [w_nat, w_add, w_addl, w_addr, w_sub, w_subl, w_mul, w_mull, w_mulr, w_u32, w_u16, w_u8, w_u32a, N_zero]; first | done | rfl))
    · first | (simp only [push_cast, reduceIte, Nat.reduceEqDiff, Nat.reduceLT, Nat.reduceAdd, Nat.reduceSub, Nat.reduceMul, Nat.reduceLeDiff, Nat.reducePow, Int.reduceLT, Int.reduceToNat, reduceCtorEq, Int.reduceNeg, Int.reduceEq, Nat.reduceBEq, Nat.reduceBNe, Int.reduceBEq, Int.reduceBNe, String.reduceEq]; first | done | rfl | (simp (disch := omega) only [w_nat, w_add, w_addl, w_addr, w_sub, w_subl, w_mul, w_mull, w_mulr, w_u32, w_u16, w_u8, w_u32a, N_zero]; first | done | rfl))
  · intro i hi K3 hK3
    refine AWp.seqK fun K4 hK4 => ?_
    refine AWp.regionW ?_
    refine AWp.condLM (fun c0 => ?_) (fun c0 => ?_)
    · skip
      have hil : i < refForms.length := by simpa using c0
      have hd : refForms.drop i = refForms[i] :: refForms.drop (i + 1) := List.drop_eq_getElem_cons hil
      refine AWp.skip ?_
      refine hK4 _ ?_
      refine AWp.seqK fun K5 hK5 => ?_
      refine AWp.block ?_
      refine AWp.regionA fun K6 hK6 => ?_
      refine ARun.segm 8 fun KS hKS => ?_
      refine ARun2.indexM (i) (formA refForms[i]) ?_ ?_
      · exact formsA_at _ _ hil
      refine ARun2.endm (hKS _ ?_); clear hKS KS
      apply ARun.grpM 7 7 true 28 [0, 1, 4, 5, 6, 21]
      · intro g7 KG hKG
        refine ARun2.gom ?_
        refine ARun2.indexM (i) (formA refForms[i]) ?_ ?_
        · exact formsA_at _ _ hil
        exact ARun2.endm (hKG _ Le.grpM)
      refine ARun2.gom ?_
      refine ARun2.endm (hK6 _ ?_)
      refine AWp.condLM (fun c1 => ?_) (fun c1 => ?_)
      · skip
        have h1 : (refForms[i].cls == c && refForms[i].ty == t) = true := by simpa using c1
        have hv : shapeOf c t = refForms[i] := by rw [← hq, hi.2, hd, List.find?_cons, h1]; rfl
        refine AWp.regionM fun K7 hK7 => ?_
        refine ARun2.indexM (i) (formA refForms[i]) ?_ ?_
        · exact formsA_at _ _ hil
        refine ARun2.endm (hK7 _ ?_)
        refine AWp.ret ?_
        try simp only [thenQ, blockQ]
        refine bodyQ.m ?_
        clear hK7 K7 hK6 K6 hK5 K5 hK4 K4 hK3 K3 hK2 K2 hK1 K1
        rw [hv]
        first | done | exact Hand.go
      · skip
        have h1 : (refForms[i].cls == c && refForms[i].ty == t) = false := by simpa using c1
        refine AWp.skip ?_
        refine hK5 _ ?_
        refine AWp.regionV ?_
        refine hK3 _ (i + 1) (⟨by omega, by rw [hi.2, hd, List.find?_cons, h1]⟩) (by omega) ?_
        refine Le.m 1 ?_ ?_
        · first | with_reducible rfl | (simp only [push_cast, reduceIte, Nat.reduceEqDiff, Nat.reduceLT, Nat.reduceAdd, Nat.reduceSub, Nat.reduceMul, Nat.reduceLeDiff, Nat.reducePow, Int.reduceLT, Int.reduceToNat, reduceCtorEq, Int.reduceNeg, Int.reduceEq, Nat.reduceBEq, Nat.reduceBNe, Int.reduceBEq, Int.reduceBNe, String.reduceEq]; first | done | rfl | (simp (disch := omega) only [w_nat, w_add, w_addl, w_addr, w_sub, w_subl, w_mul, w_mull, w_mulr, w_u32, w_u16, w_u8, w_u32a, N_zero]; first | done | rfl))
        · first | (simp only [push_cast, reduceIte, Nat.reduceEqDiff, Nat.reduceLT, Nat.reduceAdd, Nat.reduceSub, Nat.reduceMul, Nat.reduceLeDiff, Nat.reducePow, Int.reduceLT, Int.reduceToNat, reduceCtorEq, Int.reduceNeg, Int.reduceEq, Nat.reduceBEq, Nat.reduceBNe, Int.reduceBEq, Int.reduceBNe, String.reduceEq]; first | done | rfl | (simp (disch := omega) only [w_nat, w_add, w_addl, w_addr, w_sub, w_subl, w_mul, w_mull, w_mulr, w_u32, w_u16, w_u8, w_u32a, N_zero]; first | done | rfl))
    · skip
      have hil : refForms.length ≤ i := by simpa using c0
      have hv : shapeOf c t = zeroForm := by rw [← hq, hi.2, List.drop_of_length_le hil]; rfl
      refine AWp.exit ?_
      simp only [thenQ, blockQ, reduceIte, Nat.reduceEqDiff]
      refine hK2 _ ?_
      refine AWp.regionW ?_
      refine AWp.ret ?_
      try simp only [thenQ, blockQ]
      refine bodyQ.m ?_
      clear hK4 K4 hK3 K3 hK2 K2 hK1 K1
      rw [hv]
      first | done | exact Hand.go

theorem sumUp_le (l : List GNode) (i : Nat) : sumUp 0 ((nLens (l.take i)).map (4 + ·)) ≤ nSize l := by
  have e : (nLens (l.take i)).map (4 + ·) = ((nLens l).map (4 + ·)).take i := by
    rw [nLens_map, nLens_map, List.map_take, List.map_take]
  rw [e]; exact sumUp_take _ i
/-- the size as the reference has it behind i nodes -/
def szR (l : List GNode) (i : Nat) : Nat := if i < l.length then upN (sumUp 0 ((nLens (l.take i)).map (4 + ·))) else nSize l

theorem upN_mod (n : Nat) : upN n % 4 = 0 := by unfold upN gapN; omega
theorem szR_step (l : List GNode) (i : Nat) (h : i < l.length) : szR l (i + 1) = if i < l.length - 1 then szR l i + (4 + vlen l[i]) + gapN (4 + vlen l[i]) else szR l i + (4 + vlen l[i]) := by
  have e : sumUp 0 ((nLens (l.take (i + 1))).map (4 + ·)) = upN (sumUp 0 ((nLens (l.take i)).map (4 + ·))) + (4 + vlen l[i]) := by
    rw [List.take_succ_eq_append_getElem h]
    have : nLens (l.take i ++ [l[i]]) = nLens (l.take i) ++ [vlen l[i]] := by rw [nLens_map, nLens_map, List.map_append]; rfl
    rw [this, List.map_append]
    exact sumUp_append _ _ _
  have hu := upN_mod (sumUp 0 ((nLens (l.take i)).map (4 + ·)))
  unfold szR
  rw [if_pos h]
  by_cases h2 : i < l.length - 1
  · rw [if_pos (by omega), if_pos h2, e]
    generalize upN (sumUp 0 ((nLens (l.take i)).map (4 + ·))) = u at hu
    unfold upN gapN; omega
  · rw [if_neg (by omega), if_neg h2, ← e]
    have : i + 1 = l.length := by omega
    rw [this, List.take_length]; rfl
theorem szR_le (l : List GNode) (i : Nat) : szR l i ≤ nSize l + 3 := by
  unfold szR
  split
  · have h1 := sumUp_le l i
    have h2 := gapN_le (sumUp 0 ((nLens (l.take i)).map (4 + ·)))
    unfold upN; omega
  · omega
theorem szR_zero (l : List GNode) : szR l 0 = 0 := by
  unfold szR
  split
  · simp [nLens, sumUp, upN, gapN]
  · have : l = [] := by cases l <;> simp_all
    subst this; rfl

theorem size08_step (l : List GNode) (hs : nSize l ≤ 2 ^ 30) (ih : ∀ a ∈ l, PC Try.prog 38 [.sl false 3 (nodesA false a.kids)] (nat (nSize a.kids))) :
    PC Try.prog 38 [.sl false 3 (nodesA false l)] (nat (nSize l)) := by
  have hlen := nSize_len l
  refine PC.of_bodyW (by simp only [push_cast]) Try.func38 rfl (by rw [Try.ntmps38]; simp) ?_
  refine AWp.regionW ?_
  refine AWp.regionW ?_
  refine AWp.seqK fun K1 hK1 => ?_
  refine AWp.regionW ?_
  refine AWp.block ?_
  refine AWp.loopK0 [0] (fun (i : Nat) => [(4, nat i), (3, nat (szR l i))]) (fun i => i ≤ l.length) (fun i => l.length - i) (0) ?_ (Nat.zero_le _) ?_
  · skip
    refine Le.m 0 ?_ ?_
    · first | with_reducible rfl | (simp only [push_cast, reduceIte, Nat.reduceEqDiff, Nat.reduceLT, Nat.reduceAdd, Nat.reduceSub, Nat.reduceMul, Nat.reduceLeDiff, Nat.reducePow, Int.reduceLT, Int.reduceToNat, reduceCtorEq, Int.reduceNeg, Int.reduceEq, Nat.reduceBEq, Nat.reduceBNe, Int.reduceBEq, Int.reduceBNe, String.reduceEq]; first | done | rfl | (simp (disch := omega) only [w_nat, w_add, w_addl, w_addr, w_sub, w_subl, w_mul, w_mull, w_mulr, w_u32, w_u16, w_u8, w_u32a, N_zero]; first | done | rfl))
    · simp only [push_cast, reduceIte, Nat.reduceEqDiff, Nat.reduceLT, Nat.reduceAdd, Nat.reduceSub, Nat.reduceMul, Nat.reduceLeDiff, Nat.reducePow, Int.reduceLT, Int.reduceToNat, reduceCtorEq, Int.reduceNeg, Int.reduceEq, Nat.reduceBEq, Nat.reduceBNe, Int.reduceBEq, Int.reduceBNe, String.reduceEq]
      try simp (disch := omega) only [w_nat, w_add, w_addl, w_addr, w_sub, w_subl, w_mul, w_mull, w_mulr, w_u32, w_u16, w_u8, w_u32a, N_zero]
      rw [szR_zero]; rfl
  · intro i hi K2 hK2
    refine AWp.seqK fun K3 hK3 => ?_
    refine AWp.regionW ?_
    refine AWp.condLM (fun c0 => ?_) (fun c0 => ?_)
    · skip
      have hil : i < l.length := by simpa using c0
      have hm := List.getElem_mem hil
      have hv := vlen_mem hm
      have he := vlen_eq l[i]
      have hst := szR_step l i hil
      have hle := szR_le l i
      have hg := gapN_le (4 + vlen l[i])
      refine AWp.skip ?_
      refine hK3 _ ?_
      refine AWp.seqK fun K4 hK4 => ?_
      refine AWp.block ?_
      refine AWp.drS [[(0, none)], [(4, none)], [(12, some 0), (13, some 1)], [(14, some 2)], [(15, some 3)], [(16, some 4)], [(17, some 5)], [(0, none)], [(4, none)], [(19, some 7), (20, some 8)], [(21, some 9)], [(22, some 10)], [(23, some 11)], [(18, some 6), (24, some 12)], [(25, some 13)]] fun G hG => ?_
      refine Dr.sim ?_
      try simp only [List.cons_append, List.nil_append]
      refine Dr.sim ?_
      try simp only [List.cons_append, List.nil_append]
      refine Dr.idx (i) (nodeA false l[i]) ?_ ?_
      · exact nodesA_at _ _ _ hil
      try simp only [List.cons_append, List.nil_append]
      refine Dr.sim ?_
      try simp only [List.cons_append, List.nil_append]
      refine Dr.sim ?_
      try simp only [List.cons_append, List.nil_append]
      refine Dr.sim ?_
      try simp only [List.cons_append, List.nil_append]
      refine Dr.sim ?_
      try simp only [List.cons_append, List.nil_append]
      refine Dr.sim ?_
      try simp only [List.cons_append, List.nil_append]
      refine Dr.sim ?_
      try simp only [List.cons_append, List.nil_append]
      refine Dr.idx (i) (nodeA false l[i]) ?_ ?_
      · exact nodesA_at _ _ _ hil
      try simp only [List.cons_append, List.nil_append]
      refine Dr.sim ?_
      try simp only [List.cons_append, List.nil_append]
      refine Dr.sim ?_
      try simp only [List.cons_append, List.nil_append]
      refine Dr.call (ih l[i] hm) ?_
      try simp only [List.cons_append, List.nil_append]
      refine Dr.sim ?_
      try simp only [List.cons_append, List.nil_append]
      refine Dr.sim ?_
      try simp only [List.cons_append, List.nil_append]
      refine Dr.finM (n := 15) [(5, 14)] [0, 3, 4] hG Ytmcedkcehcacpaa.Facts.mixed fun KD hKD => ?_
      refine ARun2.endm (hKD _ ?_); clear hKD KD hG G
      refine AWp.regionW ?_
      refine AWp.regionW ?_
      refine AWp.condLM (fun c1 => ?_) (fun c1 => ?_)
      · skip
        have h1 : i < l.length - 1 := by simpa using c1
        rw [if_pos h1] at hst
        refine AWp.regionN fun K5 hK5 => ?_
        rw [show 4 + l[i].data.length + nSize l[i].kids = 4 + vlen l[i] by omega]
        refine ARun2.callM (gap03_c (4 + vlen l[i]) (by omega)) ?_
        refine ARun2.endm (hK5 _ ?_)
        refine hK4 _ ?_
        refine AWp.regionV ?_
        refine hK2 _ (i + 1) (by omega) (by omega) ?_
        refine Le.m 0 ?_ ?_
        · first | with_reducible rfl | (simp only [push_cast, reduceIte, Nat.reduceEqDiff, Nat.reduceLT, Nat.reduceAdd, Nat.reduceSub, Nat.reduceMul, Nat.reduceLeDiff, Nat.reducePow, Int.reduceLT, Int.reduceToNat, reduceCtorEq, Int.reduceNeg, Int.reduceEq, Nat.reduceBEq, Nat.reduceBNe, Int.reduceBEq, Int.reduceBNe, String.reduceEq]; first | done | rfl | (simp (disch := omega) only [w_nat, w_add, w_addl, w_addr, w_sub, w_subl, w_mul, w_mull, w_mulr, w_u32, w_u16, w_u8, w_u32a, N_zero]; first | done | rfl))
        · simp only [push_cast, reduceIte, Nat.reduceEqDiff, Nat.reduceLT, Nat.reduceAdd, Nat.reduceSub, Nat.reduceMul, Nat.reduceLeDiff, Nat.reducePow, Int.reduceLT, Int.reduceToNat, reduceCtorEq, Int.reduceNeg, Int.reduceEq, Nat.reduceBEq, Nat.reduceBNe, Int.reduceBEq, Int.reduceBNe, String.reduceEq]
          try simp (disch := omega) only [w_nat, w_add, w_addl, w_addr, w_sub, w_subl, w_mul, w_mull, w_mulr, w_u32, w_u16, w_u8, w_u32a, N_zero]
          first | (rw [hst]; done) | (rw [hst]; congr 3; omega)
      · skip
        have h1 : ¬ i < l.length - 1 := by simpa using c1
        rw [if_neg h1] at hst
        refine AWp.skip ?_
        refine hK4 _ ?_
        refine AWp.regionV ?_
        refine hK2 _ (i + 1) (by omega) (by omega) ?_
        refine Le.m 0 ?_ ?_
        · first | with_reducible rfl | (simp only [push_cast, reduceIte, Nat.reduceEqDiff, Nat.reduceLT, Nat.reduceAdd, Nat.reduceSub, Nat.reduceMul, Nat.reduceLeDiff, Nat.reducePow, Int.reduceLT, Int.reduceToNat, reduceCtorEq, Int.reduceNeg, Int.reduceEq, Nat.reduceBEq, Nat.reduceBNe, Int.reduceBEq, Int.reduceBNe, String.reduceEq]; first | done | rfl | (simp (disch := omega) only [w_nat, w_add, w_addl, w_addr, w_sub, w_subl, w_mul, w_mull, w_mulr, w_u32, w_u16, w_u8, w_u32a, N_zero]; first | done | rfl))
        · simp only [push_cast, reduceIte, Nat.reduceEqDiff, Nat.reduceLT, Nat.reduceAdd, Nat.reduceSub, Nat.reduceMul, Nat.reduceLeDiff, Nat.reducePow, Int.reduceLT, Int.reduceToNat, reduceCtorEq, Int.reduceNeg, Int.reduceEq, Nat.reduceBEq, Nat.reduceBNe, Int.reduceBEq, Int.reduceBNe, String.reduceEq]
          try simp (disch := omega) only [w_nat, w_add, w_addl, w_addr, w_sub, w_subl, w_mul, w_mull, w_mulr, w_u32, w_u16, w_u8, w_u32a, N_zero]
          first | (rw [hst]; done) | (rw [hst]; congr 3; omega)
    · skip
      have hil : i = l.length := by simp at c0; omega
      subst hil
      refine AWp.exit ?_
      simp only [thenQ, blockQ, reduceIte, Nat.reduceEqDiff]
      refine hK1 _ ?_
      refine AWp.regionW ?_
      refine AWp.ret ?_
      try simp only [thenQ, blockQ]
      refine bodyQ.m ?_
      clear hK3 K3 hK2 K2 hK1 K1
      unfold szR; rw [if_neg (Nat.lt_irrefl _)]
      first | done | exact Hand.go
theorem size08_w : ∀ (w : Nat) (l : List GNode), szs l ≤ w → nSize l ≤ 2 ^ 30 → PC Try.prog 38 [.sl false 3 (nodesA false l)] (nat (nSize l)) := by
  have kl : ∀ (a : GNode) (l : List GNode), a ∈ l → szs a.kids < szs l := by
    intro a l ha
    have := szs_mem ha; rw [GNode.sz_eq] at this; omega
  intro w
  induction w with
  | zero => exact fun l hw hs => size08_step l hs (fun a ha => by have := kl a l ha; omega)
  | succ w ih => exact fun l hw hs => size08_step l hs (fun a ha => by have := kl a l ha; have := nSize_kids ha; exact ih _ (by omega) (by omega))
theorem size08_c (l : List GNode) (hs : nSize l ≤ 2 ^ 30) : PC Try.prog 38 [.sl false 3 (nodesA false l)] (nat (nSize l)) := size08_w _ l (Nat.le_refl _) hs
end Go.Proofs.Ytmcedkcehcacpaa.C
