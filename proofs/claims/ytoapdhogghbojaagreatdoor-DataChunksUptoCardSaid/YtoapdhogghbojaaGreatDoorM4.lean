/- The reference: wanted, Table, Of, Size. -/
import Derived.Test.YtoapdhogghbojaaGreatDoorM3
import Derived.Laws.StructEq
import Derived.ChangeKeysEq
import Derived.Lib.BytesEntry
set_option linter.unusedVariables false
set_option linter.unusedSimpArgs false
namespace Go.Proofs.YtoapdhogghbojaaGreatDoor.C
open Go.Abs
theorem kidsOk_eq (f : ShForm) (l : List GNode) (hf : f.kids ≤ 4) : kidsOk f l =
    if f.kids = 0 then l.length == 0 else if f.kids = 1 then l.length == 1 else if f.kids = 4 then (l.length == 1 && ((l.headD default).ty == 5 || (l.headD default).ty == 6)) else (decide (1 ≤ l.length) && decide (l.length ≤ 16384)) := by
  have key : ∀ k n : Nat, k ≤ 4 → ∀ b : Bool, (decide ((insideN k).2.1 ≤ n) && decide (n ≤ (insideN k).2.2) && (k != 4 || b)) = if k = 0 then n == 0 else if k = 1 then n == 1 else if k = 4 then (n == 1 && b) else (decide (1 ≤ n) && decide (n ≤ 16384)) := by
    intro k n hk b
    have h : k = 0 ∨ k = 1 ∨ k = 2 ∨ k = 3 ∨ k = 4 := by omega
    have h1 : (decide (1 ≤ n) && decide (n ≤ 1)) = (n == 1) := by rw [Bool.eq_iff_iff]; simp; omega
    rcases h with rfl | rfl | rfl | rfl | rfl
    · rw [Bool.eq_iff_iff]; simp [insideN]
    · rw [Bool.eq_iff_iff]; simp [insideN]; omega
    · simp [insideN]
    · simp [insideN]
    · simp [insideN, ← h1]
  unfold kidsOk
  rw [Bool.or_assoc]
  exact key _ _ hf _
theorem wanted_c (f : ShForm) (l : List GNode) (hl : l.length ≤ 2 ^ 40) (hf : f.kids ≤ 4) : PC Tryz.prog 114 [formA f, .sl false 3 (nodesA false l)] (bool (kidsOk f l)) := by
  have hq := kidsOk_eq f l hf
  refine PC.of_bodyW (by simp only [push_cast]) Tryz.func114 rfl (by rw [Tryz.ntmps114]; simp) ?_
  refine AWp.regionW ?_
  refine AWp.seqK fun K1 hK1 => ?_
  refine AWp.regionW ?_
  refine AWp.block ?_
  refine AWp.regionW ?_
  refine AWp.condLM (fun c0 => ?_) (fun c0 => ?_)
  · skip
    have h0 : f.kids = 0 := by simpa using c0
    refine AWp.regionW ?_
    refine AWp.ret ?_
    try simp only [thenQ, blockQ, noGo]
    refine bodyQ.m ?_
    clear hK1 K1
    rw [hq, if_pos h0]
    first | done | exact Hand.go
  · skip
    have h0 : ¬ f.kids = 0 := by simpa using c0
    refine AWp.regionW ?_
    refine AWp.condLM (fun c1 => ?_) (fun c1 => ?_)
    · skip
      have h1 : f.kids = 1 := by simpa using c1
      refine AWp.regionW ?_
      refine AWp.ret ?_
      try simp only [thenQ, blockQ, noGo]
      refine bodyQ.m ?_
      clear hK1 K1
      rw [hq, if_neg h0, if_pos h1]
      first | done | exact Hand.go
    · skip
      have h1 : ¬ f.kids = 1 := by simpa using c1
      refine AWp.regionW ?_
      refine AWp.condLM (fun c2 => ?_) (fun c2 => ?_)
      · skip
        have h2 : f.kids = 4 := by simpa using c2
        refine AWp.regionA fun K2 hK2 => ?_
        refine ARun.segm 4 fun KS hKS => ?_
        refine ARun2.endm (hKS _ ?_); clear hKS KS
        apply ARun.grpM 12 3 true 34 [22]
        · intro g3 KG hKG
          have hne : 0 < l.length := by have := beq_iff_eq.1 g3; omega
          refine ARun.segm 6 fun KS hKS => ?_
          refine ARun2.indexM (0) (nodeA false (l.headD default)) ?_ ?_
          · exact nodesA_head _ _ hne
          refine ARun2.endm (hKS _ ?_); clear hKS KS
          apply ARun.grpM 5 9 false 33 [22, 28]
          · intro g9 KG hKG
            refine ARun2.gom ?_
            refine ARun2.indexM (0) (nodeA false (l.headD default)) ?_ ?_
            · exact nodesA_head _ _ hne
            exact ARun2.endm (hKG _ Le.grpM)
          refine ARun2.gom ?_
          exact ARun2.endm (hKG _ Le.grpM)
        refine ARun2.gom ?_
        refine ARun2.endm (hK2 _ ?_)
        refine AWp.ret ?_
        try simp only [thenQ, blockQ, noGo]
        refine bodyQ.m ?_
        clear hK2 K2 hK1 K1
        rw [hq, if_neg h0, if_neg h1, if_pos h2]
        first | done | exact Hand.go
      · skip
        have h2 : ¬ f.kids = 4 := by simpa using c2
        refine AWp.skip ?_
        refine hK1 _ ?_
        refine AWp.regionA fun K3 hK3 => ?_
        refine ARun.segm 4 fun KS hKS => ?_
        refine ARun2.endm (hKS _ ?_); clear hKS KS
        apply ARun.grpM 3 3 true 42 [39]
        · intro g3 KG hKG
          refine ARun2.gom ?_
          exact ARun2.endm (hKG _ Le.grpM)
        refine ARun2.gom ?_
        refine ARun2.endm (hK3 _ ?_)
        refine AWp.ret ?_
        try simp only [thenQ, blockQ, noGo]
        refine bodyQ.m ?_
        clear hK3 K3 hK1 K1
        rw [hq, if_neg h0, if_neg h1, if_neg h2]
        first | done | exact Hand.go
def refForms : List ShForm := paramForms.map (fun f => { f with cls := 1 }) ++ causeForms.map (fun f => { f with cls := 2 })
set_option maxRecDepth 100000 in
set_option maxHeartbeats 1000000 in
theorem table07_c : PC Tryz.prog 136 [] (.sl false 7 (formsA refForms)) := by
  refine PC.of_bodyW (by simp only [push_cast]) Tryz.func136 rfl (by rw [Tryz.ntmps136]; simp) ?_
  refine AWp.regionW ?_
  refine AWp.regionW ?_
  refine AWp.regionW ?_
  refine AWp.ret ?_
  try simp only [thenQ, blockQ, noGo]
  refine bodyQ.m ?_
  simp only [refForms, formsA, paramForms, causeForms, List.map_cons, List.map_nil, List.cons_append, List.nil_append]
  first | done | exact Hand.go
theorem refOf_eq (c t : Nat) (hc : c = 1 ∨ c = 2) : (refForms.find? fun f => f.cls == c && f.ty == t).getD zeroForm = shapeOf c t := by
  have key : ∀ (l : List ShForm) (c' : Nat), (l.map (fun f => { f with cls := c' })).find? (fun f => f.cls == c && f.ty == t) = if c' = c then (l.find? fun f => f.ty == t).map (fun f => { f with cls := c' }) else none := by
    intro l c'
    induction l with
    | nil => simp
    | cons a l ih =>
      by_cases h : c' = c
      · subst h
        simp only [if_true] at ih
        by_cases ht : a.ty = t
        · simp [List.find?_cons, ht]
        · have ht' : (a.ty == t) = false := by simpa using ht
          simp [List.find?_cons, ht', ih]
      · have hcc : (c' == c) = false := by simpa using h
        simp only [if_neg h] at ih ⊢
        simp [List.find?_cons, hcc, ih]
  unfold refForms shapeOf
  rw [List.find?_append, key, key]
  rcases hc with rfl | rfl
  · simp [formsN]
  · simp [formsN]
theorem of07_c (c t : Nat) (hc : c = 1 ∨ c = 2) : PC Tryz.prog 110 [nat c, u16 t] (formA (shapeOf c t)) := by
  have hlen : refForms.length ≤ 2 ^ 40 := by decide
  have hq := refOf_eq c t hc
  refine PC.of_bodyW (by simp only [push_cast]) Tryz.func110 rfl (by rw [Tryz.ntmps110]; simp) ?_
  refine AWp.regionW ?_
  refine AWp.regionM fun K1 hK1 => ?_
  refine ARun2.callM (table07_c) ?_
  refine ARun2.endm (hK1 _ ?_)
  refine AWp.seqK fun K2 hK2 => ?_
  refine AWp.regionW ?_
  refine AWp.block ?_
  refine AWp.loopK0 [0, 1, 4, 5] (fun (i : Nat) => [(6, nat i)]) (fun i => i ≤ refForms.length ∧ refForms.find? (fun f => f.cls == c && f.ty == t) = (refForms.drop i).find? fun f => f.cls == c && f.ty == t) (fun i => refForms.length - i) (0) ?_ ⟨Nat.zero_le _, rfl⟩ ?_
  · skip
    refine Le.m 1 ?_ ?_
    · exact Go.Abs.evM
    · exact Go.Abs.evN
  · intro i hi K3 hK3
    refine AWp.seqK fun K4 hK4 => ?_
    refine AWp.regionW ?_
    refine AWp.condLM (fun c0 => ?_) (fun c0 => ?_)
    · skip
      have hil : i < refForms.length := by simpa using c0
      have hd : refForms.drop i = refForms[i] :: refForms.drop (i + 1) := List.drop_eq_getElem_cons hil
      refine AWp.skip ?_
      refine hK4 _ ?_
      refine AWp.seqK fun K5 hK5 => ?_
      refine AWp.block ?_
      refine AWp.regionA fun K6 hK6 => ?_
      refine ARun.segm 8 fun KS hKS => ?_
      refine ARun2.indexM (i) (formA refForms[i]) ?_ ?_
      · exact formsA_at _ _ hil
      refine ARun2.endm (hKS _ ?_); clear hKS KS
      apply ARun.grpM 7 7 true 28 [0, 1, 4, 5, 6, 21]
      · intro g7 KG hKG
        refine ARun2.gom ?_
        refine ARun2.indexM (i) (formA refForms[i]) ?_ ?_
        · exact formsA_at _ _ hil
        exact ARun2.endm (hKG _ Le.grpM)
      refine ARun2.gom ?_
      refine ARun2.endm (hK6 _ ?_)
      refine AWp.condLM (fun c1 => ?_) (fun c1 => ?_)
      · skip
        have h1 : (refForms[i].cls == c && refForms[i].ty == t) = true := by simpa using c1
        have hv : shapeOf c t = refForms[i] := by rw [← hq, hi.2, hd, List.find?_cons, h1]; rfl
        refine AWp.regionM fun K7 hK7 => ?_
        refine ARun2.indexM (i) (formA refForms[i]) ?_ ?_
        · exact formsA_at _ _ hil
        refine ARun2.endm (hK7 _ ?_)
        refine AWp.ret ?_
        try simp only [thenQ, blockQ, noGo]
        refine bodyQ.m ?_
        clear hK7 K7 hK6 K6 hK5 K5 hK4 K4 hK3 K3 hK2 K2 hK1 K1
        rw [hv]
        first | done | exact Hand.go
      · skip
        have h1 : (refForms[i].cls == c && refForms[i].ty == t) = false := by simpa using c1
        refine AWp.skip ?_
        refine hK5 _ ?_
        refine AWp.regionV ?_
        refine hK3 _ (i + 1) (⟨by omega, by rw [hi.2, hd, List.find?_cons, h1]⟩) (by omega) ?_
        refine Le.m 1 ?_ ?_
        · exact Go.Abs.evM
        · exact Go.Abs.evN
    · skip
      have hil : refForms.length ≤ i := by simpa using c0
      have hv : shapeOf c t = zeroForm := by rw [← hq, hi.2, List.drop_of_length_le hil]; rfl
      refine AWp.exit ?_
      try simp only [thenQ, blockQ, noGo, reduceIte, Nat.reduceEqDiff]
      refine hK2 _ ?_
      refine AWp.regionW ?_
      refine AWp.ret ?_
      try simp only [thenQ, blockQ, noGo]
      refine bodyQ.m ?_
      clear hK4 K4 hK3 K3 hK2 K2 hK1 K1
      rw [hv]
      first | done | exact Hand.go
theorem sumUp_le (l : List GNode) (i : Nat) : sumUp 0 ((nLens (l.take i)).map (4 + ·)) ≤ nSize l := by
  have e : (nLens (l.take i)).map (4 + ·) = ((nLens l).map (4 + ·)).take i := by
    rw [nLens_map, nLens_map, List.map_take, List.map_take]
  rw [e]; exact sumUp_take _ i
/-- the size as the reference has it behind i nodes -/
def szR (l : List GNode) (i : Nat) : Nat := if i < l.length then upN (sumUp 0 ((nLens (l.take i)).map (4 + ·))) else nSize l
theorem upN_mod (n : Nat) : upN n % 4 = 0 := by unfold upN gapN; omega
theorem szR_step (l : List GNode) (i : Nat) (h : i < l.length) : szR l (i + 1) = if i < l.length - 1 then szR l i + (4 + vlen l[i]) + gapN (4 + vlen l[i]) else szR l i + (4 + vlen l[i]) := by
  have e : sumUp 0 ((nLens (l.take (i + 1))).map (4 + ·)) = upN (sumUp 0 ((nLens (l.take i)).map (4 + ·))) + (4 + vlen l[i]) := by
    rw [List.take_succ_eq_append_getElem h]
    have : nLens (l.take i ++ [l[i]]) = nLens (l.take i) ++ [vlen l[i]] := by rw [nLens_map, nLens_map, List.map_append]; rfl
    rw [this, List.map_append]
    exact sumUp_append _ _ _
  have hu := upN_mod (sumUp 0 ((nLens (l.take i)).map (4 + ·)))
  unfold szR
  rw [if_pos h]
  by_cases h2 : i < l.length - 1
  · rw [if_pos (by omega), if_pos h2, e]
    generalize upN (sumUp 0 ((nLens (l.take i)).map (4 + ·))) = u at hu
    unfold upN gapN; omega
  · rw [if_neg (by omega), if_neg h2, ← e]
    have : i + 1 = l.length := by omega
    rw [this, List.take_length]; rfl
theorem szR_le (l : List GNode) (i : Nat) : szR l i ≤ nSize l + 3 := by
  unfold szR
  split
  · have h1 := sumUp_le l i
    have h2 := gapN_le (sumUp 0 ((nLens (l.take i)).map (4 + ·)))
    unfold upN; omega
  · omega
theorem szR_zero (l : List GNode) : szR l 0 = 0 := by
  unfold szR
  split
  · simp [nLens, sumUp, upN, gapN]
  · have : l = [] := by cases l <;> simp_all
    subst this; rfl
theorem size08_step (l : List GNode) (hs : nSize l ≤ 2 ^ 30) (ih : ∀ a ∈ l, PC Tryz.prog 72 [.sl false 3 (nodesA false a.kids)] (nat (nSize a.kids))) :
    PC Tryz.prog 72 [.sl false 3 (nodesA false l)] (nat (nSize l)) := by
  have hlen := nSize_len l
  refine PC.of_bodyW (by simp only [push_cast]) Tryz.func72 rfl (by rw [Tryz.ntmps72]; simp) ?_
  refine AWp.regionW ?_
  refine AWp.regionW ?_
  refine AWp.seqK fun K1 hK1 => ?_
  refine AWp.regionW ?_
  refine AWp.block ?_
  refine AWp.loopK0 [0] (fun (i : Nat) => [(4, nat i), (3, nat (szR l i))]) (fun i => i ≤ l.length) (fun i => l.length - i) (0) ?_ (Nat.zero_le _) ?_
  · skip
    refine Le.m 0 ?_ ?_
    · exact Go.Abs.evM
    · simp only [push_cast, ↓reduceIte, Nat.reduceEqDiff, Nat.reduceLT, Nat.reduceAdd, Nat.reduceSub, Nat.reduceMul, Nat.reduceLeDiff, Nat.reducePow, Int.reduceLT, Int.reduceToNat, reduceCtorEq, Int.reduceNeg, Int.reduceEq, Nat.reduceBEq, Nat.reduceBNe, Int.reduceBEq, Int.reduceBNe, String.reduceEq]
      try simp (disch := omega) only [w_nat, w_add, w_addl, w_addr, w_sub, w_subl, w_mul, w_mull, w_mulr, w_u32, w_u16, w_u8, w_u32a, N_zero]
      rw [szR_zero]; rfl
  · intro i hi K2 hK2
    refine AWp.seqK fun K3 hK3 => ?_
    refine AWp.regionW ?_
    refine AWp.condLM (fun c0 => ?_) (fun c0 => ?_)
    · skip
      have hil : i < l.length := by simpa using c0
      have hm := List.getElem_mem hil
      have hv := vlen_mem hm
      have he := vlen_eq l[i]
      have hst := szR_step l i hil
      have hle := szR_le l i
      have hg := gapN_le (4 + vlen l[i])
      refine AWp.skip ?_
      refine hK3 _ ?_
      refine AWp.seqK fun K4 hK4 => ?_
      refine AWp.block ?_
      refine AWp.drS [[(0, none)], [(4, none)], [(12, some 0), (13, some 1)], [(14, some 2)], [(15, some 3)], [(16, some 4)], [(17, some 5)], [(0, none)], [(4, none)], [(19, some 7), (20, some 8)], [(21, some 9)], [(22, some 10)], [(23, some 11)], [(18, some 6), (24, some 12)], [(25, some 13)]] fun G hG => ?_
      refine Dr.sim ?_
      try simp only [List.cons_append, List.nil_append]
      refine Dr.sim ?_
      try simp only [List.cons_append, List.nil_append]
      refine Dr.idx (i) (nodeA false l[i]) ?_ ?_
      · exact nodesA_at _ _ _ hil
      try simp only [List.cons_append, List.nil_append]
      refine Dr.sim ?_
      try simp only [List.cons_append, List.nil_append]
      refine Dr.sim ?_
      try simp only [List.cons_append, List.nil_append]
      refine Dr.sim ?_
      try simp only [List.cons_append, List.nil_append]
      refine Dr.sim ?_
      try simp only [List.cons_append, List.nil_append]
      refine Dr.sim ?_
      try simp only [List.cons_append, List.nil_append]
      refine Dr.sim ?_
      try simp only [List.cons_append, List.nil_append]
      refine Dr.idx (i) (nodeA false l[i]) ?_ ?_
      · exact nodesA_at _ _ _ hil
      try simp only [List.cons_append, List.nil_append]
      refine Dr.sim ?_
      try simp only [List.cons_append, List.nil_append]
      refine Dr.sim ?_
      try simp only [List.cons_append, List.nil_append]
      refine Dr.call (ih l[i] hm) ?_
      try simp only [List.cons_append, List.nil_append]
      refine Dr.sim ?_
      try simp only [List.cons_append, List.nil_append]
      refine Dr.sim ?_
      try simp only [List.cons_append, List.nil_append]
      refine Dr.finM (n := 15) [(5, 14)] [0, 3, 4] hG YtoapdhogghbojaaGreatDoor.Facts.mixed fun KD hKD => ?_
      refine ARun2.endm (hKD _ ?_); clear hKD KD hG G
      refine AWp.regionW ?_
      refine AWp.regionW ?_
      refine AWp.condLM (fun c1 => ?_) (fun c1 => ?_)
      · skip
        have h1 : i < l.length - 1 := by simpa using c1
        rw [if_pos h1] at hst
        refine AWp.regionN fun K5 hK5 => ?_
        rw [show 4 + l[i].data.length + nSize l[i].kids = 4 + vlen l[i] by omega]
        refine ARun2.callM (gap03_c (4 + vlen l[i]) (by omega)) ?_
        refine ARun2.endm (hK5 _ ?_)
        refine hK4 _ ?_
        refine AWp.regionV ?_
        refine hK2 _ (i + 1) (by omega) (by omega) ?_
        refine Le.m 0 ?_ ?_
        · exact Go.Abs.evM
        · simp only [push_cast, ↓reduceIte, Nat.reduceEqDiff, Nat.reduceLT, Nat.reduceAdd, Nat.reduceSub, Nat.reduceMul, Nat.reduceLeDiff, Nat.reducePow, Int.reduceLT, Int.reduceToNat, reduceCtorEq, Int.reduceNeg, Int.reduceEq, Nat.reduceBEq, Nat.reduceBNe, Int.reduceBEq, Int.reduceBNe, String.reduceEq]
          try simp (disch := omega) only [w_nat, w_add, w_addl, w_addr, w_sub, w_subl, w_mul, w_mull, w_mulr, w_u32, w_u16, w_u8, w_u32a, N_zero]
          first | (rw [hst]; done) | (rw [hst]; congr 3; omega)
      · skip
        have h1 : ¬ i < l.length - 1 := by simpa using c1
        rw [if_neg h1] at hst
        refine AWp.skip ?_
        refine hK4 _ ?_
        refine AWp.regionV ?_
        refine hK2 _ (i + 1) (by omega) (by omega) ?_
        refine Le.m 0 ?_ ?_
        · exact Go.Abs.evM
        · simp only [push_cast, ↓reduceIte, Nat.reduceEqDiff, Nat.reduceLT, Nat.reduceAdd, Nat.reduceSub, Nat.reduceMul, Nat.reduceLeDiff, Nat.reducePow, Int.reduceLT, Int.reduceToNat, reduceCtorEq, Int.reduceNeg, Int.reduceEq, Nat.reduceBEq, Nat.reduceBNe, Int.reduceBEq, Int.reduceBNe, String.reduceEq]
          try simp (disch := omega) only [w_nat, w_add, w_addl, w_addr, w_sub, w_subl, w_mul, w_mull, w_mulr, w_u32, w_u16, w_u8, w_u32a, N_zero]
          first | (rw [hst]; done) | (rw [hst]; congr 3; omega)
    · skip
      have hil : i = l.length := by simp at c0; omega
      subst hil
      refine AWp.exit ?_
      try simp only [thenQ, blockQ, noGo, reduceIte, Nat.reduceEqDiff]
      refine hK1 _ ?_
      refine AWp.regionW ?_
      refine AWp.ret ?_
      try simp only [thenQ, blockQ, noGo]
      refine bodyQ.m ?_
      clear hK3 K3 hK2 K2 hK1 K1
      unfold szR; rw [if_neg (Nat.lt_irrefl _)]
      first | done | exact Hand.go
theorem size08_w : ∀ (w : Nat) (l : List GNode), szs l ≤ w → nSize l ≤ 2 ^ 30 → PC Tryz.prog 72 [.sl false 3 (nodesA false l)] (nat (nSize l)) := by
  have kl : ∀ (a : GNode) (l : List GNode), a ∈ l → szs a.kids < szs l := by
    intro a l ha
    have := szs_mem ha; rw [GNode.sz_eq] at this; omega
  intro w
  induction w with
  | zero => exact fun l hw hs => size08_step l hs (fun a ha => by have := kl a l ha; omega)
  | succ w ih => exact fun l hw hs => size08_step l hs (fun a ha => by have := kl a l ha; have := nSize_kids ha; exact ih _ (by omega) (by omega))
theorem size08_c (l : List GNode) (hs : nSize l ≤ 2 ^ 30) : PC Tryz.prog 72 [.sl false 3 (nodesA false l)] (nat (nSize l)) := size08_w _ l (Nat.le_refl _) hs
end Go.Proofs.YtoapdhogghbojaaGreatDoor.C
/- The reference: Check, Count, Value, Types. -/
set_option linter.unusedVariables false
set_option linter.unusedSimpArgs false
namespace Go.Proofs.YtoapdhogghbojaaGreatDoor.C
open Go.Abs
theorem form_small (c t : Nat) : (shapeOf c t).kids ≤ 4 ∧ (shapeOf c t).least < 2 ^ 40 ∧ (shapeOf c t).most < 2 ^ 40 ∧ (shapeOf c t).unit < 2 ^ 40 ∧ (shapeHas c t = true → (shapeOf c t).cls = c ∧ 0 < (shapeOf c t).unit) ∧ (shapeHas c t = false → shapeOf c t = zeroForm) := by
  have key : ∀ l : List ShForm, (∀ f ∈ l, f.kids ≤ 4 ∧ f.least < 2 ^ 40 ∧ f.most < 2 ^ 40 ∧ f.unit < 2 ^ 40 ∧ 0 < f.unit) →
      let g := (((l.find? fun f => f.ty == t).map fun f => { f with cls := c }).getD zeroForm)
      g.kids ≤ 4 ∧ g.least < 2 ^ 40 ∧ g.most < 2 ^ 40 ∧ g.unit < 2 ^ 40 ∧ ((l.find? fun f => f.ty == t).isSome = true → g.cls = c ∧ 0 < g.unit) ∧ ((l.find? fun f => f.ty == t).isSome = false → g = zeroForm) := by
    intro l hl
    cases hf : l.find? (fun f => f.ty == t) with
    | none => simp [zeroForm]
    | some f =>
      have := hl f (List.mem_of_find?_eq_some hf)
      simp
      omega
  refine key (formsN c) ?_
  match c with
  | 0 => intro f hf; simp [formsN] at hf
  | 1 => decide
  | 2 => decide
  | _ + 3 => intro f hf; simp [formsN] at hf
theorem counted_eq (c t : Nat) (d : List UInt8) (k : List GNode) (h : badN c t d.length k = false) (hc : c = 2) (ht : t = 2) : (!countedR d) = countedN c t d := by
  subst hc; subst ht
  have hf : fitsN (shapeOf 2 2) d.length = true := by
    unfold badN at h
    have : shapeHas 2 2 = true := rfl
    rw [this] at h
    cases hq : fitsN (shapeOf 2 2) d.length with
    | true => rfl
    | false => rw [hq] at h; simp at h
  have hl : 6 ≤ d.length ∧ (d.length - 6) % 2 = 0 := by
    have e : shapeOf 2 2 = ⟨2, 2, ⟨#[109, 105, 115, 115, 105, 110, 103, 45, 112, 97, 114, 97, 109, 101, 116, 101, 114]⟩, 6, 65531, 2, 0⟩ := rfl
    rw [e] at hf
    unfold fitsN at hf
    simp only [Bool.and_eq_true, decide_eq_true_eq, beq_iff_eq] at hf
    exact ⟨hf.1.1, hf.2⟩
  unfold countedR countedN
  rw [Bool.eq_iff_iff]
  simp
  omega
theorem check08_step (c dp : Nat) (n : GNode) (hc : c = 1 ∨ c = 2) (hdp : dp < 2 ^ 60) (hs : nSize [n] ≤ 2 ^ 30)
    (ih : ∀ (c dp : Nat) (a : GNode), a ∈ n.kids → (c = 1 ∨ c = 2) → dp < 2 ^ 60 → nSize [a] ≤ 2 ^ 30 → PC Tryz.prog 102 [nat c, nodeA false a, nat dp] (nat (checkN c dp a))) :
    PC Tryz.prog 102 [nat c, nodeA false n, nat dp] (nat (checkN c dp n)) := by
  have hkl := nSize_len n.kids
  have hk1 := nSize_kids1 n
  have hdl := nSize_data n
  obtain ⟨f1, f2, f3, f4, f5, f6⟩ := form_small c n.ty
  have hcl : (shapeOf c n.ty).cls = if shapeHas c n.ty = true then c else 0 := by
    cases h : shapeHas c n.ty with
    | true => exact (f5 h).1
    | false => rw [f6 h]; rfl
  have hc0 : ((shapeOf c n.ty).cls == 0) = !shapeHas c n.ty := by
    rw [hcl]; cases shapeHas c n.ty <;> simp; omega
  have hc1 : decide (0 < (shapeOf c n.ty).cls) = shapeHas c n.ty := by
    rw [hcl]; cases shapeHas c n.ty <;> simp; omega
  refine PC.of_bodyW (by simp only [push_cast]) Tryz.func102 rfl (by rw [Tryz.ntmps102]; simp) ?_
  refine AWp.regionW ?_
  refine AWp.seqK fun K1 hK1 => ?_
  refine AWp.regionW ?_
  refine AWp.condLM (fun c0 => ?_) (fun c0 => ?_)
  · skip
    have h0 : 4 < dp := by simpa using c0
    refine AWp.regionW ?_
    refine AWp.ret ?_
    try simp only [thenQ, blockQ, noGo]
    refine bodyQ.m ?_
    clear hK1 K1
    rw [checkN_eq, if_pos h0]
    first | done | exact Hand.go
  · skip
    have h0 : ¬ 4 < dp := by simpa using c0
    refine AWp.skip ?_
    refine hK1 _ ?_
    refine AWp.regionM fun K2 hK2 => ?_
    refine ARun2.callM (of07_c c n.ty hc) ?_
    refine ARun2.endm (hK2 _ ?_)
    refine AWp.seqK fun K3 hK3 => ?_
    refine AWp.regionA fun K4 hK4 => ?_
    refine ARun.segm 4 fun KS hKS => ?_
    refine ARun2.endm (hKS _ ?_); clear hKS KS
    apply ARun.grpM 4 3 true 23 [0, 2, 4, 7, 19]
    · intro g3 KG hKG
      refine ARun2.gom ?_
      exact ARun2.endm (hKG _ Le.grpM)
    refine ARun2.gom ?_
    refine ARun2.endm (hK4 _ ?_)
    refine AWp.condLM (fun c1 => ?_) (fun c1 => ?_)
    · skip
      rw [hc0] at c1
      have hb : badN c n.ty n.data.length n.kids = true := by unfold badN; rw [c1]; rfl
      refine AWp.regionW ?_
      refine AWp.ret ?_
      try simp only [thenQ, blockQ, noGo]
      refine bodyQ.m ?_
      clear hK4 K4 hK3 K3 hK2 K2 hK1 K1
      rw [checkN_eq, if_neg h0, if_pos hb]
      first | done | exact Hand.go
    · skip
      rw [hc0] at c1
      refine AWp.skip ?_
      refine hK3 _ ?_
      refine AWp.seqK fun K5 hK5 => ?_
      refine AWp.regionA fun K6 hK6 => ?_
      refine ARun.segm 4 fun KS hKS => ?_
      refine ARun2.endm (hKS _ ?_); clear hKS KS
      apply ARun.grpM 13 3 true 41 [0, 2, 4, 7, 28]
      · intro g3 KG hKG
        rw [hc1] at g3
        refine ARun.segm 7 fun KS hKS => ?_
        refine ARun2.callM (fits07_c (shapeOf c n.ty) n.data.length (by omega) f2 f3 (f5 g3).2 f4) ?_
        refine ARun2.endm (hKS _ ?_); clear hKS KS
        apply ARun.grpM 5 10 false 40 [0, 2, 4, 7, 28, 35]
        · intro g10 KG hKG
          refine ARun2.gom ?_
          refine ARun2.callM (wanted_c (shapeOf c n.ty) n.kids (by omega) f1) ?_
          exact ARun2.endm (hKG _ Le.grpM)
        refine ARun2.gom ?_
        exact ARun2.endm (hKG _ Le.grpM)
      refine ARun2.gom ?_
      refine ARun2.endm (hK6 _ ?_)
      refine AWp.condLM (fun c2 => ?_) (fun c2 => ?_)
      · skip
        rw [hc1] at c2
        have hb : badN c n.ty n.data.length n.kids = true := by
          unfold badN; revert c1 c2
          cases shapeHas c n.ty <;> cases fitsN (shapeOf c n.ty) n.data.length <;> cases kidsOk (shapeOf c n.ty) n.kids <;> simp
        refine AWp.regionW ?_
        refine AWp.ret ?_
        try simp only [thenQ, blockQ, noGo]
        refine bodyQ.m ?_
        clear hK6 K6 hK5 K5 hK4 K4 hK3 K3 hK2 K2 hK1 K1
        rw [checkN_eq, if_neg h0, if_pos hb]
        first | done | exact Hand.go
      · skip
        rw [hc1] at c2
        have hb : badN c n.ty n.data.length n.kids = false := by
          unfold badN; revert c1 c2
          cases shapeHas c n.ty <;> cases fitsN (shapeOf c n.ty) n.data.length <;> cases kidsOk (shapeOf c n.ty) n.kids <;> simp
        have hb' : ¬ badN c n.ty n.data.length n.kids = true := by rw [hb]; simp
        refine AWp.skip ?_
        refine hK5 _ ?_
        refine AWp.seqK fun K7 hK7 => ?_
        refine AWp.regionA fun K8 hK8 => ?_
        refine ARun.segm 3 fun KS hKS => ?_
        refine ARun2.endm (hKS _ ?_); clear hKS KS
        apply ARun.grpM 3 2 true 48 [2, 4, 7, 45]
        · intro g2 KG hKG
          refine ARun2.gom ?_
          exact ARun2.endm (hKG _ Le.grpM)
        refine ARun.segm 2 fun KS hKS => ?_
        refine ARun2.endm (hKS _ ?_); clear hKS KS
        apply ARun.grpM 4 7 true 54 [2, 4, 7, 50]
        · intro g7 KG hKG
          refine ARun2.gom ?_
          refine ARun2.callM (counted08_c n.data (by omega)) ?_
          exact ARun2.endm (hKG _ Le.grpM)
        refine ARun2.gom ?_
        refine ARun2.endm (hK8 _ ?_)
        refine AWp.condLM (fun c3 => ?_) (fun c3 => ?_)
        · skip
          have h3 : countedN c n.ty n.data = true := by
            simp only [Bool.and_eq_true, beq_iff_eq] at c3
            rw [← counted_eq c n.ty n.data n.kids hb c3.1.1 c3.1.2]; exact c3.2
          refine AWp.regionW ?_
          refine AWp.ret ?_
          try simp only [thenQ, blockQ, noGo]
          refine bodyQ.m ?_
          clear hK8 K8 hK7 K7 hK6 K6 hK5 K5 hK4 K4 hK3 K3 hK2 K2 hK1 K1
          rw [checkN_eq, if_neg h0, if_neg hb', if_pos h3]
          first | done | exact Hand.go
        · skip
          have h3 : ¬ countedN c n.ty n.data = true := by
            intro h3
            have e : c = 2 ∧ n.ty = 2 := by unfold countedN at h3; simp only [Bool.and_eq_true, beq_iff_eq] at h3; exact ⟨h3.1, h3.2.1⟩
            rw [← counted_eq c n.ty n.data n.kids hb e.1 e.2] at h3
            rw [e.1, e.2, h3] at c3
            simp at c3
          refine AWp.skip ?_
          refine hK7 _ ?_
          refine AWp.seqK fun K9 hK9 => ?_
          refine AWp.regionW ?_
          refine AWp.block ?_
          refine AWp.loopK0 [2, 4, 7] (fun (i : Nat) => [(8, nat i)]) (fun i => i ≤ n.kids.length ∧ checkL (insideN (shapeOf c n.ty).kids).1 (dp + 1) (n.kids.take i) = 0) (fun i => n.kids.length - i) (0) ?_ ⟨Nat.zero_le _, rfl⟩ ?_
          · skip
            refine Le.m 2 ?_ ?_
            · exact Go.Abs.evM
            · exact Go.Abs.evN
          · intro i hi K10 hK10
            refine AWp.seqK fun K11 hK11 => ?_
            refine AWp.regionW ?_
            refine AWp.condLM (fun c4 => ?_) (fun c4 => ?_)
            · skip
              have hil : i < n.kids.length := by simpa using c4
              have hm := List.getElem_mem hil
              have hci := inside_class c n.ty n.data.length n.kids hb (by omega)
              refine AWp.skip ?_
              refine hK11 _ ?_
              refine AWp.seqK fun K12 hK12 => ?_
              refine AWp.block ?_
              refine AWp.drS [[(7, none)], [(63, some 0)], [(64, some 1)], [(4, none)], [(66, some 3)], [(8, none)], [(67, some 4), (68, some 5)], [(69, some 6)], [(2, none)], [(71, some 8)], [(65, some 2), (70, some 7), (72, some 9)], [(73, some 10)]] fun G hG => ?_
              refine Dr.sim ?_
              try simp only [List.cons_append, List.nil_append]
              refine Dr.sim ?_
              try simp only [List.cons_append, List.nil_append]
              refine Dr.call (inside08_c (shapeOf c n.ty).kids f1) ?_
              try simp only [List.cons_append, List.nil_append]
              refine Dr.sim ?_
              try simp only [List.cons_append, List.nil_append]
              refine Dr.sim ?_
              try simp only [List.cons_append, List.nil_append]
              refine Dr.sim ?_
              try simp only [List.cons_append, List.nil_append]
              refine Dr.idx (i) (nodeA false n.kids[i]) ?_ ?_
              · exact nodesA_at _ _ _ hil
              try simp only [List.cons_append, List.nil_append]
              refine Dr.sim ?_
              try simp only [List.cons_append, List.nil_append]
              refine Dr.sim ?_
              try simp only [List.cons_append, List.nil_append]
              refine Dr.sim ?_
              try simp only [List.cons_append, List.nil_append]
              refine Dr.call (ih (insideN (shapeOf c n.ty).kids).1 (dp + 1) n.kids[i] hm hci (by omega) (by have := nSize_one hm; omega)) ?_
              try simp only [List.cons_append, List.nil_append]
              refine Dr.sim ?_
              try simp only [List.cons_append, List.nil_append]
              refine Dr.finM (n := 12) [(9, 11)] [2, 4, 7, 8] hG YtoapdhogghbojaaGreatDoor.Facts.mixed fun KD hKD => ?_
              refine ARun2.endm (hKD _ ?_); clear hKD KD hG G
              refine AWp.regionW ?_
              refine AWp.condLM (fun c5 => ?_) (fun c5 => ?_)
              · skip
                have h5 : checkN (insideN (shapeOf c n.ty).kids).1 (dp + 1) n.kids[i] ≠ 0 := by simpa using c5
                refine AWp.regionW ?_
                refine AWp.ret ?_
                try simp only [thenQ, blockQ, noGo]
                refine bodyQ.m ?_
                clear hK12 K12 hK11 K11 hK10 K10 hK9 K9 hK8 K8 hK7 K7 hK6 K6 hK5 K5 hK4 K4 hK3 K3 hK2 K2 hK1 K1
                have hL := checkL_at _ _ n.kids i hil hi.2 h5
                rw [checkN_eq c dp n, if_neg h0, if_neg hb', if_neg h3, if_pos (by rw [hL]; exact h5), hL]
                first | done | exact Hand.go
              · skip
                have h5 : checkN (insideN (shapeOf c n.ty).kids).1 (dp + 1) n.kids[i] = 0 := by simpa using c5
                refine AWp.skip ?_
                refine hK12 _ ?_
                refine AWp.regionV ?_
                refine hK10 _ (i + 1) (⟨by omega, by rw [List.take_succ_eq_append_getElem hil, checkL_snoc, hi.2]; simpa using h5⟩) (by omega) ?_
                refine Le.m 2 ?_ ?_
                · exact Go.Abs.evM
                · exact Go.Abs.evN
            · skip
              have hil : i = n.kids.length := by have := hi.1; simp at c4; omega
              have hL : checkL (insideN (shapeOf c n.ty).kids).1 (dp + 1) n.kids = 0 := by have := hi.2; rwa [hil, List.take_length] at this
              subst hil
              refine AWp.exit ?_
              try simp only [thenQ, blockQ, noGo, reduceIte, Nat.reduceEqDiff]
              refine hK9 _ ?_
              refine AWp.seqK fun K13 hK13 => ?_
              refine AWp.regionM fun K14 hK14 => ?_
              refine ARun2.callM (size08_c [n] hs) ?_
              refine ARun2.endm (hK14 _ ?_)
              refine AWp.condLM (fun c6 => ?_) (fun c6 => ?_)
              · skip
                have h6 : 65535 < nSize [n] := by simpa using c6
                refine AWp.regionW ?_
                refine AWp.ret ?_
                try simp only [thenQ, blockQ, noGo]
                refine bodyQ.m ?_
                clear hK14 K14 hK13 K13 hK11 K11 hK10 K10 hK9 K9 hK8 K8 hK7 K7 hK6 K6 hK5 K5 hK4 K4 hK3 K3 hK2 K2 hK1 K1
                rw [checkN_eq, if_neg h0, if_neg hb', if_neg h3, if_neg (by rw [hL]; simp), if_pos h6]
                first | done | exact Hand.go
              · skip
                have h6 : ¬ 65535 < nSize [n] := by simpa using c6
                refine AWp.skip ?_
                refine hK13 _ ?_
                refine AWp.regionW ?_
                refine AWp.ret ?_
                try simp only [thenQ, blockQ, noGo]
                refine bodyQ.m ?_
                clear hK14 K14 hK13 K13 hK11 K11 hK10 K10 hK9 K9 hK8 K8 hK7 K7 hK6 K6 hK5 K5 hK4 K4 hK3 K3 hK2 K2 hK1 K1
                rw [checkN_eq, if_neg h0, if_neg hb', if_neg h3, if_neg (by rw [hL]; simp), if_neg h6]
                first | done | exact Hand.go
theorem check08_w : ∀ (w c dp : Nat) (n : GNode), n.sz ≤ w → (c = 1 ∨ c = 2) → dp < 2 ^ 60 → nSize [n] ≤ 2 ^ 30 → PC Tryz.prog 102 [nat c, nodeA false n, nat dp] (nat (checkN c dp n)) := by
  intro w
  induction w with
  | zero => intro c dp n h; have := n.sz_eq; omega
  | succ w ih => exact fun c dp n hw hc hdp hs => check08_step c dp n hc hdp hs (fun c dp a ha hc hdp hs => ih c dp a (by have := szs_lt ha; omega) hc hdp hs)
theorem check08_c (c dp : Nat) (n : GNode) (hc : c = 1 ∨ c = 2) (hdp : dp < 2 ^ 60) (hs : nSize [n] ≤ 2 ^ 30) : PC Tryz.prog 102 [nat c, nodeA false n, nat dp] (nat (checkN c dp n)) := check08_w _ c dp n (Nat.le_refl _) hc hdp hs
end Go.Proofs.YtoapdhogghbojaaGreatDoor.C
/- The reference: Count, Few, Value, Types. -/
set_option linter.unusedVariables false
set_option linter.unusedSimpArgs false
namespace Go.Proofs.YtoapdhogghbojaaGreatDoor.C
open Go.Abs
/-- the loop of Count -/
def cntL (g : GNode → Nat) : List GNode → Nat → Nat
  | [], s => s
  | n :: l, s => if s < 1000 then cntL g l (s + 1 + n.data.length / 1000 + g n) else s
/-- how many nodes there are, up to a bound; f: how much deeper it may go -/
def countF : Nat → List GNode → Nat
  | 0, _ => 1000
  | f + 1, l => cntL (fun n => countF f n.kids) l 0
theorem cntL_le (g : GNode → Nat) (hg : ∀ n, g n ≤ 1000 + 2000 * szs n.kids) : ∀ (l : List GNode) (s : Nat), cntL g l s ≤ s + 2000 * szs l
  | [], s => by simp [cntL, szs]
  | n :: l, s => by
    have h1 := n.sz_eq
    have h2 := hg n
    have h3 := cntL_le g hg l (s + 1 + n.data.length / 1000 + g n)
    simp only [cntL, szs]
    split <;> omega
theorem countF_le : ∀ (f : Nat) (l : List GNode), countF f l ≤ 1000 + 2000 * szs l
  | 0, l => by simp [countF]
  | f + 1, l => by
    have := cntL_le (fun n => countF f n.kids) (fun n => countF_le f n.kids) l 0
    simp only [countF]; omega
theorem szs_take (l : List GNode) (i : Nat) (h : i < l.length) : szs (l.take (i + 1)) = szs (l.take i) + l[i].sz := by
  rw [List.take_succ_eq_append_getElem h]
  generalize l.take i = a
  induction a with
  | nil => simp [szs]
  | cons x a ih => simp only [List.cons_append, szs, ih]; omega
theorem count_step (f dp : Nat) (hf : f + dp = 21) (l : List GNode) (hs : szs l ≤ 2 ^ 30) (ih : ∀ a ∈ l, 0 < f → PC Tryz.prog 101 [.sl false 3 (nodesA false a.kids), nat (dp + 1)] (nat (countF (f - 1) a.kids))) :
    PC Tryz.prog 101 [.sl false 3 (nodesA false l), nat dp] (nat (countF f l)) := by
  have hlen := szs_len l
  refine PC.of_bodyW (by simp only [push_cast]) Tryz.func101 rfl (by rw [Tryz.ntmps101]; simp) ?_
  refine AWp.regionW ?_
  refine AWp.regionW ?_
  refine AWp.seqK fun K1 hK1 => ?_
  refine AWp.regionW ?_
  refine AWp.condLM (fun c0 => ?_) (fun c0 => ?_)
  · skip
    have h0 : f = 0 := by have := of_decide_eq_true c0; omega
    refine AWp.regionW ?_
    refine AWp.ret ?_
    try simp only [thenQ, blockQ, noGo]
    refine bodyQ.m ?_
    clear hK1 K1
    rw [h0, countF]
    first | done | exact Hand.go
  · skip
    obtain ⟨e, rfl⟩ : ∃ e, f = e + 1 := ⟨f - 1, by have : ¬ 20 < dp := of_decide_eq_false c0; omega⟩
    rw [Nat.add_sub_cancel] at ih
    have hq : countF (e + 1) l = cntL (fun n => countF e n.kids) l 0 := rfl
    refine AWp.skip ?_
    refine hK1 _ ?_
    refine AWp.seqK fun K2 hK2 => ?_
    refine AWp.regionW ?_
    refine AWp.block ?_
    refine AWp.loopK0 [0, 1] (fun (x : Nat × Nat) => [(6, nat x.1), (5, nat x.2)]) (fun x => x.1 ≤ l.length ∧ cntL (fun n => countF e n.kids) (l.drop x.1) x.2 = countF (e + 1) l ∧ x.2 ≤ 2000 * szs (l.take x.1)) (fun x => l.length - x.1) ((0, 0)) ?_ ⟨Nat.zero_le _, rfl, Nat.zero_le _⟩ ?_
    · skip
      refine Le.m 0 ?_ ?_
      · exact Go.Abs.evM
      · exact Go.Abs.evN
    · intro x hx K3 hK3
      obtain ⟨i, s⟩ := x
      obtain ⟨hi, hc, hb⟩ := hx
      simp only at hi hc hb
      refine AWp.seqK fun K4 hK4 => ?_
      refine AWp.regionA fun K5 hK5 => ?_
      refine ARun.segm 5 fun KS hKS => ?_
      refine ARun2.endm (hKS _ ?_); clear hKS KS
      apply ARun.grpM 2 4 true 15 [0, 1, 5, 6, 13]
      · intro g4 KG hKG
        refine ARun2.gom ?_
        exact ARun2.endm (hKG _ Le.grpM)
      refine ARun2.gom ?_
      refine ARun2.endm (hK5 _ ?_)
      refine AWp.condLM (fun c1 => ?_) (fun c1 => ?_)
      · skip
        have h1 : i < l.length ∧ s < 1000 := by simpa using c1
        have hil := h1.1
        have hm := List.getElem_mem hil
        have hsm := szs_mem hm
        have hse := GNode.sz_eq l[i]
        have hcl := countF_le e l[i].kids
        have hst := szs_take l i hil
        have hd : l.drop i = l[i] :: l.drop (i + 1) := List.drop_eq_getElem_cons hil
        refine AWp.skip ?_
        refine hK4 _ ?_
        refine AWp.seqK fun K6 hK6 => ?_
        refine AWp.block ?_
        refine AWp.drE [[(5, none)], [(19, some 0)], [(0, none)], [(6, none)], [(21, some 2), (22, some 3)], [(23, some 4)], [(24, some 5)], [(25, some 6)], [(26, some 7)], [(20, some 1), (27, some 8)], [(0, none)], [(6, none)], [(29, some 10), (30, some 11)], [(31, some 12)], [(32, some 13)], [(1, none)], [(34, some 15)], [(33, some 14), (35, some 16)], [(28, some 9), (36, some 17)], [(37, some 18)]] fun G hG => ?_
        refine Dr.sim ?_
        try simp only [List.cons_append, List.nil_append]
        refine Dr.sim ?_
        try simp only [List.cons_append, List.nil_append]
        refine Dr.sim ?_
        try simp only [List.cons_append, List.nil_append]
        refine Dr.sim ?_
        try simp only [List.cons_append, List.nil_append]
        refine Dr.idx (i) (nodeA false l[i]) ?_ ?_
        · exact nodesA_at _ _ _ hil
        try simp only [List.cons_append, List.nil_append]
        refine Dr.sim ?_
        try simp only [List.cons_append, List.nil_append]
        refine Dr.sim ?_
        try simp only [List.cons_append, List.nil_append]
        refine Dr.sim ?_
        try simp only [List.cons_append, List.nil_append]
        refine Dr.sim ?_
        try simp only [List.cons_append, List.nil_append]
        refine Dr.sim ?_
        try simp only [List.cons_append, List.nil_append]
        refine Dr.sim ?_
        try simp only [List.cons_append, List.nil_append]
        refine Dr.sim ?_
        try simp only [List.cons_append, List.nil_append]
        refine Dr.idx (i) (nodeA false l[i]) ?_ ?_
        · exact nodesA_at _ _ _ hil
        try simp only [List.cons_append, List.nil_append]
        refine Dr.sim ?_
        try simp only [List.cons_append, List.nil_append]
        refine Dr.sim ?_
        try simp only [List.cons_append, List.nil_append]
        refine Dr.sim ?_
        try simp only [List.cons_append, List.nil_append]
        refine Dr.sim ?_
        try simp only [List.cons_append, List.nil_append]
        refine Dr.call (ih l[i] hm (by omega)) ?_
        try simp only [List.cons_append, List.nil_append]
        refine Dr.sim ?_
        try simp only [List.cons_append, List.nil_append]
        refine Dr.sim ?_
        try simp only [List.cons_append, List.nil_append]
        refine Dr.finN (n := 20) [(5, 19)] [0, 1, 6] hG YtoapdhogghbojaaGreatDoor.Facts.mixed fun KD hKD => ?_
        refine ARun2.endm (hKD _ ?_); clear hKD KD hG G
        refine hK6 _ ?_
        refine AWp.regionV ?_
        refine hK3 _ ((i + 1, s + 1 + l[i].data.length / 1000 + countF e l[i].kids)) (⟨hil, by rw [← hc, hd, cntL, if_pos h1.2], by simp only; omega⟩) (by simp only; omega) ?_
        refine Le.m 0 ?_ ?_
        · exact Go.Abs.evM
        · exact Go.Abs.evN
      · skip
        have h1 : ¬ (i < l.length ∧ s < 1000) := by intro h; simp [h.1, h.2] at c1
        have hr : countF (e + 1) l = s := by
          rw [← hc]
          rcases Nat.lt_or_ge i l.length with h | h
          · rw [List.drop_eq_getElem_cons h, cntL, if_neg (fun h2 => h1 ⟨h, h2⟩)]
          · rw [List.drop_of_length_le h, cntL]
        refine AWp.exit ?_
        try simp only [thenQ, blockQ, noGo, reduceIte, Nat.reduceEqDiff]
        refine hK2 _ ?_
        refine AWp.regionW ?_
        refine AWp.ret ?_
        try simp only [thenQ, blockQ, noGo]
        refine bodyQ.m ?_
        clear hK5 K5 hK4 K4 hK3 K3 hK2 K2 hK1 K1
        rw [hr]
        first | done | exact Hand.go
theorem count_w : ∀ (f dp : Nat) (l : List GNode), f + dp = 21 → szs l ≤ 2 ^ 30 → PC Tryz.prog 101 [.sl false 3 (nodesA false l), nat dp] (nat (countF f l)) := by
  intro f
  induction f with
  | zero => exact fun dp l h hs => count_step 0 dp h l hs (fun a _ h => by omega)
  | succ f ih => exact fun dp l h hs => count_step (f + 1) dp h l hs (fun a ha _ => ih (dp + 1) a.kids (by omega) (by have := szs_mem ha; rw [GNode.sz_eq] at this; omega))
/-- are there few nodes? -/
def fewN (l : List GNode) : Bool := decide (countF 21 l ≤ 200)
theorem few_c (l : List GNode) (hs : szs l ≤ 2 ^ 30) : PC Tryz.prog 63 [.sl false 3 (nodesA false l)] (bool (fewN l)) := by
  refine PC.of_bodyW (by simp only [push_cast]) Tryz.func63 rfl (by rw [Tryz.ntmps63]; simp) ?_
  refine AWp.regionW ?_
  refine AWp.regionM fun K1 hK1 => ?_
  refine ARun2.callM (count_w 21 0 l rfl hs) ?_
  refine ARun2.endm (hK1 _ ?_)
  refine AWp.ret ?_
  try simp only [thenQ, blockQ, noGo]
  refine bodyQ.m ?_
  clear hK1 K1
  rw [fewN]
  first | done | exact Hand.go
end Go.Proofs.YtoapdhogghbojaaGreatDoor.C
/- The reference: Types; plain laws on values. -/
set_option linter.unusedVariables false
set_option linter.unusedSimpArgs false
namespace Go.Proofs.YtoapdhogghbojaaGreatDoor.C
open Go.Abs
theorem putB2_be (a b : UInt8) : putB 2 (beN [a, b]) = [a, b] := by
  have ha := a.toNat_lt
  have hb := b.toNat_lt
  rw [putB2, twoB]
  have e : beN [a, b] = a.toNat * 256 + b.toNat := by simp [beN]
  rw [e]
  congr 1
  · apply UInt8.toNat_inj.1; rw [UInt8.toNat_ofNat']; omega
  · congr 1; apply UInt8.toNat_inj.1; rw [UInt8.toNat_ofNat']; omega
theorem putB4_eq (x : Nat) : putB 4 x = [UInt8.ofNat (x / 256 ^ 3), UInt8.ofNat (x / 256 ^ 2), UInt8.ofNat (x / 256), UInt8.ofNat x] := by
  simp [putB, List.range_succ]
theorem putB4_be (a b c e : UInt8) : putB 4 (beN [a, b, c, e]) = [a, b, c, e] := by
  have ha := a.toNat_lt
  have hb := b.toNat_lt
  have hc := c.toNat_lt
  have hd := e.toNat_lt
  have h : beN [a, b, c, e] = ((a.toNat * 256 + b.toNat) * 256 + c.toNat) * 256 + e.toNat := by simp [beN]
  rw [putB4_eq, h]
  congr 1
  · apply UInt8.toNat_inj.1; rw [UInt8.toNat_ofNat']; omega
  · congr 1
    · apply UInt8.toNat_inj.1; rw [UInt8.toNat_ofNat']; omega
    · congr 1
      · apply UInt8.toNat_inj.1; rw [UInt8.toNat_ofNat']; omega
      · congr 1; apply UInt8.toNat_inj.1; rw [UInt8.toNat_ofNat']; omega
end Go.Proofs.YtoapdhogghbojaaGreatDoor.C
/- What is made anew: Clone, right, Chunk, Message. -/
set_option linter.unusedVariables false
set_option linter.unusedSimpArgs false
namespace Go.Abs
@[push_cast] theorem bys_fresh (l : List UInt8) : AV.freshL (bys l) = true := by
  unfold bys
  induction l with
  | nil => rfl
  | cons x l ih => simp only [List.map_cons, AV.freshL, AV.fresh, ih]; rfl
@[push_cast] theorem bys_ones (l : List UInt8) : (bys l).all AV.one = true := by
  unfold bys
  rw [List.all_eq_true]; intro x hx; simp only [List.mem_map] at hx; obtain ⟨b, _, rfl⟩ := hx; rfl
mutual
theorem nodeA_fresh : ∀ n : GNode, (nodeA true n).fresh = true
  | .mk t d k => by simp only [nodeA, AV.fresh, AV.freshL, bys_fresh, nodesA_fresh k, Bool.and_true]
theorem nodesA_fresh : ∀ l : List GNode, AV.freshL (nodesA true l) = true
  | [] => by simp [nodesA, AV.freshL]
  | n :: l => by simp only [nodesA, AV.freshL, nodeA_fresh n, nodesA_fresh l, Bool.and_true]
end
attribute [push_cast] nodesA_fresh
end Go.Abs
namespace Go.Proofs.YtoapdhogghbojaaGreatDoor.C
open Go.Abs
end Go.Proofs.YtoapdhogghbojaaGreatDoor.C
/- chunk: Check, Clone, Params. -/
set_option linter.unusedVariables false
set_option linter.unusedSimpArgs false
namespace Go.Proofs.YtoapdhogghbojaaGreatDoor.C
open Go.Abs
/-- the class of the nodes inside -/
def classOf (t : Nat) : Nat := (kinsideN (kindOf t).kids).1
/-- the first error of the chunk itself -/
def preE (c : GChunk) : Er := firstE [flagsE c (kindOf c.ty), dataE c (kindOf c.ty), kidsE c (kindOf c.ty), countE c, valueE c]
def startC (c : GChunk) : Nat := if kindHas c.ty = true then (preE c).codeOf.1 else if 0 < c.kids.length then 7 else 0
/-- the code of a chunk's error; 0: none -/
def checkC (c : GChunk) : Nat :=
  if startC c ≠ 0 then startC c else if checkL (classOf c.ty) 1 c.kids ≠ 0 then checkL (classOf c.ty) 1 c.kids
  else if 65535 < 4 + c.data.length + nSize c.kids then 4 else 0
/-- an error with a number -/
def Er.isN : Er → Bool
  | .ok => true
  | .code c => c != 0
  | .flt c _ => c != 0
theorem firstE_isN : ∀ l : List Er, (∀ e ∈ l, e.isN = true) → (firstE l).isN = true
  | [], _ => rfl
  | e :: l, h => by
    rw [firstE]
    split
    · exact firstE_isN l fun x hx => h x (by simp [hx])
    · exact h e (by simp)
theorem preE_isN (c : GChunk) : (preE c).isN = true := by
  refine firstE_isN _ fun e he => ?_
  simp only [List.mem_cons, List.not_mem_nil, or_false] at he
  rcases he with rfl | rfl | rfl | rfl | rfl
  · unfold flagsE; split <;> rfl
  · unfold dataE; split <;> rfl
  · unfold kidsE; split <;> rfl
  · unfold countE; split <;> rfl
  · unfold valueE; split <;> rfl
theorem isN_code {e : Er} (h : e.isN = true) : e.codeOf.2 = true ↔ e.codeOf.1 ≠ 0 := by
  cases e <;> simp [Er.codeOf, Er.isN] at * <;> exact h
theorem isN_ok {e : Er} (h : e.isN = true) : e.codeOf.1 = 0 ↔ e = .ok := by
  cases e <;> simp [Er.codeOf, Er.isN] at * <;> exact h
theorem errA_code {e : Nat} (h : e ≠ 0) : errA e = .ifc 96 (nat e) := by
  unfold errA; rw [show (e == 0) = false by simpa using h]; rfl
theorem data_ok {c : GChunk} (h : dataE c (kindOf c.ty) = .ok) : (c.ty = 3 → 12 ≤ c.data.length) ∧ (c.ty = 64 → 17 ≤ c.data.length) ∧ (c.ty = 194 → 4 ≤ c.data.length ∧ (c.data.length - 4) % 8 = 0) := by
  have hf : kfitsN (kindOf c.ty) c.data.length = true := by
    unfold dataE at h
    cases hk : kfitsN (kindOf c.ty) c.data.length with
    | true => rfl
    | false => rw [hk] at h; cases h
  unfold kfitsN at hf
  simp only [Bool.and_eq_true, decide_eq_true_eq, beq_iff_eq] at hf
  obtain ⟨⟨h1, h2⟩, h3⟩ := hf
  refine ⟨fun e => ?_, fun e => ?_, fun e => ?_⟩
  · rw [e] at h1; exact h1
  · rw [e] at h1; exact h1
  · rw [e] at h1 h3; exact ⟨h1, h3⟩
theorem firstE_pre {l : List Er} (h : firstE l = .ok) : ∀ e ∈ l, e = .ok := by
  induction l with
  | nil => simp
  | cons e l ih =>
    rw [firstE] at h
    split at h
    · rename_i he
      intro x hx
      rcases List.mem_cons.1 hx with rfl | hx
      · exact he
      · exact ih h x hx
    · rename_i he; exact absurd h he
theorem kclass (k : KForm) (l : List GNode) (h : kkidsOk k l = true) (hk : k.kids ≤ 6) (hl : 0 < l.length) : (kinsideN k.kids).1 = 1 ∨ (kinsideN k.kids).1 = 2 := by
  have hh : k.kids = 0 ∨ k.kids = 1 ∨ k.kids = 2 ∨ k.kids = 3 ∨ k.kids = 4 ∨ k.kids = 5 ∨ k.kids = 6 := by omega
  unfold kkidsOk at h
  rcases hh with e | e | e | e | e | e | e <;> rw [e] at h ⊢ <;> first | exact .inl rfl | exact .inr rfl | skip
  simp [kinsideN] at h
  rw [h] at hl; simp at hl
theorem pre_kids {c : GChunk} (h : preE c = .ok) : kkidsOk (kindOf c.ty) c.kids = true := by
  have := firstE_pre h (kidsE c (kindOf c.ty)) (by simp)
  unfold kidsE at this
  cases hk : kkidsOk (kindOf c.ty) c.kids with
  | true => rfl
  | false => rw [hk] at this; cases this
set_option maxRecDepth 100000 in
theorem firsts_c (c : GChunk) (hd : c.data.length ≤ 2 ^ 40) (hk : c.kids.length ≤ 2 ^ 40) (hh : kindHas c.ty = true) :
    PC Tryz.prog 55 [chunkA false c, kformA (kindOf c.ty), .sl false 1 [.fn (.func 56) [] [], .fn (.func 57) [] [], .fn (.func 58) [] [], .fn (.func 59) [] [], .fn (.func 60) [] []]] (erA (preE c)) := by
  have hb := kind_bd c.ty
  have hu := (hb.2.2.2.2.2.2.1 hh).1
  refine cfirst_c c (kindOf c.ty) [56, 57, 58, 59, 60] [flagsE c (kindOf c.ty), dataE c (kindOf c.ty), kidsE c (kindOf c.ty), countE c, valueE c] rfl (by decide) ?_ ?_
  · intro i hi
    match i, hi with
    | 0, _ => rfl
    | 1, _ => rfl
    | 2, _ => rfl
    | 3, _ => rfl
    | 4, _ => rfl
    | i + 5, h => simp at h; omega
  · intro i hi hok
    match i, hi with
    | 0, _ => exact cflags_c c _
    | 1, _ => exact cdata_c c _ hd (by omega) hu (by omega)
    | 2, _ => exact ckids_c c _ (by omega) hk
    | 3, _ => exact ccount_c c _ hd (data_ok (hok 1 (by omega))).1
    | 4, _ => exact cvalue_c c _ hd (data_ok (hok 1 (by omega))).2.1 (data_ok (hok 1 (by omega))).2.2
    | i + 5, h => simp at h; omega
theorem ccheck_c (c : GChunk) (ht : c.ty < 256) (hd : c.data.length ≤ 2 ^ 40) (hs : nSize c.kids ≤ 2 ^ 30) : PC Tryz.prog 18 [chunkA false c] (errA (checkC c)) := by
  have hkl := nSize_len c.kids
  have hb := kind_bd c.ty
  have hC : checkC c = checkC c := rfl
  conv at hC => rhs; unfold checkC
  generalize checkC c = C at hC
  have hst : startC c = startC c := rfl
  conv at hst => rhs; unfold startC
  have hki := kinside_c (kindOf c.ty).kids (by omega)
  have hcc : classOf c.ty = (kinsideN (kindOf c.ty).kids).1 := rfl
  generalize (kinsideN (kindOf c.ty).kids).2.1 = u1 at hki
  generalize (kinsideN (kindOf c.ty).kids).2.2 = u2 at hki
  rw [← hcc] at hki
  generalize hcl : classOf c.ty = cl at hki hC
  refine PC.of_bodyW (by simp only [push_cast]) Tryz.func18 rfl (by rw [Tryz.ntmps18]; simp) ?_
  refine AWp.regionW ?_
  refine AWp.regionM fun K1 hK1 => ?_
  refine ARun2.callM (kof_c c.ty ht) ?_
  refine ARun2.endm (hK1 _ ?_)
  refine AWp.regionM fun K2 hK2 => ?_
  refine ARun2.callM (hki) ?_
  refine ARun2.endm (hK2 _ ?_)
  refine AWp.regionW ?_
  refine AWp.seqK fun K3 hK3 => ?_
  refine AWp.block ?_
  refine AWp.regionW ?_
  refine AWp.condLM (fun c0 => ?_) (fun c0 => ?_)
  · skip
    have hh : kindHas c.ty = true := c0
    have hfs := firsts_c c hd (by omega) hh
    rw [if_pos hh] at hst
    have hN := preE_isN c
    refine AWp.regionN fun K4 hK4 => ?_
    refine ARun2.callM (hfs) ?_
    refine ARun2.endm (hK4 _ ?_)
    refine hK3 _ ?_
    refine AWp.seqK fun K5 hK5 => ?_
    refine AWp.regionM fun K6 hK6 => ?_
    refine ARun2.callM (code_c (preE c)) ?_
    refine ARun2.endm (hK6 _ ?_)
    refine AWp.regionW ?_
    refine AWp.condLM (fun c2 => ?_) (fun c2 => ?_)
    · skip
      have hne := (isN_code hN).1 c2
      rw [hst, if_pos hne] at hC
      refine AWp.regionW ?_
      refine AWp.ret ?_
      try simp only [thenQ, blockQ, noGo]
      refine bodyQ.m ?_
      clear hK6 K6 hK5 K5 hK4 K4 hK3 K3 hK2 K2 hK1 K1
      rw [hC, errA_code hne]
      first | done | exact Hand.go
    · skip
      have h0 : (preE c).codeOf.1 = 0 := by
        cases h : (preE c).codeOf.1 with
        | zero => rfl
        | succ n => have := (isN_code hN).2 (by rw [h]; simp); rw [c2] at this; cases this
      have hcls : 0 < c.kids.length → cl = 1 ∨ cl = 2 := fun h => hcl ▸ kclass _ _ (pre_kids ((isN_ok hN).1 h0)) (by omega) h
      rw [hst, h0, if_neg (by simp)] at hC
      refine AWp.skip ?_
      refine hK5 _ ?_
      refine AWp.seqK fun K7 hK7 => ?_
      refine AWp.regionW ?_
      refine AWp.block ?_
      refine AWp.loopK0 [1, 5, 48, 49] (fun (i : Nat) => [(50, nat i)]) (fun i => i ≤ c.kids.length ∧ checkL cl 1 (c.kids.take i) = 0) (fun i => c.kids.length - i) (0) ?_ ⟨Nat.zero_le _, rfl⟩ ?_
      · skip
        refine Le.m 2 ?_ ?_
        · exact Go.Abs.evM
        · exact Go.Abs.evN
      · intro i hi K8 hK8
        refine AWp.regionW ?_
        refine AWp.seqK fun K9 hK9 => ?_
        refine AWp.condLM (fun c3 => ?_) (fun c3 => ?_)
        · skip
          have hil : i < c.kids.length := by simpa using c3
          have hm := List.getElem_mem hil
          have hcl2 := hcls (by omega)
          refine AWp.skip ?_
          refine hK9 _ ?_
          refine AWp.seqK fun K10 hK10 => ?_
          refine AWp.block ?_
          refine AWp.regionM fun K11 hK11 => ?_
          refine ARun2.indexM (i) (nodeA false c.kids[i]) ?_ ?_
          · exact nodesA_at _ _ _ hil
          refine ARun2.endm (hK11 _ ?_)
          refine AWp.regionM fun K12 hK12 => ?_
          refine ARun2.callM (check_c cl c.kids[i] hcl2 (by have := nSize_one hm; omega)) ?_
          refine ARun2.endm (hK12 _ ?_)
          refine AWp.regionW ?_
          refine AWp.condLM (fun c4 => ?_) (fun c4 => ?_)
          · skip
            have h5 : checkN cl 1 c.kids[i] ≠ 0 := by simpa using c4
            have hL := checkL_at _ _ c.kids i hil hi.2 h5
            rw [hL, if_pos h5] at hC
            refine AWp.regionW ?_
            refine AWp.ret ?_
            try simp only [thenQ, blockQ, noGo]
            refine bodyQ.m ?_
            clear hK12 K12 hK11 K11 hK10 K10 hK9 K9 hK8 K8 hK7 K7 hK6 K6 hK5 K5 hK4 K4 hK3 K3 hK2 K2 hK1 K1
            rw [hC]
            first | done | exact Hand.go
          · skip
            have h5 : checkN cl 1 c.kids[i] = 0 := by simpa using c4
            refine AWp.skip ?_
            refine hK10 _ ?_
            refine AWp.regionV ?_
            refine hK8 _ (i + 1) (⟨by omega, by rw [List.take_succ_eq_append_getElem hil, checkL_snoc, hi.2]; simpa using h5⟩) (by omega) ?_
            refine Le.m 2 ?_ ?_
            · exact Go.Abs.evM
            · exact Go.Abs.evN
        · skip
          have hil : i = c.kids.length := by have := hi.1; simp at c3; omega
          have hL : checkL cl 1 c.kids = 0 := by have := hi.2; rwa [hil, List.take_length] at this
          subst hil
          rw [hL, if_neg (by simp)] at hC
          refine AWp.exit ?_
          try simp only [thenQ, blockQ, noGo, reduceIte, Nat.reduceEqDiff]
          refine hK7 _ ?_
          refine AWp.seqK fun K13 hK13 => ?_
          refine AWp.regionM fun K14 hK14 => ?_
          refine ARun2.callM (csize_c c hd hs) ?_
          refine ARun2.endm (hK14 _ ?_)
          refine AWp.condLM (fun c5 => ?_) (fun c5 => ?_)
          · skip
            rw [if_pos (by simpa using c5)] at hC
            refine AWp.regionW ?_
            refine AWp.ret ?_
            try simp only [thenQ, blockQ, noGo]
            refine bodyQ.m ?_
            clear hK14 K14 hK13 K13 hK9 K9 hK8 K8 hK7 K7 hK6 K6 hK5 K5 hK4 K4 hK3 K3 hK2 K2 hK1 K1
            rw [hC]
            first | done | exact Hand.go
          · skip
            rw [if_neg (by simpa using c5)] at hC
            refine AWp.skip ?_
            refine hK13 _ ?_
            refine AWp.regionW ?_
            refine AWp.ret ?_
            try simp only [thenQ, blockQ, noGo]
            refine bodyQ.m ?_
            clear hK14 K14 hK13 K13 hK9 K9 hK8 K8 hK7 K7 hK6 K6 hK5 K5 hK4 K4 hK3 K3 hK2 K2 hK1 K1
            rw [hC]
            first | done | exact Hand.go
  · skip
    have hh : ¬ kindHas c.ty = true := by rw [c0]; simp
    rw [if_neg hh] at hst
    refine AWp.regionW ?_
    refine AWp.condLM (fun c1 => ?_) (fun c1 => ?_)
    · skip
      have hp : 0 < c.kids.length := by simpa using c1
      rw [if_pos hp] at hst
      refine AWp.regionV ?_
      refine hK3 _ ?_
      refine AWp.seqK fun K15 hK15 => ?_
      refine AWp.regionM fun K16 hK16 => ?_
      refine ARun2.callM (code_c (.code 7)) ?_
      refine ARun2.endm (hK16 _ ?_)
      refine AWp.regionW ?_
      refine AWp.condT ?_ (by first | (simp only [push_cast, ↓reduceIte, Nat.reduceEqDiff, Nat.reduceLT, Nat.reduceAdd, Nat.reduceSub, Nat.reduceMul, Nat.reduceLeDiff, Nat.reducePow, Int.reduceLT, Int.reduceToNat, reduceCtorEq, Int.reduceNeg, Int.reduceEq, Nat.reduceBEq, Nat.reduceBNe, Int.reduceBEq, Int.reduceBNe, String.reduceEq]; done) | (simp only [push_cast, ↓reduceIte, Nat.reduceEqDiff, Nat.reduceLT, Nat.reduceAdd, Nat.reduceSub, Nat.reduceMul, Nat.reduceLeDiff, Nat.reducePow, Int.reduceLT, Int.reduceToNat, reduceCtorEq, Int.reduceNeg, Int.reduceEq, Nat.reduceBEq, Nat.reduceBNe, Int.reduceBEq, Int.reduceBNe, String.reduceEq]; rfl))
      refine AWp.regionW ?_
      refine AWp.ret ?_
      try simp only [thenQ, blockQ, noGo]
      refine bodyQ.m ?_
      clear hK16 K16 hK15 K15 hK3 K3 hK2 K2 hK1 K1
      rw [hC, hst, if_pos (by simp), errA_code (by simp)]; simp only [Er.codeOf]
      first | done | exact Hand.go
    · skip
      have hp : ¬ 0 < c.kids.length := by simpa using c1
      rw [if_neg hp] at hst
      refine AWp.skip ?_
      refine hK3 _ ?_
      refine AWp.seqK fun K17 hK17 => ?_
      refine AWp.regionM fun K18 hK18 => ?_
      refine ARun2.callM (code_c .ok) ?_
      refine ARun2.endm (hK18 _ ?_)
      refine AWp.regionW ?_
      refine AWp.condF ?_ (by first | (simp only [push_cast, ↓reduceIte, Nat.reduceEqDiff, Nat.reduceLT, Nat.reduceAdd, Nat.reduceSub, Nat.reduceMul, Nat.reduceLeDiff, Nat.reducePow, Int.reduceLT, Int.reduceToNat, reduceCtorEq, Int.reduceNeg, Int.reduceEq, Nat.reduceBEq, Nat.reduceBNe, Int.reduceBEq, Int.reduceBNe, String.reduceEq]; done) | (simp only [push_cast, ↓reduceIte, Nat.reduceEqDiff, Nat.reduceLT, Nat.reduceAdd, Nat.reduceSub, Nat.reduceMul, Nat.reduceLeDiff, Nat.reducePow, Int.reduceLT, Int.reduceToNat, reduceCtorEq, Int.reduceNeg, Int.reduceEq, Nat.reduceBEq, Nat.reduceBNe, Int.reduceBEq, Int.reduceBNe, String.reduceEq]; rfl))
      refine AWp.skip ?_
      refine hK17 _ ?_
      refine AWp.seqK fun K19 hK19 => ?_
      refine AWp.regionW ?_
      refine AWp.block ?_
      have hcls : 0 < c.kids.length → cl = 1 ∨ cl = 2 := fun h => absurd h hp
      rw [hst, if_neg (by simp)] at hC
      refine AWp.loopK0 [1, 5, 48, 49] (fun (i : Nat) => [(50, nat i)]) (fun i => i ≤ c.kids.length ∧ checkL cl 1 (c.kids.take i) = 0) (fun i => c.kids.length - i) (0) ?_ ⟨Nat.zero_le _, rfl⟩ ?_
      · skip
        refine Le.m 2 ?_ ?_
        · exact Go.Abs.evM
        · exact Go.Abs.evN
      · intro i hi K20 hK20
        refine AWp.regionW ?_
        refine AWp.seqK fun K21 hK21 => ?_
        refine AWp.condLM (fun c3 => ?_) (fun c3 => ?_)
        · skip
          have hil : i < c.kids.length := by simpa using c3
          have hm := List.getElem_mem hil
          have hcl2 := hcls (by omega)
          exfalso; omega
        · skip
          have hil : i = c.kids.length := by have := hi.1; simp at c3; omega
          have hL : checkL cl 1 c.kids = 0 := by have := hi.2; rwa [hil, List.take_length] at this
          subst hil
          rw [hL, if_neg (by simp)] at hC
          refine AWp.exit ?_
          try simp only [thenQ, blockQ, noGo, reduceIte, Nat.reduceEqDiff]
          refine hK19 _ ?_
          refine AWp.seqK fun K22 hK22 => ?_
          refine AWp.regionM fun K23 hK23 => ?_
          refine ARun2.callM (csize_c c hd hs) ?_
          refine ARun2.endm (hK23 _ ?_)
          refine AWp.condLM (fun c5 => ?_) (fun c5 => ?_)
          · skip
            rw [if_pos (by simpa using c5)] at hC
            refine AWp.regionW ?_
            refine AWp.ret ?_
            try simp only [thenQ, blockQ, noGo]
            refine bodyQ.m ?_
            clear hK23 K23 hK22 K22 hK21 K21 hK20 K20 hK19 K19 hK18 K18 hK17 K17 hK3 K3 hK2 K2 hK1 K1
            rw [hC]
            first | done | exact Hand.go
          · skip
            rw [if_neg (by simpa using c5)] at hC
            refine AWp.skip ?_
            refine hK22 _ ?_
            refine AWp.regionW ?_
            refine AWp.ret ?_
            try simp only [thenQ, blockQ, noGo]
            refine bodyQ.m ?_
            clear hK23 K23 hK22 K22 hK21 K21 hK20 K20 hK19 K19 hK18 K18 hK17 K17 hK3 K3 hK2 K2 hK1 K1
            rw [hC]
            first | done | exact Hand.go
@[push_cast] theorem chunkA_hand (ids : List Nat) (b : Bool) (c : GChunk) : (chunkA b c).hand ids = chunkA false c := by
  simp only [chunkA, AV.hand, AV.handL, bys_hand, nodesA_hand]
end Go.Proofs.YtoapdhogghbojaaGreatDoor.C
/- The reference's chunks: wharfref11, wharfref12.Check. -/
set_option linter.unusedVariables false
set_option linter.unusedSimpArgs false
namespace Go.Proofs.YtoapdhogghbojaaGreatDoor.C
open Go.Abs
set_option maxRecDepth 100000 in
set_option maxHeartbeats 1000000 in
theorem table11_c : PC Tryz.prog 80 [] (.sl false 7 (kformsA kindForms)) := by
  refine PC.of_bodyW (by simp only [push_cast]) Tryz.func80 rfl (by rw [Tryz.ntmps80]; simp) ?_
  refine AWp.regionW ?_
  refine AWp.regionW ?_
  refine AWp.regionW ?_
  refine AWp.ret ?_
  try simp only [thenQ, blockQ, noGo]
  refine bodyQ.m ?_
  simp only [kformsA, kindForms, List.map_cons, List.map_nil]
  first | done | exact Hand.go
theorem of11_c (t : Nat) : PC Tryz.prog 33 [u8 t] (.tup [kformA (kindOf t), bool (kindHas t)]) := by
  refine PC.of_bodyW (by simp only [push_cast]) Tryz.func33 rfl (by rw [Tryz.ntmps33]; simp) ?_
  refine AWp.regionW ?_
  refine AWp.regionM fun K1 hK1 => ?_
  refine ARun2.callM (table11_c) ?_
  refine ARun2.endm (hK1 _ ?_)
  refine AWp.seqK fun K2 hK2 => ?_
  refine AWp.regionW ?_
  refine AWp.block ?_
  refine AWp.loopK0 [0, 2, 4] (fun (i : Nat) => [(5, nat i)]) (fun i => i ≤ 23 ∧ ∀ m, m < i → (kf m).ty ≠ t) (fun i => 23 - i) (0) ?_ ⟨Nat.zero_le _, fun m h => by omega⟩ ?_
  · skip
    refine Le.m 1 ?_ ?_
    · exact Go.Abs.evM
    · exact Go.Abs.evN
  · intro i hi K3 hK3
    refine AWp.seqK fun K4 hK4 => ?_
    refine AWp.regionW ?_
    refine AWp.condLM (fun c0 => ?_) (fun c0 => ?_)
    · skip
      have hil : i < 23 := by simpa using c0
      refine AWp.skip ?_
      refine hK4 _ ?_
      refine AWp.seqK fun K5 hK5 => ?_
      refine AWp.block ?_
      refine AWp.regionM fun K6 hK6 => ?_
      refine ARun2.indexM (i) (kformA (kf i)) ?_ ?_
      · exact kformsA_kf i hil
      refine ARun2.endm (hK6 _ ?_)
      refine AWp.condLM (fun c1 => ?_) (fun c1 => ?_)
      · skip
        have h1 : (kf i).ty = t := by simpa using c1
        obtain ⟨e1, e2⟩ := kind_at t i hil h1
        refine AWp.regionM fun K7 hK7 => ?_
        refine ARun2.indexM (i) (kformA (kf i)) ?_ ?_
        · exact kformsA_kf i hil
        refine ARun2.endm (hK7 _ ?_)
        refine AWp.ret ?_
        try simp only [thenQ, blockQ, noGo]
        refine bodyQ.m ?_
        clear hK7 K7 hK6 K6 hK5 K5 hK4 K4 hK3 K3 hK2 K2 hK1 K1
        rw [e1, e2]
        first | done | exact Hand.go
      · skip
        have h1 : (kf i).ty ≠ t := by simpa using c1
        refine AWp.skip ?_
        refine hK5 _ ?_
        refine AWp.regionV ?_
        refine hK3 _ (i + 1) (⟨hil, fun m hm => (Nat.lt_or_ge m i).elim (hi.2 m) (fun h => (show i = m by omega) ▸ h1)⟩) (by omega) ?_
        refine Le.m 1 ?_ ?_
        · exact Go.Abs.evM
        · exact Go.Abs.evN
    · skip
      have hil : 23 ≤ i := by simpa using c0
      obtain ⟨e1, e2⟩ := kind_none t fun m hm => hi.2 m (by omega)
      refine AWp.exit ?_
      try simp only [thenQ, blockQ, noGo, reduceIte, Nat.reduceEqDiff]
      refine hK2 _ ?_
      refine AWp.regionW ?_
      refine AWp.ret ?_
      try simp only [thenQ, blockQ, noGo]
      refine bodyQ.m ?_
      clear hK4 K4 hK3 K3 hK2 K2 hK1 K1
      rw [e1, e2]; simp only [zeroK]
      first | done | exact Hand.go
theorem fits11_c (f : KForm) (n : Nat) (hn : n < 2 ^ 40) (hl : f.least < 2 ^ 40) (hm : f.most < 2 ^ 40) (hu : 0 < f.unit) (hu2 : f.unit < 2 ^ 40) : PC Tryz.prog 64 [kformA f, nat n] (bool (kfitsN f n)) := by
  refine PC.of_bodyW (by simp only [push_cast]) Tryz.func64 rfl (by rw [Tryz.ntmps64]; simp) ?_
  refine AWp.regionW ?_
  refine AWp.seqK fun K1 hK1 => ?_
  refine AWp.regionW ?_
  refine AWp.block ?_
  refine AWp.loopK [1, 2] (fun (i : Nat) => [(5, nat (f.least + i * f.unit))]) (fun i => [.box 59 [u8 f.ty, .val (.string f.name), u8 f.mask, nat f.least, nat f.most, nat f.unit, nat f.kids]]) (fun i => ∀ j, j < i → f.least + j * f.unit ≠ n) (fun i => f.most + 1 - (f.least + i * f.unit)) (0) ?_ (fun j h => by omega) ?_
  · skip
    refine Le.m 1 ?_ ?_
    · exact Go.Abs.evM
    · simp only [push_cast, ↓reduceIte, Nat.reduceEqDiff, Nat.reduceLT, Nat.reduceAdd, Nat.reduceSub, Nat.reduceMul, Nat.reduceLeDiff, Nat.reducePow, Int.reduceLT, Int.reduceToNat, reduceCtorEq, Int.reduceNeg, Int.reduceEq, Nat.reduceBEq, Nat.reduceBNe, Int.reduceBEq, Int.reduceBNe, String.reduceEq]
      try simp (disch := omega) only [w_nat, w_add, w_addl, w_addr, w_sub, w_subl, w_mul, w_mull, w_mulr, w_u32, w_u16, w_u8, w_u32a, N_zero]
      simp only [Nat.zero_mul, Nat.add_zero]
  · intro i hi K2 hK2
    refine AWp.seqK fun K3 hK3 => ?_
    refine AWp.regionW ?_
    refine AWp.condLM (fun c0 => ?_) (fun c0 => ?_)
    · skip
      have h0 : f.least + i * f.unit ≤ f.most := by simpa using c0
      have hs : (i + 1) * f.unit = i * f.unit + f.unit := by rw [Nat.add_mul, Nat.one_mul]
      refine AWp.skip ?_
      refine hK3 _ ?_
      refine AWp.seqK fun K4 hK4 => ?_
      refine AWp.block ?_
      refine AWp.regionW ?_
      refine AWp.condLM (fun c1 => ?_) (fun c1 => ?_)
      · skip
        have h1 : f.least + i * f.unit = n := by simpa using c1
        have hf : kfitsN f n = true := by
          have e : n - f.least = i * f.unit := by omega
          unfold kfitsN
          rw [e, Nat.mul_mod_left]
          simp
          omega
        refine AWp.regionW ?_
        refine AWp.ret ?_
        try simp only [thenQ, blockQ, noGo]
        refine bodyQ.m ?_
        clear hK4 K4 hK3 K3 hK2 K2 hK1 K1
        rw [hf]
        first | done | exact Hand.go
      · skip
        have h1 : f.least + i * f.unit ≠ n := by simpa using c1
        refine AWp.skip ?_
        refine hK4 _ ?_
        refine AWp.regionV ?_
        refine hK2 _ (i + 1) ((fun j hj => (Nat.lt_or_ge j i).elim (fun h => hi j h) (fun h => (show j = i by omega) ▸ h1))) (by omega) ?_
        refine Le.m 1 ?_ ?_
        · exact Go.Abs.evM
        · simp only [push_cast, ↓reduceIte, Nat.reduceEqDiff, Nat.reduceLT, Nat.reduceAdd, Nat.reduceSub, Nat.reduceMul, Nat.reduceLeDiff, Nat.reducePow, Int.reduceLT, Int.reduceToNat, reduceCtorEq, Int.reduceNeg, Int.reduceEq, Nat.reduceBEq, Nat.reduceBNe, Int.reduceBEq, Int.reduceBNe, String.reduceEq]
          try simp (disch := omega) only [w_nat, w_add, w_addl, w_addr, w_sub, w_subl, w_mul, w_mull, w_mulr, w_u32, w_u16, w_u8, w_u32a, N_zero]
          rw [hs, ← Nat.add_assoc]
    · skip
      have h0 : f.most < f.least + i * f.unit := by simpa using c0
      have hf : kfitsN f n = false := by
        unfold kfitsN
        by_cases h2 : f.least ≤ n ∧ n ≤ f.most
        · have h3 : (n - f.least) % f.unit ≠ 0 := by
            intro h3
            obtain ⟨j, hj⟩ := Nat.dvd_of_mod_eq_zero h3
            rw [Nat.mul_comm] at hj
            have hlt : j < i := by
              rcases Nat.lt_or_ge j i with h | h
              · exact h
              · have := Nat.mul_le_mul_right f.unit h
                omega
            exact hi j hlt (by omega)
          simp [h3]
        · rcases Nat.lt_or_ge n f.least with h4 | h4
          · simp; omega
          · simp; omega
      refine AWp.exit ?_
      try simp only [thenQ, blockQ, noGo, reduceIte, Nat.reduceEqDiff]
      refine hK1 _ ?_
      refine AWp.regionW ?_
      refine AWp.ret ?_
      try simp only [thenQ, blockQ, noGo]
      refine bodyQ.m ?_
      clear hK3 K3 hK2 K2 hK1 K1
      rw [hf]
      first | done | exact Hand.go
theorem class11_c (k : Nat) (hk : k ≤ 6) : PC Tryz.prog 36 [nat k] (nat (kinsideN k).1) := by
  have hq : (kinsideN k).1 = if k = 3 ∨ k = 4 then 2 else if 1 ≤ k then 1 else 0 := by
    have h : k = 0 ∨ k = 1 ∨ k = 2 ∨ k = 3 ∨ k = 4 ∨ k = 5 ∨ k = 6 := by omega
    rcases h with rfl | rfl | rfl | rfl | rfl | rfl | rfl <;> rfl
  refine PC.of_bodyW (by simp only [push_cast]) Tryz.func36 rfl (by rw [Tryz.ntmps36]; simp) ?_
  refine AWp.regionW ?_
  refine AWp.seqK fun K1 hK1 => ?_
  refine AWp.regionA fun K2 hK2 => ?_
  refine ARun.segm 3 fun KS hKS => ?_
  refine ARun2.endm (hKS _ ?_); clear hKS KS
  apply ARun.grpM 2 2 false 7 [0, 5]
  · intro g2 KG hKG
    refine ARun2.gom ?_
    exact ARun2.endm (hKG _ Le.grpM)
  refine ARun2.gom ?_
  refine ARun2.endm (hK2 _ ?_)
  refine AWp.condLM (fun c0 => ?_) (fun c0 => ?_)
  · skip
    refine AWp.regionW ?_
    refine AWp.ret ?_
    try simp only [thenQ, blockQ, noGo]
    refine bodyQ.m ?_
    clear hK2 K2 hK1 K1
    rw [hq, if_pos (by simpa using c0)]
    first | done | exact Hand.go
  · skip
    refine AWp.skip ?_
    refine hK1 _ ?_
    refine AWp.seqK fun K3 hK3 => ?_
    refine AWp.regionA fun K4 hK4 => ?_
    refine ARun.segm 3 fun KS hKS => ?_
    refine ARun2.endm (hKS _ ?_); clear hKS KS
    apply ARun.grpM 2 2 true 13 [11]
    · intro g2 KG hKG
      refine ARun2.gom ?_
      exact ARun2.endm (hKG _ Le.grpM)
    refine ARun2.gom ?_
    refine ARun2.endm (hK4 _ ?_)
    refine AWp.condLM (fun c1 => ?_) (fun c1 => ?_)
    · skip
      refine AWp.regionW ?_
      refine AWp.ret ?_
      try simp only [thenQ, blockQ, noGo]
      refine bodyQ.m ?_
      clear hK4 K4 hK3 K3 hK2 K2 hK1 K1
      rw [hq, if_neg (by simpa using c0), if_pos (by simp at c1; omega)]
      first | done | exact Hand.go
    · skip
      refine AWp.skip ?_
      refine hK3 _ ?_
      refine AWp.regionW ?_
      refine AWp.ret ?_
      try simp only [thenQ, blockQ, noGo]
      refine bodyQ.m ?_
      clear hK4 K4 hK3 K3 hK2 K2 hK1 K1
      rw [hq, if_neg (by simpa using c0), if_neg (by simp at c1; omega)]
      first | done | exact Hand.go
theorem kk_ref (q n y : Nat) (hq : q ≤ 6) : (decide ((kinsideN q).2.1 ≤ n) && decide (n ≤ (kinsideN q).2.2) && (q != 1 || y == 1) && (q != 6 || (y == 5 || y == 6))) =
    if q = 0 then n == 0 else if q = 1 then (n == 1 && y == 1) else if q = 4 then (decide (1 ≤ n) && decide (n ≤ 16384)) else if q = 5 then (n == 1 || n == 2) else if q = 6 then (decide (2 ≤ n) && decide (n ≤ 16384) && (y == 5 || y == 6)) else decide (n ≤ 16384) := by
  have h : q = 0 ∨ q = 1 ∨ q = 2 ∨ q = 3 ∨ q = 4 ∨ q = 5 ∨ q = 6 := by omega
  rcases h with rfl | rfl | rfl | rfl | rfl | rfl | rfl <;> rw [Bool.eq_iff_iff] <;> simp [kinsideN] <;> omega
theorem wanted12_c (k : KForm) (l : List GNode) (hk : k.kids ≤ 6) (hl : l.length ≤ 2 ^ 40) : PC Tryz.prog 65 [kformA k, .sl false 3 (nodesA false l)] (bool (kkidsOk k l)) := by
  have hq : kkidsOk k l = _ := kk_ref k.kids l.length (l.headD default).ty hk
  refine PC.of_bodyW (by simp only [push_cast]) Tryz.func65 rfl (by rw [Tryz.ntmps65]; simp) ?_
  refine AWp.regionW ?_
  refine AWp.regionW ?_
  refine AWp.seqK fun K1 hK1 => ?_
  refine AWp.regionW ?_
  refine AWp.block ?_
  refine AWp.regionW ?_
  refine AWp.condLM (fun c0 => ?_) (fun c0 => ?_)
  · skip
    have h0 : k.kids = 0 := by simpa using c0
    rw [if_pos h0] at hq
    refine AWp.regionW ?_
    refine AWp.ret ?_
    try simp only [thenQ, blockQ, noGo]
    refine bodyQ.m ?_
    clear hK1 K1
    rw [hq]
    first | done | exact Hand.go
  · skip
    have h0 : ¬ k.kids = 0 := by simpa using c0
    rw [if_neg h0] at hq
    refine AWp.regionW ?_
    refine AWp.condLM (fun c1 => ?_) (fun c1 => ?_)
    · skip
      rw [if_pos (by simpa using c1)] at hq
      refine AWp.regionA fun K2 hK2 => ?_
      refine ARun.segm 3 fun KS hKS => ?_
      refine ARun2.endm (hKS _ ?_); clear hKS KS
      apply ARun.grpM 5 2 true 23 [18]
      · intro g2 KG hKG
        have hn : 0 < l.length := by simp at g2; omega
        refine ARun2.gom ?_
        refine ARun2.indexM (0) (nodeA false (l.headD default)) ?_ ?_
        · exact nodesA_head false l hn
        exact ARun2.endm (hKG _ Le.grpM)
      refine ARun2.gom ?_
      refine ARun2.endm (hK2 _ ?_)
      refine AWp.ret ?_
      try simp only [thenQ, blockQ, noGo]
      refine bodyQ.m ?_
      clear hK2 K2 hK1 K1
      rw [hq]
      first | done | exact Hand.go
    · skip
      rw [if_neg (by simpa using c1)] at hq
      refine AWp.regionW ?_
      refine AWp.condLM (fun c2 => ?_) (fun c2 => ?_)
      · skip
        rw [if_pos (by simpa using c2)] at hq
        refine AWp.regionA fun K3 hK3 => ?_
        refine ARun.segm 3 fun KS hKS => ?_
        refine ARun2.endm (hKS _ ?_); clear hKS KS
        apply ARun.grpM 2 2 true 31 [29]
        · intro g2 KG hKG
          refine ARun2.gom ?_
          exact ARun2.endm (hKG _ Le.grpM)
        refine ARun2.gom ?_
        refine ARun2.endm (hK3 _ ?_)
        refine AWp.ret ?_
        try simp only [thenQ, blockQ, noGo]
        refine bodyQ.m ?_
        clear hK3 K3 hK1 K1
        rw [hq]
        first | done | exact Hand.go
      · skip
        rw [if_neg (by simpa using c2)] at hq
        refine AWp.regionW ?_
        refine AWp.condLM (fun c3 => ?_) (fun c3 => ?_)
        · skip
          rw [if_pos (by simpa using c3)] at hq
          refine AWp.regionA fun K4 hK4 => ?_
          refine ARun.segm 3 fun KS hKS => ?_
          refine ARun2.endm (hKS _ ?_); clear hKS KS
          apply ARun.grpM 2 2 false 39 [37]
          · intro g2 KG hKG
            refine ARun2.gom ?_
            exact ARun2.endm (hKG _ Le.grpM)
          refine ARun2.gom ?_
          refine ARun2.endm (hK4 _ ?_)
          refine AWp.ret ?_
          try simp only [thenQ, blockQ, noGo]
          refine bodyQ.m ?_
          clear hK4 K4 hK1 K1
          rw [hq]
          first | done | exact Hand.go
        · skip
          rw [if_neg (by simpa using c3)] at hq
          refine AWp.regionW ?_
          refine AWp.condLM (fun c4 => ?_) (fun c4 => ?_)
          · skip
            rw [if_pos (by simpa using c4)] at hq
            refine AWp.regionA fun K5 hK5 => ?_
            refine ARun.segm 3 fun KS hKS => ?_
            refine ARun2.endm (hKS _ ?_); clear hKS KS
            apply ARun.grpM 2 2 true 47 [1, 45]
            · intro g2 KG hKG
              refine ARun2.gom ?_
              exact ARun2.endm (hKG _ Le.grpM)
            refine ARun.segm 2 fun KS hKS => ?_
            refine ARun2.endm (hKS _ ?_); clear hKS KS
            apply ARun.grpM 12 6 true 61 [49]
            · intro g6 KG hKG
              have hn : 0 < l.length := by simp at g6; omega
              refine ARun.segm 6 fun KS hKS => ?_
              refine ARun2.indexM (0) (nodeA false (l.headD default)) ?_ ?_
              · exact nodesA_head false l hn
              refine ARun2.endm (hKS _ ?_); clear hKS KS
              apply ARun.grpM 5 12 false 60 [49, 55]
              · intro g12 KG hKG
                refine ARun2.gom ?_
                refine ARun2.indexM (0) (nodeA false (l.headD default)) ?_ ?_
                · exact nodesA_head false l hn
                exact ARun2.endm (hKG _ Le.grpM)
              refine ARun2.gom ?_
              exact ARun2.endm (hKG _ Le.grpM)
            refine ARun2.gom ?_
            refine ARun2.endm (hK5 _ ?_)
            refine AWp.ret ?_
            try simp only [thenQ, blockQ, noGo]
            refine bodyQ.m ?_
            clear hK5 K5 hK1 K1
            rw [hq]
            first | done | exact Hand.go
          · skip
            rw [if_neg (by simpa using c4)] at hq
            refine AWp.skip ?_
            refine hK1 _ ?_
            refine AWp.regionW ?_
            refine AWp.ret ?_
            try simp only [thenQ, blockQ, noGo]
            refine bodyQ.m ?_
            clear hK1 K1
            rw [hq]
            first | done | exact Hand.go
theorem number12_c (d : List UInt8) (i : Nat) (hd : d.length ≤ 2 ^ 40) (hi : i + 2 ≤ d.length) : PC Tryz.prog 77 [.sl false 1 (bys d), nat i] (nat (peekN 2 d i)) := by
  have hp := peek_bytes d i hi
  have h1 := (d[i]'(by omega)).toNat_lt
  have h2 := (d[i + 1]'(by omega)).toNat_lt
  refine PC.of_bodyW (by simp only [push_cast]) Tryz.func77 rfl (by rw [Tryz.ntmps77]; simp) ?_
  refine AWp.regionW ?_
  refine AWp.drS [[(0, none)], [(1, none)], [(5, some 0), (6, some 1)], [(7, some 2)], [(8, some 3)], [(9, some 4)], [(0, none)], [(1, none)], [(12, some 7)], [(11, some 6), (13, some 8)], [(14, some 9)], [(15, some 10)], [(10, some 5), (16, some 11)], [(17, some 12)]] fun G hG => ?_
  refine Dr.sim ?_
  try simp only [List.cons_append, List.nil_append]
  refine Dr.sim ?_
  try simp only [List.cons_append, List.nil_append]
  refine Dr.idx (i) (.val (.int .u8 (N (d[i]'(by omega)).toNat))) ?_ ?_
  · exact bys_at _ _ (by omega)
  try simp only [List.cons_append, List.nil_append]
  refine Dr.sim ?_
  try simp only [List.cons_append, List.nil_append]
  refine Dr.sim ?_
  try simp only [List.cons_append, List.nil_append]
  refine Dr.sim ?_
  try simp only [List.cons_append, List.nil_append]
  refine Dr.sim ?_
  try simp only [List.cons_append, List.nil_append]
  refine Dr.sim ?_
  try simp only [List.cons_append, List.nil_append]
  refine Dr.sim ?_
  try simp only [List.cons_append, List.nil_append]
  refine Dr.idx (i + 1) (.val (.int .u8 (N (d[i + 1]'(by omega)).toNat))) ?_ ?_
  · exact bys_at _ _ (by omega)
  try simp only [List.cons_append, List.nil_append]
  refine Dr.sim ?_
  try simp only [List.cons_append, List.nil_append]
  refine Dr.sim ?_
  try simp only [List.cons_append, List.nil_append]
  refine Dr.sim ?_
  try simp only [List.cons_append, List.nil_append]
  refine Dr.sim ?_
  try simp only [List.cons_append, List.nil_append]
  refine Dr.finM (n := 14) [(4, 13)] [] hG YtoapdhogghbojaaGreatDoor.Facts.mixed fun KD hKD => ?_
  refine ARun2.endm (hKD _ ?_); clear hKD KD hG G
  refine AWp.ret ?_
  try simp only [thenQ, blockQ, noGo]
  refine bodyQ.m ?_
  rw [hp, Nat.mul_comm]
  first | done | exact Hand.go
theorem counted12_c (c : GChunk) (hd : c.data.length ≤ 2 ^ 40) (h : c.ty = 3 → 12 ≤ c.data.length ∧ (c.data.length - 12) % 4 = 0) : PC Tryz.prog 66 [u8 c.ty, .sl false 1 (bys c.data)] (bool (!sackBad c)) := by
  have p1 := peek2_lt c.data 8
  have p2 := peek2_lt c.data 10
  have hs : (c.ty != 3 || 4 * (peekN 2 c.data 8 + peekN 2 c.data 10) == c.data.length - 12) = !sackBad c := by
    unfold sackBad
    by_cases h3 : c.ty = 3
    · have := h h3
      rw [Bool.eq_iff_iff]; simp [h3]; omega
    · have e : (c.ty == 3) = false := by simpa using h3
      simp [bne, e]
  refine PC.of_bodyW (by simp only [push_cast]) Tryz.func66 rfl (by rw [Tryz.ntmps66]; simp) ?_
  refine AWp.regionW ?_
  refine AWp.regionA fun K1 hK1 => ?_
  refine ARun.segm 3 fun KS hKS => ?_
  refine ARun2.endm (hKS _ ?_); clear hKS KS
  apply ARun.grpM 10 2 false 17 [7]
  · intro g2 KG hKG
    have h3 : c.ty = 3 := by simpa using g2
    have hl := h h3
    refine ARun2.gom ?_
    refine ARun2.callM (number12_c c.data 8 hd (by omega)) ?_
    refine ARun2.callM (number12_c c.data 10 hd (by omega)) ?_
    exact ARun2.endm (hKG _ Le.grpM)
  refine ARun2.gom ?_
  refine ARun2.endm (hK1 _ ?_)
  refine AWp.ret ?_
  try simp only [thenQ, blockQ, noGo]
  refine bodyQ.m ?_
  clear hK1 K1
  rw [← hs]
  first | done | exact Hand.go
/-- the place of what is odd; -1: nowhere -/
def oddI (c : GChunk) : Int := match oddN c with
  | some i => N i
  | none => -1
theorem odd12_c (c : GChunk) (hd : c.data.length ≤ 2 ^ 40) (h64 : c.ty = 64 → 17 ≤ c.data.length) (h194 : c.ty = 194 → 4 ≤ c.data.length ∧ (c.data.length - 4) % 8 = 0) :
    PC Tryz.prog 67 [u8 c.ty, .sl false 1 (bys c.data)] (.val (.int .i64 (oddI c))) := by
  refine PC.of_bodyW (by simp only [push_cast]) Tryz.func67 rfl (by rw [Tryz.ntmps67]; simp) ?_
  refine AWp.regionW ?_
  refine AWp.seqK fun K1 hK1 => ?_
  refine AWp.regionA fun K2 hK2 => ?_
  refine ARun.segm 3 fun KS hKS => ?_
  refine ARun2.endm (hKS _ ?_); clear hKS KS
  apply ARun.grpM 3 2 true 11 [0, 1, 8]
  · intro g2 KG hKG
    have h3 : c.ty = 64 := by simpa using g2
    have hl := h64 h3
    refine ARun2.gom ?_
    refine ARun2.callM (number12_c c.data 6 hd (by omega)) ?_
    exact ARun2.endm (hKG _ Le.grpM)
  refine ARun2.gom ?_
  refine ARun2.endm (hK2 _ ?_)
  refine AWp.condLM (fun c0 => ?_) (fun c0 => ?_)
  · skip
    have hr : oddI c = 6 := by
      simp at c0
      unfold oddI oddN; rw [if_pos c0.1, if_pos c0.2]; rfl
    refine AWp.regionW ?_
    refine AWp.ret ?_
    try simp only [thenQ, blockQ, noGo]
    refine bodyQ.m ?_
    clear hK2 K2 hK1 K1
    rw [hr]
    first | done | exact Hand.go
  · skip
    have hq : oddN c = if c.ty = 194 then oddAt c.data c.data.length 4 else none := by
      unfold oddN
      by_cases h3 : c.ty = 64
      · have hp : peekN 2 c.data 6 = 0 := by simp [h3] at c0; exact c0
        rw [if_pos h3, if_neg (by rw [hp]; simp), if_neg (by omega)]
      · rw [if_neg h3]
    refine AWp.skip ?_
    refine hK1 _ ?_
    refine AWp.seqK fun K3 hK3 => ?_
    refine AWp.regionW ?_
    refine AWp.block ?_
    refine AWp.loopK0 [0, 1] (fun (g : Nat × Nat) => [(5, nat (g.2 + 2))]) (fun g => (c.ty = 194 → oddAt c.data c.data.length 4 = oddAt c.data g.1 g.2 ∧ g.2 ≤ c.data.length ∧ (c.data.length - g.2) % 8 = 0 ∧ c.data.length - g.2 ≤ g.1)) (fun g => c.data.length - g.2) ((c.data.length, 4)) ?_ (fun h => ⟨rfl, (h194 h).1, (h194 h).2, Nat.sub_le _ _⟩) ?_
    · skip
      refine Le.m 0 ?_ ?_
      · exact Go.Abs.evM
      · exact Go.Abs.evN
    · intro g hg K4 hK4
      obtain ⟨q, i⟩ := g
      dsimp only at hg ⊢
      refine AWp.seqK fun K5 hK5 => ?_
      refine AWp.regionA fun K6 hK6 => ?_
      refine ARun.segm 3 fun KS hKS => ?_
      refine ARun2.endm (hKS _ ?_); clear hKS KS
      apply ARun.grpM 4 2 true 19 [0, 1, 5, 15]
      · intro g2 KG hKG
        have h4 : c.ty = 194 := by simpa using g2
        have hgg := hg h4
        refine ARun2.gom ?_
        exact ARun2.endm (hKG _ Le.grpM)
      refine ARun2.gom ?_
      refine ARun2.endm (hK6 _ ?_)
      refine AWp.condLM (fun c1 => ?_) (fun c1 => ?_)
      · skip
        have h4 : c.ty = 194 ∧ i + 2 < c.data.length := by simpa using c1
        obtain ⟨hg1, hg2, hg3, hg4⟩ := hg h4.1
        obtain ⟨q, rfl⟩ : ∃ q', q = q' + 1 := ⟨q - 1, by omega⟩
        rw [oddAt, if_pos (by omega)] at hg1
        refine AWp.skip ?_
        refine hK5 _ ?_
        refine AWp.seqK fun K7 hK7 => ?_
        refine AWp.block ?_
        refine AWp.regionM fun K8 hK8 => ?_
        refine ARun2.callM (number12_c c.data (i + 2) hd (by omega)) ?_
        refine ARun2.endm (hK8 _ ?_)
        refine AWp.condLM (fun c2 => ?_) (fun c2 => ?_)
        · skip
          have hp : 1 < peekN 2 c.data (i + 2) := by simpa using c2
          rw [if_pos hp] at hg1
          have hr : oddI c = N (i + 2) := by unfold oddI; rw [hq, if_pos h4.1, hg1]
          refine AWp.regionW ?_
          refine AWp.ret ?_
          try simp only [thenQ, blockQ, noGo]
          refine bodyQ.m ?_
          clear hK8 K8 hK7 K7 hK6 K6 hK5 K5 hK4 K4 hK3 K3 hK2 K2 hK1 K1
          rw [hr]
          first | done | exact Hand.go
        · skip
          have hp : ¬ 1 < peekN 2 c.data (i + 2) := by simpa using c2
          rw [if_neg hp] at hg1
          refine AWp.skip ?_
          refine hK7 _ ?_
          refine AWp.regionV ?_
          refine hK4 _ ((q, i + 8)) ((fun _ => ⟨hg1, by show i + 8 ≤ _; omega, by show (c.data.length - (i + 8)) % 8 = 0; omega, by show c.data.length - (i + 8) ≤ q; omega⟩)) (by show c.data.length - (i + 8) < c.data.length - i; omega) ?_
          refine Le.m 0 ?_ ?_
          · exact Go.Abs.evM
          · exact Go.Abs.evN
      · skip
        have hr : oddI c = -1 := by
          unfold oddI; rw [hq]
          by_cases h4 : c.ty = 194
          · obtain ⟨hg1, hg2, hg3, hg4⟩ := hg h4
            simp [h4] at c1
            rw [if_pos h4, hg1]
            cases q with
            | zero => rfl
            | succ q => rw [oddAt, if_neg (by omega)]
          · rw [if_neg h4]
        refine AWp.exit ?_
        try simp only [thenQ, blockQ, noGo, reduceIte, Nat.reduceEqDiff]
        refine hK3 _ ?_
        refine AWp.regionW ?_
        refine AWp.ret ?_
        try simp only [thenQ, blockQ, noGo]
        refine bodyQ.m ?_
        clear hK6 K6 hK5 K5 hK4 K4 hK3 K3 hK2 K2 hK1 K1
        rw [hr]
        first | done | exact Hand.go
theorem refAll2_c (c : Nat) (l : List GNode) (hcl : 0 < l.length → c = 1 ∨ c = 2) (hs : nSize l ≤ 2 ^ 30) : PC Tryz.prog 68 [nat c, .sl false 3 (nodesA false l)] (nat (checkL c 1 l)) := by
  have hlen := nSize_len l
  refine PC.of_bodyW (by simp only [push_cast]) Tryz.func68 rfl (by rw [Tryz.ntmps68]; simp) ?_
  refine AWp.regionW ?_
  refine AWp.seqK fun K1 hK1 => ?_
  refine AWp.regionW ?_
  refine AWp.block ?_
  refine AWp.loopK0 [0, 1] (fun (i : Nat) => [(5, nat i)]) (fun i => i ≤ l.length ∧ checkL c 1 (l.take i) = 0) (fun i => l.length - i) (0) ?_ ⟨Nat.zero_le _, rfl⟩ ?_
  · skip
    refine Le.m 0 ?_ ?_
    · exact Go.Abs.evM
    · exact Go.Abs.evN
  · intro i hi K2 hK2
    refine AWp.seqK fun K3 hK3 => ?_
    refine AWp.regionW ?_
    refine AWp.condLM (fun c0 => ?_) (fun c0 => ?_)
    · skip
      have hil : i < l.length := by simpa using c0
      have hc := hcl (by omega)
      have hm := List.getElem_mem hil
      have hn1 := nSize_one hm
      refine AWp.skip ?_
      refine hK3 _ ?_
      refine AWp.seqK fun K4 hK4 => ?_
      refine AWp.block ?_
      refine AWp.regionM fun K5 hK5 => ?_
      refine ARun2.indexM (i) (nodeA false l[i]) ?_ ?_
      · exact nodesA_at _ _ _ hil
      refine ARun2.callM (check08_c c 1 l[i] hc (by omega) (by omega)) ?_
      refine ARun2.endm (hK5 _ ?_)
      refine AWp.regionW ?_
      refine AWp.condLM (fun c1 => ?_) (fun c1 => ?_)
      · skip
        have hne : checkN c 1 l[i] ≠ 0 := by simpa using c1
        have hr := checkL_at c 1 l i hil hi.2 hne
        refine AWp.regionW ?_
        refine AWp.ret ?_
        try simp only [thenQ, blockQ, noGo]
        refine bodyQ.m ?_
        clear hK5 K5 hK4 K4 hK3 K3 hK2 K2 hK1 K1
        rw [hr]
        first | done | exact Hand.go
      · skip
        have heq : checkN c 1 l[i] = 0 := by simpa using c1
        refine AWp.skip ?_
        refine hK4 _ ?_
        refine AWp.regionV ?_
        refine hK2 _ (i + 1) (⟨hil, by rw [List.take_succ_eq_append_getElem hil, checkL_snoc, hi.2]; simpa using heq⟩) (by omega) ?_
        refine Le.m 0 ?_ ?_
        · exact Go.Abs.evM
        · exact Go.Abs.evN
    · skip
      have hil : i = l.length := by have := hi.1; simp at c0; omega
      subst hil
      have hr : checkL c 1 l = 0 := by have := hi.2; rwa [List.take_length] at this
      refine AWp.exit ?_
      try simp only [thenQ, blockQ, noGo, reduceIte, Nat.reduceEqDiff]
      refine hK1 _ ?_
      refine AWp.regionW ?_
      refine AWp.ret ?_
      try simp only [thenQ, blockQ, noGo]
      refine bodyQ.m ?_
      clear hK3 K3 hK2 K2 hK1 K1
      rw [hr]
      first | done | exact Hand.go
theorem size12_c (c : GChunk) (hd : c.data.length ≤ 2 ^ 40) (hs : nSize c.kids ≤ 2 ^ 30) : PC Tryz.prog 27 [chunkA false c] (nat (4 + c.data.length + nSize c.kids)) := by
  refine PC.of_bodyW (by simp only [push_cast]) Tryz.func27 rfl (by rw [Tryz.ntmps27]; simp) ?_
  refine AWp.regionW ?_
  refine AWp.drS [[(1, none)], [(3, some 0)], [(4, some 1)], [(5, some 2)], [(1, none)], [(7, some 4)], [(8, some 5)], [(6, some 3), (9, some 6)], [(10, some 7)]] fun G hG => ?_
  refine Dr.sim ?_
  try simp only [List.cons_append, List.nil_append]
  refine Dr.sim ?_
  try simp only [List.cons_append, List.nil_append]
  refine Dr.sim ?_
  try simp only [List.cons_append, List.nil_append]
  refine Dr.sim ?_
  try simp only [List.cons_append, List.nil_append]
  refine Dr.sim ?_
  try simp only [List.cons_append, List.nil_append]
  refine Dr.sim ?_
  try simp only [List.cons_append, List.nil_append]
  refine Dr.call (size08_c c.kids hs) ?_
  try simp only [List.cons_append, List.nil_append]
  refine Dr.sim ?_
  try simp only [List.cons_append, List.nil_append]
  refine Dr.sim ?_
  try simp only [List.cons_append, List.nil_append]
  refine Dr.finM (n := 9) [(2, 8)] [] hG YtoapdhogghbojaaGreatDoor.Facts.mixed fun KD hKD => ?_
  refine ARun2.endm (hKD _ ?_); clear hKD KD hG G
  refine AWp.ret ?_
  try simp only [thenQ, blockQ, noGo]
  refine bodyQ.m ?_
  first | done | exact Hand.go
set_option maxRecDepth 100000 in
theorem mask_ref : ((List.range 256).all fun f => [0, 1, 15].all fun m => (bitsV .and .i64 (N f) (N (255 - m)) != 0) == maskBad f m) = true := by kernel_rfl
theorem mask_eq (f m : Nat) (hf : f < 256) (hm : m = 0 ∨ m = 1 ∨ m = 15) : (bitsV .and .i64 (N f) (N (255 - m)) != 0) = maskBad f m := by
  have h := List.all_eq_true.1 mask_ref f (by simpa using hf)
  have h2 := List.all_eq_true.1 h m (by simpa using hm)
  simpa using h2
theorem value_odd (c : GChunk) : (valueE c).codeOf.1 = if 0 ≤ oddI c then 11 else 0 := by
  unfold valueE oddI
  cases oddN c <;> simp [Er.codeOf, N]
theorem code_if (e : Er) : (if e = .ok then Er.ok else e).codeOf = e.codeOf := by
  split
  · rename_i h; rw [h]
  · rfl
theorem preE_eq (c : GChunk) : (preE c).codeOf.1 =
    if maskBad c.flags (kindOf c.ty).mask = true then 6 else if kfitsN (kindOf c.ty) c.data.length = false then 7 else if kkidsOk (kindOf c.ty) c.kids = false then 7 else if sackBad c = true then 8 else if 0 ≤ oddI c then 11 else 0 := by
  unfold preE
  simp only [firstE, flagsE, dataE, kidsE, countE]
  by_cases h1 : maskBad c.flags (kindOf c.ty).mask = true
  · simp [h1, Er.codeOf]
  · by_cases h2 : kfitsN (kindOf c.ty) c.data.length = false
    · simp [h1, h2, Er.codeOf]
    · by_cases h3 : kkidsOk (kindOf c.ty) c.kids = false
      · simp [h1, h2, h3, Er.codeOf]
      · by_cases h4 : sackBad c = true
        · simp [h1, h2, h3, h4, Er.codeOf]
        · simp [h1, h2, h3, h4, code_if, value_odd]
theorem fits_facts {c : GChunk} (h : kfitsN (kindOf c.ty) c.data.length = true) : (c.ty = 3 → 12 ≤ c.data.length ∧ (c.data.length - 12) % 4 = 0) ∧ (c.ty = 64 → 17 ≤ c.data.length) ∧ (c.ty = 194 → 4 ≤ c.data.length ∧ (c.data.length - 4) % 8 = 0) := by
  unfold kfitsN at h
  simp only [Bool.and_eq_true, decide_eq_true_eq, beq_iff_eq] at h
  obtain ⟨⟨h1, h2⟩, h3⟩ := h
  refine ⟨fun e => ?_, fun e => ?_, fun e => ?_⟩
  · rw [e] at h1 h3; exact ⟨h1, h3⟩
  · rw [e] at h1; exact h1
  · rw [e] at h1 h3; exact ⟨h1, h3⟩
theorem check12_c (c : GChunk) (hfl : c.flags < 256) (hd : c.data.length ≤ 2 ^ 39) (hs : nSize c.kids ≤ 2 ^ 30) : PC Tryz.prog 20 [chunkA false c] (nat (checkC c)) := by
  have hkl := nSize_len c.kids
  have hb := kind_bd c.ty
  have hof := of11_c c.ty
  have hm := mask_eq c.flags (kindOf c.ty).mask hfl hb.2.2.2.2.2.1
  obtain ⟨C, hC0⟩ : ∃ C, C = checkC c := ⟨_, rfl⟩
  obtain ⟨S, hS0⟩ : ∃ S, S = startC c := ⟨_, rfl⟩
  have hC : C = if S ≠ 0 then S else if checkL (classOf c.ty) 1 c.kids ≠ 0 then checkL (classOf c.ty) 1 c.kids else if 65535 < 4 + c.data.length + nSize c.kids then 4 else 0 := by rw [hC0, hS0]; rfl
  have hst : S = if kindHas c.ty = true then (if maskBad c.flags (kindOf c.ty).mask = true then 6 else if kfitsN (kindOf c.ty) c.data.length = false then 7 else if kkidsOk (kindOf c.ty) c.kids = false then 7 else if sackBad c = true then 8 else if 0 ≤ oddI c then 11 else 0) else if 0 < c.kids.length then 7 else 0 := by
    rw [hS0, ← preE_eq]; rfl
  rw [← hC0]
  have e255 : IntKind.i64.wrap (255 - N (kindOf c.ty).mask) = N (255 - (kindOf c.ty).mask) := by rw [IntKind.wrap_i64]; unfold N; omega
  have hcl : (kinsideN (kindOf c.ty).kids).1 = classOf c.ty := rfl
  have hcx := class11_c (kindOf c.ty).kids (by omega)
  rw [hcl] at hcx
  refine PC.of_bodyW (by simp only [push_cast]) Tryz.func20 rfl (by rw [Tryz.ntmps20]; simp) ?_
  refine AWp.regionW ?_
  refine AWp.regionM fun K1 hK1 => ?_
  refine ARun2.callM (hof) ?_
  refine ARun2.endm (hK1 _ ?_)
  refine AWp.seqK fun K2 hK2 => ?_
  refine AWp.regionA fun K3 hK3 => ?_
  refine ARun.segm 2 fun KS hKS => ?_
  refine ARun2.endm (hKS _ ?_); clear hKS KS
  apply ARun.grpM 9 1 true 22 [1, 3, 4, 13]
  · intro g1 KG hKG
    refine ARun2.gom ?_
    exact ARun2.endm (hKG _ Le.grpM)
  refine ARun2.gom ?_
  refine ARun2.endm (hK3 _ ?_)
  refine AWp.condLM (fun c0 => ?_) (fun c0 => ?_)
  · skip
    rw [e255, hm] at c0
    simp at c0
    rw [if_pos c0.1, if_pos c0.2] at hst
    rw [hst, if_pos (by simp)] at hC
    refine AWp.regionW ?_
    refine AWp.ret ?_
    try simp only [thenQ, blockQ, noGo]
    refine bodyQ.m ?_
    clear hK3 K3 hK2 K2 hK1 K1
    rw [hC]
    first | done | exact Hand.go
  · skip
    rw [e255, hm] at c0
    refine AWp.skip ?_
    refine hK2 _ ?_
    refine AWp.seqK fun K4 hK4 => ?_
    refine AWp.regionA fun K5 hK5 => ?_
    refine ARun.segm 3 fun KS hKS => ?_
    refine ARun2.endm (hKS _ ?_); clear hKS KS
    apply ARun.grpM 4 2 true 30 [1, 3, 4, 26]
    · intro g2 KG hKG
      refine ARun2.gom ?_
      exact ARun2.endm (hKG _ Le.grpM)
    refine ARun.segm 2 fun KS hKS => ?_
    refine ARun2.endm (hKS _ ?_); clear hKS KS
    apply ARun.grpM 16 8 false 48 [1, 3, 4, 32]
    · intro g8 KG hKG
      refine ARun.segm 2 fun KS hKS => ?_
      refine ARun2.endm (hKS _ ?_); clear hKS KS
      apply ARun.grpM 13 10 true 47 [1, 3, 4, 32, 34]
      · intro g10 KG hKG
        have hh : kindHas c.ty = true := g10
        obtain ⟨u1, u2⟩ := hb.2.2.2.2.2.2.1 hh
        refine ARun.segm 7 fun KS hKS => ?_
        refine ARun2.callM (fits11_c (kindOf c.ty) c.data.length (by omega) (by omega) (by omega) u1 (by omega)) ?_
        refine ARun2.endm (hKS _ ?_); clear hKS KS
        apply ARun.grpM 5 17 false 46 [1, 3, 4, 32, 34, 41]
        · intro g17 KG hKG
          refine ARun2.gom ?_
          refine ARun2.callM (wanted12_c (kindOf c.ty) c.kids (by omega) (by omega)) ?_
          exact ARun2.endm (hKG _ Le.grpM)
        refine ARun2.gom ?_
        exact ARun2.endm (hKG _ Le.grpM)
      refine ARun2.gom ?_
      exact ARun2.endm (hKG _ Le.grpM)
    refine ARun2.gom ?_
    refine ARun2.endm (hK5 _ ?_)
    refine AWp.condLM (fun c1 => ?_) (fun c1 => ?_)
    · skip
      have h7 : S = 7 := by
        rw [hst]; revert c0 c1
        cases kindHas c.ty <;> cases maskBad c.flags (kindOf c.ty).mask <;> cases kfitsN (kindOf c.ty) c.data.length <;> cases kkidsOk (kindOf c.ty) c.kids <;> by_cases hk0 : 0 < c.kids.length <;> simp [hk0]
      rw [h7, if_pos (by simp)] at hC
      refine AWp.regionW ?_
      refine AWp.ret ?_
      try simp only [thenQ, blockQ, noGo]
      refine bodyQ.m ?_
      clear hK5 K5 hK4 K4 hK3 K3 hK2 K2 hK1 K1
      rw [hC]
      first | done | exact Hand.go
    · skip
      have hx : (kindHas c.ty = true → maskBad c.flags (kindOf c.ty).mask = false ∧ kfitsN (kindOf c.ty) c.data.length = true ∧ kkidsOk (kindOf c.ty) c.kids = true) ∧ (kindHas c.ty = false → ¬ 0 < c.kids.length) := by
        revert c0 c1
        cases kindHas c.ty <;> cases maskBad c.flags (kindOf c.ty).mask <;> cases kfitsN (kindOf c.ty) c.data.length <;> cases kkidsOk (kindOf c.ty) c.kids <;> by_cases hk0 : 0 < c.kids.length <;> simp [hk0]
      have hst2 : S = if kindHas c.ty = true then (if sackBad c = true then 8 else if 0 ≤ oddI c then 11 else 0) else 0 := by
        rw [hst]
        cases hk : kindHas c.ty with
        | true => obtain ⟨x1, x2, x3⟩ := hx.1 hk; simp [x1, x2, x3]
        | false => simp [hx.2 hk]
      have hff : kindHas c.ty = true → _ := fun hk => fits_facts (hx.1 hk).2.1
      have hcls : 0 < c.kids.length → classOf c.ty = 1 ∨ classOf c.ty = 2 := fun hl => by
        cases hk : kindHas c.ty with
        | true => exact kclass _ _ (hx.1 hk).2.2 (by omega) hl
        | false => exact absurd hl (hx.2 hk)
      refine AWp.skip ?_
      refine hK4 _ ?_
      refine AWp.seqK fun K6 hK6 => ?_
      refine AWp.regionA fun K7 hK7 => ?_
      refine ARun.segm 2 fun KS hKS => ?_
      refine ARun2.endm (hKS _ ?_); clear hKS KS
      apply ARun.grpM 6 1 true 57 [1, 3, 4, 51]
      · intro g1 KG hKG
        have hh : kindHas c.ty = true := g1
        refine ARun2.gom ?_
        refine ARun2.callM (counted12_c c (by omega) (hff hh).1) ?_
        exact ARun2.endm (hKG _ Le.grpM)
      refine ARun2.gom ?_
      refine ARun2.endm (hK7 _ ?_)
      refine AWp.condLM (fun c2 => ?_) (fun c2 => ?_)
      · skip
        have h8 : S = 8 := by
          rw [hst2]; revert c2
          cases kindHas c.ty <;> cases sackBad c <;> simp
        rw [h8, if_pos (by simp)] at hC
        refine AWp.regionW ?_
        refine AWp.ret ?_
        try simp only [thenQ, blockQ, noGo]
        refine bodyQ.m ?_
        clear hK7 K7 hK6 K6 hK5 K5 hK4 K4 hK3 K3 hK2 K2 hK1 K1
        rw [hC]
        first | done | exact Hand.go
      · skip
        refine AWp.skip ?_
        refine hK6 _ ?_
        refine AWp.seqK fun K8 hK8 => ?_
        refine AWp.regionA fun K9 hK9 => ?_
        refine ARun.segm 2 fun KS hKS => ?_
        refine ARun2.endm (hKS _ ?_); clear hKS KS
        apply ARun.grpM 6 1 true 66 [1, 3, 60]
        · intro g1 KG hKG
          have hh : kindHas c.ty = true := g1
          refine ARun2.gom ?_
          refine ARun2.callM (odd12_c c (by omega) (hff hh).2.1 (hff hh).2.2) ?_
          exact ARun2.endm (hKG _ Le.grpM)
        refine ARun2.gom ?_
        refine ARun2.endm (hK9 _ ?_)
        refine AWp.condLM (fun c3 => ?_) (fun c3 => ?_)
        · skip
          have h11 : S = 11 := by
            rw [hst2]; revert c2 c3
            cases kindHas c.ty <;> cases sackBad c <;> by_cases ho : 0 ≤ oddI c <;> simp [ho]
          rw [h11, if_pos (by simp)] at hC
          refine AWp.regionW ?_
          refine AWp.ret ?_
          try simp only [thenQ, blockQ, noGo]
          refine bodyQ.m ?_
          clear hK9 K9 hK8 K8 hK7 K7 hK6 K6 hK5 K5 hK4 K4 hK3 K3 hK2 K2 hK1 K1
          rw [hC]
          first | done | exact Hand.go
        · skip
          have h0 : S = 0 := by
            rw [hst2]; revert c2 c3
            cases kindHas c.ty <;> cases sackBad c <;> by_cases ho : 0 ≤ oddI c <;> simp [ho]
          rw [h0, if_neg (by simp)] at hC
          refine AWp.skip ?_
          refine hK8 _ ?_
          refine AWp.drS [[(3, none)], [(68, some 0)], [(69, some 1)], [(1, none)], [(71, some 3)], [(70, some 2), (72, some 4)], [(73, some 5)]] fun G hG => ?_
          refine Dr.sim ?_
          try simp only [List.cons_append, List.nil_append]
          refine Dr.sim ?_
          try simp only [List.cons_append, List.nil_append]
          refine Dr.call (hcx) ?_
          try simp only [List.cons_append, List.nil_append]
          refine Dr.sim ?_
          try simp only [List.cons_append, List.nil_append]
          refine Dr.sim ?_
          try simp only [List.cons_append, List.nil_append]
          refine Dr.call (refAll2_c (classOf c.ty) c.kids hcls hs) ?_
          try simp only [List.cons_append, List.nil_append]
          refine Dr.sim ?_
          try simp only [List.cons_append, List.nil_append]
          refine Dr.finM (n := 7) [(5, 6)] [1] hG YtoapdhogghbojaaGreatDoor.Facts.mixed fun KD hKD => ?_
          refine ARun2.endm (hKD _ ?_); clear hKD KD hG G
          refine AWp.seqK fun K10 hK10 => ?_
          refine AWp.regionW ?_
          refine AWp.condLM (fun c4 => ?_) (fun c4 => ?_)
          · skip
            rw [if_pos (by simpa using c4)] at hC
            refine AWp.regionW ?_
            refine AWp.ret ?_
            try simp only [thenQ, blockQ, noGo]
            refine bodyQ.m ?_
            clear hK10 K10 hK9 K9 hK8 K8 hK7 K7 hK6 K6 hK5 K5 hK4 K4 hK3 K3 hK2 K2 hK1 K1
            rw [hC]
            first | done | exact Hand.go
          · skip
            rw [if_neg (by simpa using c4)] at hC
            refine AWp.skip ?_
            refine hK10 _ ?_
            refine AWp.seqK fun K11 hK11 => ?_
            refine AWp.regionM fun K12 hK12 => ?_
            refine ARun2.callM (size12_c c (by omega) hs) ?_
            refine ARun2.endm (hK12 _ ?_)
            refine AWp.condLM (fun c5 => ?_) (fun c5 => ?_)
            · skip
              rw [if_pos (by simpa using c5)] at hC
              refine AWp.regionW ?_
              refine AWp.ret ?_
              try simp only [thenQ, blockQ, noGo]
              refine bodyQ.m ?_
              clear hK12 K12 hK11 K11 hK10 K10 hK9 K9 hK8 K8 hK7 K7 hK6 K6 hK5 K5 hK4 K4 hK3 K3 hK2 K2 hK1 K1
              rw [hC]
              first | done | exact Hand.go
            · skip
              rw [if_neg (by simpa using c5)] at hC
              refine AWp.skip ?_
              refine hK11 _ ?_
              refine AWp.regionW ?_
              refine AWp.ret ?_
              try simp only [thenQ, blockQ, noGo]
              refine bodyQ.m ?_
              clear hK12 K12 hK11 K11 hK10 K10 hK9 K9 hK8 K8 hK7 K7 hK6 K6 hK5 K5 hK4 K4 hK3 K3 hK2 K2 hK1 K1
              rw [hC]
              first | done | exact Hand.go
end Go.Proofs.YtoapdhogghbojaaGreatDoor.C
/- Bytes counted up, one after the other. -/
set_option linter.unusedVariables false
set_option linter.unusedSimpArgs false
namespace Go.Proofs.YtoapdhogghbojaaGreatDoor.C
open Go.Abs
@[push_cast] theorem bstr_size (d : List UInt8) : (bstr d).size = d.length := by simp [bstr, ByteArray.size]
end Go.Proofs.YtoapdhogghbojaaGreatDoor.C
/- Entries of map literals. No condition. -/
namespace Go.Abs
set_option linter.unusedVariables false
set_option linter.unusedSectionVars false
set_option linter.unusedSimpArgs false
section
variable {P : Program} {ops : Array Oper} {E : Env} {s s' : AS} {ρ σ : List Value} {B : Nat → Prop} {a : Act} {w w' : World} {o : Oper} {rest : List Oper} {Q : AS → Prop} {R : Exit → AS → Prop}
variable {nds : List (List (Nat × Option Nat))} {vals : List AV} {G : Prop}
end
end Go.Abs
/- control: right, is, Number, Plain, Heartbeat, Abort, Report, Value, Info; and the reference's. -/
set_option linter.unusedVariables false
set_option linter.unusedSimpArgs false
namespace Go.Proofs.YtoapdhogghbojaaGreatDoor.C
open Go.Abs
theorem nSize_szs2 (l : List GNode) : nSize l ≤ 8 * szs l + 8 := by
  have h := nSize_sz (.mk 0 [] l)
  have e := vlen_eq (.mk 0 [] l)
  have e1 : nSize [GNode.mk 0 [] l] = 4 + vlen (.mk 0 [] l) := by simp [nSize, nLens, tlvSize, sumUp, upN, gapN]
  simp only [GNode.data, GNode.kids, List.length_nil] at e
  rw [e1, e, GNode.sz, List.length_nil] at h
  omega
structure Small (c : GChunk) : Prop where
  ty : c.ty < 256
  flags : c.flags < 256
  data : c.data.length ≤ 2 ^ 26
  kids : szs c.kids ≤ 2 ^ 26
theorem Small.check {c : GChunk} (h : Small c) : PC Tryz.prog 18 [chunkA false c] (errA (checkC c)) :=
  ccheck_c c h.ty (Nat.le_trans h.data (by decide)) (by have := nSize_szs2 c.kids; have := h.kids; omega)
theorem Small.check12 {c : GChunk} (h : Small c) : PC Tryz.prog 20 [chunkA false c] (nat (checkC c)) :=
  check12_c c h.flags (Nat.le_trans h.data (by decide)) (by have := nSize_szs2 c.kids; have := h.kids; omega)
theorem small_zero : Small .zero := ⟨by decide, by decide, by decide, by decide⟩
def sameC (a b : GChunk) : Bool := a.ty == b.ty && a.flags == b.flags && decide (a.data = b.data) && sameL a.kids b.kids
theorem sameC_self (a : GChunk) : sameC a a = true := by
  unfold sameC; rw [(sameL_iff _ _).2 rfl]; simp
theorem same12_c (a b : GChunk) (hd : a.data.length ≤ 2 ^ 40) (hs : szs a.kids ≤ 2 ^ 40) : PC Tryz.prog 15 [chunkA false a, chunkA false b] (bool (sameC a b)) := by
  refine PC.of_bodyW (by simp only [push_cast]) Tryz.func15 rfl (by rw [Tryz.ntmps15]; simp) ?_
  refine AWp.regionW ?_
  refine AWp.regionA fun K1 hK1 => ?_
  refine ARun.segm 6 fun KS hKS => ?_
  refine ARun2.endm (hKS _ ?_); clear hKS KS
  apply ARun.grpM 5 5 true 15 [2, 3, 10]
  · intro g5 KG hKG
    refine ARun2.gom ?_
    exact ARun2.endm (hKG _ Le.grpM)
  refine ARun.segm 2 fun KS hKS => ?_
  refine ARun2.endm (hKS _ ?_); clear hKS KS
  apply ARun.grpM 5 12 true 22 [2, 3, 17]
  · intro g12 KG hKG
    refine ARun2.gom ?_
    refine ARun2.callM (same01_c a.data b.data hd) ?_
    exact ARun2.endm (hKG _ Le.grpM)
  refine ARun.segm 2 fun KS hKS => ?_
  refine ARun2.endm (hKS _ ?_); clear hKS KS
  apply ARun.grpM 5 19 true 29 [24]
  · intro g19 KG hKG
    refine ARun2.gom ?_
    refine ARun2.callM (same08_c a.kids b.kids hs) ?_
    exact ARun2.endm (hKG _ Le.grpM)
  refine ARun2.gom ?_
  refine ARun2.endm (hK1 _ ?_)
  refine AWp.ret ?_
  try simp only [thenQ, blockQ, noGo]
  refine bodyQ.m ?_
  clear hK1 K1
  simp only [sameC]
  first | done | exact Hand.go
theorem Small.same {a b : GChunk} (h : Small a) : PC Tryz.prog 15 [chunkA false a, chunkA false b] (bool (sameC a b)) :=
  same12_c a b (Nat.le_trans h.data (by decide)) (Nat.le_trans h.kids (by decide))
def fewC (c : GChunk) : Bool := decide (c.data.length ≤ 70000) && fewN c.kids
theorem few12_c (c : GChunk) (h : Small c) : PC Tryz.prog 19 [chunkA false c] (bool (fewC c)) := by
  refine PC.of_bodyW (by simp only [push_cast]) Tryz.func19 rfl (by rw [Tryz.ntmps19]; simp) ?_
  refine AWp.regionW ?_
  refine AWp.regionA fun K1 hK1 => ?_
  refine ARun.segm 5 fun KS hKS => ?_
  refine ARun2.endm (hKS _ ?_); clear hKS KS
  apply ARun.grpM 3 4 true 10 [7]
  · intro g4 KG hKG
    refine ARun2.gom ?_
    refine ARun2.callM (few_c c.kids (Nat.le_trans h.kids (by decide))) ?_
    exact ARun2.endm (hKG _ Le.grpM)
  refine ARun2.gom ?_
  refine ARun2.endm (hK1 _ ?_)
  refine AWp.ret ?_
  try simp only [thenQ, blockQ, noGo]
  refine bodyQ.m ?_
  clear hK1 K1
  simp only [fewC]
  first | done | exact Hand.go
@[push_cast] theorem errA_nil (e : Nat) : nilIs .ifc (errA e) = some (e == 0) := nilIs_err e
end Go.Proofs.YtoapdhogghbojaaGreatDoor.C
/- control: Value, Info, Answer; the reference's Value, Info, Answer. -/
set_option linter.unusedVariables false
set_option linter.unusedSimpArgs false
namespace Go.Proofs.YtoapdhogghbojaaGreatDoor.C
open Go.Abs
/-- what is known of a chunk that is right -/
theorem check_zero {c : GChunk} (h : checkC c = 0) (hh : kindHas c.ty = true) : maskBad c.flags (kindOf c.ty).mask = false ∧ kfitsN (kindOf c.ty) c.data.length = true ∧ kkidsOk (kindOf c.ty) c.kids = true ∧ checkL (classOf c.ty) 1 c.kids = 0 := by
  have hs : startC c = 0 := by
    unfold checkC at h
    split at h
    · rename_i h1; exact absurd h h1
    · rename_i h1; simpa using h1
  have hl : checkL (classOf c.ty) 1 c.kids = 0 := by
    unfold checkC at h
    rw [hs, if_neg (by simp)] at h
    split at h
    · rename_i h1; exact absurd h h1
    · rename_i h1; simpa using h1
  unfold startC at hs
  rw [if_pos hh, preE_eq] at hs
  cases h1 : maskBad c.flags (kindOf c.ty).mask with
  | true => rw [h1] at hs; simp at hs
  | false =>
    cases h2 : kfitsN (kindOf c.ty) c.data.length with
    | false => rw [h1, h2] at hs; simp at hs
    | true =>
      cases h3 : kkidsOk (kindOf c.ty) c.kids with
      | false => rw [h1, h2, h3] at hs; simp at hs
      | true => exact ⟨rfl, rfl, rfl, hl⟩
theorem putB4_beN (d : List UInt8) (h : d.length = 4) : putB 4 (beN d) = d := by
  match d, h with
  | [a, b, c, e], _ => exact putB4_be a b c e
end Go.Proofs.YtoapdhogghbojaaGreatDoor.C
/- Structs of numbers compared. No condition. -/
namespace Go.Abs
set_option linter.unusedVariables false
set_option linter.unusedSectionVars false
set_option linter.unusedSimpArgs false
def pairsI : List AV → List AV → Option (List (IntKind × Int × Int))
  | [], [] => some []
  | .val (.int k a) :: r, .val (.int k' b) :: s => if k = k' then (pairsI r s).map ((k, a, b) :: ·) else none
  | _, _ => none
@[push_cast] def eqAll : List (IntKind × Int × Int) → Bool
  | [] => true
  | p :: r => (p.2.1 == p.2.2) && eqAll r
def isNum (P : Program) (T : TypeId) : Bool := match P.underlying T with
  | some (.int _) => true
  | _ => false
section
variable {P : Program} {ops : Array Oper} {E : Env} {s s' : AS} {ρ : List Value} {B : Nat → Prop} {a : Act} {w w' : World} {o : Oper} {rest : List Oper} {Q : AS → Prop} {R : Exit → AS → Prop} {nds : List (List (Nat × Option Nat))} {vals : List AV} {G : Prop}
theorem isNum_spec {T : TypeId} (h : isNum P T = true) : ∃ k, P.underlying T = some (.int k) := by
  unfold isNum at h
  split at h
  · rename_i k hk; exact ⟨k, hk⟩
  · cases h
theorem part_num {T : TypeId} (h : isNum P T = true) {xs : Array Value} {i : Nat} {v : Value} (hx : xs[i]? = some v) : (part T xs i).run P w = .ok v w := by
  obtain ⟨k, hk⟩ := isNum_spec h
  exact run_part_plain w (by simp [Program.plainKey, hk]) hx
theorem pairs_rel {bs : Nat} : ∀ {l m : List AV} {ls : List (IntKind × Int × Int)} {cs ds : List Value}, pairsI l m = some ls → RelL w B bs ρ l cs → RelL w B bs ρ m ds → ∀ (j : Nat) p, ls[j]? = some p → cs[j]? = some (.int p.1 p.2.1) ∧ ds[j]? = some (.int p.1 p.2.2)
  | [], [], _, _, _, h, _, _, j, p, hp => by simp only [pairsI, Option.some.injEq] at h; subst h; simp at hp
  | x :: r, y :: s, ls, cs, ds, h, hx, hy, j, p, hp => by
    unfold pairsI at h
    split at h
    · rename_i he _; cases he
    · rename_i k u r' k' v s' e1 e2
      cases e1; cases e2
      split at h
      · rename_i hkk
        subst hkk
        obtain ⟨q, hq, rfl⟩ := Option.map_eq_some_iff.1 h
        cases hx with
        | cons hx hxs =>
          cases hy with
          | cons hy hys =>
            have e3 := hx.val_eq
            have e4 := hy.val_eq
            subst e3; subst e4
            match j, hp with
            | 0, hp => simp at hp; subst hp; exact ⟨rfl, rfl⟩
            | j + 1, hp => exact pairs_rel hq hxs hys j p hp
      · cases h
    · cases h
  | [], _ :: _, _, _, _, h, _, _, _, _, _ => by simp [pairsI] at h
  | _ :: _, [], _, _, _, h, _, _, _, _, _ => by simp [pairsI] at h
/-- a literal in a drawn head, its elements told -/
theorem Dr.buildV {T : TypeId} {len sz : Nat} {parts : Array (Nat × Operand)} {xs : List AV} (k : Dr P ops s nds (vals ++ [.sl true sz xs]) G) (hn : ndsB nds = true := by first | rfl | decide) (hol : ops[vals.length]? = some o := by exact Go.Abs.evT)
    (ho : o.op = .buildSlice T len parts := by rfl) (hg : gd ops { s with fr := needFr s.fr vals (nds.getD vals.length []) } o = some true := by exact Go.Abs.evT) (hz : elSz P T = some sz := by exact Go.Abs.evT)
    (hp : parts.toList.map (·.1) = List.range len := by rfl) (hl : decide (len * sz ≤ 2 ^ 24) = true := by first | rfl | decide)
    (hxs : (parts.toList.map fun p => AS.ev { s with fr := needFr s.fr vals (nds.getD vals.length []) } p.2) = xs := by
      simp only [List.map_cons, List.map_nil]
      exact Go.Abs.evT)
    (hx : ∀ x ∈ xs, x.flat = true ∧ x.cells.length = sz := by exact Go.Abs.evT) : Dr P ops s nds vals G :=
  Dr.step hn hol (by
    have h := NSpec.buildSlice hg ho hz ⟨hp, fun p hpm => hx _ (by rw [← hxs]; exact List.mem_map.2 ⟨p, hpm, rfl⟩), of_decide_eq_true hl⟩
    rw [← hxs]; exact h) k
/-! ### a function's value with bound arguments is called -/
end
end Go.Abs
/- initial: is, Of, all, Cookie, Has, Echo, Streams. -/
set_option linter.unusedVariables false
set_option linter.unusedSimpArgs false
namespace Go.Proofs.YtoapdhogghbojaaGreatDoor.C
open Go.Abs
structure Vals where
  tag : Nat
  window : Nat
  out : Nat
  inn : Nat
  tsn : Nat
@[push_cast] def valsA (v : Vals) : AV := .agg [u32 v.tag, u32 v.window, u16 v.out, u16 v.inn, u32 v.tsn]
structure Vals.Ok (v : Vals) : Prop where
  tag : v.tag < 2 ^ 32
  window : v.window < 2 ^ 32
  out : v.out < 2 ^ 16
  inn : v.inn < 2 ^ 16
  tsn : v.tsn < 2 ^ 32
def Vals.zero : Vals := ⟨0, 0, 0, 0, 0⟩
def valsOf (d : List UInt8) : Vals := ⟨peekN 4 d 0, peekN 4 d 4, peekN 2 d 8, peekN 2 d 10, peekN 4 d 12⟩
end Go.Proofs.YtoapdhogghbojaaGreatDoor.C
/- initial: all, Cookie, Has, Echo, Extensions, Streams, Make; the reference's Make. -/
set_option linter.unusedVariables false
set_option linter.unusedSimpArgs false
namespace Go.Proofs.YtoapdhogghbojaaGreatDoor.C
open Go.Abs
end Go.Proofs.YtoapdhogghbojaaGreatDoor.C
/- initial.Make; wharfref01.Put, Numbers; wharfref15: Make, Of, Cookie, Has, Extensions. -/
set_option linter.unusedVariables false
set_option linter.unusedSimpArgs false
namespace Go.Proofs.YtoapdhogghbojaaGreatDoor.C
open Go.Abs
end Go.Proofs.YtoapdhogghbojaaGreatDoor.C
/- Frames written: tlv.All (the iterator itself), tlv.Put, tlv.Join; nodes written: frames, Encode. -/
set_option linter.unusedVariables false
set_option linter.unusedSimpArgs false
namespace Go.Proofs.YtoapdhogghbojaaGreatDoor.C
open Go.Abs
end Go.Proofs.YtoapdhogghbojaaGreatDoor.C
/- Nodes read: one, parse, Parse. -/
set_option linter.unusedVariables false
set_option linter.unusedSimpArgs false
namespace Go.Proofs.YtoapdhogghbojaaGreatDoor.C
open Go.Abs
end Go.Proofs.YtoapdhogghbojaaGreatDoor.C
/- Nodes written: frames, Encode. -/
set_option linter.unusedVariables false
set_option linter.unusedSimpArgs false
namespace Go.Proofs.YtoapdhogghbojaaGreatDoor.C
open Go.Abs
@[push_cast] theorem errA_zero : errA 0 = .val .nilIface := rfl
end Go.Proofs.YtoapdhogghbojaaGreatDoor.C
/- wharflaw08: coded, told, node.Walk (the iterator itself), awake. -/
set_option linter.unusedVariables false
set_option linter.unusedSimpArgs false
namespace Go.Proofs.YtoapdhogghbojaaGreatDoor.C
open Go.Abs
end Go.Proofs.YtoapdhogghbojaaGreatDoor.C
/- The reference's bytes of nodes: wharfref03.Bytes, wharfref08.Bytes. -/
set_option linter.unusedVariables false
set_option linter.unusedSimpArgs false
namespace Go.Proofs.YtoapdhogghbojaaGreatDoor.C
open Go.Abs
end Go.Proofs.YtoapdhogghbojaaGreatDoor.C
/- wharflaw08: NodeDepths. -/
set_option linter.unusedVariables false
set_option linter.unusedSimpArgs false
namespace Go.Proofs.YtoapdhogghbojaaGreatDoor.C
open Go.Abs
end Go.Proofs.YtoapdhogghbojaaGreatDoor.C
/- Nodes written and read again: the plain law. -/
set_option linter.unusedVariables false
set_option linter.unusedSimpArgs false
namespace Go.Proofs.YtoapdhogghbojaaGreatDoor.C
open Go.Abs
/-! ### frames, one after the other -/
end Go.Proofs.YtoapdhogghbojaaGreatDoor.C
/- wharflaw20: made, awake; ControlMatchesReference, ControlReads, ControlCauses. -/
set_option linter.unusedVariables false
set_option linter.unusedSimpArgs false
namespace Go.Proofs.YtoapdhogghbojaaGreatDoor.C
open Go.Abs
theorem u8_shx (x k : Nat) (hk : k ≤ 32) : IntKind.u8.wrap ((N x).fdiv (2 ^ min k IntKind.u32.bits)) = N (UInt8.ofNat (x / 2 ^ k)).toNat := by
  have h2 : IntKind.u32.bits = 32 := rfl
  rw [h2, Nat.min_eq_left hk, ← u8_low]
  congr 1
  have h3 : (2 : Int) ^ k = ((2 ^ k : Nat) : Int) := by simp
  rw [h3]
  show (x : Int).fdiv ((2 ^ k : Nat) : Int) = ((x / 2 ^ k : Nat) : Int)
  rw [Int.fdiv_eq_ediv_of_nonneg _ (Int.natCast_nonneg _)]; rfl
@[push_cast] theorem u8_shr24 (x : Nat) : IntKind.u8.wrap ((N x).fdiv (2 ^ min 24 IntKind.u32.bits)) = N (UInt8.ofNat (x / 256 ^ 3)).toNat := u8_shx x 24 (by decide)
@[push_cast] theorem u8_shr16 (x : Nat) : IntKind.u8.wrap ((N x).fdiv (2 ^ min 16 IntKind.u32.bits)) = N (UInt8.ofNat (x / 256 ^ 2)).toNat := u8_shx x 16 (by decide)
@[push_cast] theorem u8_shr8 (x : Nat) : IntKind.u8.wrap ((N x).fdiv (2 ^ min 8 IntKind.u32.bits)) = N (UInt8.ofNat (x / 256 ^ 1)).toNat := u8_shx x 8 (by decide)
theorem u8_shr0 (x : Nat) : IntKind.u8.wrap (N x) = N (UInt8.ofNat (x / 256 ^ 0)).toNat := by rw [Nat.pow_zero, Nat.div_one, IntKind.wrap_u8]; simp [N, UInt8.toNat_ofNat']
end Go.Proofs.YtoapdhogghbojaaGreatDoor.C
/- wharfref01.Put, Numbers; wharfref15.Make, Of, Has, Extensions. -/
set_option linter.unusedVariables false
set_option linter.unusedSimpArgs false
namespace Go.Proofs.YtoapdhogghbojaaGreatDoor.C
open Go.Abs
theorem lits4b (a b c d : UInt8) : [AV.val (.int .u8 (N a.toNat)), AV.val (.int .u8 (N b.toNat)), AV.val (.int .u8 (N c.toNat)), AV.val (.int .u8 (N d.toNat))] = bys [a, b, c, d] := rfl
theorem putB4_lit (x : Nat) : [UInt8.ofNat (x / 256 ^ 3), UInt8.ofNat (x / 256 ^ 2), UInt8.ofNat (x / 256 ^ 1), UInt8.ofNat (x / 256 ^ 0)] = putB 4 x := rfl
theorem putB4_drop (k x : Nat) (hk : k = 1 ∨ k = 2 ∨ k = 4) : (putB 4 x).drop (4 - k) = putB k x := by rcases hk with rfl | rfl | rfl <;> rfl
theorem sub4_w (k : Nat) (hk : k ≤ 4) : IntKind.i64.wrap (4 - N k) = N (4 - k) := by rw [IntKind.wrap_i64]; unfold N; omega
theorem flat_bd (k : Nat) (l : List Nat) (i : Nat) (hk : k = 1 ∨ k = 2 ∨ k = 4) (hn : l.length ≤ 2 ^ 30) : ((l.take i).flatMap (putB k)).length ≤ 2 ^ 32 := by
  rw [flat_len2, List.length_take]
  have : min i l.length * k ≤ 2 ^ 30 * 4 := Nat.mul_le_mul (by omega) (by omega)
  omega
end Go.Proofs.YtoapdhogghbojaaGreatDoor.C
/- Parameters that are right: rightP; what checkN says of known types; wharflaw's same; IndexFunc over nodes. -/
set_option linter.unusedVariables false
set_option linter.unusedSimpArgs false
namespace Go.Proofs.YtoapdhogghbojaaGreatDoor.C
open Go.Abs
@[push_cast] theorem u32s_drop (l : List Nat) (k : Nat) : (u32s l).drop k = u32s (l.drop k) := by simp [u32s]
end Go.Proofs.YtoapdhogghbojaaGreatDoor.C
/- Bytes read as nodes are the bytes of these nodes, which are right: the plain law. -/
set_option linter.unusedVariables false
set_option linter.unusedSimpArgs false
namespace Go.Proofs.YtoapdhogghbojaaGreatDoor.C
open Go.Abs
end Go.Proofs.YtoapdhogghbojaaGreatDoor.C
/- Chunks written and read again: the plain law. -/
set_option linter.unusedVariables false
set_option linter.unusedSimpArgs false
namespace Go.Proofs.YtoapdhogghbojaaGreatDoor.C
open Go.Abs
theorem fit_len {k : KForm} {n : Nat} (h : kfitsN k n = true) : k.least ≤ n ∧ n ≤ k.most := by
  unfold kfitsN at h; simp only [Bool.and_eq_true, decide_eq_true_eq] at h; exact h.1
theorem check_pre {c : GChunk} (h : checkC c = 0) (hh : kindHas c.ty = true) : preE c = .ok := by
  have hs : startC c = 0 := by
    unfold checkC at h
    split at h
    · rename_i h1; exact absurd h h1
    · rename_i h1; simpa using h1
  unfold startC at hs
  rw [if_pos hh] at hs
  exact (isN_ok (preE_isN c)).1 hs
end Go.Proofs.YtoapdhogghbojaaGreatDoor.C
/- chunk: Encode; the reference's Bytes. -/
set_option linter.unusedVariables false
set_option linter.unusedSimpArgs false
namespace Go.Proofs.YtoapdhogghbojaaGreatDoor.C
open Go.Abs
end Go.Proofs.YtoapdhogghbojaaGreatDoor.C
/- wharflaw15: awake; InitialParams, InitialChunks. -/
set_option linter.unusedVariables false
set_option linter.unusedSimpArgs false
namespace Go.Proofs.YtoapdhogghbojaaGreatDoor.C
open Go.Abs
end Go.Proofs.YtoapdhogghbojaaGreatDoor.C
/- wharfref08.Clone. -/
set_option linter.unusedVariables false
set_option linter.unusedSimpArgs false
namespace Go.Proofs.YtoapdhogghbojaaGreatDoor.C
open Go.Abs
theorem rclone_step (w : Nat) (ih : ∀ l : List GNode, wts l < w → szs l ≤ 2 ^ 40 → PC Tryz.prog 22 [.sl false 3 (nodesA false l)] (.sl true 3 (nodesA true l))) (l : List GNode) (hw : wts l ≤ w) (hs : szs l ≤ 2 ^ 40) :
    PC Tryz.prog 22 [.sl false 3 (nodesA false l)] (.sl true 3 (nodesA true l)) := by
  have hlen := szs_len l
  refine PC.of_bodyK (by simp only [push_cast]) Tryz.func22 rfl (by rw [Tryz.ntmps22]; simp) ?_
  refine AWp.regionW ?_
  refine AWp.regionW ?_
  refine AWp.seqK fun K1 hK1 => ?_
  refine AWp.regionW ?_
  refine AWp.block ?_
  -- SLOTS THAT TURN AND ARE NOT TOLD: [3]
  refine AWp.nilOwn 3 63 3 (by simp only [push_cast, ↓reduceIte, Nat.reduceEqDiff, Nat.reduceLT, Nat.reduceAdd, Nat.reduceSub, Nat.reduceMul, Nat.reduceLeDiff, Nat.reducePow, Int.reduceLT, Int.reduceToNat, reduceCtorEq, Int.reduceNeg, Int.reduceEq, Nat.reduceBEq, Nat.reduceBNe, Int.reduceBEq, Int.reduceBNe, String.reduceEq]) ?_
  simp only [push_cast, ↓reduceIte, Nat.reduceEqDiff, Nat.reduceLT, Nat.reduceAdd, Nat.reduceSub, Nat.reduceMul, Nat.reduceLeDiff, Nat.reducePow, Int.reduceLT, Int.reduceToNat, reduceCtorEq, Int.reduceNeg, Int.reduceEq, Nat.reduceBEq, Nat.reduceBNe, Int.reduceBEq, Int.reduceBNe, String.reduceEq]
  refine AWp.loopK [0, 3] (fun (i : Nat) => [(4, nat i)]) (fun i => [.row 63 3 (nodesA true (l.take i))]) (fun i => i ≤ l.length) (fun i => l.length - i) (0) ?_ (Nat.zero_le _) ?_
  · skip
    refine Le.m 1 ?_ ?_
    · exact Go.Abs.evM
    · exact Go.Abs.evN
  · intro i hi K2 hK2
    refine AWp.seqK fun K3 hK3 => ?_
    refine AWp.regionW ?_
    refine AWp.condLM (fun c0 => ?_) (fun c0 => ?_)
    · skip
      have hil : i < l.length := by simpa using c0
      have hm := List.getElem_mem hil
      have hn := szs_mem hm
      have he := GNode.sz_eq l[i]
      refine AWp.skip ?_
      refine hK3 _ ?_
      refine AWp.seqK fun K4 hK4 => ?_
      refine AWp.block ?_
      refine AWp.drE [[(3, none)], [(0, none)], [(4, none)], [(12, some 1), (13, some 2)], [(14, some 3)], [(15, some 4)], [(34, none)], [(0, none)], [(4, none)], [(18, some 7), (19, some 8)], [(20, some 9)], [(21, some 10)], [(34, none)], [(0, none)], [(4, none)], [(24, some 13), (25, some 14)], [(26, some 15)], [(27, some 16)], [(28, some 17)], [(16, some 5), (23, some 12), (29, some 18)], [(30, some 19)]] fun G hG => ?_
      refine Dr.sim ?_
      try simp only [List.cons_append, List.nil_append]
      refine Dr.sim ?_
      try simp only [List.cons_append, List.nil_append]
      refine Dr.sim ?_
      try simp only [List.cons_append, List.nil_append]
      refine Dr.idx (i) (nodeA false l[i]) ?_ ?_
      · exact nodesA_at _ _ _ hil
      try simp only [List.cons_append, List.nil_append]
      refine Dr.sim ?_
      try simp only [List.cons_append, List.nil_append]
      refine Dr.sim ?_
      try simp only [List.cons_append, List.nil_append]
      refine Dr.ownS ?_
      try simp only [List.cons_append, List.nil_append]
      refine Dr.sim ?_
      try simp only [List.cons_append, List.nil_append]
      refine Dr.sim ?_
      try simp only [List.cons_append, List.nil_append]
      refine Dr.idx (i) (nodeA false l[i]) ?_ ?_
      · exact nodesA_at _ _ _ hil
      try simp only [List.cons_append, List.nil_append]
      refine Dr.sim ?_
      try simp only [List.cons_append, List.nil_append]
      refine Dr.sim ?_
      try simp only [List.cons_append, List.nil_append]
      refine Dr.pubS (1) (bys l[i].data) ?_
      try simp only [List.cons_append, List.nil_append]
      refine Dr.sim ?_
      try simp only [List.cons_append, List.nil_append]
      refine Dr.sim ?_
      try simp only [List.cons_append, List.nil_append]
      refine Dr.idx (i) (nodeA false l[i]) ?_ ?_
      · exact nodesA_at _ _ _ hil
      try simp only [List.cons_append, List.nil_append]
      refine Dr.sim ?_
      try simp only [List.cons_append, List.nil_append]
      refine Dr.sim ?_
      try simp only [List.cons_append, List.nil_append]
      refine Dr.call (ih l[i].kids (by have := kids_lt hm; omega) (by omega)) ?_
      try simp only [List.cons_append, List.nil_append]
      refine Dr.sim ?_
      try simp only [List.cons_append, List.nil_append]
      refine Dr.buildV ?_
      try simp only [List.cons_append, List.nil_append]
      refine Dr.finCN (n := 21) [6, 12] 2 [[(3, none)], [(0, none)], [(4, none)], [(12, some 1), (13, some 2)], [(14, some 3)], [(15, some 4)], [], [(0, none)], [(4, none)], [(18, some 7), (19, some 8)], [(20, some 9)], [(21, some 10)], [(17, some 6), (22, some 11)], [(0, none)], [(4, none)], [(24, some 13), (25, some 14)], [(26, some 15)], [(27, some 16)], [(28, some 17)], [(16, some 5), (23, some 12), (29, some 18)], [(30, some 19)]] [(11, 0), (31, 20)] [0, 4] (CL.own (CL.appP (hb := by rw [YtoapdhogghbojaaGreatDoor.Facts.eb24, bys_len, List.length_nil]; omega) (hsm := by rw [bys_len, List.length_nil]; omega) CL.nil)) hG YtoapdhogghbojaaGreatDoor.Facts.mixed fun KD hKD => ?_
      clear hG G
      refine AAny.one 21 ?_
      refine ARun.opM ?_
      refine ARun2.appendM ?_ ?_ ?_
      · rw [YtoapdhogghbojaaGreatDoor.Facts.eb29, nodesA_len, List.length_take, List.length_cons, List.length_nil]; omega
      · rw [nodesA_len, List.length_take, List.length_cons, List.length_nil]; omega
      refine ARun2.endm ?_
      refine AAny.one 22 ?_
      refine ARun.opM ?_
      refine ARun2.endm ?_
      refine AAny.fin (hKD _ ?_); clear hKD KD
      refine hK4 _ ?_
      refine AWp.regionV ?_
      refine hK2 _ (i + 1) (by omega) (by omega) ?_
      refine Le.m 1 ?_ ?_
      · try simp only [push_cast, ↓reduceIte, Nat.reduceEqDiff, Nat.reduceLT, Nat.reduceAdd, Nat.reduceSub, Nat.reduceMul, Nat.reduceLeDiff, Nat.reducePow, Int.reduceLT, Int.reduceToNat, reduceCtorEq, Int.reduceNeg, Int.reduceEq, Nat.reduceBEq, Nat.reduceBNe, Int.reduceBEq, Int.reduceBNe, String.reduceEq]
        try simp (disch := omega) only [w_nat, w_add, w_addl, w_addr, w_sub, w_subl, w_mul, w_mull, w_mulr, w_u32, w_u16, w_u8, w_u32a, N_zero]
        first | done | skip
        rw [List.take_succ_eq_append_getElem hil, nodesA_snoc, nodeA_eq]
      · exact Go.Abs.evN
    · skip
      have hil : i = l.length := by simp at c0; omega
      subst hil
      refine AWp.exit ?_
      try simp only [thenQ, blockQ, noGo, reduceIte, Nat.reduceEqDiff]
      refine hK1 _ ?_
      refine AWp.pubD 0 ?_
      refine AWp.regionW ?_
      refine AWp.ret ?_
      try simp only [thenQ, blockQ, noGo]
      refine bodyQ.m ?_
      clear hK3 K3 hK2 K2 hK1 K1
      rw [List.take_length]
      first | done | exact Wk.go
theorem rclone_w : ∀ (w : Nat) (l : List GNode), wts l ≤ w → szs l ≤ 2 ^ 40 → PC Tryz.prog 22 [.sl false 3 (nodesA false l)] (.sl true 3 (nodesA true l)) := by
  intro w
  induction w with
  | zero => exact rclone_step 0 (fun l h => by omega)
  | succ w ih => exact rclone_step (w + 1) (fun l h => ih l (by omega))
theorem rclone_c (l : List GNode) (hs : szs l ≤ 2 ^ 40) : PC Tryz.prog 22 [.sl false 3 (nodesA false l)] (.sl true 3 (nodesA true l)) := rclone_w _ l (Nat.le_refl _) hs
end Go.Proofs.YtoapdhogghbojaaGreatDoor.C
/- Drawn regions that make a variable in their head and of whose head one operation may come up late. No condition. -/
namespace Go.Abs
set_option linter.unusedVariables false
set_option linter.unusedSectionVars false
set_option linter.unusedSimpArgs false
section
variable {P : Program} {ops : Array Oper} {E : Env} {s s' : AS} {ρ : List Value} {B : Nat → Prop} {a : Act} {w w' : World} {o : Oper} {rest : List Oper} {Q : AS → Prop} {R : Exit → AS → Prop} {nds : List (List (Nat × Option Nat))} {vals : List AV} {G : Prop}
/-- the tail waits for all of the head but q -/
def tailF (ops : Array Oper) (n q : Nat) : Bool :=
  decide (n < ops.size) && ((List.range n).all fun i => decide (i = q) || Region.waitsFor .any ops n i || (List.range n).any fun j => decide (i < j) && decide (j ≠ q) && Region.waitsFor .any ops j i) &&
  ((List.range ops.size).all fun j => decide (j ≤ n) || (List.range j).any fun i => decide (n ≤ i) && Region.waitsFor .any ops j i)
theorem tailF.tail {n q : Nat} (h : tailF ops n q = true) {listed : Array Bool} (inv : HeadInv .any ops n listed) : ∀ (d i : Nat), n - i = d → i < n → i ≠ q → listed.getD i true = false → ∀ t, n ≤ t → t ∉ Region.ready .any ops listed := by
  simp only [tailF, Bool.and_eq_true, decide_eq_true_eq] at h
  obtain ⟨⟨hn, hs⟩, hc⟩ := h
  intro d
  induction d using Nat.strongRecOn with
  | _ d ih =>
    intro i hd hi hiq hun t ht hr
    obtain ⟨_, ot, hot, hall⟩ := mem_ready.1 hr
    have htlt : t < ops.size := (Array.getElem?_eq_some_iff.1 hot).1
    by_cases htn : t = n
    · subst htn
      have h1 := List.all_eq_true.1 hs i (List.mem_range.2 hi)
      simp only [Bool.or_eq_true, decide_eq_true_eq] at h1
      rcases h1 with (h1 | h1) | h1
      · exact hiq h1
      · obtain ⟨oj, hoj, e, he, hb, hon⟩ := Region.waitsFor_spec h1
        have : oj = ot := Option.some.inj (hoj.symm.trans hot)
        subst this
        have h2 := hall e he hb
        rw [hon, getD_both hun] at h2
        cases h2
      · obtain ⟨j, hj, hj2⟩ := List.any_eq_true.1 h1
        simp only [Bool.and_eq_true, decide_eq_true_eq] at hj2
        obtain ⟨oj, hoj, e, he, hb, hon⟩ := Region.waitsFor_spec hj2.2
        have hjlt := List.mem_range.1 hj
        cases hl : listed.getD j false with
        | true =>
          have h2 := inv.closed j oj hoj hl e he hb
          rw [hon, getD_both hun] at h2
          cases h2
        | false =>
          have hjs : j < listed.size := by rw [inv.size]; omega
          exact ih (t - j) (by omega) j rfl (by omega) hj2.1.2 (getD_in hjs hl) t (Nat.le_refl _) hr
    · have h1 := List.all_eq_true.1 hc t (List.mem_range.2 htlt)
      simp only [Bool.or_eq_true, decide_eq_true_eq] at h1
      rcases h1 with h1 | h1
      · omega
      · obtain ⟨i', hi', h1⟩ := List.any_eq_true.1 h1
        simp only [Bool.and_eq_true, decide_eq_true_eq] at h1
        obtain ⟨o', ho', e, he, hb, hon⟩ := Region.waitsFor_spec h1.2
        have : o' = ot := Option.some.inj (ho'.symm.trans hot)
        subst this
        have h2 := hall e he hb
        have := List.mem_range.1 hi'
        rw [hon, getD_both (inv.tail i' h1.1 (by omega))] at h2
        cases h2
section fin
variable {id n : Nat} {y : Code} {T : TypeId} {z : List Value}
end fin
end
end Go.Abs
/- wharflaw15: InitialMatchesReference. -/
set_option linter.unusedVariables false
set_option linter.unusedSimpArgs false
namespace Go.Proofs.YtoapdhogghbojaaGreatDoor.C
open Go.Abs
theorem beN_put2b (n : Nat) (h : n < 2 ^ 16) : beN (putB 2 n) = n := by
  simp [putB, beN, List.range_succ, UInt8.toNat_ofNat']; omega
theorem beN_put4b (n : Nat) (h : n < 2 ^ 32) : beN (putB 4 n) = n := by
  simp [putB, beN, List.range_succ, UInt8.toNat_ofNat']; omega
theorem peek_put (k x i : Nat) (p q : List UInt8) (hp : p.length = i) (hb : beN (putB k x) = x) : peekN k (p ++ (putB k x ++ q)) i = x := by
  have hl := putB_len k x
  unfold peekN
  rw [if_pos (by simp only [List.length_append]; omega), List.drop_append_of_le_length (by omega), List.drop_of_length_le (by omega), List.nil_append, List.take_append_of_le_length (by omega), List.take_of_length_le (by omega), hb]
end Go.Proofs.YtoapdhogghbojaaGreatDoor.C
/- Maps of the call's own: an entry is written, whether its key is there or not; looked up without asking whether it is there. No condition. -/
namespace Go.Abs
set_option linter.unusedVariables false
set_option linter.unusedSectionVars false
set_option linter.unusedSimpArgs false
section
variable {P : Program} {ops : Array Oper} {E : Env} {s s' : AS} {ρ σ : List Value} {B : Nat → Prop} {a : Act} {w w' : World} {o : Oper} {rest : List Oper} {Q : AS → Prop} {R : Exit → AS → Prop}
/-! ### a literal with elements that begins a chain in a drawn head -/
variable {nds : List (List (Nat × Option Nat))} {vals : List AV} {G : Prop} {nds1 : List (List (Nat × Option Nat))} {X XL : List Ob} {i : Nat} {r : List Nat}
end
end Go.Abs
/- bytealg.IndexByte, as the model answers it. No condition. -/
namespace Go.Abs
set_option linter.unusedVariables false
set_option linter.unusedSectionVars false
set_option linter.unusedSimpArgs false
section
variable {P : Program} {ops : Array Oper} {E : Env} {s s' : AS} {ρ σ : List Value} {B : Nat → Prop} {a : Act} {w w' : World} {o : Oper} {rest : List Oper} {Q : AS → Prop} {R : Exit → AS → Prop}
end
end Go.Abs
namespace Go.Abs
section
variable {P : Program} {ops : Array Oper} {E : Env} {s s' : AS} {ρ σ : List Value} {B : Nat → Prop} {a : Act} {w w' : World} {o : Oper} {rest : List Oper} {Q : AS → Prop} {R : Exit → AS → Prop}
theorem obInval_nil (o : Ob) : Ob.invalL [] o = o := by
  cases o with
  | box T cs =>
    simp only [Ob.invalL]
    have : cs.map (AV.invalL []) = cs := by
      conv => rhs; rw [← List.map_id cs]
      exact List.map_congr_left fun x _ => by simp [AV.invalL]
    rw [this]
  | _ => simp [Ob.invalL]
/-- a call in a drawn head that makes a row of the call's own -/
theorem CSpec.callO {f : FuncId} {args : Array Operand} {ts : Array TypeId} {ys xs : List AV} {e : TypeId} {sz : Nat} (hp : OC P f ys [] (.own 0) [.row e sz xs]) (hx : AV.idsOkL (fun _ => false) xs = true) (hg : gd ops s o = some true)
    (ho : o.op = .call { callee := .value (.func f), args := args, argTypes := ts }) (hc : callable P f = true) (hsub : HandL [] (args.toList.map s.ev) ys) : CSpec P ops o s [] [.row e sz xs] (.own s.ob.length) := by
  intro E hE ρ B a w hs K Q' hK
  have hs' : RS E s ρ B a w := by simpa using hs
  rw [if_pos (gd_wanted hg hs')]
  unfold callable at hc
  split at hc <;> (try (simp at hc; done))
  rename_i fn hf
  simp only [Bool.and_eq_true, Bool.not_eq_true'] at hc
  have hr := run_call_func (P := P) (w := w) (args := args) (ts := ts) (ty := o.type) (ρe := a.eval) hf hc.1 hc.2 rfl
  have he : (execOp a.eval o).run P w = .ok (.enter f (args.map a.eval)) w := by
    simp only [execOp, ho]; exact hr
  have hrel : RelL w B E.bs ρ (args.toList.map s.ev) (args.toList.map a.eval) := RelL.map_ev hs' _
  have hsub' : SubXL [] (args.toList.map s.ev) ys := hsub
  refine owp_enter he ?_
  have hargs : args.map a.eval = (args.toList.map a.eval).toArray := by apply Array.ext'; simp
  rw [hargs]
  refine hp E.bs w [] B _ (hE.glb.call hs'.rw_ (fun _ h => h) (by intro v hv; simp at hv)) hs'.rw_.callee (hsub'.rel (Nat.le_refl _) (by intro i k hik; simp at hik) hrel) _ ?_
  rintro r' v τ' σ' B' w' ⟨rfl, rfl⟩ hw hv
  have haft := hs'.after (ids := []) (τ := []) List.nodup_nil trivial (by simpa [pick] using hw) (Nat.zero_le _)
  have e1 : obAfter s.ob [] [] [Ob.row e sz xs] = s.ob ++ [Ob.row e sz xs] := by
    unfold obAfter
    have h1 : s.ob.map (Ob.invalL (rowIds [] [])) = s.ob := by
      conv => rhs; rw [← List.map_id s.ob]
      exact List.map_congr_left fun x _ => obInval_nil x
    rw [h1]
    simp only [setAll, List.length_nil, List.drop_zero, List.map_cons, List.map_nil, Ob.ren, AV.renL_closed _ _ hx]
  have e2 : setAll ρ [] σ' ++ σ'.drop ([] : List Nat).length = ρ ++ σ' := by simp [setAll]
  rw [e1, e2] at haft
  have hl := hs'.rw_.len
  refine ⟨v, rfl, hK v w' (ρ ++ σ') B' ⟨haft.rw_, haft.jj⟩ hw.bsub (fun b hb => hw.block b (hs'.rw_.blt b hb) ⟨by rintro ⟨v, hv, _⟩; simp at hv, by simp⟩) (fun j u hj h => by rw [List.getElem?_append_left (by omega)]; exact h) ?_⟩
  cases hv with
  | own hq h1 => exact .own (by rw [← hl, List.getElem?_append_right (Nat.le_refl _), Nat.sub_self]; exact hq) h1
variable {nds : List (List (Nat × Option Nat))} {vals : List AV} {G : Prop} {nds1 : List (List (Nat × Option Nat))} {X XL : List Ob} {i : Nat} {r : List Nat}
theorem CL.callO {f : FuncId} {args : Array Operand} {ts : Array TypeId} {ys xs : List AV} {e : TypeId} {sz : Nat} (hp : OC P f ys [] (.own 0) [.row e sz xs]) (k : CL P ops s nds1 vals r [.row e sz xs] XL) (hx : AV.idsOkL (fun _ => false) xs = true := by simp only [push_cast]) (hol : ops[i]? = some o := by exact Go.Abs.evT)
    (ho : o.op = .call { callee := .value (.func f), args := args, argTypes := ts } := by rfl) (hg : gd ops { s with fr := needFr s.fr vals (nds1.getD i []) } o = some true := by exact Go.Abs.evT) (hc : callable P f = true := by exact Go.Abs.evT)
    (hsub : HandL [] (args.toList.map (AS.ev { s with fr := needFr s.fr vals (nds1.getD i []) })) ys := by
      exact Go.Abs.evH)
    (hv : vals.getD i .any = .own s.ob.length := by rfl) : CL P ops s nds1 vals (i :: r) [] XL :=
  ⟨_, fun o' ho' => by
    have : o' = o := Option.some.inj (ho'.symm.trans hol)
    subst this
    rw [hv]
    exact CSpec.callO (s := { s with fr := needFr s.fr vals (nds1.getD i []) }) hp hx hg ho hc hsub, k⟩
end
end Go.Abs
/- Rows of the call's own: zeros behind them; cleared. No condition. -/
namespace Go.Abs
set_option linter.unusedVariables false
set_option linter.unusedSectionVars false
set_option linter.unusedSimpArgs false
section
variable {P : Program} {ops : Array Oper} {E : Env} {s s' : AS} {ρ σ : List Value} {B : Nat → Prop} {a : Act} {w w' : World} {o : Oper} {rest : List Oper} {Q : AS → Prop} {R : Exit → AS → Prop}
/-! ### zeros behind a row -/
end
end Go.Abs
/- Lists of chunks, as abstract values. -/
set_option linter.unusedVariables false
set_option linter.unusedSimpArgs false
namespace Go.Proofs.YtoapdhogghbojaaGreatDoor.C
open Go.Abs
end Go.Proofs.YtoapdhogghbojaaGreatDoor.C
/- auth: Make, Of, Blank, Input, Needs, Pad. -/
set_option linter.unusedVariables false
set_option linter.unusedSimpArgs false
namespace Go.Proofs.YtoapdhogghbojaaGreatDoor.C
open Go.Abs
/-- is it an auth chunk? -/
def isAuth (c : GChunk) : Bool := c.ty == 15 && (checkC c == 0)
def codeOf (c : GChunk) : List UInt8 := if isAuth c = true then c.data.drop 4 else []
end Go.Proofs.YtoapdhogghbojaaGreatDoor.C
/- A call in a drawn head that reads a row of the call's own. No condition. -/
namespace Go.Abs
set_option linter.unusedVariables false
set_option linter.unusedSectionVars false
set_option linter.unusedSimpArgs false
section
variable {P : Program} {ops : Array Oper} {E : Env} {s s' : AS} {ρ σ : List Value} {B : Nat → Prop} {a : Act} {w w' : World} {o : Oper} {rest : List Oper} {Q : AS → Prop} {R : Exit → AS → Prop} {nds : List (List (Nat × Option Nat))} {vals : List AV} {G : Prop}
end
end Go.Abs
/- A drawn head that makes a variable (at any time) and a row of the call's own. No condition. -/
namespace Go.Abs
set_option linter.unusedVariables false
set_option linter.unusedSectionVars false
set_option linter.unusedSimpArgs false
set_option linter.unnecessarySimpa false
section
variable {P : Program} {ops : Array Oper} {E : Env} {s s' : AS} {ρ ρ' : List Value} {B B' : Nat → Prop} {a a' : Act} {w w' : World} {o : Oper} {rest : List Oper} {Q : AS → Prop} {R : Exit → AS → Prop} {nds : List (List (Nat × Option Nat))} {vals : List AV} {G : Prop}
def slotO (T : TypeId) (z : List Value) (b : Bool) : Ob := match b with | true => .box T (z.map AV.val) | false => .gone
theorem Ob.inval_ids {k : Nat} {o : Ob} (h : obIds (· != k) o = true) : Ob.inval k o = o := by
  cases o with
  | box T cs =>
    simp only [Ob.inval, Ob.box.injEq, true_and]
    simp only [obIds] at h
    refine (List.map_congr_left (g := id) fun x hx => ?_).trans (List.map_id _)
    unfold AV.inval
    rw [if_pos ((AV.idsOkL_iff _ _).1 h x hx)]; rfl
  | row T sz xs =>
    simp only [obIds] at h
    simp only [Ob.inval]
    rw [if_pos h]
  | mp es => rfl
  | gone => rfl
theorem RJ.gone (h : RJ E s s.ob ρ B w) : RJ E s (s.ob ++ [.gone]) (ρ ++ [undef]) B w := by
  have h1 : RW E (s.ob ++ [.gone]) (ρ ++ [undef]) B w := h.1.new (same_refl w) trivial (by intro b hb; cases hb)
  exact ⟨h1, h.2.chg ⟨rfl, rfl, rfl, Nat.le_refl _, fun _ _ _ => rfl, Dof.new h.1.len (n := w.heap.size) (by intro b hb; cases hb), fun _ h => h, fun _ h => .inl h⟩ h1.bd⟩
theorem RJ.fill {T : TypeId} {z : List Value} {ob X : List Ob} {k : Nat} (h : RJ E s (ob ++ [slotO T z false] ++ X) ρ B w) (hk : ob.length = k) (hm : E.ρ0.length ≤ k ∧ E.pp.length ≤ k) (hone : ∀ x ∈ z.map AV.val, x.one = true) (hob : ob.all (obIds (· != k)) = true) (hX : X.all (obIds (· != k)) = true) :
    RJ E s (ob ++ [slotO T z true] ++ X) (ρ.set k (.pointer (some ⟨w.heap.size, 0, none⟩))) B (w.alloc (.cells z.toArray T)) := by
  obtain ⟨h, hj⟩ := h
  subst hk
  have hs := same_alloc w (.cells z.toArray T)
  have hBw : ∀ b, B b → (w.alloc (.cells z.toArray T)).heap[b]? = w.heap[b]? := fun b hb => hs.block b (h.blt b hb)
  have hsz : (w.alloc (.cells z.toArray T)).heap.size = w.heap.size + 1 := by simp
  have hlen := h.len
  have hkl : ob.length < ρ.length := by rw [hlen]; simp
  have tk : ∀ {i : Nat} {o : Ob}, (ob ++ [slotO T z true] ++ X)[i]? = some o → (i = ob.length ∧ o = slotO T z true) ∨ (i ≠ ob.length ∧ (ob ++ [slotO T z false] ++ X)[i]? = some o ∧ obIds (· != ob.length) o = true) := by
    intro i o hi
    rw [List.append_assoc] at hi
    rw [List.append_assoc]
    rcases Nat.lt_trichotomy i ob.length with hlt | rfl | hgt
    · rw [List.getElem?_append_left hlt] at hi
      refine .inr ⟨Nat.ne_of_lt hlt, by rw [List.getElem?_append_left hlt]; exact hi, ?_⟩
      exact List.all_eq_true.1 hob o (List.mem_of_getElem? hi)
    · rw [List.getElem?_append_right (Nat.le_refl _), Nat.sub_self] at hi
      exact .inl ⟨rfl, (by simpa using hi.symm)⟩
    · rw [List.getElem?_append_right (Nat.le_of_lt hgt)] at hi
      have e : i - ob.length = (i - ob.length - 1) + 1 := by omega
      rw [e] at hi
      refine .inr ⟨Nat.ne_of_gt hgt, ?_, ?_⟩
      · rw [List.getElem?_append_right (Nat.le_of_lt hgt), e]; simpa using hi
      · have hi' : X[i - ob.length - 1]? = some o := by simpa using hi
        exact List.all_eq_true.1 hX o (List.mem_of_getElem? hi')
  have hne : ∀ {i : Nat} {v u : Value}, i ≠ ob.length → (ρ.set ob.length v)[i]? = some u → ρ[i]? = some u := fun hi h => by rw [List.getElem?_set_ne (Ne.symm hi)] at h; exact h
  have hself : ∀ {v u : Value}, (ρ.set ob.length v)[ob.length]? = some u → u = v := fun h => by rw [List.getElem?_set_self hkl] at h; exact (Option.some.inj h).symm
  have hrw : RW E (ob ++ [slotO T z true] ++ X) (ρ.set ob.length (.pointer (some ⟨w.heap.size, 0, none⟩))) B (w.alloc (.cells z.toArray T)) := by
    refine { ep := h.ep, os := hs.os.trans h.os, tape := hs.tape.trans h.tape, output := hs.output.trans h.output, size := Nat.le_trans h.size hs.size,
             block := fun k h1 h2 => (hs.block k (Nat.lt_of_lt_of_le h1 h.size)).trans (h.block k h1 h2), pre := ?_, bsub := h.bsub, bnew := h.bnew,
             blt := fun b hb => Nat.lt_of_lt_of_le (h.blt b hb) hs.size, len := by simpa using hlen, obs := ?_, dis := ?_, prv := ?_ }
    · intro j v h1 h2
      have hj : j < ob.length := by
        rcases h1 with h1 | h1
        · have := get_lt h1; omega
        · have := get_lt h1; omega
      rw [List.getElem?_set_ne (by omega)]; exact h.pre j v h1 h2
    · intro i o hi
      rcases tk hi with ⟨rfl, rfl⟩ | ⟨h1, h2, h3⟩
      · refine ⟨w.heap.size, z, (0, 0), List.getElem?_set_self hkl, alloc_get _ _, .inl (by simp), RelL.vals z, fun c hc => AV.oc_of (hone c hc)⟩
      · have := RO.inval (k := ob.length) (v' := .pointer (some ⟨w.heap.size, 0, none⟩)) hBw h1 (fun u b hl hu hbu => hs.block b (h.prv i o u b h2 hl hu hbu).2.1) (h.obs i o h2)
        rw [Ob.inval_ids h3] at this
        exact this
    · intro i j o1 o2 u1 u2 b hij h1 l1 h2 l2 r1 r2 b1 b2
      rcases tk h1 with ⟨rfl, rfl⟩ | ⟨p1, p2, p3⟩ <;> rcases tk h2 with ⟨rfl, rfl⟩ | ⟨q1, q2, q3⟩
      · exact hij rfl
      · have e1 := hself r1
        subst e1
        have := (h.prv j o2 u2 b q2 l2 (hne q1 r2) b2).2.1
        simp only [blk, Option.some.injEq] at b1
        omega
      · have e1 := hself r2
        subst e1
        have := (h.prv i o1 u1 b p2 l1 (hne p1 r1) b1).2.1
        simp only [blk, Option.some.injEq] at b2
        omega
      · exact h.dis i j o1 o2 u1 u2 b hij p2 l1 q2 l2 (hne p1 r1) (hne q1 r2) b1 b2
    · intro i o u b hi hl hu hbu
      rcases tk hi with ⟨rfl, rfl⟩ | ⟨p1, p2, p3⟩
      · have e1 := hself hu
        subst e1
        simp only [blk, Option.some.injEq] at hbu
        subst hbu
        exact ⟨fun hB => by have := h.blt _ hB; omega, by omega, .inl h.size⟩
      · obtain ⟨a1, a2, a3⟩ := h.prv i o u b p2 hl (hne p1 hu) hbu
        exact ⟨a1, Nat.lt_of_lt_of_le a2 hs.size, a3⟩
  refine ⟨hrw, hj.chg ⟨hs.os, hs.tape, hs.output, hs.size, fun b hb _ => hs.block b hb, ?_, fun _ h => h, fun _ h => .inl h⟩ hrw.bd⟩
  rintro b ⟨i, o, u, h1, h2, h3, h4⟩
  rcases tk h1 with ⟨rfl, rfl⟩ | ⟨p1, p2, p3⟩
  · have e1 := hself h3
    subst e1
    simp only [blk, Option.some.injEq] at h4
    exact .inr (Nat.le_of_eq h4)
  · exact .inl ⟨i, o, u, p2, h2, hne p1 h3, h4⟩
/-! ### in the walk -/
theorem slot_ids (T : TypeId) (z : List Value) (p : Nat → Bool) (bb : Bool) : obIds p (slotO T z bb) = true := by
  cases bb
  · rfl
  · show AV.idsOkL p (z.map AV.val) = true
    rw [AV.idsOkL_iff]
    intro x hx
    obtain ⟨v, _, rfl⟩ := List.mem_map.1 hx
    rfl
theorem obIds_mono {p q : Nat → Bool} (h : ∀ k, p k = true → q k = true) (o : Ob) (ho : obIds p o = true) : obIds q o = true := by
  cases o with
  | box T cs => exact idsOkL_mono h cs ho
  | row T sz xs => exact idsOkL_mono h xs ho
  | mp es => rfl
  | gone => rfl
theorem AS.ev_ob (s : AS) (X : List Ob) : AS.ev { s with ob := X } = AS.ev s := by
  funext y
  cases y with
  | const v => cases v <;> rfl
  | _ => rfl
/-- the chain's operations beside a variable that may be made at any time -/
def CLA (P : Program) (ops : Array Oper) (s : AS) (T : TypeId) (z : List Value) (nds1 : List (List (Nat × Option Nat))) (vals : List AV) : List Nat → List Ob → List Ob → Prop
  | [], X, XL => X = XL
  | i :: r, X, XL => ∃ X', X'.all (obIds (· != s.ob.length)) = true ∧ (∀ bb o, ops[i]? = some o → CSpec P ops o { s with fr := needFr s.fr vals (nds1.getD i []), ob := s.ob ++ [slotO T z bb] } X X' (vals.getD i .any)) ∧ CLA P ops s T z nds1 vals r X' XL
theorem CLA.obs {T : TypeId} {z : List Value} {nds1 : List (List (Nat × Option Nat))} : ∀ {ci : List Nat} {X XL : List Ob}, X.all (obIds (· != s.ob.length)) = true → CLA P ops s T z nds1 vals ci X XL → ∃ obs : Nat → List Ob, obs 0 = X ∧ obs ci.length = XL ∧ (∀ k, (obs k).all (obIds (· != s.ob.length)) = true) ∧
    ∀ bb l o, l < ci.length → ops[ci.getD l 0]? = some o → CSpec P ops o { s with fr := needFr s.fr vals (nds1.getD (ci.getD l 0) []), ob := s.ob ++ [slotO T z bb] } (obs l) (obs (l + 1)) (vals.getD (ci.getD l 0) .any)
  | [], X, XL, hX, h => ⟨fun _ => X, rfl, h, fun _ => hX, fun bb l o hl => by simp at hl⟩
  | i :: r, X, XL, hX, ⟨X', h0, h1, h2⟩ => by
    obtain ⟨obs, a1, a2, a4, a3⟩ := CLA.obs h0 h2
    refine ⟨fun l => match l with | 0 => X | l + 1 => obs l, rfl, a2, fun k => ?_, fun bb l o hl ho => ?_⟩
    · cases k with
      | zero => exact hX
      | succ k => exact a4 k
    · cases l with
      | zero =>
        have := h1 bb o (by simpa using ho)
        simp only [List.getD_cons_zero]
        rw [a1]; exact this
      | succ l =>
        simp only [List.getD_cons_succ] at ho ⊢
        exact a3 bb l o (by simpa using hl) ho
section cl
variable {T : TypeId} {z : List Value} {nds1 : List (List (Nat × Option Nat))} {X XL : List Ob} {i : Nat} {r : List Nat}
theorem CLA.nil : CLA P ops s T z nds1 vals [] X X := rfl
theorem CLA.appP {T' T2 e : TypeId} {x y : Operand} {sz : Nat} {xs ys zs : List AV} (k : CLA P ops s T z nds1 vals r [.gone] XL) (hol : ops[i]? = some o := by exact Go.Abs.evT) (ho : o.op = .call { callee := .builtin .append, args := #[x, y], argTypes := #[T', T2] } := by rfl)
    (hg : gd ops { s with fr := needFr s.fr vals (nds1.getD i []) } o = some true := by exact Go.Abs.evT) (hx : AS.ev { s with fr := needFr s.fr vals (nds1.getD i []) } x = .own (s.ob.length + 1) := by exact Go.Abs.evT) (hz : elSz P T' = some sz := by exact Go.Abs.evT) (he : elT P T' = some e := by exact Go.Abs.evT) (h2 : (isSlc P T2 || isStr P T2) = true := by exact Go.Abs.evT)
    (hsrc : srcOf { s with fr := needFr s.fr vals (nds1.getD i []) } sz (AS.ev { s with fr := needFr s.fr vals (nds1.getD i []) } y) = some ys := by exact Go.Abs.evT) (hzs : xs ++ ys = zs := by
        exact Go.Abs.evE)
    (hid : AV.idsOkL (· != s.ob.length + 1) xs = true := by exact Go.Abs.evT) (hid2 : AV.idsOkL (· != s.ob.length + 1) ys = true := by exact Go.Abs.evT) (hob : s.ob.all (obIds (fun j => decide (j < s.ob.length))) = true := by exact Go.Abs.evT) (hv : vals.getD i .any = .sl true sz zs := by rfl)
    (hm : decide (s.m ≤ s.ob.length) = true := by exact Go.Abs.evT) (hb : 2 * (xs.length + ys.length) * elB P T' ≤ 2 ^ 48) (hsm : xs.length + ys.length ≤ 2 ^ 60) : CLA P ops s T z nds1 vals (i :: r) [.row e sz xs] XL := by
  refine ⟨[.gone], rfl, fun bb o' ho' => ?_, k⟩
  have : o' = o := Option.some.inj (ho'.symm.trans hol)
  subst this
  have hev := AS.ev_ob { s with fr := needFr s.fr vals (nds1.getD i []) } (s.ob ++ [slotO T z bb])
  have hl : ({ s with fr := needFr s.fr vals (nds1.getD i []), ob := s.ob ++ [slotO T z bb] } : AS).ob.length = s.ob.length + 1 := by simp
  have hobb : (s.ob ++ [slotO T z bb]).all (obIds (fun j => decide (j < (s.ob ++ [slotO T z bb]).length))) = true := by
    rw [List.all_append, Bool.and_eq_true]
    refine ⟨List.all_eq_true.2 fun q hq => obIds_mono (fun j hj => ?_) q (List.all_eq_true.1 hob q hq), by simp only [List.all_cons, List.all_nil, slot_ids, Bool.and_true]⟩
    simp only [decide_eq_true_eq] at hj ⊢
    simp; omega
  have h := CSpec.append (P := P) (ops := ops) (s := { s with fr := needFr s.fr vals (nds1.getD i []), ob := s.ob ++ [slotO T z bb] }) (o := o') (T := T') (T2 := T2) (x := x) (y := y) (sz := sz) (e := e) (xs := xs) (ys := ys) hg ho
    (by rw [hev, hl]; exact hx) hz he (by simpa using h2) (by rw [hev]; exact srcOf_new hsrc) hb hsm (by rw [hl]; exact hid) (by rw [hl]; exact hid2) hobb
  have h' := CSpec.pub h (by have := of_decide_eq_true hm; rw [hl]; exact Nat.le_succ_of_le this)
  rw [hzs] at h'
  rw [hv]; exact h'
end cl
/-- the chain's values do not name the slot -/
def chIds (p : Nat → Bool) (ci : List Nat) : Nat → List AV → Bool
  | _, [] => true
  | i, x :: r => (bif ciB ci i then x.idsOk p else true) && chIds p ci (i + 1) r
attribute [push_cast] chIds slotO cond_true cond_false
end
end Go.Abs
/- A closure's value is called in a drawn head. No condition. -/
namespace Go.Abs
set_option linter.unusedVariables false
set_option linter.unusedSectionVars false
set_option linter.unusedSimpArgs false
section
variable {P : Program} {ops : Array Oper} {E : Env} {s s' : AS} {ρ σ : List Value} {B : Nat → Prop} {a : Act} {w w' : World} {o : Oper} {rest : List Oper} {Q : AS → Prop} {R : Exit → AS → Prop} {nds : List (List (Nat × Option Nat))} {vals : List AV} {G : Prop}
theorem NSpec.callV {f : FuncId} {g : Operand} {cap : List AV} {args : Array Operand} {ts : Array TypeId} {ys : List AV} {r : AV} (hgd : gd ops s o = some true) (ho : o.op = .call { callee := .value g, args := args, argTypes := ts }) (hg : s.ev g = .fn (.func f) [] cap) (hc : callable P f = true)
    (hp : PC P f ys r) (hsub : SubL (args.toList.map s.ev ++ cap) ys) : NSpec P ops o s r := by
  intro E hE ρ B a w ob hs K Q' hK
  rw [if_pos (gd_wanted (s := { s with ob := s.ob ++ ob }) hgd hs)]
  have hev : AS.ev { s with ob := s.ob ++ ob } = s.ev := funext fun y => by cases y <;> rfl
  have hfn := hs.ev g
  rw [hev, hg] at hfn
  obtain ⟨v, hv⟩ : ∃ v, a.eval g = v := ⟨_, rfl⟩
  rw [hv] at hfn
  cases hfn with
  | fn r1 r2 =>
    rename_i cs ds
    cases r1
    have he : (execOp a.eval o).run P w = .ok (.enter f (args.map a.eval ++ ds.toArray)) w := by
      simp only [execOp, ho]; exact run_callV hc (by simpa using hv)
    have hrel0 : RelL w B E.bs ρ (args.toList.map s.ev) (args.toList.map a.eval) := by have := RelL.map_ev hs args.toList; rwa [hev] at this
    have hrel : RelL w B E.bs ρ (args.toList.map s.ev ++ cap) (args.toList.map a.eval ++ ds) := hrel0.append r2
    refine owp_enter he ?_
    have hargs : args.map a.eval ++ ds.toArray = (args.toList.map a.eval ++ ds).toArray := by apply Array.ext'; simp
    rw [hargs]
    refine hp.2 E.bs w [] B _ (hE.glb.call hs.rw_ (fun _ h => h) (by intro v hv; simp at hv)) hs.rw_.callee (hsub.rel (Nat.le_refl _) hrel) _ ?_
    rintro r' v τ' ρ' B' w' ⟨rfl, rfl⟩ hw hv
    have hρ : ρ' = [] := by have := hw.len; simpa using this
    subst hρ
    obtain ⟨hb, hsame⟩ := hs.rw_.back hw
    refine ⟨v, rfl, hK _ _ B' (hs.back hw).rj hw.bsub (fun b h => hsame.block b (hs.rw_.blt b h)) ?_⟩
    refine (hv.mono (fun _ h => h) (fun _ _ => rfl) (Nat.le_refl _) (fun _ _ h => h)).ids (p := fun _ => false) ?_ hp.1
    intro _ _ h; simp at h
theorem Dr.callV {f : FuncId} {g : Operand} {cap : List AV} {args : Array Operand} {ts : Array TypeId} {ys : List AV} {r : AV} (hp : PC P f ys r) (k : Dr P ops s nds (vals ++ [r]) G) (hn : ndsB nds = true := by first | rfl | decide) (hol : ops[vals.length]? = some o := by exact Go.Abs.evT)
    (ho : o.op = .call { callee := .value g, args := args, argTypes := ts } := by rfl) (hgd : gd ops { s with fr := needFr s.fr vals (nds.getD vals.length []) } o = some true := by exact Go.Abs.evT) (hg : AS.ev { s with fr := needFr s.fr vals (nds.getD vals.length []) } g = .fn (.func f) [] cap := by exact Go.Abs.evT) (hc : callable P f = true := by first | exact Go.Abs.evT | assumption)
    (hsub : HandL [] (args.toList.map (AS.ev { s with fr := needFr s.fr vals (nds.getD vals.length []) }) ++ cap) ys := by
      exact Go.Abs.evH) : Dr P ops s nds vals G :=
  Dr.step hn hol (NSpec.callV (s := { s with fr := needFr s.fr vals (nds.getD vals.length []) }) hgd ho hg hc hp (SubL.of hsub)) k
end
end Go.Abs
/- data: Make, Of. -/
set_option linter.unusedVariables false
set_option linter.unusedSimpArgs false
namespace Go.Proofs.YtoapdhogghbojaaGreatDoor.C
open Go.Abs
/-- what a data chunk has -/
structure GPart where
  inter : Bool
  tsn : Nat
  stream : Nat
  seq : Nat
  proto : Nat
  beg : Bool
  fin : Bool
  unord : Bool
  now : Bool
  user : List UInt8
@[push_cast] def partA (b : Bool) (p : GPart) : AV := .agg [bool p.inter, u32 p.tsn, u16 p.stream, u32 p.seq, u32 p.proto, bool p.beg, bool p.fin, bool p.unord, bool p.now, .sl b 1 (bys p.user)]
def GPart.zero : GPart := ⟨false, 0, 0, 0, 0, false, false, false, false, []⟩
def orF (f b : Nat) (on : Bool) : Nat := bif on then f ||| b else f
theorem or_tab : ((List.range 16).all fun f => [1, 2, 4, 8].all fun b => bitsV .or .u8 (N f) (N b) == N (f ||| b) && decide (f ||| b < 16)) = true := by kernel_rfl
theorem or_eq (f b : Nat) (hf : f < 16) (hb : b ∈ [1, 2, 4, 8]) : bitsV .or .u8 (N f) (N b) = N (f ||| b) ∧ f ||| b < 16 := by
  have h := List.all_eq_true.1 (List.all_eq_true.1 or_tab f (List.mem_range.2 hf)) b hb
  simpa using h
theorem orF_lt {f b : Nat} (on : Bool) (hf : f < 16) (hb : b ∈ [1, 2, 4, 8]) : orF f b on < 16 := by
  cases on
  · exact hf
  · exact (or_eq f b hf hb).2
theorem dput_c (b f : Nat) (on : Bool) (hf : f < 16) (hb : b ∈ [1, 2, 4, 8]) : OC Tryz.prog 44 [u8 b, bool on, .ptr 0 0] [.box 31 [.val (.int .u8 0), u8 f, .val (.slice none 0 0), .val (.slice none 0 0)]] (.tup []) [.box 31 [.val (.int .u8 0), u8 (orF f b on), .val (.slice none 0 0), .val (.slice none 0 0)]] := by
  have hor := (or_eq f b hf hb).1
  refine OC.of_body [0] (by intro k hk; simp at hk; subst hk; rfl) Tryz.func44 rfl (by rw [Tryz.ntmps44]; simp) ?_
  refine AWp.regionW ?_
  refine AWp.condLM (fun c0 => ?_) (fun c0 => ?_)
  · skip
    have hon : on = true := by simpa using c0
    subst hon
    refine AWp.regionV ?_
    try simp only [thenQ, blockQ, noGo]
    refine bodyQ.n ?_
    refine endO.m ?_ ?_
    · first | done | rfl | (rw [hor]; rfl)
    · skip
      first | done | exact Hand.go
  · skip
    have hon : on = false := by simpa using c0
    subst hon
    refine AWp.skip ?_
    try simp only [thenQ, blockQ, noGo]
    refine bodyQ.n ?_
    refine endO.m ?_ ?_
    · first | done | rfl | (rw [hor]; rfl)
    · skip
      first | done | exact Hand.go
/-- the flags of a description -/
def flagsP (p : GPart) : Nat := orF (orF (orF (orF 0 1 p.fin) 2 p.beg) 4 p.unord) 8 p.now
def seqP (p : GPart) : List UInt8 := bif p.inter then [0, 0] ++ putB 4 p.seq else putB 2 p.seq
def dataP (p : GPart) : List UInt8 := [putB 4 p.tsn, putB 2 p.stream, seqP p, putB 4 p.proto, p.user].flatten
def dataC (p : GPart) : GChunk := ⟨bif p.inter then 64 else 0, flagsP p, dataP p, []⟩
structure GPart.Ok (p : GPart) : Prop where
  tsn : p.tsn < 2 ^ 32
  stream : p.stream < 2 ^ 16
  seq : p.seq < 2 ^ 32
  proto : p.proto < 2 ^ 32
  user : p.user.length ≤ 2 ^ 24
theorem seqP_len (p : GPart) : (seqP p).length = bif p.inter then 6 else 2 := by unfold seqP; cases p.inter <;> simp [putB_len]
theorem dataP_len (p : GPart) : (dataP p).length = (bif p.inter then 16 else 12) + p.user.length := by
  unfold dataP
  simp only [List.flatten_cons, List.flatten_nil, List.length_append, putB_len, seqP_len, List.length_nil]
  cases p.inter <;> simp <;> omega
theorem flagsP_lt (p : GPart) : flagsP p < 16 := by
  unfold flagsP
  exact orF_lt _ (orF_lt _ (orF_lt _ (orF_lt _ (by decide) (by decide)) (by decide)) (by decide)) (by decide)
theorem small_data {p : GPart} (h : p.Ok) : Small (dataC p) := by
  refine ⟨?_, ?_, ?_, ?_⟩
  · simp only [dataC]; cases p.inter <;> decide
  · have := flagsP_lt p; simp only [dataC]; omega
  · have := dataP_len p; have := h.user; simp only [dataC]; cases hh : p.inter <;> simp_all <;> omega
  · simp [dataC, szs]
def makePt (p : GPart) : GChunk × Bool := if (!p.inter && decide (65535 < p.seq)) = false ∧ checkC (dataC p) = 0 then (dataC p, true) else (.zero, false)
theorem hp_putk (k id : Nat) (hk : k = 1 ∨ k = 2 ∨ k = 4) (h : id < 2 ^ 32) : PC Tryz.prog 45 [nat k, .sl false 1 [u32 id]] (.sl true 1 (bys (putB k id))) := by
  have := wire_put k [id] hk (by intro x hx; simp at hx; omega) (by simp)
  simpa [u32s, List.flatMap_cons, List.flatMap_nil] using this
theorem djoin_c (l : List (List UInt8)) (h : lens l ≤ 2 ^ 25) (hn : l.length ≤ 2 ^ 10) : PC Tryz.prog 46 [.sl false 1 (rowsA l)] (.sl true 1 (bys l.flatten)) := wjoin_c l (by omega) (by omega)
set_option maxHeartbeats 1000000 in
theorem dmake_c (p : GPart) (h : p.Ok) : PC Tryz.prog 12 [partA false p] (.tup [chunkA true (makePt p).1, bool (makePt p).2]) := by
  obtain ⟨inter, tsn, stream, seq, proto, beg, fin, unord, now, user⟩ := p
  have hsm := (small_data h).check
  obtain ⟨ht, hst, hse, hpr, hus⟩ := h
  simp only at ht hst hse hpr hus
  have p1 := hp_putk 4 tsn (by decide) ht
  have p2 := hp_putk 2 stream (by decide) (by omega)
  have p3 := hp_putk 2 seq (by decide) hse
  have p4 := hp_putk 4 seq (by decide) hse
  have p5 := hp_putk 4 proto (by decide) hpr
  have j1 : PC Tryz.prog 46 [.sl false 1 [.sl false 1 [.val (.int .u8 0), .val (.int .u8 0)], .sl false 1 (bys (putB 4 seq))]] (.sl true 1 (bys ([0, 0] ++ putB 4 seq))) := by
    have := djoin_c [[0, 0], putB 4 seq] (by simp [lens, putB_len]) (by simp)
    have e : [[0, 0], putB 4 seq].flatten = [0, 0] ++ putB 4 seq := by simp
    rw [e] at this; exact this
  have j2 : ∀ x : List UInt8, x.length ≤ 6 → PC Tryz.prog 46 [.sl false 1 [.sl false 1 (bys (putB 4 tsn)), .sl false 1 (bys (putB 2 stream)), .sl false 1 (bys x), .sl false 1 (bys (putB 4 proto)), .sl false 1 (bys user)]] (.sl true 1 (bys ([putB 4 tsn, putB 2 stream, x, putB 4 proto, user].flatten))) := by
    intro x hx
    exact djoin_c [putB 4 tsn, putB 2 stream, x, putB 4 proto, user] (by simp only [lens, List.map_cons, List.map_nil, List.sum_cons, List.sum_nil, putB_len]; omega) (by simp)
  have jT := j2 ([0, 0] ++ putB 4 seq) (by simp [putB_len])
  have jF := j2 (putB 2 seq) (by simp [putB_len])
  have o1 : orF 0 1 fin < 16 := orF_lt _ (by decide) (by decide)
  have o2 : orF (orF 0 1 fin) 2 beg < 16 := orF_lt _ o1 (by decide)
  have o3 : orF (orF (orF 0 1 fin) 2 beg) 4 unord < 16 := orF_lt _ o2 (by decide)
  refine PC.of_bodyK (by simp only [push_cast]) Tryz.func12 rfl (by rw [Tryz.ntmps12]; simp) ?_
  refine AWp.regionW ?_
  refine AWp.regionW ?_
  refine AWp.regionW ?_
  refine AWp.regionM fun K1 hK1 => ?_
  refine ARun2.callOM [2] (dput_c 1 0 fin (by decide) (by decide)) ?_
  refine ARun2.endm (hK1 _ ?_)
  refine AWp.regionM fun K2 hK2 => ?_
  refine ARun2.callOM [2] (dput_c 2 (orF 0 1 fin) beg o1 (by decide)) ?_
  refine ARun2.endm (hK2 _ ?_)
  refine AWp.regionM fun K3 hK3 => ?_
  refine ARun2.callOM [2] (dput_c 4 (orF (orF 0 1 fin) 2 beg) unord o2 (by decide)) ?_
  refine ARun2.endm (hK3 _ ?_)
  refine AWp.regionM fun K4 hK4 => ?_
  refine ARun2.callOM [2] (dput_c 8 (orF (orF (orF 0 1 fin) 2 beg) 4 unord) now o3 (by decide)) ?_
  refine ARun2.endm (hK4 _ ?_)
  refine AWp.regionM fun K5 hK5 => ?_
  refine ARun2.callM (p3) ?_
  refine ARun2.endm (hK5 _ ?_)
  refine AWp.seqK fun K6 hK6 => ?_
  refine AWp.regionW ?_
  refine AWp.condLM (fun c0 => ?_) (fun c0 => ?_)
  · skip
    have hin : inter = true := by simpa using c0
    subst hin
    refine AWp.regionW ?_
    refine AWp.regionN fun K7 hK7 => ?_
    refine ARun2.callM (p4) ?_
    refine ARun2.callM (j1) ?_
    refine ARun2.endm (hK7 _ ?_)
    refine hK6 _ ?_
    refine AWp.drS [[(1, none)], [(39, some 0)], [(40, some 1)], [(41, some 2)], [(1, none)], [(43, some 4)], [(44, some 5)], [(45, some 6)], [(46, some 7)], [(6, none)], [(1, none)], [(49, some 10)], [(50, some 11)], [(51, some 12)], [(1, none)], [(53, some 14)], [(42, some 3), (47, some 8), (48, some 9), (52, some 13), (54, some 15)], [(55, some 16)], [(4, none)]] fun G hG => ?_
    refine Dr.sim ?_
    try simp only [List.cons_append, List.nil_append]
    refine Dr.sim ?_
    try simp only [List.cons_append, List.nil_append]
    refine Dr.build ?_
    try simp only [List.cons_append, List.nil_append]
    refine Dr.call (p1) ?_
    try simp only [List.cons_append, List.nil_append]
    refine Dr.sim ?_
    try simp only [List.cons_append, List.nil_append]
    refine Dr.sim ?_
    try simp only [List.cons_append, List.nil_append]
    refine Dr.sim ?_
    try simp only [List.cons_append, List.nil_append]
    refine Dr.build ?_
    try simp only [List.cons_append, List.nil_append]
    refine Dr.call (p2) ?_
    try simp only [List.cons_append, List.nil_append]
    refine Dr.sim ?_
    try simp only [List.cons_append, List.nil_append]
    refine Dr.sim ?_
    try simp only [List.cons_append, List.nil_append]
    refine Dr.sim ?_
    try simp only [List.cons_append, List.nil_append]
    refine Dr.build ?_
    try simp only [List.cons_append, List.nil_append]
    refine Dr.call (p5) ?_
    try simp only [List.cons_append, List.nil_append]
    refine Dr.sim ?_
    try simp only [List.cons_append, List.nil_append]
    refine Dr.sim ?_
    try simp only [List.cons_append, List.nil_append]
    refine Dr.build ?_
    try simp only [List.cons_append, List.nil_append]
    refine Dr.call (jT) ?_
    try simp only [List.cons_append, List.nil_append]
    refine Dr.sim ?_
    try simp only [List.cons_append, List.nil_append]
    refine Dr.finM (n := 19) [(56, 17), (57, 18)] [1, 2, 4] hG YtoapdhogghbojaaGreatDoor.Facts.mixed fun KD hKD => ?_
    refine ARun2.endm (hKD _ ?_); clear hKD KD hG G
    refine AWp.seqK fun K8 hK8 => ?_
    refine AWp.regionA fun K9 hK9 => ?_
    refine ARun.segm 4 fun KS hKS => ?_
    refine ARun2.endm (hKS _ ?_); clear hKS KS
    apply ARun.grpM 3 3 true 64 [2, 4, 61]
    · intro g3 KG hKG
      refine ARun2.gom ?_
      exact ARun2.endm (hKG _ Le.grpM)
    refine ARun.segm 2 fun KS hKS => ?_
    refine ARun2.endm (hKS _ ?_); clear hKS KS
    apply ARun.grpM 3 8 false 69 [2, 4, 66]
    · intro g8 KG hKG
      refine ARun2.gom ?_
      refine ARun2.callM (hsm) ?_
      exact ARun2.endm (hKG _ Le.grpM)
    refine ARun2.gom ?_
    refine ARun2.endm (hK9 _ ?_)
    refine AWp.condLM (fun c1 => ?_) (fun c1 => ?_)
    · skip
      have hr : makePt ⟨true, tsn, stream, seq, proto, beg, fin, unord, now, user⟩ = (.zero, false) := if_neg (by simpa using c1)
      refine AWp.regionW ?_
      refine AWp.ret ?_
      try simp only [thenQ, blockQ, noGo]
      refine bodyQ.m ?_
      clear hK9 K9 hK8 K8 hK7 K7 hK6 K6 hK5 K5 hK4 K4 hK3 K3 hK2 K2 hK1 K1
      rw [hr]
      try simp only [GChunk.zero]
      try simp only [dataC, flagsP, dataP, seqP, cond_true, cond_false]
      first | done | exact Wk.go
    · skip
      have hr : makePt ⟨true, tsn, stream, seq, proto, beg, fin, unord, now, user⟩ = (dataC ⟨true, tsn, stream, seq, proto, beg, fin, unord, now, user⟩, true) := if_pos (by simpa using c1)
      refine AWp.skip ?_
      refine hK8 _ ?_
      refine AWp.regionW ?_
      refine AWp.ret ?_
      try simp only [thenQ, blockQ, noGo]
      refine bodyQ.m ?_
      clear hK9 K9 hK8 K8 hK7 K7 hK6 K6 hK5 K5 hK4 K4 hK3 K3 hK2 K2 hK1 K1
      rw [hr]
      try simp only [GChunk.zero]
      try simp only [dataC, flagsP, dataP, seqP, cond_true, cond_false]
      first | done | exact Wk.go
  · skip
    have hin : inter = false := by simpa using c0
    subst hin
    refine AWp.skip ?_
    refine hK6 _ ?_
    refine AWp.drS [[(1, none)], [(39, some 0)], [(40, some 1)], [(41, some 2)], [(1, none)], [(43, some 4)], [(44, some 5)], [(45, some 6)], [(46, some 7)], [(6, none)], [(1, none)], [(49, some 10)], [(50, some 11)], [(51, some 12)], [(1, none)], [(53, some 14)], [(42, some 3), (47, some 8), (48, some 9), (52, some 13), (54, some 15)], [(55, some 16)], [(4, none)]] fun G hG => ?_
    refine Dr.sim ?_
    try simp only [List.cons_append, List.nil_append]
    refine Dr.sim ?_
    try simp only [List.cons_append, List.nil_append]
    refine Dr.build ?_
    try simp only [List.cons_append, List.nil_append]
    refine Dr.call (p1) ?_
    try simp only [List.cons_append, List.nil_append]
    refine Dr.sim ?_
    try simp only [List.cons_append, List.nil_append]
    refine Dr.sim ?_
    try simp only [List.cons_append, List.nil_append]
    refine Dr.sim ?_
    try simp only [List.cons_append, List.nil_append]
    refine Dr.build ?_
    try simp only [List.cons_append, List.nil_append]
    refine Dr.call (p2) ?_
    try simp only [List.cons_append, List.nil_append]
    refine Dr.sim ?_
    try simp only [List.cons_append, List.nil_append]
    refine Dr.sim ?_
    try simp only [List.cons_append, List.nil_append]
    refine Dr.sim ?_
    try simp only [List.cons_append, List.nil_append]
    refine Dr.build ?_
    try simp only [List.cons_append, List.nil_append]
    refine Dr.call (p5) ?_
    try simp only [List.cons_append, List.nil_append]
    refine Dr.sim ?_
    try simp only [List.cons_append, List.nil_append]
    refine Dr.sim ?_
    try simp only [List.cons_append, List.nil_append]
    refine Dr.build ?_
    try simp only [List.cons_append, List.nil_append]
    refine Dr.call (jF) ?_
    try simp only [List.cons_append, List.nil_append]
    refine Dr.sim ?_
    try simp only [List.cons_append, List.nil_append]
    refine Dr.finM (n := 19) [(56, 17), (57, 18)] [1, 2, 4] hG YtoapdhogghbojaaGreatDoor.Facts.mixed fun KD hKD => ?_
    refine ARun2.endm (hKD _ ?_); clear hKD KD hG G
    refine AWp.seqK fun K10 hK10 => ?_
    refine AWp.regionA fun K11 hK11 => ?_
    refine ARun.segm 4 fun KS hKS => ?_
    refine ARun2.endm (hKS _ ?_); clear hKS KS
    apply ARun.grpM 3 3 true 64 [2, 4, 61]
    · intro g3 KG hKG
      refine ARun2.gom ?_
      exact ARun2.endm (hKG _ Le.grpM)
    refine ARun.segm 2 fun KS hKS => ?_
    refine ARun2.endm (hKS _ ?_); clear hKS KS
    apply ARun.grpM 3 8 false 69 [2, 4, 66]
    · intro g8 KG hKG
      refine ARun2.gom ?_
      refine ARun2.callM (hsm) ?_
      exact ARun2.endm (hKG _ Le.grpM)
    refine ARun2.gom ?_
    refine ARun2.endm (hK11 _ ?_)
    refine AWp.condLM (fun c1 => ?_) (fun c1 => ?_)
    · skip
      have hr : makePt ⟨false, tsn, stream, seq, proto, beg, fin, unord, now, user⟩ = (.zero, false) := if_neg (by
        rintro ⟨e1, e2⟩
        have e3 : ¬ 65535 < seq := by simpa using e1
        simp [e2, e3] at c1)
      refine AWp.regionW ?_
      refine AWp.ret ?_
      try simp only [thenQ, blockQ, noGo]
      refine bodyQ.m ?_
      clear hK11 K11 hK10 K10 hK6 K6 hK5 K5 hK4 K4 hK3 K3 hK2 K2 hK1 K1
      rw [hr]
      try simp only [GChunk.zero]
      try simp only [dataC, flagsP, dataP, seqP, cond_true, cond_false]
      first | done | exact Wk.go
    · skip
      have hr : makePt ⟨false, tsn, stream, seq, proto, beg, fin, unord, now, user⟩ = (dataC ⟨false, tsn, stream, seq, proto, beg, fin, unord, now, user⟩, true) := if_pos (by simpa using c1)
      refine AWp.skip ?_
      refine hK10 _ ?_
      refine AWp.regionW ?_
      refine AWp.ret ?_
      try simp only [thenQ, blockQ, noGo]
      refine bodyQ.m ?_
      clear hK11 K11 hK10 K10 hK6 K6 hK5 K5 hK4 K4 hK3 K3 hK2 K2 hK1 K1
      rw [hr]
      try simp only [GChunk.zero]
      try simp only [dataC, flagsP, dataP, seqP, cond_true, cond_false]
      first | done | exact Wk.go
/-! Of -/
def onF (f b : Nat) : Bool := decide (0 < bitsV .and .u8 (N f) (N b))
theorem don_c (c : GChunk) (b : Nat) : PC Tryz.prog 47 [u8 b, .ref false (chunkA false c)] (bool (onF c.flags b)) := by
  refine PC.of_bodyW (by simp only [push_cast]) Tryz.func47 rfl (by rw [Tryz.ntmps47]; simp) ?_
  refine AWp.regionW ?_
  refine AWp.regionW ?_
  refine AWp.ret ?_
  try simp only [thenQ, blockQ, noGo]
  refine bodyQ.m ?_
  simp only [onF]
  first | done | exact Hand.go
def isD (c : GChunk) : Bool := ((c.ty == 0) || (c.ty == 64)) && (checkC c == 0)
theorem isD_not (c : GChunk) : isD c = !(c.ty != 0 && c.ty != 64 || !(checkC c == 0)) := by
  unfold isD bne
  cases c.ty == 0 <;> cases c.ty == 64 <;> cases checkC c == 0 <;> rfl
theorem isD_len {c : GChunk} (h : isD c = true) : (c.ty = 0 ∧ 13 ≤ c.data.length ∨ c.ty = 64 ∧ 17 ≤ c.data.length) ∧ c.data.length ≤ 65531 := by
  unfold isD at h
  simp only [Bool.and_eq_true, Bool.or_eq_true, beq_iff_eq] at h
  obtain ⟨ht, hc⟩ := h
  obtain ⟨h1, h2, h3, h4⟩ := check_zero hc (by rcases ht with e | e <;> rw [e] <;> rfl)
  obtain ⟨f1, f2⟩ := fit_len h2
  rcases ht with e | e
  · rw [e] at f1 f2
    have e1 : (kindOf 0).least = 13 ∧ (kindOf 0).most = 65531 := ⟨rfl, rfl⟩
    exact ⟨.inl ⟨e, by omega⟩, by omega⟩
  · rw [e] at f1 f2
    have e1 : (kindOf 64).least = 17 ∧ (kindOf 64).most = 65531 := ⟨rfl, rfl⟩
    exact ⟨.inr ⟨e, by omega⟩, by omega⟩
def partOf (c : GChunk) : GPart := ⟨c.ty == 64, peekN 4 c.data 0, peekN 2 c.data 4, bif c.ty == 64 then peekN 4 c.data 8 else peekN 2 c.data 6, peekN 4 c.data (bif c.ty == 64 then 12 else 8), onF c.flags 2, onF c.flags 1, onF c.flags 4, onF c.flags 8, c.data.drop (bif c.ty == 64 then 16 else 12)⟩
def ofD (c : GChunk) : GPart × Bool := if isD c = true then (partOf c, true) else (.zero, false)
theorem dof_c (c : GChunk) (h : Small c) : PC Tryz.prog 14 [chunkA false c] (.tup [partA true (ofD c).1, bool (ofD c).2]) := by
  have hck := h.check
  have hd := h.data
  have hst := peek2_lt c.data 4
  refine PC.of_bodyK (by simp only [push_cast]) Tryz.func14 rfl (by rw [Tryz.ntmps14]; simp) ?_
  refine AWp.regionW ?_
  refine AWp.seqK fun K1 hK1 => ?_
  refine AWp.regionA fun K2 hK2 => ?_
  refine ARun.segm 4 fun KS hKS => ?_
  refine ARun2.endm (hKS _ ?_); clear hKS KS
  apply ARun.grpM 3 3 true 15 [1, 2, 12]
  · intro g3 KG hKG
    refine ARun2.gom ?_
    exact ARun2.endm (hKG _ Le.grpM)
  refine ARun.segm 2 fun KS hKS => ?_
  refine ARun2.endm (hKS _ ?_); clear hKS KS
  apply ARun.grpM 3 8 false 20 [1, 2, 17]
  · intro g8 KG hKG
    refine ARun2.gom ?_
    refine ARun2.callM (hck) ?_
    exact ARun2.endm (hKG _ Le.grpM)
  refine ARun2.gom ?_
  refine ARun2.endm (hK2 _ ?_)
  refine AWp.condLM (fun c0 => ?_) (fun c0 => ?_)
  · skip
    have hr : ofD c = (.zero, false) := if_neg (by rw [isD_not, c0]; decide)
    refine AWp.regionW ?_
    refine AWp.ret ?_
    try simp only [thenQ, blockQ, noGo]
    refine bodyQ.m ?_
    clear hK2 K2 hK1 K1
    rw [hr]
    try simp only [GPart.zero]
    try rw [hp]
    first | done | exact Wk.go
  · skip
    have hi : isD c = true := by rw [isD_not, c0]; rfl
    have hr : ofD c = (partOf c, true) := if_pos hi
    obtain ⟨hl1, hl2⟩ := isD_len hi
    refine AWp.skip ?_
    refine hK1 _ ?_
    refine AWp.pubBox 0 rfl (Nat.zero_le _) rfl (by simp) ?_
    simp only [push_cast, ↓reduceIte, Nat.reduceEqDiff, Nat.reduceLT, Nat.reduceAdd, Nat.reduceSub, Nat.reduceMul, Nat.reduceLeDiff, Nat.reducePow, Int.reduceLT, Int.reduceToNat, reduceCtorEq, Int.reduceNeg, Int.reduceEq, Nat.reduceBEq, Nat.reduceBNe, Int.reduceBEq, Int.reduceBNe, String.reduceEq]
    refine AWp.regionW ?_
    refine AWp.drS [[(1, none)], [(24, some 0)], [(25, some 1)], [(4, none)], [(27, some 3)], [(4, none)], [(29, some 5)], [(4, none)], [(31, some 7)], [(4, none)], [(33, some 9)], [(26, some 2), (28, some 4), (30, some 6), (32, some 8), (34, some 10)], []] fun G hG => ?_
    refine Dr.sim ?_
    try simp only [List.cons_append, List.nil_append]
    refine Dr.sim ?_
    try simp only [List.cons_append, List.nil_append]
    refine Dr.sim ?_
    try simp only [List.cons_append, List.nil_append]
    refine Dr.sim ?_
    try simp only [List.cons_append, List.nil_append]
    refine Dr.callV (don_c c 2) ?_
    refine Dr.sim ?_
    try simp only [List.cons_append, List.nil_append]
    refine Dr.callV (don_c c 1) ?_
    refine Dr.sim ?_
    try simp only [List.cons_append, List.nil_append]
    refine Dr.callV (don_c c 4) ?_
    refine Dr.sim ?_
    try simp only [List.cons_append, List.nil_append]
    refine Dr.callV (don_c c 8) ?_
    refine Dr.sim ?_
    try simp only [List.cons_append, List.nil_append]
    refine Dr.al ?_
    try simp only [List.cons_append, List.nil_append]
    refine Dr.finA (n := 13) 12 [(35, 11), (5, 12)] [1, 2] hG YtoapdhogghbojaaGreatDoor.Facts.mixed fun KD hKD => ?_
    refine ARun2.endm (hKD _ ?_); clear hKD KD hG G
    refine AWp.regionM fun K3 hK3 => ?_
    refine ARun2.callOM [] (new_c c.data (by omega)) ?_
    refine ARun2.endm (hK3 _ ?_)
    refine AWp.regionM fun K4 hK4 => ?_
    refine ARun2.callOM [3] (num_hit 4 c.data 0 (by decide) (by omega) (by omega)) ?_
    refine ARun2.endm (hK4 _ ?_)
    refine AWp.regionM fun K5 hK5 => ?_
    refine ARun2.callOM [3] (num_hit 2 c.data 4 (by decide) (by omega) (by omega)) ?_
    refine ARun2.endm (hK5 _ ?_)
    refine AWp.regionW ?_
    refine AWp.regionM fun K6 hK6 => ?_
    refine ARun2.callOM [3] (num_hit 2 c.data 6 (by decide) (by omega) (by omega)) ?_
    refine ARun2.endm (hK6 _ ?_)
    refine AWp.seqK fun K7 hK7 => ?_
    refine AWp.regionW ?_
    refine AWp.condLM (fun c1 => ?_) (fun c1 => ?_)
    · skip
      have hty : c.ty = 64 := by simpa using c1
      have h64 : 17 ≤ c.data.length := by omega
      have ht : (c.data.drop 16).take (c.data.length - 16) = c.data.drop 16 := List.take_of_length_le (by rw [List.length_drop]; exact Nat.le_refl _)
      have hp : partOf c = ⟨c.ty == 64, peekN 4 c.data 0, peekN 2 c.data 4, peekN 4 c.data 8, peekN 4 c.data 12, onF c.flags 2, onF c.flags 1, onF c.flags 4, onF c.flags 8, (c.data.drop 16).take (c.data.length - 16)⟩ := by rw [ht]; simp only [partOf, hty]; rfl
      refine AWp.regionN fun K8 hK8 => ?_
      refine ARun2.callOM [3] (num_hit 4 c.data 8 (by decide) (by omega) (by omega)) ?_
      refine ARun2.endm (hK8 _ ?_)
      refine hK7 _ ?_
      refine AWp.regionM fun K9 hK9 => ?_
      refine ARun2.callOM [3] (num_hit 4 c.data 12 (by decide) (by omega) (by omega)) ?_
      refine ARun2.endm (hK9 _ ?_)
      refine AWp.regionM fun K10 hK10 => ?_
      refine ARun2.callOM [3] (left_c c.data 16 (by omega) (by omega)) ?_
      refine ARun2.callOM [3] (take_ok c.data 16 (c.data.length - 16) (by omega) (by omega)) ?_
      refine ARun2.endm (hK10 _ ?_)
      refine AWp.regionW ?_
      refine AWp.ret ?_
      try simp only [thenQ, blockQ, noGo]
      refine bodyQ.m ?_
      clear hK10 K10 hK9 K9 hK8 K8 hK7 K7 hK6 K6 hK5 K5 hK4 K4 hK3 K3 hK2 K2 hK1 K1
      rw [hr]
      try simp only [GPart.zero]
      try rw [hp]
      first | done | exact Wk.go
    · skip
      have hty : ¬ c.ty = 64 := by simpa using c1
      have hty2 : (c.ty == 64) = false := by simpa using hty
      have ht : (c.data.drop 12).take (c.data.length - 12) = c.data.drop 12 := List.take_of_length_le (by rw [List.length_drop]; exact Nat.le_refl _)
      have hp : partOf c = ⟨c.ty == 64, peekN 4 c.data 0, peekN 2 c.data 4, peekN 2 c.data 6, peekN 4 c.data 8, onF c.flags 2, onF c.flags 1, onF c.flags 4, onF c.flags 8, (c.data.drop 12).take (c.data.length - 12)⟩ := by rw [ht]; simp only [partOf, hty2]; rfl
      refine AWp.skip ?_
      refine hK7 _ ?_
      refine AWp.regionM fun K11 hK11 => ?_
      refine ARun2.callOM [3] (num_hit 4 c.data 8 (by decide) (by omega) (by omega)) ?_
      refine ARun2.endm (hK11 _ ?_)
      refine AWp.regionM fun K12 hK12 => ?_
      refine ARun2.callOM [3] (left_c c.data 12 (by omega) (by omega)) ?_
      refine ARun2.callOM [3] (take_ok c.data 12 (c.data.length - 12) (by omega) (by omega)) ?_
      refine ARun2.endm (hK12 _ ?_)
      refine AWp.regionW ?_
      refine AWp.ret ?_
      try simp only [thenQ, blockQ, noGo]
      refine bodyQ.m ?_
      clear hK12 K12 hK11 K11 hK7 K7 hK6 K6 hK5 K5 hK4 K4 hK3 K3 hK2 K2 hK1 K1
      rw [hr]
      try simp only [GPart.zero]
      try rw [hp]
      first | done | exact Wk.go
end Go.Proofs.YtoapdhogghbojaaGreatDoor.C
/- stream: right, list, Outgoing, Incoming, Reset, Response, More, is, Seq, Streams, Answers, Make. -/
set_option linter.unusedVariables false
set_option linter.unusedSimpArgs false
namespace Go.Proofs.YtoapdhogghbojaaGreatDoor.C
open Go.Abs
def isS (n : GNode) (a b : Nat) : Bool := decide (a ≤ n.ty) && decide (n.ty ≤ b) && (checkN 1 1 n == 0)
end Go.Proofs.YtoapdhogghbojaaGreatDoor.C
/- stream: Make; wharfref17: Is, Seq, Streams, Equal, Build. -/
set_option linter.unusedVariables false
set_option linter.unusedSimpArgs false
namespace Go.Proofs.YtoapdhogghbojaaGreatDoor.C
open Go.Abs
theorem rput_o (k : Nat) (l : List Nat) (hk : k = 1 ∨ k = 2 ∨ k = 4) (hn : l.length ≤ 2 ^ 30) : OC Tryz.prog 52 [nat k, .sl false 1 (u32s l)] [] (.own 0) [.row 5 1 (bys (l.flatMap (putB k)))] := by
  have hr : (k == 1 || k == 2 || k == 4) = true := by rcases hk with rfl | rfl | rfl <;> rfl
  have h4 := sub4_w k (by omega)
  refine OC.of_body [0] (by intro k hk; simp at hk) Tryz.func52 rfl (by rw [Tryz.ntmps52]; simp) ?_
  refine AWp.regionW ?_
  refine AWp.regionW ?_
  refine AWp.seqK fun K1 hK1 => ?_
  refine AWp.regionM fun K2 hK2 => ?_
  refine ARun2.callM (hr ▸ right01_c k) ?_
  refine ARun2.endm (hK2 _ ?_)
  refine AWp.condF ?_
  refine AWp.skip ?_
  refine hK1 _ ?_
  refine AWp.seqK fun K3 hK3 => ?_
  refine AWp.regionW ?_
  refine AWp.block ?_
  -- SLOTS THAT TURN AND ARE NOT TOLD: [5]
  refine AWp.nilOwn 5 5 1 (by simp only [push_cast, ↓reduceIte, Nat.reduceEqDiff, Nat.reduceLT, Nat.reduceAdd, Nat.reduceSub, Nat.reduceMul, Nat.reduceLeDiff, Nat.reducePow, Int.reduceLT, Int.reduceToNat, reduceCtorEq, Int.reduceNeg, Int.reduceEq, Nat.reduceBEq, Nat.reduceBNe, Int.reduceBEq, Int.reduceBNe, String.reduceEq]) ?_
  simp only [push_cast, ↓reduceIte, Nat.reduceEqDiff, Nat.reduceLT, Nat.reduceAdd, Nat.reduceSub, Nat.reduceMul, Nat.reduceLeDiff, Nat.reducePow, Int.reduceLT, Int.reduceToNat, reduceCtorEq, Int.reduceNeg, Int.reduceEq, Nat.reduceBEq, Nat.reduceBNe, Int.reduceBEq, Int.reduceBNe, String.reduceEq]
  refine AWp.loopK [0, 1, 5] (fun (i : Nat) => [(6, nat i)]) (fun i => [.row 5 1 (bys ((l.take i).flatMap (putB k)))]) (fun i => i ≤ l.length) (fun i => l.length - i) (0) ?_ (Nat.zero_le _) ?_
  · skip
    refine Le.m 1 ?_ ?_
    · try simp only [push_cast, ↓reduceIte, Nat.reduceEqDiff, Nat.reduceLT, Nat.reduceAdd, Nat.reduceSub, Nat.reduceMul, Nat.reduceLeDiff, Nat.reducePow, Int.reduceLT, Int.reduceToNat, reduceCtorEq, Int.reduceNeg, Int.reduceEq, Nat.reduceBEq, Nat.reduceBNe, Int.reduceBEq, Int.reduceBNe, String.reduceEq]
      try simp (disch := omega) only [w_nat, w_add, w_addl, w_addr, w_sub, w_subl, w_mul, w_mull, w_mulr, w_u32, w_u16, w_u8, w_u32a, N_zero]
      first | done | skip
      rfl
    · exact Go.Abs.evN
  · intro i hi K4 hK4
    refine AWp.seqK fun K5 hK5 => ?_
    refine AWp.regionW ?_
    refine AWp.condLM (fun c1 => ?_) (fun c1 => ?_)
    · skip
      have hil : i < l.length := by simpa using c1
      refine AWp.skip ?_
      refine hK5 _ ?_
      refine AWp.seqK fun K6 hK6 => ?_
      refine AWp.block ?_
      refine AWp.drS [[(1, none)], [(6, none)], [(18, some 0), (19, some 1)], [(20, some 2)], [(21, some 3)], [(22, some 4)], [(1, none)], [(6, none)], [(24, some 6), (25, some 7)], [(26, some 8)], [(27, some 9)], [(28, some 10)], [(1, none)], [(6, none)], [(30, some 12), (31, some 13)], [(32, some 14)], [(33, some 15)], [(34, some 16)], [(1, none)], [(6, none)], [(36, some 18), (37, some 19)], [(38, some 20)], [(39, some 21)], [(23, some 5), (29, some 11), (35, some 17), (40, some 22)], [(41, some 23)]] fun G hG => ?_
      refine Dr.sim ?_
      try simp only [List.cons_append, List.nil_append]
      refine Dr.sim ?_
      try simp only [List.cons_append, List.nil_append]
      refine Dr.idx (i) (u32 l[i]) ?_ ?_
      · exact u32s_at _ _ hil
      try simp only [List.cons_append, List.nil_append]
      refine Dr.sim ?_
      try simp only [List.cons_append, List.nil_append]
      refine Dr.sim ?_
      try simp only [List.cons_append, List.nil_append]
      refine Dr.sim ?_
      try simp only [List.cons_append, List.nil_append]
      refine Dr.sim ?_
      try simp only [List.cons_append, List.nil_append]
      refine Dr.sim ?_
      try simp only [List.cons_append, List.nil_append]
      refine Dr.idx (i) (u32 l[i]) ?_ ?_
      · exact u32s_at _ _ hil
      try simp only [List.cons_append, List.nil_append]
      refine Dr.sim ?_
      try simp only [List.cons_append, List.nil_append]
      refine Dr.sim ?_
      try simp only [List.cons_append, List.nil_append]
      refine Dr.sim ?_
      try simp only [List.cons_append, List.nil_append]
      refine Dr.sim ?_
      try simp only [List.cons_append, List.nil_append]
      refine Dr.sim ?_
      try simp only [List.cons_append, List.nil_append]
      refine Dr.idx (i) (u32 l[i]) ?_ ?_
      · exact u32s_at _ _ hil
      try simp only [List.cons_append, List.nil_append]
      refine Dr.sim ?_
      try simp only [List.cons_append, List.nil_append]
      refine Dr.sim ?_
      try simp only [List.cons_append, List.nil_append]
      refine Dr.sim ?_
      try simp only [List.cons_append, List.nil_append]
      refine Dr.sim ?_
      try simp only [List.cons_append, List.nil_append]
      refine Dr.sim ?_
      try simp only [List.cons_append, List.nil_append]
      refine Dr.idx (i) (u32 l[i]) ?_ ?_
      · exact u32s_at _ _ hil
      try simp only [List.cons_append, List.nil_append]
      refine Dr.sim ?_
      try simp only [List.cons_append, List.nil_append]
      refine Dr.sim ?_
      try simp only [List.cons_append, List.nil_append]
      refine Dr.buildV ?_
      try simp only [List.cons_append, List.nil_append]
      refine Dr.sim ?_
      try simp only [List.cons_append, List.nil_append]
      refine Dr.finM (n := 25) [(7, 24)] [0, 1, 5, 6] hG YtoapdhogghbojaaGreatDoor.Facts.mixed fun KD hKD => ?_
      refine ARun2.endm (hKD _ ?_); clear hKD KD hG G
      rw [u8_shr0 l[i], lits4b, putB4_lit]
      refine AWp.regionN fun K7 hK7 => ?_
      rw [h4]
      refine ARun2.sliceLoM (4 - k) ?_ ?_
      · rw [bys_len, putB_len]; omega
      refine ARun2.appendM ?_ ?_ ?_
      · have hx := flat_bd k l i hk hn; rw [putB4_drop k _ hk, YtoapdhogghbojaaGreatDoor.Facts.eb24, bys_len, bys_len, putB_len]; omega
      · have hx := flat_bd k l i hk hn; rw [putB4_drop k _ hk, bys_len, bys_len, putB_len]; omega
      refine ARun2.endm (hK7 _ ?_)
      refine hK6 _ ?_
      refine AWp.regionV ?_
      refine hK4 _ (i + 1) (by omega) (by omega) ?_
      refine Le.m 1 ?_ ?_
      · try simp only [push_cast, ↓reduceIte, Nat.reduceEqDiff, Nat.reduceLT, Nat.reduceAdd, Nat.reduceSub, Nat.reduceMul, Nat.reduceLeDiff, Nat.reducePow, Int.reduceLT, Int.reduceToNat, reduceCtorEq, Int.reduceNeg, Int.reduceEq, Nat.reduceBEq, Nat.reduceBNe, Int.reduceBEq, Int.reduceBNe, String.reduceEq]
        try simp (disch := omega) only [w_nat, w_add, w_addl, w_addr, w_sub, w_subl, w_mul, w_mull, w_mulr, w_u32, w_u16, w_u8, w_u32a, N_zero]
        first | done | skip
        rw [putB4_drop k _ hk, bys_append, List.take_succ_eq_append_getElem hil, List.flatMap_append]; simp only [List.flatMap_cons, List.flatMap_nil, List.append_nil]
      · exact Go.Abs.evN
    · skip
      have hil : i = l.length := by simp at c1; omega
      subst hil
      refine AWp.exit ?_
      try simp only [thenQ, blockQ, noGo, reduceIte, Nat.reduceEqDiff]
      refine hK3 _ ?_
      refine AWp.regionW ?_
      refine AWp.ret ?_
      try simp only [thenQ, blockQ, noGo]
      refine bodyQ.m ?_
      clear hK5 K5 hK4 K4 hK3 K3 hK2 K2 hK1 K1
      refine endO.m ?_ ?_
      · rw [List.take_length]
      · skip
        first | done | exact Hand.go
end Go.Proofs.YtoapdhogghbojaaGreatDoor.C
/- wharfref13: Right, Same, Make, Of. -/
set_option linter.unusedVariables false
set_option linter.unusedSimpArgs false
namespace Go.Proofs.YtoapdhogghbojaaGreatDoor.C
open Go.Abs
def rightD (p : GPart) : Bool := bif p.inter then decide (1 ≤ p.user.length) && decide (p.user.length ≤ 65515) else decide (p.seq ≤ 65535) && decide (1 ≤ p.user.length) && decide (p.user.length ≤ 65519)
theorem rright13_c (p : GPart) : PC Tryz.prog 13 [partA false p] (bool (rightD p)) := by
  obtain ⟨inter, tsn, stream, seq, proto, beg, fin, unord, now, user⟩ := p
  refine PC.of_bodyW (by simp only [push_cast]) Tryz.func13 rfl (by rw [Tryz.ntmps13]; simp) ?_
  refine AWp.regionW ?_
  refine AWp.seqK fun K1 hK1 => ?_
  refine AWp.regionW ?_
  refine AWp.condLM (fun c0 => ?_) (fun c0 => ?_)
  · skip
    have hin : inter = true := by simpa using c0
    subst hin
    refine AWp.regionA fun K2 hK2 => ?_
    refine ARun.segm 5 fun KS hKS => ?_
    refine ARun2.endm (hKS _ ?_); clear hKS KS
    apply ARun.grpM 4 4 true 13 [9]
    · intro g4 KG hKG
      refine ARun2.gom ?_
      exact ARun2.endm (hKG _ Le.grpM)
    refine ARun2.gom ?_
    refine ARun2.endm (hK2 _ ?_)
    refine AWp.ret ?_
    try simp only [thenQ, blockQ, noGo]
    refine bodyQ.m ?_
    clear hK2 K2 hK1 K1
    simp only [rightD, cond_true, cond_false]
    first | done | exact Hand.go
  · skip
    have hin : inter = false := by simpa using c0
    subst hin
    refine AWp.skip ?_
    refine hK1 _ ?_
    refine AWp.regionA fun K3 hK3 => ?_
    refine ARun.segm 4 fun KS hKS => ?_
    refine ARun2.endm (hKS _ ?_); clear hKS KS
    apply ARun.grpM 4 3 true 22 [1, 18]
    · intro g3 KG hKG
      refine ARun2.gom ?_
      exact ARun2.endm (hKG _ Le.grpM)
    refine ARun.segm 2 fun KS hKS => ?_
    refine ARun2.endm (hKS _ ?_); clear hKS KS
    apply ARun.grpM 4 9 true 28 [24]
    · intro g9 KG hKG
      refine ARun2.gom ?_
      exact ARun2.endm (hKG _ Le.grpM)
    refine ARun2.gom ?_
    refine ARun2.endm (hK3 _ ?_)
    refine AWp.ret ?_
    try simp only [thenQ, blockQ, noGo]
    refine bodyQ.m ?_
    clear hK3 K3 hK1 K1
    simp only [rightD, cond_true, cond_false]
    first | done | exact Hand.go
def sameP (a b : GPart) : Bool := (a.inter == b.inter) && (a.tsn == b.tsn) && (a.stream == b.stream) && (a.seq == b.seq) && (a.proto == b.proto) && (a.beg == b.beg) && (a.fin == b.fin) && (a.unord == b.unord) && (a.now == b.now) && decide (a.user = b.user)
theorem sameP_self (a : GPart) : sameP a a = true := by simp [sameP]
set_option maxRecDepth 100000 in
set_option maxHeartbeats 1000000 in
theorem same13_c (a b : GPart) (h : a.user.length ≤ 2 ^ 40) : PC Tryz.prog 16 [partA false a, partA false b] (bool (sameP a b)) := by
  refine PC.of_bodyW (by simp only [push_cast]) Tryz.func16 rfl (by rw [Tryz.ntmps16]; simp) ?_
  refine AWp.regionW ?_
  refine AWp.regionA fun K1 hK1 => ?_
  refine ARun.segm 6 fun KS hKS => ?_
  refine ARun2.boolEqM ?_
  refine ARun2.endm (hKS _ ?_); clear hKS KS
  apply ARun.grpM 5 5 true 15 [2, 3, 10]
  · intro g5 KG hKG
    refine ARun2.gom ?_
    exact ARun2.endm (hKG _ Le.grpM)
  refine ARun.segm 2 fun KS hKS => ?_
  refine ARun2.endm (hKS _ ?_); clear hKS KS
  apply ARun.grpM 5 12 true 22 [2, 3, 17]
  · intro g12 KG hKG
    refine ARun2.gom ?_
    exact ARun2.endm (hKG _ Le.grpM)
  refine ARun.segm 2 fun KS hKS => ?_
  refine ARun2.endm (hKS _ ?_); clear hKS KS
  apply ARun.grpM 5 19 true 29 [2, 3, 24]
  · intro g19 KG hKG
    refine ARun2.gom ?_
    exact ARun2.endm (hKG _ Le.grpM)
  refine ARun.segm 2 fun KS hKS => ?_
  refine ARun2.endm (hKS _ ?_); clear hKS KS
  apply ARun.grpM 5 26 true 36 [2, 3, 31]
  · intro g26 KG hKG
    refine ARun2.gom ?_
    exact ARun2.endm (hKG _ Le.grpM)
  refine ARun.segm 2 fun KS hKS => ?_
  refine ARun2.endm (hKS _ ?_); clear hKS KS
  apply ARun.grpM 5 33 true 43 [2, 3, 38]
  · intro g33 KG hKG
    refine ARun2.gom ?_
    refine ARun2.boolEqM ?_
    exact ARun2.endm (hKG _ Le.grpM)
  refine ARun.segm 2 fun KS hKS => ?_
  refine ARun2.endm (hKS _ ?_); clear hKS KS
  apply ARun.grpM 5 40 true 50 [2, 3, 45]
  · intro g40 KG hKG
    refine ARun2.gom ?_
    refine ARun2.boolEqM ?_
    exact ARun2.endm (hKG _ Le.grpM)
  refine ARun.segm 2 fun KS hKS => ?_
  refine ARun2.endm (hKS _ ?_); clear hKS KS
  apply ARun.grpM 5 47 true 57 [2, 3, 52]
  · intro g47 KG hKG
    refine ARun2.gom ?_
    refine ARun2.boolEqM ?_
    exact ARun2.endm (hKG _ Le.grpM)
  refine ARun.segm 2 fun KS hKS => ?_
  refine ARun2.endm (hKS _ ?_); clear hKS KS
  apply ARun.grpM 5 54 true 64 [2, 3, 59]
  · intro g54 KG hKG
    refine ARun2.gom ?_
    refine ARun2.boolEqM ?_
    exact ARun2.endm (hKG _ Le.grpM)
  refine ARun.segm 2 fun KS hKS => ?_
  refine ARun2.endm (hKS _ ?_); clear hKS KS
  apply ARun.grpM 5 61 true 71 [66]
  · intro g61 KG hKG
    refine ARun2.gom ?_
    refine ARun2.callM (same01_c a.user b.user h) ?_
    exact ARun2.endm (hKG _ Le.grpM)
  refine ARun2.gom ?_
  refine ARun2.endm (hK1 _ ?_)
  refine AWp.ret ?_
  try simp only [thenQ, blockQ, noGo]
  refine bodyQ.m ?_
  clear hK1 K1
  simp only [sameP]
  first | done | exact Hand.go
theorem bit_tab : ((List.range 16).all fun f => (onF f 1 == (f % 2 == 1)) && (onF f 2 == (f / 2 % 2 == 1)) && (onF f 4 == (f / 4 % 2 == 1)) && (onF f 8 == (f / 8 % 2 == 1))) = true := by kernel_rfl
theorem bit_eq (f : Nat) (hf : f < 16) : onF f 1 = (f % 2 == 1) ∧ onF f 2 = (f / 2 % 2 == 1) ∧ onF f 4 = (f / 4 % 2 == 1) ∧ onF f 8 = (f / 8 % 2 == 1) := by
  have h := List.all_eq_true.1 bit_tab f (List.mem_range.2 hf)
  simp only [Bool.and_eq_true, beq_iff_eq] at h
  exact ⟨h.1.1.1, h.1.1.2, h.1.2, h.2⟩
theorem mask_tab : ((List.range 256).all fun f => maskBad f 15 || decide (f < 16)) = true := by kernel_rfl
theorem isD_flags {c : GChunk} (hf : c.flags < 256) (h : isD c = true) : c.flags < 16 := by
  unfold isD at h
  simp only [Bool.and_eq_true, Bool.or_eq_true, beq_iff_eq] at h
  obtain ⟨ht, hc⟩ := h
  obtain ⟨h1, h2, h3, h4⟩ := check_zero hc (by rcases ht with e | e <;> rw [e] <;> rfl)
  have hm : (kindOf c.ty).mask = 15 := by rcases ht with e | e <;> rw [e] <;> rfl
  rw [hm] at h1
  have := List.all_eq_true.1 mask_tab c.flags (List.mem_range.2 hf)
  rw [h1] at this
  simpa using this
theorem rof13_c (c : GChunk) (h : Small c) (hi : isD c = true) : PC Tryz.prog 21 [chunkA false c] (partA false (partOf c)) := by
  have hd := h.data
  have hst := peek2_lt c.data 4
  obtain ⟨hl1, hl2⟩ := isD_len hi
  have hf := isD_flags h.flags hi
  obtain ⟨b1, b2, b3, b4⟩ := bit_eq c.flags hf
  refine PC.of_bodyW (by simp only [push_cast]) Tryz.func21 rfl (by rw [Tryz.ntmps21]; simp) ?_
  refine AWp.regionW ?_
  refine AWp.regionW ?_
  refine AWp.regionW ?_
  refine AWp.regionM fun K1 hK1 => ?_
  refine ARun2.callM (number01_c 4 c.data 0 (by decide) (by omega) (by omega)) ?_
  refine ARun2.endm (hK1 _ ?_)
  refine AWp.regionM fun K2 hK2 => ?_
  refine ARun2.callM (number01_c 2 c.data 4 (by decide) (by omega) (by omega)) ?_
  refine ARun2.endm (hK2 _ ?_)
  refine AWp.regionW ?_
  refine AWp.regionW ?_
  refine AWp.seqK fun K3 hK3 => ?_
  refine AWp.regionW ?_
  refine AWp.condLM (fun c0 => ?_) (fun c0 => ?_)
  · skip
    have hty : c.ty = 64 := by simpa using c0
    have h64 : 17 ≤ c.data.length := by omega
    have hp : partOf c = ⟨c.ty == 64, peekN 4 c.data 0, peekN 2 c.data 4, peekN 4 c.data 8, peekN 4 c.data 12, onF c.flags 2, onF c.flags 1, onF c.flags 4, onF c.flags 8, c.data.drop 16⟩ := by simp only [partOf, hty]; rfl
    refine AWp.regionM fun K4 hK4 => ?_
    refine ARun2.callM (number01_c 4 c.data 8 (by decide) (by omega) (by omega)) ?_
    refine ARun2.endm (hK4 _ ?_)
    refine AWp.regionV ?_
    refine hK3 _ ?_
    refine AWp.regionM fun K5 hK5 => ?_
    refine ARun2.callM (number01_c 4 c.data 12 (by decide) (by omega) (by omega)) ?_
    refine ARun2.endm (hK5 _ ?_)
    refine AWp.regionM fun K6 hK6 => ?_
    refine ARun2.sliceLoM (16) ?_ ?_
    · rw [bys_len]; omega
    refine ARun2.endm (hK6 _ ?_)
    refine AWp.regionW ?_
    refine AWp.ret ?_
    try simp only [thenQ, blockQ, noGo]
    refine bodyQ.m ?_
    clear hK6 K6 hK5 K5 hK4 K4 hK3 K3 hK2 K2 hK1 K1
    rw [hp, b1, b2, b3, b4]
    first | done | exact Hand.go
  · skip
    have hty : ¬ c.ty = 64 := by simpa using c0
    have hty2 : (c.ty == 64) = false := by simpa using hty
    have hp : partOf c = ⟨c.ty == 64, peekN 4 c.data 0, peekN 2 c.data 4, peekN 2 c.data 6, peekN 4 c.data 8, onF c.flags 2, onF c.flags 1, onF c.flags 4, onF c.flags 8, c.data.drop 12⟩ := by simp only [partOf, hty2]; rfl
    refine AWp.regionN fun K7 hK7 => ?_
    refine ARun2.callM (number01_c 2 c.data 6 (by decide) (by omega) (by omega)) ?_
    refine ARun2.endm (hK7 _ ?_)
    refine hK3 _ ?_
    refine AWp.regionM fun K8 hK8 => ?_
    refine ARun2.callM (number01_c 4 c.data 8 (by decide) (by omega) (by omega)) ?_
    refine ARun2.endm (hK8 _ ?_)
    refine AWp.regionM fun K9 hK9 => ?_
    refine ARun2.sliceLoM (12) ?_ ?_
    · rw [bys_len]; omega
    refine ARun2.endm (hK9 _ ?_)
    refine AWp.regionW ?_
    refine AWp.ret ?_
    try simp only [thenQ, blockQ, noGo]
    refine bodyQ.m ?_
    clear hK9 K9 hK8 K8 hK7 K7 hK3 K3 hK2 K2 hK1 K1
    rw [hp, b1, b2, b3, b4]
    first | done | exact Hand.go
end Go.Proofs.YtoapdhogghbojaaGreatDoor.C
/- One field of an element of a row of the call's own is written. No condition. -/
namespace Go.Abs
set_option linter.unusedVariables false
set_option linter.unusedSectionVars false
set_option linter.unusedSimpArgs false
set_option linter.unnecessarySimpa false
section
variable {P : Program} {ops : Array Oper} {E : Env} {s s' : AS} {ρ σ : List Value} {B : Nat → Prop} {a : Act} {w w' : World} {o : Oper} {rest : List Oper} {Q : AS → Prop} {R : Exit → AS → Prop}
theorem flat_setF {sz d : Nat} {m : List AV} {y0 y1 : AV} : ∀ {xs : List AV} {j : Nat}, xs[j]? = some y0 → (∀ x ∈ xs, x.cells.length = sz) → d + m.length ≤ sz → y1.cells = splice y0.cells d m → splice (xs.flatMap AV.cells) (j * sz + d) m = (xs.set j y1).flatMap AV.cells
  | [], j, h, _, _, _ => by simp at h
  | x :: xs, 0, h, hx, hd, hy => by
    have hl := hx x (by simp)
    have e : x = y0 := by simpa using h
    subst e
    simp only [List.set_cons_zero, List.flatMap_cons, hy]
    unfold splice
    rw [Nat.zero_mul, Nat.zero_add, List.take_append_of_le_length (by omega), List.drop_append_of_le_length (by omega)]
    simp
  | x :: xs, j + 1, h, hx, hd, hy => by
    have hl := hx x (by simp)
    have ih := flat_setF (xs := xs) (j := j) (by simpa using h) (fun z hz => hx z (by simp [hz])) hd hy
    simp only [List.set_cons_succ, List.flatMap_cons, ← ih]
    unfold splice
    have e1 : (j + 1) * sz + d = x.cells.length + (j * sz + d) := by rw [hl, Nat.add_mul]; omega
    rw [e1, Nat.add_assoc x.cells.length, List.take_append, List.drop_append]
    simp only [Nat.add_sub_cancel_left]
    rw [List.take_of_length_le (by omega), List.drop_of_length_le (by omega)]
    simp
theorem AOp.storeF {T : TypeId} {x y : Operand} {k j sz d m : Nat} {y0 y1 : AV} {e : TypeId} {xs : List AV} (ho : o.op = .store T x y) (hx : s.ev x = .ept k (j * sz + d)) (hk : s.ob[k]? = some (.row e sz xs)) (ht : tkLen (tk P T) = m) (h0 : 0 < m) (hj0 : xs[j]? = some y0) (hd : d + m ≤ sz) (hf : (s.ev y).flat = true) (hl : (s.ev y).cells.length = m) (hy1 : y1.cells = splice y0.cells d (s.ev y).cells)
    (K : ARun P ops rest ({ s with ob := s.ob.set k (.row e sz (xs.set j y1)) }.put o.dst .any) Q) : AOp P ops o rest s Q := by
  have hj : j < xs.length := get_lt hj0
  have hy0 : y0 ∈ xs := List.mem_of_getElem? hj0
  refine AOp.unit (s' := { s with ob := s.ob.set k (.row e sz (xs.set j y1)) }) (fun E ρ B a w hs => ?_) (by rw [ho]; intro c h; cases h) K
  obtain ⟨b, cap, vs, ws, fz, r1, r2, r3, r4, r5, r6, r7⟩ := rowZ (hs.rw_.obs k _ hk) (by rintro rfl; simp at hj)
  have hxr := hs.ev x
  rw [hx] at hxr
  obtain ⟨t1, t2⟩ := (hs.ev y).toCells hf
  have hi : ∃ i, P.info? T = some i ∧ i.size = m := by
    rw [← ht]
    cases hq : tk P T with
    | scal => obtain ⟨d, i, _, hi, hs, _⟩ := tk_scal hq; exact ⟨i, hi, hs⟩
    | aggr n => obtain ⟨d, i, _, hi, hs, _⟩ := tk_aggr hq; exact ⟨i, hi, hs⟩
    | bad => rw [hq] at ht; simp [tkLen] at ht; omega
  obtain ⟨i, hi, hsz⟩ := hi
  have hul : (a.eval y).cells.toList.length = m := by rw [← t1.length_eq, hl]
  have hvl : vs.length = xs.length * sz := by rw [← r6.length_eq]; exact flat_len fun y hy => (r7 y hy).1
  have hjs : j * sz + sz ≤ xs.length * sz := by
    have : (j + 1) * sz ≤ xs.length * sz := Nat.mul_le_mul_right _ hj
    rw [Nat.add_mul] at this; omega
  have hjm : j * sz + d + m ≤ xs.length * sz := by omega
  have hst := run_storeVar (P := P) (w := w) (t := T) (b := b) (o := j * sz + d) (T := e) hi (v := a.eval y) rfl (by rw [hsz, hul]) r2 r5 (by rw [List.length_append, hul, hvl]; omega) (t1.ones t2)
  have hset : (vs ++ ws).take (j * sz + d) ++ (a.eval y).cells.toList ++ (vs ++ ws).drop (j * sz + d + (a.eval y).cells.toList.length) = (vs.take (j * sz + d) ++ (a.eval y).cells.toList ++ vs.drop (j * sz + d + (a.eval y).cells.toList.length)) ++ ws := by
    rw [List.take_append_of_le_length (by omega), List.drop_append_of_le_length (by omega)]
    simp
  rw [hset] at hst
  generalize hq : vs.take (j * sz + d) ++ (a.eval y).cells.toList ++ vs.drop (j * sz + d + (a.eval y).cells.toList.length) = us at hst
  have husl : us.length = vs.length := by rw [← hq]; simp only [List.length_append, List.length_take, List.length_drop]; omega
  have hw : RS E { s with ob := s.ob.set k (.row e sz (xs.set j y1)) } ρ B a (setBlk w b (.cells (us ++ ws).toArray e fz)) := by
    obtain ⟨p1, p2, p3⟩ := hs.rw_.prv k _ _ b hk rfl r1 rfl
    have hB : ∀ b', B b' → (setBlk w b (.cells (us ++ ws).toArray e fz)).heap[b']? = w.heap[b']? := fun b' hb' => by
      rw [setBlk_get _ _ _ _ p2, if_neg (by rintro rfl; exact p1 hb')]
    refine hs.write (b := b) hk rfl r1 rfl ⟨?_, .inr ⟨b, cap, us, ws, fz, by rw [List.length_set]; exact r1, by rw [setBlk_get _ _ _ _ p2, if_pos rfl], by rw [← r3]; simp [husl], by rw [List.length_set]; exact r4, by simpa [husl] using r5, ?_⟩⟩
    · intro c hc
      rcases List.mem_or_eq_of_mem_set hc with hc | rfl
      · exact r7 c hc
      · have hc0 := r7 y0 hy0
        refine ⟨?_, fun c hc => ?_⟩
        · rw [hy1]; unfold Abs.splice
          simp only [List.length_append, List.length_take, List.length_drop, hl, hc0.1]; omega
        · rw [hy1] at hc; unfold Abs.splice at hc
          simp only [List.mem_append] at hc
          rcases hc with (hc | hc) | hc
          · exact hc0.2 c (List.mem_of_mem_take hc)
          · exact t2 c hc
          · exact hc0.2 c (List.mem_of_mem_drop hc)
    · rw [← flat_setF hj0 (fun z hz => (r7 z hz).1) (by rw [hl]; exact hd) hy1]
      have hsp := r6.splice t1 (j * sz + d)
      rw [hq] at hsp
      exact hsp.mono (fun _ h => h) hB (Nat.le_refl _) (fun _ _ h => h)
  refine ⟨_, ρ, B, ?_, hw⟩
  simp only [execOp, ho]
  generalize a.eval x = u at hxr
  cases hxr with
  | ept hp =>
    rw [r1] at hp
    simp only [Option.some.injEq, Value.slice.injEq, Addr.mk.injEq, and_true] at hp
    obtain ⟨rfl, _, _⟩ := hp
    simp [Instr.storeAt, Instr.sureAddr, hst]
theorem ARun2.storeFM {T : TypeId} {x y : Operand} {k sz : Nat} {e : TypeId} {p : List Oper × AS} (xs : List AV) (j d m : Nat) (y0 v y1 : AV) (xs' : List AV) (hj : xs[j]? = some y0) (hs' : xs.set j y1 = xs') (hy1 : y1.cells = splice y0.cells d v.cells) (K : ARun2 P ops p Q) (ho : o.op = .store T x y := by rfl) (hg : gd ops s o = some true := by exact Go.Abs.evT) (hx : s.ev x = .ept k (j * sz + d) := by exact Go.Abs.evT) (hk : s.ob[k]? = some (.row e sz xs) := by rfl)
    (hy : s.ev y = v := by exact Go.Abs.evT) (ht : tkLen (tk P T) = m := by exact Go.Abs.evT) (h0 : decide (0 < m) = true := by first | rfl | decide) (hd : decide (d + m ≤ sz) = true := by first | rfl | decide) (hf : v.flat = true := by exact Go.Abs.evT) (hl : v.cells.length = m := by exact Go.Abs.evT) (h : srun P ops rest ({ s with ob := s.ob.set k (.row e sz xs') }.put o.dst .any) = p := by
        exact Go.Abs.evE) : ARun2 P ops (o :: rest, s) Q := by
  subst hy
  exact ARun.exec hg (AOp.storeF ho hx hk ht (of_decide_eq_true h0) hj (of_decide_eq_true hd) hf hl hy1 (ARun.srun (by rw [hs', h]; exact K)))
end
end Go.Abs
/- A place in an array that stands in a variable of the call's own. No condition. -/
namespace Go.Abs
set_option linter.unusedVariables false
set_option linter.unusedSectionVars false
set_option linter.unusedSimpArgs false
section
variable {P : Program} {ops : Array Oper} {E : Env} {s s' : AS} {ρ σ : List Value} {B : Nat → Prop} {a : Act} {w w' : World} {o : Oper} {rest : List Oper} {Q : AS → Prop} {R : Exit → AS → Prop}
theorem indexP_run (hs : RS E s ρ B a w) {T : TypeId} {x i : Operand} {k off len sz : Nat} {kk : IntKind} (n : Nat) (hn : n < len) (hz : arSz P T = some (len, sz)) (hx : s.ev x = .ptr k off) (hi : s.ev i = .val (.int kk (N n))) (ho : o.op = .indexAddr T x i) :
    ∃ v, (execOp a.eval o).run P w = .ok (.value v) w ∧ Rel w B E.bs ρ (.ptr k (off + n * sz)) v := by
  have hv := (hi ▸ hs.ev i : Rel w B E.bs ρ (.val (.int kk (N n))) (a.eval i)).val_eq
  have hxr := hs.ev x
  rw [hx] at hxr
  simp only [execOp, ho, hv]
  generalize a.eval x = u at hxr
  cases hxr with
  | ptr hp =>
    rename_i b
    refine ⟨.pointer (some ⟨b, off + n * sz, none⟩), ?_, .ptr hp⟩
    refine val_run ?_
    have := run_index_arr (P := P) (w := w) (b := b) (o' := off) (k := kk) (j := N n) hz (Int.natCast_nonneg n) (Int.ofNat_lt.2 hn)
    rw [N_toNat] at this
    exact this
theorem ARun2.indexPM {T : TypeId} {x i : Operand} {k off len sz : Nat} {kk : IntKind} {p : List Oper × AS} (n : Nat) (hn : n < len) (hz : arSz P T = some (len, sz)) (K : ARun2 P ops p Q) (ho : o.op = .indexAddr T x i := by rfl) (hg : gd ops s o = some true := by exact Go.Abs.evT) (hx : s.ev x = .ptr k off := by exact Go.Abs.evT)
    (hi : s.ev i = .val (.int kk (N n)) := by exact Go.Abs.evT) (h : srun P ops rest (s.put o.dst (.ptr k (off + n * sz))) = p := by
        exact Go.Abs.evE) : ARun2 P ops (o :: rest, s) Q :=
  ARun.exec hg (AOp.pure1 (fun E ρ B a w hs => indexP_run hs n hn hz hx hi ho) (ARun.srun (h ▸ K)))
end
end Go.Abs
/- Arrays of numbers compared. No condition. -/
namespace Go.Abs
set_option linter.unusedVariables false
set_option linter.unusedSectionVars false
set_option linter.unusedSimpArgs false
def isArN (P : Program) (T : TypeId) (n : Nat) : Bool := match P.underlying T with
  | some (.array m e) => decide (m = n) && isNum P e && decide (P.cellsOf e = 1) && (P.info? e).isSome && !P.eqGuardType P.depth T
  | _ => false
section
variable {P : Program} {ops : Array Oper} {E : Env} {s s' : AS} {ρ : List Value} {B : Nat → Prop} {a : Act} {w w' : World} {o : Oper} {rest : List Oper} {Q : AS → Prop} {R : Exit → AS → Prop} {nds : List (List (Nat × Option Nat))} {vals : List AV} {G : Prop}
theorem eqItems_run (d : Nat) {e : TypeId} (he : isNum P e = true) (xs ys : Array Value) : ∀ (ls : List (IntKind × Int × Int)) (i : Nat),
    (∀ j p, ls[j]? = some p → xs[i + j]? = some (.int p.1 p.2.1) ∧ ys[i + j]? = some (.int p.1 p.2.2)) → (Op.eqItems (d + 1) e 1 xs ys (List.range' i ls.length)).run P w = .ok (eqAll ls) w
  | [], _, _ => by simp [Op.eqItems, eqAll]
  | p :: q, i, hk => by
    obtain ⟨k, hu⟩ := isNum_spec he
    obtain ⟨hx, hy⟩ := hk 0 p rfl
    rw [Nat.add_zero] at hx hy
    have ih := eqItems_run d he xs ys q (i + 1) fun j p' hj => by
      have := hk (j + 1) p' hj
      rwa [show i + 1 + j = i + (j + 1) by omega]
    have e1 := part_num (w := w) he hx
    have e2 := part_num (w := w) he hy
    have e3 := run_equalIn_int w d e p.1 k p.2.1 p.2.2 hu
    rw [List.length_cons, List.range'_succ]
    simp only [Op.eqItems, Nat.mul_one, Sem.run_bind, e1, e2, e3, Result.andThen_ok, eqAll]
    cases hb : p.2.1 == p.2.2
    · simp
    · simpa using ih
theorem arrEq_run {bs : Nat} {op : BinOp} {T : TypeId} {x y : Operand} {l m : List AV} {ls : List (IntKind × Int × Int)} {vx vy : Value} (hop : op = .eql ∨ op = .neq) (hT : isArN P T ls.length = true) (hp : pairsI l m = some ls)
    (hx : Rel w B bs ρ (.agg l) vx) (hy : Rel w B bs ρ (.agg m) vy) : (eqGuard op T x y vx vy).run P w = .ok () w ∧ (binOp op T vx vy).run P w = .ok (.bool (if op = .eql then eqAll ls else !eqAll ls)) w := by
  unfold isArN at hT
  split at hT
  · rename_i n e hu
    simp only [Bool.and_eq_true, Bool.not_eq_true', decide_eq_true_eq] at hT
    obtain ⟨⟨⟨⟨t1, t2⟩, t3⟩, t5⟩, t4⟩ := hT
    subst t1
    obtain ⟨i, hi⟩ := Option.isSome_iff_exists.1 t5
    cases hx with
    | agg hx =>
      cases hy with
      | agg hy =>
        rename_i cs ds
        refine ⟨run_eqGuard_agg w op T x y _ _ t4, ?_⟩
        have he : (Op.equalIn 10000 T (.agg cs.toArray) (.agg ds.toArray)).run P w = .ok (eqAll ls) w := by
          have h1 := run_equalIn_array (P := P) w 9999 cs.toArray ds.toArray hu hi
          rw [h1, t3, List.range_eq_range']
          refine eqItems_run 9998 t2 _ _ ls 0 fun j p hj => ?_
          have := pairs_rel hp hx hy j p hj
          simpa using this
        rcases hop with rfl | rfl
        · rw [run_eql_struct, he]; rfl
        · rw [run_neq_struct, he]; rfl
  · cases hT
theorem arrEq_exec {op : BinOp} {T X : TypeId} {x y : Operand} {l m : List AV} {ls : List (IntKind × Int × Int)} (ho : o.op = .binOp op T x y X) (hop : op = .eql ∨ op = .neq) (hT : isArN P T ls.length = true) (hp : pairsI l m = some ls)
    {bs : Nat} (hx : Rel w B bs ρ (.agg l) (a.eval x)) (hy : Rel w B bs ρ (.agg m) (a.eval y)) : (execOp a.eval o).run P w = .ok (.value (.bool (if op = .eql then eqAll ls else !eqAll ls))) w := by
  obtain ⟨h1, h2⟩ := arrEq_run (x := x) (y := y) hop hT hp hx hy
  simp only [execOp, ho]
  simp [h1, h2]
theorem NSpec.arrEq {op : BinOp} {T X : TypeId} {x y : Operand} {l m : List AV} {ls : List (IntKind × Int × Int)} (hg : gd ops s o = some true) (ho : o.op = .binOp op T x y X) (hop : op = .eql ∨ op = .neq) (hT : isArN P T ls.length = true) (hp : pairsI l m = some ls) (hx : s.ev x = .agg l) (hy : s.ev y = .agg m) :
    NSpec P ops o s (.val (.bool (if op = .eql then eqAll ls else !eqAll ls))) :=
  NSpec.pureE hg fun E hE ρ B a w ob hs => ⟨_, arrEq_exec ho hop hT hp (show Rel w B E.bs ρ (.agg l) _ from hx ▸ hs.ev x) (show Rel w B E.bs ρ (.agg m) _ from hy ▸ hs.ev y), .val _⟩
theorem Dr.arrEq {op : BinOp} {T X : TypeId} {x y : Operand} {l m : List AV} {ls : List (IntKind × Int × Int)} (k : Dr P ops s nds (vals ++ [.val (.bool (if op = .eql then eqAll ls else !eqAll ls))]) G) (hn : ndsB nds = true := by first | rfl | decide) (hol : ops[vals.length]? = some o := by exact Go.Abs.evT)
    (ho : o.op = .binOp op T x y X := by rfl) (hg : gd ops { s with fr := needFr s.fr vals (nds.getD vals.length []) } o = some true := by exact Go.Abs.evT) (hop : op = .eql ∨ op = .neq := by first | exact .inl rfl | exact .inr rfl)
    (hx : AS.ev { s with fr := needFr s.fr vals (nds.getD vals.length []) } x = .agg l := by exact Go.Abs.evT) (hy : AS.ev { s with fr := needFr s.fr vals (nds.getD vals.length []) } y = .agg m := by exact Go.Abs.evT) (hp : pairsI l m = some ls := by rfl) (hT : isArN P T ls.length = true := by kernel_rfl) : Dr P ops s nds vals G :=
  Dr.step hn hol (NSpec.arrEq (s := { s with fr := needFr s.fr vals (nds.getD vals.length []) }) hg ho hop hT hp hx hy) k
end
end Go.Abs
/- A store at a place in a variable of the call's own that is told by a number. No condition. -/
namespace Go.Abs
set_option linter.unusedVariables false
set_option linter.unusedSectionVars false
set_option linter.unusedSimpArgs false
section
variable {P : Program} {ops : Array Oper} {E : Env} {s s' : AS} {ρ : List Value} {B : Nat → Prop} {a : Act} {w w' : World} {o : Oper} {rest : List Oper} {Q : AS → Prop} {R : Exit → AS → Prop}
end
end Go.Abs
/- data.Same, data.Most. -/
set_option linter.unusedVariables false
set_option linter.unusedSimpArgs false
namespace Go.Proofs.YtoapdhogghbojaaGreatDoor.C
open Go.Abs
def gB (i j : Nat) (b : Bool) : Nat := bif decide (j < i) && b then 1 else 0
def bitL (p : GPart) (i : Nat) : Bool := [p.inter, p.beg, p.fin, p.unord, p.now].getD i false
def headL (p : GPart) (i : Nat) : List AV := [u32 p.tsn, u32 p.stream, u32 p.seq, u32 p.proto, u32 (gB i 0 p.inter), u32 (gB i 1 p.beg), u32 (gB i 2 p.fin), u32 (gB i 3 p.unord), u32 (gB i 4 p.now)]
theorem five {i : Nat} (h : i < 5) : i = 0 ∨ i = 1 ∨ i = 2 ∨ i = 3 ∨ i = 4 := by omega
theorem headL_one (p : GPart) {i : Nat} (h : i < 5) (hb : bitL p i = true) : List.take (0 + (4 + i) * 1) (headL p i) ++ AV.val (.int .u32 1) :: List.drop (0 + (4 + i) * 1 + 1) (headL p i) = headL p (i + 1) := by
  obtain ⟨inter, tsn, stream, seq, proto, beg, fin, unord, now, user⟩ := p
  rcases five h with rfl | rfl | rfl | rfl | rfl <;> (simp only [bitL, List.getD_cons_zero, List.getD_cons_succ] at hb; subst hb; rfl)
theorem headL_no (p : GPart) {i : Nat} (h : i < 5) (hb : bitL p i = false) : headL p i = headL p (i + 1) := by
  obtain ⟨inter, tsn, stream, seq, proto, beg, fin, unord, now, user⟩ := p
  rcases five h with rfl | rfl | rfl | rfl | rfl <;> (simp only [bitL, List.getD_cons_zero, List.getD_cons_succ] at hb; subst hb; rfl)
theorem arsz9 : arSz Tryz.prog 131 = some (9, 1) := by kernel_rfl
@[push_cast] theorem headL_ids (q : Nat → Bool) (p : GPart) (i : Nat) : AV.idsOkL q (headL p i) = true := rfl
@[push_cast] theorem headL_hand (ids : List Nat) (p : GPart) (i : Nat) : AV.handL ids (headL p i) = headL p i := rfl
@[push_cast] theorem headL_pl (p : GPart) (i : Nat) : AV.plL (headL p i) = true := rfl
theorem headL_len (p : GPart) (i : Nat) : (headL p i).length = 9 := rfl
set_option maxRecDepth 100000 in
theorem dhead_c (p : GPart) (hs : p.stream < 2 ^ 16) : PC Tryz.prog 88 [partA false p] (.agg (headL p 5)) := by
  refine PC.of_bodyW (by simp only [push_cast]) Tryz.func88 rfl (by rw [Tryz.ntmps88]; simp) ?_
  refine AWp.regionW ?_
  refine AWp.regionW ?_
  refine AWp.regionW ?_
  refine AWp.seqK fun K1 hK1 => ?_
  refine AWp.regionW ?_
  refine AWp.block ?_
  refine AWp.loopK [2, 4, 28] (fun (i : Nat) => [(29, nat i)]) (fun i => [.box 34 [bool p.inter, u32 p.tsn, u16 p.stream, u32 p.seq, u32 p.proto, bool p.beg, bool p.fin, bool p.unord, bool p.now, .sl false 1 (bys p.user)], .box 131 [u32 0, u32 0, u32 0, u32 0, u32 0, u32 0, u32 0, u32 0, u32 0], .box 132 [bool p.inter, bool p.beg, bool p.fin, bool p.unord, bool p.now], .box 131 (headL p i)]) (fun i => i ≤ 5) (fun i => 5 - i) (0) ?_ (Nat.zero_le _) ?_
  · skip
    refine Le.m 4 ?_ ?_
    · try simp only [push_cast, ↓reduceIte, Nat.reduceEqDiff, Nat.reduceLT, Nat.reduceAdd, Nat.reduceSub, Nat.reduceMul, Nat.reduceLeDiff, Nat.reducePow, Int.reduceLT, Int.reduceToNat, reduceCtorEq, Int.reduceNeg, Int.reduceEq, Nat.reduceBEq, Nat.reduceBNe, Int.reduceBEq, Int.reduceBNe, String.reduceEq]
      try simp (disch := omega) only [w_nat, w_add, w_addl, w_addr, w_sub, w_subl, w_mul, w_mull, w_mulr, w_u32, w_u16, w_u8, w_u32a, N_zero]
      first | done | skip
      rfl
    · exact Go.Abs.evN
  · intro i hi K2 hK2
    refine AWp.regionW ?_
    refine AWp.seqK fun K3 hK3 => ?_
    refine AWp.condLM (fun c0 => ?_) (fun c0 => ?_)
    · skip
      have hil : i < 5 := by simpa using c0
      obtain ⟨bb, hbb⟩ : ∃ b, b = bitL p i := ⟨_, rfl⟩
      refine AWp.skip ?_
      refine hK3 _ ?_
      refine AWp.seqK fun K4 hK4 => ?_
      refine AWp.block ?_
      refine AWp.regionM fun K5 hK5 => ?_
      refine ARun2.aindexM (i) (bool bb) ?_ ?_
      · subst hbb; rcases five hil with rfl | rfl | rfl | rfl | rfl <;> rfl
      refine ARun2.endm (hK5 _ ?_)
      refine AWp.regionW ?_
      refine AWp.condLM (fun c1 => ?_) (fun c1 => ?_)
      · skip
        have hb : bitL p i = true := by rw [← hbb]; simpa using c1
        have hst := headL_one p hil hb
        refine AWp.regionN fun K6 hK6 => ?_
        refine ARun2.indexPM (4 + i) (by omega) arsz9 ?_
        rw [if_pos (show 0 + (4 + i) * 1 + 1 ≤ (headL p i).length by rw [headL_len]; omega), hst]
        simp only [push_cast, ↓reduceIte, Nat.reduceEqDiff, Nat.reduceLT, Nat.reduceAdd, Nat.reduceSub, Nat.reduceMul, Nat.reduceLeDiff, Nat.reducePow, Int.reduceLT, Int.reduceToNat, reduceCtorEq, Int.reduceNeg, Int.reduceEq, Nat.reduceBEq, Nat.reduceBNe, Int.reduceBEq, Int.reduceBNe, String.reduceEq]
        refine ARun2.endm (hK6 _ ?_)
        refine hK4 _ ?_
        refine AWp.regionV ?_
        refine hK2 _ (i + 1) (by omega) (by omega) ?_
        refine Le.m 4 ?_ ?_
        · exact Go.Abs.evM
        · exact Go.Abs.evN
      · skip
        have hb : bitL p i = false := by rw [← hbb]; simpa using c1
        have hst := headL_no p hil hb
        rw [hst]
        refine AWp.skip ?_
        refine hK4 _ ?_
        refine AWp.regionV ?_
        refine hK2 _ (i + 1) (by omega) (by omega) ?_
        refine Le.m 4 ?_ ?_
        · exact Go.Abs.evM
        · exact Go.Abs.evN
    · skip
      have hil : i = 5 := by have h0 : ¬ i < 5 := (by simpa using c0); omega
      subst hil
      refine AWp.exit ?_
      try simp only [thenQ, blockQ, noGo, reduceIte, Nat.reduceEqDiff]
      refine hK1 _ ?_
      refine AWp.regionW ?_
      refine AWp.ret ?_
      try simp only [thenQ, blockQ, noGo]
      refine bodyQ.m ?_
      clear hK3 K3 hK2 K2 hK1 K1
      first | done | exact Hand.go
def headEq (a b : GPart) : Bool := (a.tsn == b.tsn) && (a.stream == b.stream) && (a.seq == b.seq) && (a.proto == b.proto) && (a.inter == b.inter) && (a.beg == b.beg) && (a.fin == b.fin) && (a.unord == b.unord) && (a.now == b.now)
theorem sameP_head (a b : GPart) : sameP a b = (headEq a b && decide (a.user = b.user)) := by
  unfold sameP headEq
  cases a.inter == b.inter <;> cases a.tsn == b.tsn <;> cases a.stream == b.stream <;> cases a.seq == b.seq <;> cases a.proto == b.proto <;> simp
theorem gB5 (j : Nat) (hj : j < 5) (a b : Bool) : (gB 5 j a == gB 5 j b) = (a == b) := by
  have : decide (j < 5) = true := decide_eq_true hj
  unfold gB; rw [this]
  cases a <;> cases b <;> rfl
theorem headEq_form (a b : GPart) : (a.tsn == b.tsn && (a.stream == b.stream && (a.seq == b.seq && (a.proto == b.proto && (gB 5 0 a.inter == gB 5 0 b.inter && (gB 5 1 a.beg == gB 5 1 b.beg && (gB 5 2 a.fin == gB 5 2 b.fin && (gB 5 3 a.unord == gB 5 3 b.unord && gB 5 4 a.now == gB 5 4 b.now)))))))) = headEq a b := by
  rw [gB5 0 (by decide), gB5 1 (by decide), gB5 2 (by decide), gB5 3 (by decide), gB5 4 (by decide)]
  unfold headEq
  simp only [Bool.and_assoc]
theorem dsame_c (a b : GPart) (ha : a.stream < 2 ^ 16) (hb : b.stream < 2 ^ 16) (h : a.user.length ≤ 2 ^ 40) : PC Tryz.prog 42 [partA false a, partA false b] (bool (sameP a b)) := by
  have k1 := dhead_c a ha
  have k2 := dhead_c b hb
  have k3 := equal_c a.user b.user
  unfold headL at k1 k2
  rw [sameP_head]
  refine PC.of_bodyW (by simp only [push_cast]) Tryz.func42 rfl (by rw [Tryz.ntmps42]; simp) ?_
  refine AWp.regionW ?_
  refine AWp.regionW ?_
  refine AWp.drS [[(5, none)], [(2, none)], [(6, some 0), (7, some 1)], [(5, none)], [(3, none)], [(9, some 3), (10, some 4)], [(8, some 2), (11, some 5)], [(12, some 6)], [(2, none), (13, some 7)], [(14, some 8), (13, some 7)], [(3, none), (13, some 7)], [(16, some 10), (13, some 7)], [(15, some 9), (17, some 11), (13, some 7)], [(13, some 7), (18, some 12)]] fun G hG => ?_
  refine Dr.sim ?_
  try simp only [List.cons_append, List.nil_append]
  refine Dr.sim ?_
  try simp only [List.cons_append, List.nil_append]
  refine Dr.callV k1 ?_
  refine Dr.sim ?_
  try simp only [List.cons_append, List.nil_append]
  refine Dr.sim ?_
  try simp only [List.cons_append, List.nil_append]
  refine Dr.callV k2 ?_
  refine Dr.arrEq ?_
  refine Dr.sim ?_
  try simp only [List.cons_append, List.nil_append]
  refine Dr.simg ?_
  try simp only [List.cons_append, List.nil_append]
  refine Dr.simg ?_
  try simp only [List.cons_append, List.nil_append]
  refine Dr.simg ?_
  try simp only [List.cons_append, List.nil_append]
  refine Dr.simg ?_
  try simp only [List.cons_append, List.nil_append]
  refine Dr.callg (fun g7 => k3) ?_
  try simp only [List.cons_append, List.nil_append]
  refine Dr.sim ?_
  try simp only [List.cons_append, List.nil_append]
  refine Dr.finM (n := 14) [(19, 13)] [] hG YtoapdhogghbojaaGreatDoor.Facts.mixed fun KD hKD => ?_
  refine ARun2.endm (hKD _ ?_); clear hKD KD hG G
  refine AWp.ret ?_
  try simp only [thenQ, blockQ, noGo]
  refine bodyQ.m ?_
  rw [headEq_form]
  first | done | exact Hand.go
end Go.Proofs.YtoapdhogghbojaaGreatDoor.C
/- Lists of descriptions; slices.EqualFunc over them. -/
set_option linter.unusedVariables false
set_option linter.unusedSimpArgs false
namespace Go.Proofs.YtoapdhogghbojaaGreatDoor.C
open Go.Abs
def partsA (b : Bool) (l : List GPart) : List AV := l.map (partA b)
@[push_cast] theorem partsA_len (b : Bool) (l : List GPart) : (partsA b l).length = l.length := by simp [partsA]
theorem partsA_at (b : Bool) (l : List GPart) (i : Nat) (h : i < l.length) : (partsA b l)[i]? = some (partA b l[i]) := by simp [partsA, h]
@[push_cast] theorem partsA_nil (b : Bool) : partsA b [] = [] := rfl
theorem partsA_snoc (b : Bool) (l : List GPart) (p : GPart) : partsA b (l ++ [p]) = partsA b l ++ [partA b p] := by simp [partsA]
@[push_cast] theorem partsA_hand (ids : List Nat) (b : Bool) (l : List GPart) : AV.handL ids (partsA b l) = partsA false l := by
  rw [AV.handL_map]
  simp only [partsA, List.map_map]
  refine List.map_congr_left fun p _ => ?_
  show (partA b p).hand ids = partA false p
  simp [partA, AV.hand, AV.handL, bys_hand]
@[push_cast] theorem partsA_pl (l : List GPart) : AV.plL (partsA false l) = true := by
  rw [AV.plL_iff]; intro x hx; simp only [partsA, List.mem_map] at hx; obtain ⟨p, _, rfl⟩ := hx
  simp [partA, AV.pl, AV.plL, bys_pl]
@[push_cast] theorem partsA_ids (q : Nat → Bool) (b : Bool) (l : List GPart) : AV.idsOkL q (partsA b l) = true := by
  rw [AV.idsOkL_iff]; intro x hx; simp only [partsA, List.mem_map] at hx; obtain ⟨p, _, rfl⟩ := hx
  simp [partA, AV.idsOk, AV.idsOkL, bys_ids]
def sameLP (l m : List GPart) : Bool := decide (l.length = m.length) && (l.zip m).all fun p => sameP p.1 p.2
theorem sameLP_at {l m : List GPart} {i : Nat} (hl : i < l.length) (hm : i < m.length) (h : sameP l[i] m[i] = false) : sameLP l m = false := by
  unfold sameLP
  have : ((l.zip m).all fun p => sameP p.1 p.2) = false := by
    rw [Bool.eq_false_iff]
    intro hh
    have := List.all_eq_true.1 hh (l[i], m[i]) (by
      rw [List.mem_iff_getElem]
      exact ⟨i, by rw [List.length_zip]; omega, by simp⟩)
    rw [h] at this; cases this
  rw [this, Bool.and_false]
theorem sameLP_all {l m : List GPart} (he : l.length = m.length) (h : ∀ i (hl : i < l.length) (hm : i < m.length), sameP l[i] m[i] = true) : sameLP l m = true := by
  unfold sameLP
  rw [decide_eq_true he, Bool.true_and, List.all_eq_true]
  intro p hp
  obtain ⟨i, hi, rfl⟩ := List.mem_iff_getElem.1 hp
  simp only [List.length_zip] at hi
  simp only [List.getElem_zip]
  exact h i (by omega) (by omega)
theorem eqf13_c (l m : List GPart) (hl : l.length ≤ 2 ^ 40) (h1 : ∀ p ∈ l, p.stream < 2 ^ 16 ∧ p.user.length ≤ 2 ^ 40) (h2 : ∀ p ∈ m, p.stream < 2 ^ 16) :
    PC Tryz.prog 87 [.sl false 10 (partsA false l), .sl false 10 (partsA false m), .fn (.func 42) [] []] (bool (sameLP l m)) := by
  refine PC.of_bodyW (by simp only [push_cast]) Tryz.func87 rfl (by rw [Tryz.ntmps87]; simp) ?_
  refine AWp.regionW ?_
  refine AWp.seqK fun K1 hK1 => ?_
  refine AWp.regionW ?_
  refine AWp.condLM (fun c0 => ?_) (fun c0 => ?_)
  · skip
    have hne : ¬ l.length = m.length := by simpa using c0
    have hr : sameLP l m = false := by unfold sameLP; rw [decide_eq_false hne, Bool.false_and]
    refine AWp.regionW ?_
    refine AWp.ret ?_
    try simp only [thenQ, blockQ, noGo]
    refine bodyQ.m ?_
    clear hK1 K1
    rw [hr]
    first | done | exact Hand.go
  · skip
    have he : l.length = m.length := by simpa using c0
    refine AWp.skip ?_
    refine hK1 _ ?_
    refine AWp.seqK fun K2 hK2 => ?_
    refine AWp.regionW ?_
    refine AWp.block ?_
    refine AWp.loopK0 [1, 2, 15, 16] (fun (i : Nat) => [(17, nat i)]) (fun i => i ≤ l.length ∧ ∀ j (hl : j < l.length) (hm : j < m.length), j < i → sameP l[j] m[j] = true) (fun i => l.length - i) (0) ?_ ⟨Nat.zero_le _, fun j _ _ hj => by omega⟩ ?_
    · skip
      refine Le.m 0 ?_ ?_
      · exact Go.Abs.evM
      · exact Go.Abs.evN
    · intro i hi K3 hK3
      refine AWp.regionW ?_
      refine AWp.seqK fun K4 hK4 => ?_
      refine AWp.condLM (fun c1 => ?_) (fun c1 => ?_)
      · skip
        have hil : i < l.length := by simpa using c1
        have him : i < m.length := by omega
        obtain ⟨q1, q2⟩ := h1 l[i] (List.getElem_mem hil)
        have q3 := h2 m[i] (List.getElem_mem him)
        have ks := dsame_c l[i] m[i] q1 q3 q2
        refine AWp.skip ?_
        refine hK4 _ ?_
        refine AWp.seqK fun K5 hK5 => ?_
        refine AWp.block ?_
        refine AWp.regionM fun K6 hK6 => ?_
        refine ARun2.indexM (i) (partA false l[i]) ?_ ?_
        · exact partsA_at _ _ _ hil
        refine ARun2.endm (hK6 _ ?_)
        refine AWp.regionM fun K7 hK7 => ?_
        refine ARun2.indexM (i) (partA false m[i]) ?_ ?_
        · exact partsA_at _ _ _ him
        refine ARun2.endm (hK7 _ ?_)
        refine AWp.regionM fun K8 hK8 => ?_
        refine ARun2.callVM (ks) ?_
        refine ARun2.endm (hK8 _ ?_)
        refine AWp.condLM (fun c2 => ?_) (fun c2 => ?_)
        · skip
          have hne : sameP l[i] m[i] = false := by simpa using c2
          have hr := sameLP_at hil him hne
          refine AWp.regionW ?_
          refine AWp.ret ?_
          try simp only [thenQ, blockQ, noGo]
          refine bodyQ.m ?_
          clear hK8 K8 hK7 K7 hK6 K6 hK5 K5 hK4 K4 hK3 K3 hK2 K2 hK1 K1
          rw [hr]
          first | done | exact Hand.go
        · skip
          have heq : sameP l[i] m[i] = true := by simpa using c2
          refine AWp.skip ?_
          refine hK5 _ ?_
          refine AWp.regionV ?_
          refine hK3 _ (i + 1) (⟨hil, fun j hl hm hj => (Nat.lt_or_ge j i).elim (fun h => hi.2 j hl hm h) (fun h => by have e : j = i := (by omega); subst e; exact heq)⟩) (by omega) ?_
          refine Le.m 0 ?_ ?_
          · exact Go.Abs.evM
          · exact Go.Abs.evN
      · skip
        have hil : i = l.length := by have := hi.1; simp at c1; omega
        have hr := sameLP_all he (fun j hl hm => hi.2 j hl hm (by omega))
        refine AWp.exit ?_
        try simp only [thenQ, blockQ, noGo, reduceIte, Nat.reduceEqDiff]
        refine hK2 _ ?_
        refine AWp.regionW ?_
        refine AWp.ret ?_
        try simp only [thenQ, blockQ, noGo]
        refine bodyQ.m ?_
        clear hK4 K4 hK3 K3 hK2 K2 hK1 K1
        rw [hr]
        first | done | exact Hand.go
end Go.Proofs.YtoapdhogghbojaaGreatDoor.C
/- An operation of a region's free tail that only tells a place may be done first. No condition. -/
namespace Go.Abs
set_option linter.unusedVariables false
set_option linter.unusedSectionVars false
set_option linter.unusedSimpArgs false
section
variable {P : Program} {ops : Array Oper} {E : Env} {s s' : AS} {o : Oper} {Q : AS → Prop}
theorem wpOpIn_mono2 {F : Fence} {n : Nat} {i : Nat} {K K' : Act → World → Prop} {Q Q' : Exit → Act → World → Prop} {a : Act} {w : World} (h : ∀ a w, K a w → K' a w) (hq : ∀ e a w, e ≠ .normal → Q e a w → Q' e a w)
    (hh : wpOpIn F n P ops Q i K a w) : wpOpIn F n P ops Q' i K' a w := by
  unfold wpOpIn at *
  split
  · rename_i hn; simp only [hn] at hh; exact h _ _ hh
  · rename_i o ho
    simp only [ho] at hh
    split
    · rename_i hw; simp only [hw, if_true] at hh; exact wpIn_mono2 h hq hh
    · rename_i hw; simp only [hw] at hh; exact ⟨hh.1, h _ _ hh.2⟩
theorem wpAnyIn_monoQ {F : Fence} {n : Nat} {md : Region.Mode} {Q Q' : Exit → Act → World → Prop} (hq : ∀ e a w, Q e a w → Q' e a w) : ∀ (fuel : Nat) (listed : Array Bool) (a : Act) (w : World),
    wpAnyIn F n P md ops Q fuel listed a w → wpAnyIn F n P md ops Q' fuel listed a w
  | 0, _, _, _, h => ⟨h.1, hq _ _ _ h.2⟩
  | fuel + 1, listed, a, w, h => ⟨fun e => hq _ _ _ (h.1 e), fun i hi => wpOpIn_mono2 (fun a w h => wpAnyIn_monoQ hq fuel _ a w h) (fun e a w _ h => hq e a w h) (h.2 i hi)⟩
/-- an operation whose value is known by what the slots tell, whatever the world is: the place of a field, a copy, numbers -/
def placeB (P : Program) (ops : Array Oper) (s : AS) (j : Nat) : Bool :=
  match ops[j]? with
  | some o => o.guard.isNone && match o.op with
    | .fieldAddr T x f => (fld P T f).isSome && (match s.ev x with | .ptr _ _ => true | _ => false)
    | .move _ => true
    | .binOp op _ x y _ => match s.ev x, s.ev y with
      | .val a, .val b => (binV op (.val a) (.val b)).isSome
      | _, _ => false
    | _ => false
  | none => false
theorem placeB.spec {j : Nat} (h : placeB P ops s j = true) {ρ : List Value} {B : Nat → Prop} {a : Act} {w : World} (hs : RS E s ρ B a w) : ∃ o v, ops[j]? = some o ∧ YieldsFenced P ops o v a := by
  unfold placeB at h
  cases ho : ops[j]? with
  | none => simp [ho] at h
  | some o =>
    simp only [ho, Bool.and_eq_true, Option.isNone_iff_eq_none] at h
    obtain ⟨h1, h2⟩ := h
    have hw : Region.wanted o (yielded ops a.tmps) = true := by unfold Region.wanted; rw [h1]
    split at h2
    · rename_i T x f hop
      simp only [Bool.and_eq_true] at h2
      obtain ⟨h2, h3⟩ := h2
      obtain ⟨⟨o', k'⟩, hf⟩ := Option.isSome_iff_exists.1 h2
      split at h3
      · rename_i k off e
        have hy := hs.ev x
        rw [e] at hy
        generalize hu : a.eval x = u at hy
        cases hy with
        | ptr hp =>
          rename_i b
          refine ⟨o, .pointer (some ⟨b, off + o', none⟩), rfl, .inl ⟨hw, fun w' => ?_⟩, fun w' => by unfold Oper.about; rw [hop]⟩
          simp only [execOp, hop, hu]
          exact val_run (run_fieldAt hf)
      · cases h3
    · rename_i x hop
      refine ⟨o, a.eval x, rfl, .inl ⟨hw, fun w' => ?_⟩, fun w' => by unfold Oper.about; rw [hop]⟩
      simp [execOp, hop]
    · rename_i op T x y T2 hop
      split at h2
      · rename_i u v e1 e2
        obtain ⟨z, hz⟩ := Option.isSome_iff_exists.1 h2
        have hx : a.eval x = u := (e1 ▸ hs.ev x : Rel w B E.bs ρ (.val u) (a.eval x)).val_eq
        have hy : a.eval y = v := (e2 ▸ hs.ev y : Rel w B E.bs ρ (.val v) (a.eval y)).val_eq
        obtain ⟨r, _, hr, _⟩ := binV_run (P := P) (w := w) (B := B) (E := E) (ρ := ρ) (T := T) hz (.val u) (.val v)
        refine ⟨o, r, rfl, .inl ⟨hw, fun w' => ?_⟩, fun w' => by unfold Oper.about; rw [hop]⟩
        obtain ⟨r', h3, h4, h5⟩ := binV_run (P := P) (w := w') (B := B) (E := E) (ρ := ρ) (T := T) hz (.val u) (.val v)
        have hrr : r' = r := by rw [hr] at h4; injection h4 with h4; exact h4.symm
        subst hrr
        simp only [execOp, hop, hx, hy]
        exact val_run (by simp only [Sem.run_bind, h5 x y, Result.andThen_ok]; exact h3)
      · cases h2
    · cases h2
theorem yields_wpOpIn {F : Fence} {n : Nat} {Q : Exit → Act → World → Prop} {i : Nat} {o : Oper} {v : Value} {a : Act} (hd : ∀ c, o.op ≠ .defer c) (hi : ops[i]? = some o) (hy : YieldsFenced P ops o v a)
    {K : Act → World → Prop} {w : World} (h : K (a.put o.dst v) w) : wpOpIn F n P ops Q i K a w := by
  unfold wpOpIn
  simp only [hi]
  have hab : ∀ f, o.about P w a.eval = some f → F.fn f := fun f hf => by rw [hy.2 w] at hf; cases hf
  rcases hy.1 with ⟨hw, hv⟩ | ⟨hw, rfl⟩
  · simp only [hw, if_true, Oper.wpIn, Oper.semAt_eq _ _ _ hd, hv w, Oper.uponIn]; exact ⟨hab, h⟩
  · simp only [hw, Bool.false_eq_true, if_false]; exact ⟨hab, h⟩
theorem wpOpIn_putR {F : Fence} {n : Nat} {Q : Exit → Act → World → Prop} {j : Nat} {oi oj : Oper} {v : Value} (hdj : ∀ c, oj.op ≠ .defer c) (hj : ops[j]? = some oj) (hap : oi.apart ops oj = true)
    (hsi : ∀ cs b, oi.op ≠ .select cs b) (hsj : ∀ cs b, oj.op ≠ .select cs b)
    (hQ : ∀ c a w, Q (.panic c) (a.put oi.dst v) w → Q (.panic c) a w) {K : Act → World → Prop} {a : Act} {w : World}
    (hy : YieldsFenced P ops oi v a) (h : wpOpIn F n P ops Q j K (a.put oi.dst v) w) :
    wpOpIn F n P ops Q j (fun a' w' => YieldsFenced P ops oi v a' ∧ K (a'.put oi.dst v) w') a w := by
  obtain ⟨h1, h2, h3⟩ := Oper.apart_spec hap
  have keep : ∀ (a : Act), YieldsFenced P ops oi v a → ∀ u, YieldsFenced P ops oi v (a.put oj.dst u) := fun a hy u =>
    hy.of_same (execOp_put oi hsi a oj.dst u h3) (wanted_put oi a oj.dst u h3) (fun w => about_put oi w a oj.dst u h3)
  have keepD : ∀ d, YieldsFenced P ops oi v { a with defers := d :: a.defers } := fun d => hy.of_same rfl rfl (fun _ => rfl)
  unfold wpOpIn at *
  simp only [hj] at *
  rw [wanted_put oj a oi.dst v h1, about_put oj w a oi.dst v h1] at h
  split
  · rename_i hw
    simp only [hw, if_true] at h
    unfold Oper.wpIn at *
    rw [about_put oj w a oi.dst v h1] at h
    refine ⟨h.1, ?_⟩
    have h := h.2
    rw [Oper.semAt_eq _ _ _ hdj, execOp_put oj hsj a oi.dst v h1] at h
    rw [Oper.semAt_eq _ _ _ hdj]
    generalize (execOp a.eval oj).run P w = r at *
    cases r with
    | ok x w' =>
      cases x <;> simp only [Oper.uponIn] at h ⊢
      case value u => exact ⟨keep a hy u, by rw [← Act.put_comm a v u h2]; exact h⟩
      case skip => exact ⟨keep a hy _, by rw [← Act.put_comm a v undef h2]; exact h⟩
      case defer d =>
        refine ⟨keep _ (keepD d) _, ?_⟩
        rw [← Act.put_comm _ v undef h2, ← Act.put_defers]
        exact h
      case enter f args =>
        refine ⟨h.1, CallsIn.mono h.2 fun e w'' he => ?_⟩
        cases e with
        | returned u => exact ⟨keep a hy u, by rw [← Act.put_comm a v u h2]; exact he⟩
        | panicked c => exact hQ _ _ _ he
        | outgrown => exact he
      case row row args => exact ⟨h.1, RowsIn.mono h.2 fun u w'' he => ⟨keep a hy u, by rw [← Act.put_comm a v u h2]; exact he⟩⟩
      case round l f tmps assign body =>
        refine ⟨h.1, RoundIn.mono h.2 fun e w'' he => ?_⟩
        cases e with
        | returned u => exact ⟨keep a hy u, by rw [← Act.put_comm a v u h2]; exact he⟩
        | panicked c => exact hQ _ _ _ he
        | outgrown => exact he
    | halt x w' =>
      cases x <;> simp only [Oper.uponIn] at h ⊢
      case panic u => exact hQ _ _ _ h
  · rename_i hw
    simp only [hw] at h
    exact ⟨h.1, keep a hy _, by rw [← Act.put_comm a v undef h2]; exact h.2⟩
theorem wpAnyIn_firstR {F : Fence} {n : Nat} {md : Region.Mode} {Q : Exit → Act → World → Prop} {i : Nat} {oi : Oper} {v : Value} (hdf : ∀ (j : Nat) (o : Oper) c, ops[j]? = some o → o.op ≠ .defer c) (hi : ops[i]? = some oi) (hsel : ∀ (j : Nat) (o : Oper) cs b, ops[j]? = some o → o.op ≠ .select cs b)
    (hQ : ∀ c a w, Q (.panic c) (a.put oi.dst v) w → Q (.panic c) a w) :
    ∀ (fuel : Nat) (listed : Array Bool) (a : Act) (w : World),
      (∀ j oj, ops[j]? = some oj → j ≠ i → listed.getD j true = false → (∀ e ∈ oj.after, Region.binds md e = true → e.on ≠ i) → oi.apart ops oj = true) →
      i ∈ Region.ready md ops listed → YieldsFenced P ops oi v a →
      wpAnyIn F n P md ops Q fuel (listed.setIfInBounds i true) (a.put oi.dst v) w → wpAnyIn F n P md ops Q (fuel + 1) listed a w := by
  intro fuel
  induction fuel with
  | zero =>
    intro listed a w _ hr hy H
    refine ⟨fun h => (by rw [h] at hr; cases hr), fun j hj => ?_⟩
    by_cases hji : j = i
    · subst hji; exact yields_wpOpIn (fun c => hdf _ _ c hi) hi hy H
    · have := ready_mono hj hji
      rw [H.1] at this
      cases this
  | succ fuel ih =>
    intro listed a w hfree hr hy H
    refine ⟨fun h => (by rw [h] at hr; cases hr), fun j hj => ?_⟩
    by_cases hji : j = i
    · subst hji; exact yields_wpOpIn (fun c => hdf _ _ c hi) hi hy H
    · have h1 := H.2 j (ready_mono hj hji)
      obtain ⟨hjun, oj, hoj, hall⟩ := mem_ready.1 hj
      have hnot : ∀ e ∈ oj.after, Region.binds md e = true → e.on ≠ i := fun e he hb heq => by
        have h1 := hall e he hb
        have h0 := (mem_ready.1 hr).1
        rw [heq] at h1
        rcases Nat.lt_or_ge i listed.size with h' | h'
        · simp [h'] at h0 h1; rw [h0] at h1; cases h1
        · simp [Array.getElem?_eq_none h'] at h1
      have h2 := wpOpIn_putR (fun c => hdf _ _ c hoj) hoj (hfree j oj hoj hji hjun hnot) (fun cs b => hsel i oi cs b hi) (fun cs b => hsel j oj cs b hoj) hQ hy h1
      have hfree' : ∀ k ok, ops[k]? = some ok → k ≠ i → (listed.setIfInBounds j true).getD k true = false →
          (∀ e ∈ ok.after, Region.binds md e = true → e.on ≠ i) → oi.apart ops ok = true := fun k ok hk hki hun hno => by
        refine hfree k ok hk hki ?_ hno
        by_cases hjk : j = k
        · subst hjk; exact hjun
        · rw [getD_set_ne true hjk] at hun; exact hun
      refine wpOpIn_mono (fun a' w' h3 => ih (listed.setIfInBounds j true) a' w' hfree' (ready_mono hr (Ne.symm hji)) h3.1 ?_) h2
      rw [Array.setIfInBounds_comm _ _ hji]
      exact h3.2
def noDefer (ops : Array Oper) : Bool := ops.all fun o => match o.op with | .defer .. => false | _ => true
theorem noDefer_spec (h : noDefer ops = true) (j : Nat) (o : Oper) (c) (ho : ops[j]? = some o) : o.op ≠ .defer c := by
  intro heq
  have := Array.all_eq_true_iff_forall_mem.1 h o (Array.mem_of_getElem? ho)
  simp [heq] at this
theorem AAny.first {fuel : Nat} {listed : Array Bool} (j : Nat) (k : ARun P ops (ops[j]?).toList s (fun s' => AAny P ops fuel (listed.setIfInBounds j true) Q s'))
    (hp : placeB P ops s j = true := by kernel_rfl) (hns : (Region.noSelect ops && noDefer ops) = true := by kernel_rfl) (hf : Region.free .any ops listed j = true := by kernel_rfl) (hr : (Region.ready .any ops listed).contains j = true := by kernel_rfl) :
    AAny P ops (fuel + 1) listed Q s := by
  intro E hE ρ B a w hs Q' hQ
  obtain ⟨o, v, ho, hy⟩ := placeB.spec hp hs
  refine wpAnyIn_monoQ (Q := fun e a w => e = .normal ∧ Q' e a w) (fun e a w h => h.2) _ _ _ _ ?_
  rw [Bool.and_eq_true] at hns
  refine wpAnyIn_firstR (oi := o) (v := v) (noDefer_spec hns.2) ho (Region.noSelect_spec hns.1) (fun c a w h => by cases h.1) fuel listed a w (Region.free_spec ho hf) (by simpa using hr) hy ?_
  rw [ho] at k
  have := k E hE ρ B a w hs (fun e a w => match e with | .normal => wpAnyIn (FR E.rnd) 0 P .any ops (fun e a w => e = .normal ∧ Q' e a w) fuel (listed.setIfInBounds j true) a w | e => False)
    (fun s' ρ' B' a' w' q hs' => q E hE ρ' B' a' w' hs' _ (fun s2 ρ2 B2 a2 w2 q2 hs2 => ⟨rfl, hQ _ _ _ _ _ q2 hs2⟩))
  simp only [Option.toList_some, lwp] at this
  rcases hy.1 with ⟨hw, hv⟩ | ⟨hw, hv⟩
  · rw [if_pos hw] at this
    unfold owp Oper.wpIn at this
    have h2 := this.2
    rw [Oper.semAt_eq _ _ _ (fun c => noDefer_spec hns.2 j o c ho), hv w] at h2
    exact h2
  · rw [if_neg (by rw [hw]; simp)] at this
    rw [hv]; exact this
end
end Go.Abs
/- The builtin max of two numbers. No condition. -/
namespace Go.Abs
set_option linter.unusedVariables false
set_option linter.unusedSectionVars false
set_option linter.unusedSimpArgs false
section
variable {P : Program} {ops : Array Oper} {E : Env} {s s' : AS} {o : Oper} {rest : List Oper} {Q : AS → Prop}
theorem ARun2.imaxM {x y : Operand} {ts : Array TypeId} {k k' : IntKind} {m n : Int} {p : List Oper × AS} (r : Nat) (hr : Max.max m n = N r) (K : ARun2 P ops p Q)
    (ho : o.op = .call { callee := .builtin .max, args := #[x, y], argTypes := ts } := by rfl) (hg : gd ops s o = some true := by exact Go.Abs.evT) (hx : s.ev x = .val (.int k m) := by exact Go.Abs.evT) (hy : s.ev y = .val (.int k' n) := by exact Go.Abs.evT)
    (h : srun P ops rest (s.put o.dst (.val (.int k (N r)))) = p := by
        exact Go.Abs.evE) : ARun2 P ops (o :: rest, s) Q := by
  refine ARun.exec hg (AOp.pure1 (fun E ρ B a w hs => ⟨.int k (N r), ?_, .val _⟩) (ARun.srun (h ▸ K)))
  have hxv := (hx ▸ hs.ev x : Rel w B E.bs ρ (.val (.int k m)) (a.eval x)).val_eq
  have hyv := (hy ▸ hs.ev y : Rel w B E.bs ρ (.val (.int k' n)) (a.eval y)).val_eq
  have hm : (if n > m then n else m) = N r := by rw [← hr]; split <;> omega
  have hm' : (if m < n then n else m) = N r := hm
  simp [execOp, ho, resolve, invoke, builtin, hxv, hyv, Builtin.max_, Builtin.max2, hm']
end
end Go.Abs
/- data.Split (under way). -/
set_option linter.unusedVariables false
set_option linter.unusedSimpArgs false
namespace Go.Proofs.YtoapdhogghbojaaGreatDoor.C
open Go.Abs
def pieceP (p : GPart) (n k : Nat) : GPart := ⟨p.inter, (p.tsn + k) % 2 ^ 32, p.stream, p.seq, bif p.inter && decide (0 < k) then k else p.proto, k == 0, false, p.unord, p.now, (p.user.drop (k * n)).take n⟩
def piecesP (p : GPart) (n : Nat) : List GPart := (List.range (cdiv p.user.length n)).map (pieceP p n)
@[push_cast] theorem piecesP_len (p : GPart) (n : Nat) : (piecesP p n).length = cdiv p.user.length n := by simp [piecesP]
theorem piecesP_at (p : GPart) (n i : Nat) (h : i < cdiv p.user.length n) : (piecesP p n)[i]'(by rw [piecesP_len]; exact h) = pieceP p n i := by simp [piecesP]
theorem piecesP_snoc (p : GPart) (n i : Nat) (h : i < cdiv p.user.length n) : (piecesP p n).take (i + 1) = (piecesP p n).take i ++ [pieceP p n i] := by
  rw [List.take_succ_eq_append_getElem (by rw [piecesP_len]; exact h), piecesP_at p n i h]
def endP (p : GPart) : GPart := { p with fin := true }
/-- the pieces, the last of which ends -/
def splitP (p : GPart) (n : Nat) : List GPart := (piecesP p n).set (cdiv p.user.length n - 1) (endP (pieceP p n (cdiv p.user.length n - 1)))
theorem cdiv_pos (a n : Nat) (ha : 1 ≤ a) (hn : 1 ≤ n) : 1 ≤ cdiv a n := (Nat.le_div_iff_mul_le hn).2 (by omega)
theorem wrap_tsn (a b : Nat) : IntKind.u32.wrap (N a + N b) = N ((a + b) % 2 ^ 32) := by rw [IntKind.wrap_u32]; unfold N; omega
@[push_cast] theorem N_succ_ne (m : Nat) : (N (m + 1) = 0) = False := by simp only [eq_iff_iff, iff_false]; unfold N; omega
@[push_cast] theorem N_tdiv (a b : Nat) : (N a).tdiv (N b) = N (a / b) := by unfold N; exact (Int.ofNat_tdiv a b).symm
set_option maxRecDepth 100000 in
set_option maxHeartbeats 1000000 in
theorem dsplit_yes (p : GPart) (n : Nat) (h : p.Ok) (hn : 1 ≤ n) (hn2 : n < 2 ^ 63) (hl1 : 1 ≤ p.user.length) (c : GChunk) (km : PC Tryz.prog 12 [partA false p] (.tup [chunkA true c, bool true])) (hb : p.beg = true) (hf : p.fin = true) (hm : (p.user.length - 1) / n < 65536) :
    PC Tryz.prog 40 [partA false p, nat n] (.sl true 10 (partsA true (splitP p n))) := by
  obtain ⟨ht, hst, hse, hpr, hus⟩ := h
  obtain ⟨inter, tsn, stream, seq, proto, beg, fin, unord, now, user⟩ := p
  simp only at ht hst hse hpr hus hb hf hm hl1
  subst hb; subst hf
  have hcd : cdiv user.length n ≤ user.length := by
    obtain ⟨a, ha⟩ : ∃ a, user.length = a + 1 := ⟨user.length - 1, by omega⟩
    obtain ⟨m, rfl⟩ : ∃ m, n = m + 1 := ⟨n - 1, by omega⟩
    rw [ha]
    have e : (m + 1) * (a + 1) = m * a + m + a + 1 := by rw [Nat.add_mul, Nat.mul_add]; omega
    exact Nat.div_le_of_le_mul (by rw [e]; omega)
  obtain ⟨m, rfl⟩ : ∃ m, n = m + 1 := ⟨n - 1, by omega⟩
  refine PC.of_bodyK (by simp only [push_cast]) Tryz.func40 rfl (by rw [Tryz.ntmps40]; simp) ?_
  refine AWp.regionW ?_
  refine AWp.seqK fun K1 hK1 => ?_
  refine AWp.regionM fun K2 hK2 => ?_
  refine ARun2.callM (km) ?_
  refine ARun2.endm (hK2 _ ?_)
  refine AWp.regionA fun K3 hK3 => ?_
  refine ARun.segm 17 fun KS hKS => ?_
  refine ARun2.endm (hKS _ ?_); clear hKS KS
  apply ARun.grpM 7 16 false 39 [1, 2, 32]
  · intro g16 KG hKG
    refine ARun2.gom ?_
    exact ARun2.endm (hKG _ Le.grpM)
  refine ARun2.gom ?_
  refine ARun2.endm (hK3 _ ?_)
  refine AWp.condLM (fun c0 => ?_) (fun c0 => ?_)
  · skip
    exfalso; revert c0; simp; omega
  · skip
    refine AWp.skip ?_
    refine hK1 _ ?_
    refine AWp.regionW ?_
    refine AWp.nilBox 2 0 34 10 rfl rfl ?_
    simp only [push_cast, ↓reduceIte, Nat.reduceEqDiff, Nat.reduceLT, Nat.reduceAdd, Nat.reduceSub, Nat.reduceMul, Nat.reduceLeDiff, Nat.reducePow, Int.reduceLT, Int.reduceToNat, reduceCtorEq, Int.reduceNeg, Int.reduceEq, Nat.reduceBEq, Nat.reduceBNe, Int.reduceBEq, Int.reduceBNe, String.reduceEq]
    refine AWp.seqK fun K4 hK4 => ?_
    refine AWp.regionM fun K5 hK5 => ?_
    refine ARun2.callM (chunk_c (m + 1) user (by omega)) ?_
    refine ARun2.endm (hK5 _ ?_)
    refine AWp.block ?_
    refine AWp.rangeFuncM (chunk_iter (m + 1) user (by omega) (by omega) (by omega)) [2, 7] (fun pre ob tr go => pre.length ≤ cdiv user.length (m + 1) ∧ ∃ L, L = (piecesP ⟨inter, tsn, stream, seq, proto, true, true, unord, now, user⟩ (m + 1)).take pre.length ∧ ob = [.box 34 [bool inter, u32 tsn, u16 stream, u32 seq, u32 proto, bool true, bool true, bool unord, bool now, .sl false 1 (bys user)], .box 31 [u8 c.ty, u8 c.flags, .sl true 1 (bys c.data), .sl true 3 (nodesA true c.kids)], .box 71 [.own 3], .row 34 10 (partsA true L)]) (fun _ _ _ _ => False) ?_ ?_ ?_ ?_ ?_
    · intro x hx
      simp only [chunkYs, List.mem_map] at hx
      obtain ⟨q, _, rfl⟩ := hx
      rfl
    · exact ⟨Nat.zero_le _, [], rfl, rfl⟩
    · rintro pre x post ob tr go hxs ⟨hk1, L, hL, rfl⟩
      have hpl : pre.length < cdiv user.length (m + 1) := by rw [← chunkYs_len (m + 1) user, hxs]; simp
      have hx : (chunkYs (m + 1) user)[pre.length]? = some x := by rw [hxs]; simp
      rw [chunkYs_get hpl] at hx
      simp only [Option.some.injEq] at hx
      subst hx
      have hsn := piecesP_snoc ⟨inter, tsn, stream, seq, proto, true, true, unord, now, user⟩ (m + 1) pre.length hpl
      have hcl := clone_c ((user.drop (pre.length * (m + 1))).take (m + 1)) (by rw [List.length_take, List.length_drop]; omega)
      have htl : L.length = pre.length := by rw [hL, List.length_take, piecesP_len]; exact Nat.min_eq_left (Nat.le_of_lt hpl)
      refine AWp.regionV ?_
      change AWp _ _ _ _
      refine AWp.block ?_
      refine AWp.regionW ?_
      refine AWp.regionW ?_
      refine AWp.drS [] fun G hG => ?_
      refine Dr.finZM 16 [2, 7, 8, 9, 10] hG YtoapdhogghbojaaGreatDoor.Facts.mixed fun KD hKD => ?_
      clear hG G
      refine AAny.first 4 ?_
      refine ARun.opM ?_
      refine ARun2.endm ?_
      refine AAny.first 5 ?_
      refine ARun.opM ?_
      refine ARun2.endm ?_
      refine AAny.first 6 ?_
      refine ARun.opM ?_
      refine ARun2.endm ?_
      refine AAny.first 0 ?_
      refine ARun.opM ?_
      refine ARun2.endm ?_
      refine AAny.first 2 ?_
      refine ARun.opM ?_
      refine ARun2.endm ?_
      refine AAny.two 1 7 ?_ ?_
      ·
        refine ARun.opM ?_
        refine ARun2.endm ?_
        refine AAny.first 3 ?_
        refine ARun.opM ?_
        refine ARun2.endm ?_
        refine AAny.first 8 ?_
        refine ARun.opM ?_
        refine ARun2.endm ?_
        refine AAny.one 7 ?_
        refine ARun.opM ?_
        refine ARun2.callM (hcl) ?_
        refine ARun2.endm ?_
        refine AAny.one 9 ?_
        refine ARun.opM ?_
        refine ARun2.endm ?_
        refine AAny.one 10 ?_
        refine ARun.opM ?_
        refine ARun2.endm ?_
        refine AAny.one 11 ?_
        refine ARun.opM ?_
        refine ARun2.endm ?_
        refine AAny.one 12 ?_
        refine ARun.opM ?_
        refine ARun2.endm ?_
        refine AAny.one 13 ?_
        refine ARun.opM ?_
        refine ARun2.endm ?_
        refine AAny.one 14 ?_
        refine ARun.opM ?_
        refine ARun2.endm ?_
        refine AAny.one 15 ?_
        refine ARun.opM ?_
        refine ARun2.endm ?_
        refine AAny.fin (hKD _ ?_); clear hKD KD
        refine AWp.seqK fun K6 hK6 => ?_
        refine AWp.regionA fun K7 hK7 => ?_
        refine ARun.segm 3 fun KS hKS => ?_
        refine ARun2.endm (hKS _ ?_); clear hKS KS
        apply ARun.grpM 2 2 true 66 [7, 9, 10, 64]
        · intro g2 KG hKG
          refine ARun2.gom ?_
          exact ARun2.endm (hKG _ Le.grpM)
        refine ARun2.gom ?_
        refine ARun2.endm (hK7 _ ?_)
        refine AWp.condLM (fun c1 => ?_) (fun c1 => ?_)
        · skip
          have hpc : partA true (pieceP ⟨inter, tsn, stream, seq, proto, true, true, unord, now, user⟩ (m + 1) pre.length) = AV.agg [bool inter, .val (.int .u32 (IntKind.u32.wrap (N tsn + N L.length))), u16 stream, u32 seq, u32 L.length, bool (L.length == 0), bool false, bool unord, bool now, .sl true 1 (bys (List.take (m + 1) (List.drop (pre.length * (m + 1)) user)))] := by
            rw [htl] at c1
            rw [wrap_tsn, htl]; simp only [partA, pieceP]; rw [c1]; rfl
          refine AWp.regionV ?_
          refine hK6 _ ?_
          refine AWp.regionN fun K8 hK8 => ?_
          refine ARun2.appendM ?_ ?_ ?_
          · rw [YtoapdhogghbojaaGreatDoor.Facts.eb71, partsA_len, htl, List.length_cons, List.length_nil]; omega
          · rw [partsA_len, htl, List.length_cons, List.length_nil]; omega
          refine ARun2.endm (hK8 _ ?_)
          refine ⟨_, (Le.keep (fr' := []) trivial).trans (Le.cut 4 (by first | exact Nat.le_refl _ | decide) rfl (by simp only [push_cast, ↓reduceIte, Nat.reduceEqDiff, Nat.reduceLT, Nat.reduceAdd, Nat.reduceSub, Nat.reduceMul, Nat.reduceLeDiff, Nat.reducePow, Int.reduceLT, Int.reduceToNat, reduceCtorEq, Int.reduceNeg, Int.reduceEq, Nat.reduceBEq, Nat.reduceBNe, Int.reduceBEq, Int.reduceBNe, String.reduceEq])), ?_⟩
          refine ⟨by rw [List.length_append, List.length_singleton]; omega, L ++ [pieceP ⟨inter, tsn, stream, seq, proto, true, true, unord, now, user⟩ (m + 1) pre.length], by rw [List.length_append, List.length_singleton, hsn, hL], ?_⟩
          have hfin : partsA true (L ++ [pieceP ⟨inter, tsn, stream, seq, proto, true, true, unord, now, user⟩ (m + 1) pre.length]) = partsA true L ++ [_] := (partsA_snoc true L _).trans (congrArg (fun z => partsA true L ++ [z]) hpc)
          exact congrArg (fun z => [Ob.box 34 [bool inter, u32 tsn, u16 stream, u32 seq, u32 proto, bool true, bool true, bool unord, bool now, .sl false 1 (bys user)], Ob.box 31 [u8 c.ty, u8 c.flags, .sl true 1 (bys c.data), .sl true 3 (nodesA true c.kids)], Ob.box 71 [.own 3], Ob.row 34 10 z]) hfin.symm
        · skip
          have hpc : partA true (pieceP ⟨inter, tsn, stream, seq, proto, true, true, unord, now, user⟩ (m + 1) pre.length) = AV.agg [bool inter, .val (.int .u32 (IntKind.u32.wrap (N tsn + N L.length))), u16 stream, u32 seq, u32 proto, bool (L.length == 0), bool false, bool unord, bool now, .sl true 1 (bys (List.take (m + 1) (List.drop (pre.length * (m + 1)) user)))] := by
            rw [htl] at c1
            rw [wrap_tsn, htl]; simp only [partA, pieceP]; rw [c1]; rfl
          refine AWp.skip ?_
          refine hK6 _ ?_
          refine AWp.regionN fun K9 hK9 => ?_
          refine ARun2.appendM ?_ ?_ ?_
          · rw [YtoapdhogghbojaaGreatDoor.Facts.eb71, partsA_len, htl, List.length_cons, List.length_nil]; omega
          · rw [partsA_len, htl, List.length_cons, List.length_nil]; omega
          refine ARun2.endm (hK9 _ ?_)
          refine ⟨_, (Le.keep (fr' := []) trivial).trans (Le.cut 4 (by first | exact Nat.le_refl _ | decide) rfl (by simp only [push_cast, ↓reduceIte, Nat.reduceEqDiff, Nat.reduceLT, Nat.reduceAdd, Nat.reduceSub, Nat.reduceMul, Nat.reduceLeDiff, Nat.reducePow, Int.reduceLT, Int.reduceToNat, reduceCtorEq, Int.reduceNeg, Int.reduceEq, Nat.reduceBEq, Nat.reduceBNe, Int.reduceBEq, Int.reduceBNe, String.reduceEq])), ?_⟩
          refine ⟨by rw [List.length_append, List.length_singleton]; omega, L ++ [pieceP ⟨inter, tsn, stream, seq, proto, true, true, unord, now, user⟩ (m + 1) pre.length], by rw [List.length_append, List.length_singleton, hsn, hL], ?_⟩
          have hfin : partsA true (L ++ [pieceP ⟨inter, tsn, stream, seq, proto, true, true, unord, now, user⟩ (m + 1) pre.length]) = partsA true L ++ [_] := (partsA_snoc true L _).trans (congrArg (fun z => partsA true L ++ [z]) hpc)
          exact congrArg (fun z => [Ob.box 34 [bool inter, u32 tsn, u16 stream, u32 seq, u32 proto, bool true, bool true, bool unord, bool now, .sl false 1 (bys user)], Ob.box 31 [u8 c.ty, u8 c.flags, .sl true 1 (bys c.data), .sl true 3 (nodesA true c.kids)], Ob.box 71 [.own 3], Ob.row 34 10 z]) hfin.symm
      ·
        refine ARun.opM ?_
        refine ARun2.callM (hcl) ?_
        refine ARun2.endm ?_
        refine AAny.one 1 ?_
        refine ARun.opM ?_
        refine ARun2.endm ?_
        refine AAny.first 3 ?_
        refine ARun.opM ?_
        refine ARun2.endm ?_
        refine AAny.first 8 ?_
        refine ARun.opM ?_
        refine ARun2.endm ?_
        refine AAny.one 9 ?_
        refine ARun.opM ?_
        refine ARun2.endm ?_
        refine AAny.one 10 ?_
        refine ARun.opM ?_
        refine ARun2.endm ?_
        refine AAny.one 11 ?_
        refine ARun.opM ?_
        refine ARun2.endm ?_
        refine AAny.one 12 ?_
        refine ARun.opM ?_
        refine ARun2.endm ?_
        refine AAny.one 13 ?_
        refine ARun.opM ?_
        refine ARun2.endm ?_
        refine AAny.one 14 ?_
        refine ARun.opM ?_
        refine ARun2.endm ?_
        refine AAny.one 15 ?_
        refine ARun.opM ?_
        refine ARun2.endm ?_
        refine AAny.fin (hKD _ ?_); clear hKD KD
        refine AWp.seqK fun K10 hK10 => ?_
        refine AWp.regionA fun K11 hK11 => ?_
        refine ARun.segm 3 fun KS hKS => ?_
        refine ARun2.endm (hKS _ ?_); clear hKS KS
        apply ARun.grpM 2 2 true 66 [7, 9, 10, 64]
        · intro g2 KG hKG
          refine ARun2.gom ?_
          exact ARun2.endm (hKG _ Le.grpM)
        refine ARun2.gom ?_
        refine ARun2.endm (hK11 _ ?_)
        refine AWp.condLM (fun c1 => ?_) (fun c1 => ?_)
        · skip
          have hpc : partA true (pieceP ⟨inter, tsn, stream, seq, proto, true, true, unord, now, user⟩ (m + 1) pre.length) = AV.agg [bool inter, .val (.int .u32 (IntKind.u32.wrap (N tsn + N L.length))), u16 stream, u32 seq, u32 L.length, bool (L.length == 0), bool false, bool unord, bool now, .sl true 1 (bys (List.take (m + 1) (List.drop (pre.length * (m + 1)) user)))] := by
            rw [htl] at c1
            rw [wrap_tsn, htl]; simp only [partA, pieceP]; rw [c1]; rfl
          refine AWp.regionV ?_
          refine hK10 _ ?_
          refine AWp.regionN fun K12 hK12 => ?_
          refine ARun2.appendM ?_ ?_ ?_
          · rw [YtoapdhogghbojaaGreatDoor.Facts.eb71, partsA_len, htl, List.length_cons, List.length_nil]; omega
          · rw [partsA_len, htl, List.length_cons, List.length_nil]; omega
          refine ARun2.endm (hK12 _ ?_)
          refine ⟨_, (Le.keep (fr' := []) trivial).trans (Le.cut 4 (by first | exact Nat.le_refl _ | decide) rfl (by simp only [push_cast, ↓reduceIte, Nat.reduceEqDiff, Nat.reduceLT, Nat.reduceAdd, Nat.reduceSub, Nat.reduceMul, Nat.reduceLeDiff, Nat.reducePow, Int.reduceLT, Int.reduceToNat, reduceCtorEq, Int.reduceNeg, Int.reduceEq, Nat.reduceBEq, Nat.reduceBNe, Int.reduceBEq, Int.reduceBNe, String.reduceEq])), ?_⟩
          refine ⟨by rw [List.length_append, List.length_singleton]; omega, L ++ [pieceP ⟨inter, tsn, stream, seq, proto, true, true, unord, now, user⟩ (m + 1) pre.length], by rw [List.length_append, List.length_singleton, hsn, hL], ?_⟩
          have hfin : partsA true (L ++ [pieceP ⟨inter, tsn, stream, seq, proto, true, true, unord, now, user⟩ (m + 1) pre.length]) = partsA true L ++ [_] := (partsA_snoc true L _).trans (congrArg (fun z => partsA true L ++ [z]) hpc)
          exact congrArg (fun z => [Ob.box 34 [bool inter, u32 tsn, u16 stream, u32 seq, u32 proto, bool true, bool true, bool unord, bool now, .sl false 1 (bys user)], Ob.box 31 [u8 c.ty, u8 c.flags, .sl true 1 (bys c.data), .sl true 3 (nodesA true c.kids)], Ob.box 71 [.own 3], Ob.row 34 10 z]) hfin.symm
        · skip
          have hpc : partA true (pieceP ⟨inter, tsn, stream, seq, proto, true, true, unord, now, user⟩ (m + 1) pre.length) = AV.agg [bool inter, .val (.int .u32 (IntKind.u32.wrap (N tsn + N L.length))), u16 stream, u32 seq, u32 proto, bool (L.length == 0), bool false, bool unord, bool now, .sl true 1 (bys (List.take (m + 1) (List.drop (pre.length * (m + 1)) user)))] := by
            rw [htl] at c1
            rw [wrap_tsn, htl]; simp only [partA, pieceP]; rw [c1]; rfl
          refine AWp.skip ?_
          refine hK10 _ ?_
          refine AWp.regionN fun K13 hK13 => ?_
          refine ARun2.appendM ?_ ?_ ?_
          · rw [YtoapdhogghbojaaGreatDoor.Facts.eb71, partsA_len, htl, List.length_cons, List.length_nil]; omega
          · rw [partsA_len, htl, List.length_cons, List.length_nil]; omega
          refine ARun2.endm (hK13 _ ?_)
          refine ⟨_, (Le.keep (fr' := []) trivial).trans (Le.cut 4 (by first | exact Nat.le_refl _ | decide) rfl (by simp only [push_cast, ↓reduceIte, Nat.reduceEqDiff, Nat.reduceLT, Nat.reduceAdd, Nat.reduceSub, Nat.reduceMul, Nat.reduceLeDiff, Nat.reducePow, Int.reduceLT, Int.reduceToNat, reduceCtorEq, Int.reduceNeg, Int.reduceEq, Nat.reduceBEq, Nat.reduceBNe, Int.reduceBEq, Int.reduceBNe, String.reduceEq])), ?_⟩
          refine ⟨by rw [List.length_append, List.length_singleton]; omega, L ++ [pieceP ⟨inter, tsn, stream, seq, proto, true, true, unord, now, user⟩ (m + 1) pre.length], by rw [List.length_append, List.length_singleton, hsn, hL], ?_⟩
          have hfin : partsA true (L ++ [pieceP ⟨inter, tsn, stream, seq, proto, true, true, unord, now, user⟩ (m + 1) pre.length]) = partsA true L ++ [_] := (partsA_snoc true L _).trans (congrArg (fun z => partsA true L ++ [z]) hpc)
          exact congrArg (fun z => [Ob.box 34 [bool inter, u32 tsn, u16 stream, u32 seq, u32 proto, bool true, bool true, bool unord, bool now, .sl false 1 (bys user)], Ob.box 31 [u8 c.ty, u8 c.flags, .sl true 1 (bys c.data), .sl true 3 (nodesA true c.kids)], Ob.box 71 [.own 3], Ob.row 34 10 z]) hfin.symm
    · rintro ob tr go df ⟨hk1, L, hL, rfl⟩
      have hN := cdiv_pos user.length (m + 1) hl1 hn
      have hL2 : L = piecesP ⟨inter, tsn, stream, seq, proto, true, true, unord, now, user⟩ (m + 1) := by rw [hL, chunkYs_len, ← piecesP_len ⟨inter, tsn, stream, seq, proto, true, true, unord, now, user⟩ (m + 1), List.take_length]
      clear hL
      subst hL2
      refine hK4 _ ?_
      refine AWp.regionM fun K14 hK14 => ?_
      refine ARun2.indexZM (xs := partsA true (piecesP ⟨inter, tsn, stream, seq, proto, true, true, unord, now, user⟩ (m + 1))) (cdiv user.length (m + 1) - 1) (by rw [partsA_len, piecesP_len]; show cdiv user.length (m + 1) - 1 < cdiv user.length (m + 1); omega) ?_
      refine ARun2.storeFM (partsA true (piecesP ⟨inter, tsn, stream, seq, proto, true, true, unord, now, user⟩ (m + 1))) (cdiv user.length (m + 1) - 1) 6 1 (partA true (pieceP ⟨inter, tsn, stream, seq, proto, true, true, unord, now, user⟩ (m + 1) (cdiv user.length (m + 1) - 1))) (.val (.bool true)) (partA true (endP (pieceP ⟨inter, tsn, stream, seq, proto, true, true, unord, now, user⟩ (m + 1) (cdiv user.length (m + 1) - 1)))) (partsA true (splitP ⟨inter, tsn, stream, seq, proto, true, true, unord, now, user⟩ (m + 1))) (by rw [partsA_at _ _ _ (by rw [piecesP_len]; show cdiv user.length (m + 1) - 1 < cdiv user.length (m + 1); omega), piecesP_at _ _ _ (by show cdiv user.length (m + 1) - 1 < cdiv user.length (m + 1); omega)]) (by unfold splitP partsA; rw [List.map_set]) rfl ?_
      refine ARun2.endm (hK14 _ ?_)
      refine AWp.pubD 3 ?_
      refine AWp.regionW ?_
      refine AWp.ret ?_
      try simp only [thenQ, blockQ, noGo]
      refine bodyQ.m ?_
      clear hK14 K14 hK5 K5 hK4 K4 hK3 K3 hK2 K2 hK1 K1
      first | done | exact Wk.go
    · rintro e ob tr go df h
      exact h.elim
end Go.Proofs.YtoapdhogghbojaaGreatDoor.C
/- wharfref19: Is, Make, Needs, Blank, Input; wharflaw19: awake. -/
set_option linter.unusedVariables false
set_option linter.unusedSimpArgs false
namespace Go.Proofs.YtoapdhogghbojaaGreatDoor.C
open Go.Abs
end Go.Proofs.YtoapdhogghbojaaGreatDoor.C
/- data: the plain law. -/
set_option linter.unusedVariables false
set_option linter.unusedSimpArgs false
namespace Go.Proofs.YtoapdhogghbojaaGreatDoor.C
open Go.Abs
theorem check_flatF (t f : Nat) (d : List UInt8) (hh : kindHas t = true) (hm : maskBad f (kindOf t).mask = false) (hk : kkidsOk (kindOf t) [] = true) (h3 : ¬ t = 3) (h64 : t = 64 → peekN 2 d 6 = 0) (h194 : ¬ t = 194) (hu : kfitsN (kindOf t) d.length = true → d.length ≤ 65531) :
    checkC ⟨t, f, d, []⟩ = 0 ↔ kfitsN (kindOf t) d.length = true := by
  refine ⟨fun h => (check_zero h hh).2.1, fun hf => ?_⟩
  have hl := hu hf
  have hp : preE ⟨t, f, d, []⟩ = .ok := by
    have e1 : flagsE ⟨t, f, d, []⟩ (kindOf t) = .ok := if_neg (by simp only; rw [hm]; simp)
    have e2 : dataE ⟨t, f, d, []⟩ (kindOf t) = .ok := if_neg (by simp only; rw [hf]; simp)
    have e3 : kidsE ⟨t, f, d, []⟩ (kindOf t) = .ok := if_neg (by simp only; rw [hk]; simp)
    have e4 : countE ⟨t, f, d, []⟩ = .ok := if_neg (by unfold sackBad; simp [h3])
    have e5 : valueE ⟨t, f, d, []⟩ = .ok := by
      unfold valueE oddN
      by_cases h : t = 64
      · simp only [if_pos h, h64 h, ne_eq, not_true_eq_false, if_false]
      · simp only [if_neg h, if_neg h194]
    show firstE [flagsE ⟨t, f, d, []⟩ (kindOf t), dataE ⟨t, f, d, []⟩ (kindOf t), kidsE ⟨t, f, d, []⟩ (kindOf t), countE ⟨t, f, d, []⟩, valueE ⟨t, f, d, []⟩] = .ok
    simp only [e1, e2, e3, e4, e5, firstE, reduceIte]
  have hs : startC ⟨t, f, d, []⟩ = 0 := by
    unfold startC
    rw [if_pos hh, hp]; rfl
  unfold checkC
  rw [hs, if_neg (by simp), if_neg (by simp [checkL])]
  simp [nSize, nLens, tlvSize, sumUp]
  omega
theorem fit0 (n : Nat) : kfitsN (kindOf 0) n = true ↔ 13 ≤ n ∧ n ≤ 65531 := by
  unfold kfitsN; simp [kindOf, kindForms, Nat.mod_one]
theorem fit64 (n : Nat) : kfitsN (kindOf 64) n = true ↔ 17 ≤ n ∧ n ≤ 65531 := by
  unfold kfitsN; simp [kindOf, kindForms, Nat.mod_one]
theorem mask_ok : ((List.range 16).all fun f => !maskBad f 15) = true := by kernel_rfl
theorem mask15 {f : Nat} (h : f < 16) : maskBad f 15 = false := by
  have := List.all_eq_true.1 mask_ok f (List.mem_range.2 h)
  simpa using this
theorem dataP_T (tsn stream seq proto : Nat) (b f u n : Bool) (user : List UInt8) : dataP ⟨true, tsn, stream, seq, proto, b, f, u, n, user⟩ = putB 4 tsn ++ (putB 2 stream ++ (putB 2 0 ++ (putB 4 seq ++ (putB 4 proto ++ user)))) := by
  have e : putB 2 0 = [0, 0] := by decide
  rw [e]
  simp [dataP, seqP]
theorem dataP_F (tsn stream seq proto : Nat) (b f u n : Bool) (user : List UInt8) : dataP ⟨false, tsn, stream, seq, proto, b, f, u, n, user⟩ = putB 4 tsn ++ (putB 2 stream ++ (putB 2 seq ++ (putB 4 proto ++ user))) := by
  simp [dataP, seqP]
theorem data_resv (tsn stream seq proto : Nat) (b f u n : Bool) (user : List UInt8) : peekN 2 (dataP ⟨true, tsn, stream, seq, proto, b, f, u, n, user⟩) 6 = 0 := by
  rw [dataP_T, ← List.append_assoc]
  exact peek_put 2 0 6 _ _ (by rw [List.length_append, putB_len, putB_len]) (by decide)
theorem makePt_eq (p : GPart) : makePt p = if rightD p = true then (dataC p, true) else (.zero, false) := by
  obtain ⟨inter, tsn, stream, seq, proto, beg, fin, unord, now, user⟩ := p
  have hfl := mask15 (flagsP_lt ⟨inter, tsn, stream, seq, proto, beg, fin, unord, now, user⟩)
  have hln := dataP_len ⟨inter, tsn, stream, seq, proto, beg, fin, unord, now, user⟩
  unfold makePt
  cases inter with
  | true =>
    have h := check_flatF 64 _ (dataP ⟨true, tsn, stream, seq, proto, beg, fin, unord, now, user⟩) rfl hfl rfl (by decide) (fun _ => data_resv tsn stream seq proto beg fin unord now user) (by decide) (fun h => ((fit64 _).1 h).2)
    rw [fit64] at h
    simp only [cond_true] at hln
    have e : rightD ⟨true, tsn, stream, seq, proto, beg, fin, unord, now, user⟩ = true ↔ checkC (dataC ⟨true, tsn, stream, seq, proto, beg, fin, unord, now, user⟩) = 0 := by
      refine Iff.trans ?_ h.symm
      simp only [rightD, cond_true, Bool.and_eq_true, decide_eq_true_eq]
      omega
    by_cases hc : checkC (dataC ⟨true, tsn, stream, seq, proto, beg, fin, unord, now, user⟩) = 0
    · rw [if_pos ⟨rfl, hc⟩, if_pos (e.2 hc)]
    · rw [if_neg (fun h => hc h.2), if_neg (fun h => hc (e.1 h))]
  | false =>
    have h := check_flatF 0 _ (dataP ⟨false, tsn, stream, seq, proto, beg, fin, unord, now, user⟩) rfl hfl rfl (by decide) (fun h => by cases h) (by decide) (fun h => ((fit0 _).1 h).2)
    rw [fit0] at h
    simp only [cond_false] at hln
    have e : rightD ⟨false, tsn, stream, seq, proto, beg, fin, unord, now, user⟩ = true ↔ (!false && decide (65535 < seq)) = false ∧ checkC (dataC ⟨false, tsn, stream, seq, proto, beg, fin, unord, now, user⟩) = 0 := by
      refine Iff.trans ?_ (and_congr_right fun _ => h.symm)
      simp only [rightD, cond_false, Bool.and_eq_true, decide_eq_true_eq, Bool.not_false, Bool.true_and, decide_eq_false_iff_not]
      omega
    by_cases hc : (!false && decide (65535 < seq)) = false ∧ checkC (dataC ⟨false, tsn, stream, seq, proto, beg, fin, unord, now, user⟩) = 0
    · rw [if_pos hc, if_pos (e.2 hc)]
    · rw [if_neg hc, if_neg (fun h => hc (e.1 h))]
theorem makePt_chunk {p : GPart} (h : rightD p = true) : makePt p = (dataC p, true) := by rw [makePt_eq, if_pos h]
theorem makePt_no {p : GPart} (h : rightD p = false) : makePt p = (.zero, false) := by rw [makePt_eq, if_neg (by rw [h]; simp)]
theorem check_dataC {p : GPart} (h : rightD p = true) : checkC (dataC p) = 0 := by
  have := makePt_chunk h
  unfold makePt at this
  split at this
  · rename_i hh; exact hh.2
  · simp at this
theorem isD_dataC {p : GPart} (h : rightD p = true) : isD (dataC p) = true := by
  unfold isD; rw [check_dataC h]; unfold dataC; cases p.inter <;> rfl
theorem flags_rt (fin beg unord now : Bool) : onF (orF (orF (orF (orF 0 1 fin) 2 beg) 4 unord) 8 now) 2 = beg ∧ onF (orF (orF (orF (orF 0 1 fin) 2 beg) 4 unord) 8 now) 1 = fin ∧ onF (orF (orF (orF (orF 0 1 fin) 2 beg) 4 unord) 8 now) 4 = unord ∧ onF (orF (orF (orF (orF 0 1 fin) 2 beg) 4 unord) 8 now) 8 = now := by
  cases fin <;> cases beg <;> cases unord <;> cases now <;> exact ⟨by kernel_rfl, by kernel_rfl, by kernel_rfl, by kernel_rfl⟩
theorem partOf_data {p : GPart} (hp : p.Ok) (h : rightD p = true) : partOf (dataC p) = p := by
  obtain ⟨inter, tsn, stream, seq, proto, beg, fin, unord, now, user⟩ := p
  obtain ⟨ht, hst, hse, hpr, hus⟩ := hp
  simp only at ht hst hse hpr hus
  obtain ⟨f1, f2, f3, f4⟩ := flags_rt fin beg unord now
  have l4 : ∀ x, (putB 4 x).length = 4 := fun x => putB_len 4 x
  have l2 : ∀ x, (putB 2 x).length = 2 := fun x => putB_len 2 x
  cases inter with
  | true =>
    have hd := dataP_T tsn stream seq proto beg fin unord now user
    generalize hD : dataP ⟨true, tsn, stream, seq, proto, beg, fin, unord, now, user⟩ = D at hd
    have g1 : peekN 4 D 0 = tsn := by
      rw [hd]; exact peek_put 4 tsn 0 [] _ rfl (beN_put4b _ ht)
    have g2 : peekN 2 D 4 = stream := by
      rw [hd]; exact peek_put 2 stream 4 (putB 4 tsn) _ (l4 _) (beN_put2b _ hst)
    have g3 : peekN 4 D 8 = seq := by
      rw [hd, ← List.append_assoc, ← List.append_assoc]; exact peek_put 4 seq 8 _ _ (by simp [l4, l2]) (beN_put4b _ hse)
    have g4 : peekN 4 D 12 = proto := by
      rw [hd, ← List.append_assoc, ← List.append_assoc, ← List.append_assoc]; exact peek_put 4 proto 12 _ _ (by simp [l4, l2]) (beN_put4b _ hpr)
    have g5 : D.drop 16 = user := by
      rw [hd, ← List.append_assoc, ← List.append_assoc, ← List.append_assoc, ← List.append_assoc, List.drop_append_of_le_length (by simp [l4, l2]), List.drop_of_length_le (by simp [l4, l2]), List.nil_append]
    simp only [partOf, dataC, cond_true, beq_self_eq_true, hD, g1, g2, g3, g4, g5, flagsP, f1, f2, f3, f4]
  | false =>
    have hs : seq < 2 ^ 16 := by simp only [rightD, cond_false, Bool.and_eq_true, decide_eq_true_eq] at h; omega
    have hd := dataP_F tsn stream seq proto beg fin unord now user
    generalize hD : dataP ⟨false, tsn, stream, seq, proto, beg, fin, unord, now, user⟩ = D at hd
    have g1 : peekN 4 D 0 = tsn := by
      rw [hd]; exact peek_put 4 tsn 0 [] _ rfl (beN_put4b _ ht)
    have g2 : peekN 2 D 4 = stream := by
      rw [hd]; exact peek_put 2 stream 4 (putB 4 tsn) _ (l4 _) (beN_put2b _ hst)
    have g3 : peekN 2 D 6 = seq := by
      rw [hd, ← List.append_assoc]; exact peek_put 2 seq 6 _ _ (by simp [l4, l2]) (beN_put2b _ hs)
    have g4 : peekN 4 D 8 = proto := by
      rw [hd, ← List.append_assoc, ← List.append_assoc]; exact peek_put 4 proto 8 _ _ (by simp [l4, l2]) (beN_put4b _ hpr)
    have g5 : D.drop 12 = user := by
      rw [hd, ← List.append_assoc, ← List.append_assoc, ← List.append_assoc, List.drop_append_of_le_length (by simp [l4, l2]), List.drop_of_length_le (by simp [l4, l2]), List.nil_append]
    simp only [partOf, dataC, cond_false, Nat.reduceBEq, hD, g1, g2, g3, g4, g5, flagsP, f1, f2, f3, f4]
theorem ofD_data {p : GPart} (hp : p.Ok) (h : rightD p = true) : ofD (dataC p) = (p, true) := by
  unfold ofD; rw [if_pos (isD_dataC h), partOf_data hp h]
theorem ofD_zero : ofD .zero = (.zero, false) := if_neg (by
  have : isD .zero = false := by kernel_rfl
  rw [this]; simp)
/-! back -/
theorem flags_back : ((List.range 16).all fun f => orF (orF (orF (orF 0 1 (onF f 1)) 2 (onF f 2)) 4 (onF f 4)) 8 (onF f 8) == f) = true := by kernel_rfl
theorem put_peekK (k : Nat) (d : List UInt8) (i : Nat) (hk : k = 2 ∨ k = 4) (h : i + k ≤ d.length) : putB k (peekN k d i) = (d.drop i).take k := by
  unfold peekN
  rw [if_pos h]
  generalize hq : (d.drop i).take k = q
  have hl : q.length = k := by rw [← hq, List.length_take, List.length_drop]; omega
  rcases hk with rfl | rfl
  · obtain ⟨a, b, rfl⟩ : ∃ a b, q = [a, b] := by
      match q, hl with
      | [a, b], _ => exact ⟨a, b, rfl⟩
    exact putB2_be a b
  · exact putB4_beN q hl
theorem cut_at (d : List UInt8) (i k : Nat) (r : List UInt8) (hr : r = d.drop (i + k)) : (d.drop i).take k ++ r = d.drop i := by
  rw [hr, ← List.drop_drop, List.take_append_drop]
theorem isD_kids {c : GChunk} (h : isD c = true) : c.kids = [] ∧ (c.ty = 64 → peekN 2 c.data 6 = 0) := by
  unfold isD at h
  simp only [Bool.and_eq_true, Bool.or_eq_true, beq_iff_eq] at h
  obtain ⟨ht, hc⟩ := h
  have hh : kindHas c.ty = true := by rcases ht with e | e <;> rw [e] <;> rfl
  obtain ⟨h1, h2, h3, h4⟩ := check_zero hc hh
  constructor
  · have hk : (kindOf c.ty).kids = 0 := by rcases ht with e | e <;> rw [e] <;> rfl
    unfold kkidsOk at h3
    rw [hk] at h3
    simp only [Bool.and_eq_true, decide_eq_true_eq] at h3
    have : c.kids.length ≤ 0 := h3.1.1.2
    exact List.eq_nil_of_length_eq_zero (by omega)
  · intro e
    have hv := firstE_pre (check_pre hc hh) (valueE c) (by simp)
    unfold valueE oddN at hv
    rw [if_pos e] at hv
    by_cases h0 : peekN 2 c.data 6 = 0
    · exact h0
    · rw [if_pos h0] at hv; cases hv
theorem data_back {c : GChunk} (hf : c.flags < 256) (h : isD c = true) : dataC (partOf c) = c ∧ rightD (partOf c) = true := by
  obtain ⟨hk, hr⟩ := isD_kids h
  have hfl := isD_flags hf h
  have hb := List.all_eq_true.1 flags_back c.flags (List.mem_range.2 hfl)
  simp only [beq_iff_eq] at hb
  obtain ⟨hl1, hl2⟩ := isD_len h
  obtain ⟨ty, fl, d, ks⟩ := c
  simp only at hk hr hfl hb hl1 hl2
  subst hk
  rcases hl1 with ⟨e, hl1⟩ | ⟨e, hl1⟩
  · subst e
    constructor
    · show (⟨0, orF (orF (orF (orF 0 1 (onF fl 1)) 2 (onF fl 2)) 4 (onF fl 4)) 8 (onF fl 8), dataP ⟨false, peekN 4 d 0, peekN 2 d 4, peekN 2 d 6, peekN 4 d 8, onF fl 2, onF fl 1, onF fl 4, onF fl 8, d.drop 12⟩, []⟩ : GChunk) = _
      rw [hb, dataP_F, put_peekK 4 d 0 (by decide) (by omega), put_peekK 2 d 4 (by decide) (by omega), put_peekK 2 d 6 (by decide) (by omega), put_peekK 4 d 8 (by decide) (by omega),
        cut_at d 8 4 _ rfl, cut_at d 6 2 _ rfl, cut_at d 4 2 _ rfl, cut_at d 0 4 _ rfl, List.drop_zero]
    · have := peek2_lt d 6
      show (decide (peekN 2 d 6 ≤ 65535) && decide (1 ≤ (d.drop 12).length) && decide ((d.drop 12).length ≤ 65519)) = true
      rw [List.length_drop]
      simp only [Bool.and_eq_true, decide_eq_true_eq]
      omega
  · subst e
    constructor
    · show (⟨64, orF (orF (orF (orF 0 1 (onF fl 1)) 2 (onF fl 2)) 4 (onF fl 4)) 8 (onF fl 8), dataP ⟨true, peekN 4 d 0, peekN 2 d 4, peekN 4 d 8, peekN 4 d 12, onF fl 2, onF fl 1, onF fl 4, onF fl 8, d.drop 16⟩, []⟩ : GChunk) = _
      rw [hb, dataP_T, show putB 2 0 = putB 2 (peekN 2 d 6) by rw [hr rfl], put_peekK 4 d 0 (by decide) (by omega), put_peekK 2 d 4 (by decide) (by omega), put_peekK 2 d 6 (by decide) (by omega), put_peekK 4 d 8 (by decide) (by omega), put_peekK 4 d 12 (by decide) (by omega),
        cut_at d 12 4 _ rfl, cut_at d 8 4 _ rfl, cut_at d 6 2 _ rfl, cut_at d 4 2 _ rfl, cut_at d 0 4 _ rfl, List.drop_zero]
    · show (decide (1 ≤ (d.drop 16).length) && decide ((d.drop 16).length ≤ 65515)) = true
      rw [List.length_drop]
      simp only [Bool.and_eq_true, decide_eq_true_eq]
      omega
theorem ofD_yes {c : GChunk} (h : isD c = true) : ofD c = (partOf c, true) := if_pos h
theorem ofD_no {c : GChunk} (h : isD c = false) : ofD c = (.zero, false) := if_neg (by rw [h]; simp)
theorem partOf_ok {c : GChunk} (h : isD c = true) : (partOf c).Ok := by
  obtain ⟨hl1, hl2⟩ := isD_len h
  refine ⟨peekN_lt 4 _ _ (by decide), peek2_lt _ _, ?_, peekN_lt 4 _ _ (by decide), ?_⟩
  · show (bif c.ty == 64 then peekN 4 c.data 8 else peekN 2 c.data 6) < _
    cases c.ty == 64
    · have := peek2_lt c.data 6; show peekN 2 c.data 6 < _; omega
    · exact peekN_lt 4 _ _ (by decide)
  · show (c.data.drop _).length ≤ _
    rw [List.length_drop]; omega
end Go.Proofs.YtoapdhogghbojaaGreatDoor.C
/- data: pieces of a description. The plain law. -/
set_option linter.unusedVariables false
set_option linter.unusedSimpArgs false
namespace Go.Proofs.YtoapdhogghbojaaGreatDoor.C
open Go.Abs
def pieceR (p : GPart) (n k : Nat) : GPart := ⟨p.inter, (p.tsn + k) % 2 ^ 32, p.stream, p.seq, bif p.inter && decide (0 < k) then k else p.proto, k == 0, decide (p.user.length ≤ k * n + n), p.unord, p.now, (p.user.drop (k * n)).take n⟩
def splitR (p : GPart) (n : Nat) : List GPart := (List.range (cdiv p.user.length n)).map (pieceR p n)
theorem splitR_len (p : GPart) (n : Nat) : (splitR p n).length = cdiv p.user.length n := by simp [splitR]
theorem splitR_at (p : GPart) (n i : Nat) (h : i < cdiv p.user.length n) : (splitR p n)[i]'(by rw [splitR_len]; exact h) = pieceR p n i := by simp [splitR]
theorem splitP_eq (p : GPart) (n : Nat) (hn : 1 ≤ n) (hl : 1 ≤ p.user.length) : splitP p n = splitR p n := by
  apply List.ext_getElem
  · simp [splitP, splitR, piecesP]
  · intro i h1 h2
    have hi : i < cdiv p.user.length n := by simpa [splitR] using h2
    have hN := cdiv_pos p.user.length n hl hn
    rw [splitR_at p n i hi]
    have h1' : i < ((piecesP p n).set (cdiv p.user.length n - 1) (endP (pieceP p n (cdiv p.user.length n - 1)))).length := h1
    refine (List.getElem_set h1').trans ?_
    split
    · rename_i e
      rw [e]
      have h3 : ¬ i + 1 < cdiv p.user.length n := by omega
      have h4 := mt (cdiv_lt (n := p.user.length) (k := n) (i := i + 1) hn).2 h3
      rw [Nat.add_mul, Nat.one_mul] at h4
      have h5 : decide (p.user.length ≤ i * n + n) = true := decide_eq_true (by omega)
      show endP (pieceP p n i) = pieceR p n i
      unfold pieceR; rw [h5]; rfl
    · rename_i e
      rw [piecesP_at p n i hi]
      have h3 : i + 1 < cdiv p.user.length n := by omega
      have h4 := (cdiv_lt (n := p.user.length) (k := n) (i := i + 1) hn).1 h3
      rw [Nat.add_mul, Nat.one_mul] at h4
      have h5 : decide (p.user.length ≤ i * n + n) = false := decide_eq_false (by omega)
      unfold pieceR; rw [h5]; rfl
def catU (l : List GPart) : List UInt8 := l.flatMap (·.user)
theorem catU_snoc (l : List GPart) (p : GPart) : catU (l ++ [p]) = catU l ++ p.user := by simp [catU]
/-- what has some pieces -/
def joinP : List GPart → GPart
  | [] => .zero
  | q :: r => { q with fin := true, user := catU (q :: r) }
def lenU : List GPart → Nat
  | [] => 0
  | q :: _ => q.user.length
def begL : List GPart → Bool
  | [] => false
  | q :: _ => q.beg
def joinOk (l : List GPart) : Bool := rightD (joinP l) && begL l && decide (1 ≤ lenU l) && sameLP (splitR (joinP l) (lenU l)) l
def joinD (l : List GPart) : GPart × Bool := if joinOk l = true then (joinP l, true) else (.zero, false)
theorem joinD_yes {l : List GPart} (h : joinOk l = true) : joinD l = (joinP l, true) := if_pos h
theorem joinD_no {l : List GPart} (h : joinOk l = false) : joinD l = (.zero, false) := if_neg (by rw [h]; simp)
theorem right_len {p : GPart} (h : rightD p = true) : 1 ≤ p.user.length := by
  unfold rightD at h
  cases hi : p.inter <;> rw [hi] at h <;> simp only [cond_true, cond_false, Bool.and_eq_true, decide_eq_true_eq] at h
  · exact h.1.2
  · exact h.1
end Go.Proofs.YtoapdhogghbojaaGreatDoor.C
/- data.Split, whatever is given; data.Join, data.Most. -/
set_option linter.unusedVariables false
set_option linter.unusedSimpArgs false
namespace Go.Proofs.YtoapdhogghbojaaGreatDoor.C
open Go.Abs
theorem dsplit_no1 (p : GPart) (z : Int) (c : GChunk) (km : PC Tryz.prog 12 [partA false p] (.tup [chunkA true c, bool false])) :
    PC Tryz.prog 40 [partA false p, .val (.int .i64 z)] (.sl true 10 (partsA true [])) := by
  obtain ⟨inter, tsn, stream, seq, proto, beg, fin, unord, now, user⟩ := p
  refine PC.of_bodyK (by simp only [push_cast]) Tryz.func40 rfl (by rw [Tryz.ntmps40]; simp) ?_
  refine AWp.regionW ?_
  refine AWp.seqK fun K1 hK1 => ?_
  refine AWp.regionM fun K2 hK2 => ?_
  refine ARun2.callM (km) ?_
  refine ARun2.endm (hK2 _ ?_)
  refine AWp.regionW ?_
  refine AWp.condT ?_
  refine AWp.regionW ?_
  refine AWp.ret ?_
  try simp only [thenQ, blockQ, noGo]
  refine bodyQ.m ?_
  clear hK2 K2 hK1 K1
  first | done | exact Wk.go
theorem dsplit_no2 (p : GPart) (z : Int) (c : GChunk) (km : PC Tryz.prog 12 [partA false p] (.tup [chunkA true c, bool true])) (hb : p.beg = false) :
    PC Tryz.prog 40 [partA false p, .val (.int .i64 z)] (.sl true 10 (partsA true [])) := by
  obtain ⟨inter, tsn, stream, seq, proto, beg, fin, unord, now, user⟩ := p
  simp only at hb
  subst hb
  refine PC.of_bodyK (by simp only [push_cast]) Tryz.func40 rfl (by rw [Tryz.ntmps40]; simp) ?_
  refine AWp.regionW ?_
  refine AWp.seqK fun K1 hK1 => ?_
  refine AWp.regionM fun K2 hK2 => ?_
  refine ARun2.callM (km) ?_
  refine ARun2.endm (hK2 _ ?_)
  refine AWp.regionW ?_
  refine AWp.condT ?_
  refine AWp.regionW ?_
  refine AWp.ret ?_
  try simp only [thenQ, blockQ, noGo]
  refine bodyQ.m ?_
  clear hK2 K2 hK1 K1
  first | done | exact Wk.go
theorem dsplit_no3 (p : GPart) (z : Int) (c : GChunk) (km : PC Tryz.prog 12 [partA false p] (.tup [chunkA true c, bool true])) (hb : p.beg = true) (hf : p.fin = false) :
    PC Tryz.prog 40 [partA false p, .val (.int .i64 z)] (.sl true 10 (partsA true [])) := by
  obtain ⟨inter, tsn, stream, seq, proto, beg, fin, unord, now, user⟩ := p
  simp only at hb hf
  subst hb; subst hf
  refine PC.of_bodyK (by simp only [push_cast]) Tryz.func40 rfl (by rw [Tryz.ntmps40]; simp) ?_
  refine AWp.regionW ?_
  refine AWp.seqK fun K1 hK1 => ?_
  refine AWp.regionM fun K2 hK2 => ?_
  refine ARun2.callM (km) ?_
  refine ARun2.endm (hK2 _ ?_)
  refine AWp.regionW ?_
  refine AWp.condT ?_
  refine AWp.regionW ?_
  refine AWp.ret ?_
  try simp only [thenQ, blockQ, noGo]
  refine bodyQ.m ?_
  clear hK2 K2 hK1 K1
  first | done | exact Wk.go
theorem dsplit_no4 (p : GPart) (z : Int) (c : GChunk) (km : PC Tryz.prog 12 [partA false p] (.tup [chunkA true c, bool true])) (hb : p.beg = true) (hf : p.fin = true) (hz : decide (z < 1) = true) :
    PC Tryz.prog 40 [partA false p, .val (.int .i64 z)] (.sl true 10 (partsA true [])) := by
  obtain ⟨inter, tsn, stream, seq, proto, beg, fin, unord, now, user⟩ := p
  simp only at hb hf
  subst hb; subst hf
  refine PC.of_bodyK (by simp only [push_cast]) Tryz.func40 rfl (by rw [Tryz.ntmps40]; simp) ?_
  refine AWp.regionW ?_
  refine AWp.seqK fun K1 hK1 => ?_
  refine AWp.regionM fun K2 hK2 => ?_
  refine ARun2.callM (km) ?_
  refine ARun2.endm (hK2 _ ?_)
  refine AWp.regionS fun K3 hK3 => ?_
  simp only [push_cast, ↓reduceIte, Nat.reduceEqDiff, Nat.reduceLT, Nat.reduceAdd, Nat.reduceSub, Nat.reduceMul, Nat.reduceLeDiff, Nat.reducePow, Int.reduceLT, Int.reduceToNat, reduceCtorEq, Int.reduceNeg, Int.reduceEq, Nat.reduceBEq, Nat.reduceBNe, Int.reduceBEq, Int.reduceBNe, String.reduceEq, hz]
  refine ARun2.endm (hK3 _ ?_)
  refine AWp.condT ?_
  refine AWp.regionW ?_
  refine AWp.ret ?_
  try simp only [thenQ, blockQ, noGo]
  refine bodyQ.m ?_
  clear hK3 K3 hK2 K2 hK1 K1
  first | done | exact Wk.go
theorem dsplit_no (p : GPart) (z : Int) (h : p.Ok) (hs : (rightD p && p.beg && p.fin && decide (1 ≤ z)) = false) :
    PC Tryz.prog 40 [partA false p, .val (.int .i64 z)] (.sl true 10 (partsA true [])) := by
  have km := dmake_c p h
  cases h1 : rightD p with
  | false => rw [makePt_no h1] at km; exact dsplit_no1 p z _ km
  | true =>
    rw [makePt_chunk h1] at km
    cases h2 : p.beg with
    | false => exact dsplit_no2 p z _ km h2
    | true =>
      cases h3 : p.fin with
      | false => exact dsplit_no3 p z _ km h2 h3
      | true =>
        refine dsplit_no4 p z _ km h2 h3 ?_
        rw [h1, h2, h3] at hs
        simp at hs ⊢
        omega
theorem dsplit_c (p : GPart) (n : Nat) (h : p.Ok) (h1 : rightD p = true) (hb : p.beg = true) (hf : p.fin = true) (hn : 1 ≤ n) (hn2 : n < 2 ^ 63) :
    PC Tryz.prog 40 [partA false p, nat n] (.sl true 10 (partsA true (splitR p n))) := by
  have km := dmake_c p h
  rw [makePt_chunk h1] at km
  have hl := right_len h1
  rw [← splitP_eq p n hn hl]
  refine dsplit_yes p n h hn hn2 hl _ km hb hf ?_
  have hu : p.user.length ≤ 65519 := by
    unfold rightD at h1
    cases hi : p.inter <;> rw [hi] at h1 <;> simp only [cond_true, cond_false, Bool.and_eq_true, decide_eq_true_eq] at h1
    · exact h1.2
    · omega
  exact Nat.lt_of_le_of_lt (Nat.div_le_self _ _) (by omega)
theorem dmost_c (inter : Bool) (n : Nat) (hn : n < 2 ^ 16) : PC Tryz.prog 43 [bool inter, nat n] (nat (n - (bif inter then 20 else 16))) := by
  refine PC.of_bodyW (by simp only [push_cast]) Tryz.func43 rfl (by rw [Tryz.ntmps43]; simp) ?_
  refine AWp.regionW ?_
  refine AWp.regionW ?_
  refine AWp.seqK fun K1 hK1 => ?_
  refine AWp.regionW ?_
  refine AWp.condLM (fun c0 => ?_) (fun c0 => ?_)
  · skip
    have hin : inter = true := by simpa using c0
    subst hin
    refine AWp.regionV ?_
    refine hK1 _ ?_
    refine AWp.regionM fun K2 hK2 => ?_
    refine ARun2.imaxM (n - 20) ?_ ?_
    · rw [IntKind.wrap_i64]; unfold N; omega
    refine ARun2.endm (hK2 _ ?_)
    refine AWp.ret ?_
    try simp only [thenQ, blockQ, noGo]
    refine bodyQ.m ?_
    clear hK2 K2 hK1 K1
    first | done | exact Hand.go
  · skip
    have hin : inter = false := by simpa using c0
    subst hin
    refine AWp.skip ?_
    refine hK1 _ ?_
    refine AWp.regionM fun K3 hK3 => ?_
    refine ARun2.imaxM (n - 16) ?_ ?_
    · rw [IntKind.wrap_i64]; unfold N; omega
    refine ARun2.endm (hK3 _ ?_)
    refine AWp.ret ?_
    try simp only [thenQ, blockQ, noGo]
    refine bodyQ.m ?_
    clear hK3 K3 hK1 K1
    first | done | exact Hand.go
end Go.Proofs.YtoapdhogghbojaaGreatDoor.C
