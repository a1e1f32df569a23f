/- The reference: wanted, Table, Of, Size. -/
import Derived.Test.YtldoehmlpdpiaaaGreatDoorN3
import Derived.Laws.StructEq
import Derived.ChangeKeysEq
import Derived.Lib.BytesEntry
set_option linter.unusedVariables false
set_option linter.unusedSimpArgs false
namespace Go.Proofs.YtldoehmlpdpiaaaGreatDoor.C
open Go.Abs
theorem kidsOk_eq (f : ShForm) (l : List GNode) (hf : f.kids ≤ 4) : kidsOk f l =
    if f.kids = 0 then l.length == 0 else if f.kids = 1 then l.length == 1 else if f.kids = 4 then (l.length == 1 && ((l.headD default).ty == 5 || (l.headD default).ty == 6)) else (decide (1 ≤ l.length) && decide (l.length ≤ 16384)) := by
  have key : ∀ k n : Nat, k ≤ 4 → ∀ b : Bool, (decide ((insideN k).2.1 ≤ n) && decide (n ≤ (insideN k).2.2) && (k != 4 || b)) = if k = 0 then n == 0 else if k = 1 then n == 1 else if k = 4 then (n == 1 && b) else (decide (1 ≤ n) && decide (n ≤ 16384)) := by
    intro k n hk b
    have h : k = 0 ∨ k = 1 ∨ k = 2 ∨ k = 3 ∨ k = 4 := by omega
    have h1 : (decide (1 ≤ n) && decide (n ≤ 1)) = (n == 1) := by rw [Bool.eq_iff_iff]; simp; omega
    rcases h with rfl | rfl | rfl | rfl | rfl
    · rw [Bool.eq_iff_iff]; simp [insideN]
    · rw [Bool.eq_iff_iff]; simp [insideN]; omega
    · simp [insideN]
    · simp [insideN]
    · simp [insideN, ← h1]
  unfold kidsOk
  rw [Bool.or_assoc]
  exact key _ _ hf _
theorem wanted_c (f : ShForm) (l : List GNode) (hl : l.length ≤ 2 ^ 40) (hf : f.kids ≤ 4) : PC Tryz.prog 44 [formA f, .sl false 3 (nodesA false l)] (bool (kidsOk f l)) := by
  have hq := kidsOk_eq f l hf
  refine PC.of_bodyW (by simp only [push_cast]) Tryz.func44 rfl (by rw [Tryz.ntmps44]; simp) ?_
  refine AWp.regionW ?_
  refine AWp.seqK fun K1 hK1 => ?_
  refine AWp.regionW ?_
  refine AWp.block ?_
  refine AWp.regionW ?_
  refine AWp.condLM (fun c0 => ?_) (fun c0 => ?_)
  · skip
    have h0 : f.kids = 0 := by simpa using c0
    refine AWp.regionW ?_
    refine AWp.ret ?_
    try simp only [thenQ, blockQ, noGo]
    refine bodyQ.m ?_
    clear hK1 K1
    rw [hq, if_pos h0]
    first | done | exact Hand.go
  · skip
    have h0 : ¬ f.kids = 0 := by simpa using c0
    refine AWp.regionW ?_
    refine AWp.condLM (fun c1 => ?_) (fun c1 => ?_)
    · skip
      have h1 : f.kids = 1 := by simpa using c1
      refine AWp.regionW ?_
      refine AWp.ret ?_
      try simp only [thenQ, blockQ, noGo]
      refine bodyQ.m ?_
      clear hK1 K1
      rw [hq, if_neg h0, if_pos h1]
      first | done | exact Hand.go
    · skip
      have h1 : ¬ f.kids = 1 := by simpa using c1
      refine AWp.regionW ?_
      refine AWp.condLM (fun c2 => ?_) (fun c2 => ?_)
      · skip
        have h2 : f.kids = 4 := by simpa using c2
        refine AWp.regionA fun K2 hK2 => ?_
        refine ARun.segm 4 fun KS hKS => ?_
        refine ARun2.endm (hKS _ ?_); clear hKS KS
        apply ARun.grpM 12 3 true 34 [22]
        · intro g3 KG hKG
          have hne : 0 < l.length := by have := beq_iff_eq.1 g3; omega
          refine ARun.segm 6 fun KS hKS => ?_
          refine ARun2.indexM (0) (nodeA false (l.headD default)) ?_ ?_
          · exact nodesA_head _ _ hne
          refine ARun2.endm (hKS _ ?_); clear hKS KS
          apply ARun.grpM 5 9 false 33 [22, 28]
          · intro g9 KG hKG
            refine ARun2.gom ?_
            refine ARun2.indexM (0) (nodeA false (l.headD default)) ?_ ?_
            · exact nodesA_head _ _ hne
            exact ARun2.endm (hKG _ Le.grpM)
          refine ARun2.gom ?_
          exact ARun2.endm (hKG _ Le.grpM)
        refine ARun2.gom ?_
        refine ARun2.endm (hK2 _ ?_)
        refine AWp.ret ?_
        try simp only [thenQ, blockQ, noGo]
        refine bodyQ.m ?_
        clear hK2 K2 hK1 K1
        rw [hq, if_neg h0, if_neg h1, if_pos h2]
        first | done | exact Hand.go
      · skip
        have h2 : ¬ f.kids = 4 := by simpa using c2
        refine AWp.skip ?_
        refine hK1 _ ?_
        refine AWp.regionA fun K3 hK3 => ?_
        refine ARun.segm 4 fun KS hKS => ?_
        refine ARun2.endm (hKS _ ?_); clear hKS KS
        apply ARun.grpM 3 3 true 42 [39]
        · intro g3 KG hKG
          refine ARun2.gom ?_
          exact ARun2.endm (hKG _ Le.grpM)
        refine ARun2.gom ?_
        refine ARun2.endm (hK3 _ ?_)
        refine AWp.ret ?_
        try simp only [thenQ, blockQ, noGo]
        refine bodyQ.m ?_
        clear hK3 K3 hK1 K1
        rw [hq, if_neg h0, if_neg h1, if_neg h2]
        first | done | exact Hand.go
def refForms : List ShForm := paramForms.map (fun f => { f with cls := 1 }) ++ causeForms.map (fun f => { f with cls := 2 })
set_option maxRecDepth 100000 in
set_option maxHeartbeats 1000000 in
theorem table07_c : PC Tryz.prog 68 [] (.sl false 7 (formsA refForms)) := by
  refine PC.of_bodyW (by simp only [push_cast]) Tryz.func68 rfl (by rw [Tryz.ntmps68]; simp) ?_
  refine AWp.regionW ?_
  refine AWp.regionW ?_
  refine AWp.regionW ?_
  refine AWp.ret ?_
  try simp only [thenQ, blockQ, noGo]
  refine bodyQ.m ?_
  simp only [refForms, formsA, paramForms, causeForms, List.map_cons, List.map_nil, List.cons_append, List.nil_append]
  first | done | exact Hand.go
theorem refOf_eq (c t : Nat) (hc : c = 1 ∨ c = 2) : (refForms.find? fun f => f.cls == c && f.ty == t).getD zeroForm = shapeOf c t := by
  have key : ∀ (l : List ShForm) (c' : Nat), (l.map (fun f => { f with cls := c' })).find? (fun f => f.cls == c && f.ty == t) = if c' = c then (l.find? fun f => f.ty == t).map (fun f => { f with cls := c' }) else none := by
    intro l c'
    induction l with
    | nil => simp
    | cons a l ih =>
      by_cases h : c' = c
      · subst h
        simp only [if_true] at ih
        by_cases ht : a.ty = t
        · simp [List.find?_cons, ht]
        · have ht' : (a.ty == t) = false := by simpa using ht
          simp [List.find?_cons, ht', ih]
      · have hcc : (c' == c) = false := by simpa using h
        simp only [if_neg h] at ih ⊢
        simp [List.find?_cons, hcc, ih]
  unfold refForms shapeOf
  rw [List.find?_append, key, key]
  rcases hc with rfl | rfl
  · simp [formsN]
  · simp [formsN]
theorem of07_c (c t : Nat) (hc : c = 1 ∨ c = 2) : PC Tryz.prog 42 [nat c, u16 t] (formA (shapeOf c t)) := by
  have hlen : refForms.length ≤ 2 ^ 40 := by decide
  have hq := refOf_eq c t hc
  refine PC.of_bodyW (by simp only [push_cast]) Tryz.func42 rfl (by rw [Tryz.ntmps42]; simp) ?_
  refine AWp.regionW ?_
  refine AWp.regionM fun K1 hK1 => ?_
  refine ARun2.callM (table07_c) ?_
  refine ARun2.endm (hK1 _ ?_)
  refine AWp.seqK fun K2 hK2 => ?_
  refine AWp.regionW ?_
  refine AWp.block ?_
  refine AWp.loopK0 [0, 1, 4, 5] (fun (i : Nat) => [(6, nat i)]) (fun i => i ≤ refForms.length ∧ refForms.find? (fun f => f.cls == c && f.ty == t) = (refForms.drop i).find? fun f => f.cls == c && f.ty == t) (fun i => refForms.length - i) (0) ?_ ⟨Nat.zero_le _, rfl⟩ ?_
  · skip
    refine Le.m 1 ?_ ?_
    · exact Go.Abs.evM
    · exact Go.Abs.evN
  · intro i hi K3 hK3
    refine AWp.seqK fun K4 hK4 => ?_
    refine AWp.regionW ?_
    refine AWp.condLM (fun c0 => ?_) (fun c0 => ?_)
    · skip
      have hil : i < refForms.length := by simpa using c0
      have hd : refForms.drop i = refForms[i] :: refForms.drop (i + 1) := List.drop_eq_getElem_cons hil
      refine AWp.skip ?_
      refine hK4 _ ?_
      refine AWp.seqK fun K5 hK5 => ?_
      refine AWp.block ?_
      refine AWp.regionA fun K6 hK6 => ?_
      refine ARun.segm 8 fun KS hKS => ?_
      refine ARun2.indexM (i) (formA refForms[i]) ?_ ?_
      · exact formsA_at _ _ hil
      refine ARun2.endm (hKS _ ?_); clear hKS KS
      apply ARun.grpM 7 7 true 28 [0, 1, 4, 5, 6, 21]
      · intro g7 KG hKG
        refine ARun2.gom ?_
        refine ARun2.indexM (i) (formA refForms[i]) ?_ ?_
        · exact formsA_at _ _ hil
        exact ARun2.endm (hKG _ Le.grpM)
      refine ARun2.gom ?_
      refine ARun2.endm (hK6 _ ?_)
      refine AWp.condLM (fun c1 => ?_) (fun c1 => ?_)
      · skip
        have h1 : (refForms[i].cls == c && refForms[i].ty == t) = true := by simpa using c1
        have hv : shapeOf c t = refForms[i] := by rw [← hq, hi.2, hd, List.find?_cons, h1]; rfl
        refine AWp.regionM fun K7 hK7 => ?_
        refine ARun2.indexM (i) (formA refForms[i]) ?_ ?_
        · exact formsA_at _ _ hil
        refine ARun2.endm (hK7 _ ?_)
        refine AWp.ret ?_
        try simp only [thenQ, blockQ, noGo]
        refine bodyQ.m ?_
        clear hK7 K7 hK6 K6 hK5 K5 hK4 K4 hK3 K3 hK2 K2 hK1 K1
        rw [hv]
        first | done | exact Hand.go
      · skip
        have h1 : (refForms[i].cls == c && refForms[i].ty == t) = false := by simpa using c1
        refine AWp.skip ?_
        refine hK5 _ ?_
        refine AWp.regionV ?_
        refine hK3 _ (i + 1) (⟨by omega, by rw [hi.2, hd, List.find?_cons, h1]⟩) (by omega) ?_
        refine Le.m 1 ?_ ?_
        · exact Go.Abs.evM
        · exact Go.Abs.evN
    · skip
      have hil : refForms.length ≤ i := by simpa using c0
      have hv : shapeOf c t = zeroForm := by rw [← hq, hi.2, List.drop_of_length_le hil]; rfl
      refine AWp.exit ?_
      try simp only [thenQ, blockQ, noGo, reduceIte, Nat.reduceEqDiff]
      refine hK2 _ ?_
      refine AWp.regionW ?_
      refine AWp.ret ?_
      try simp only [thenQ, blockQ, noGo]
      refine bodyQ.m ?_
      clear hK4 K4 hK3 K3 hK2 K2 hK1 K1
      rw [hv]
      first | done | exact Hand.go
theorem sumUp_le (l : List GNode) (i : Nat) : sumUp 0 ((nLens (l.take i)).map (4 + ·)) ≤ nSize l := by
  have e : (nLens (l.take i)).map (4 + ·) = ((nLens l).map (4 + ·)).take i := by
    rw [nLens_map, nLens_map, List.map_take, List.map_take]
  rw [e]; exact sumUp_take _ i
def szR (l : List GNode) (i : Nat) : Nat := if i < l.length then upN (sumUp 0 ((nLens (l.take i)).map (4 + ·))) else nSize l
theorem upN_mod (n : Nat) : upN n % 4 = 0 := by unfold upN gapN; omega
theorem szR_step (l : List GNode) (i : Nat) (h : i < l.length) : szR l (i + 1) = if i < l.length - 1 then szR l i + (4 + vlen l[i]) + gapN (4 + vlen l[i]) else szR l i + (4 + vlen l[i]) := by
  have e : sumUp 0 ((nLens (l.take (i + 1))).map (4 + ·)) = upN (sumUp 0 ((nLens (l.take i)).map (4 + ·))) + (4 + vlen l[i]) := by
    rw [List.take_succ_eq_append_getElem h]
    have : nLens (l.take i ++ [l[i]]) = nLens (l.take i) ++ [vlen l[i]] := by rw [nLens_map, nLens_map, List.map_append]; rfl
    rw [this, List.map_append]
    exact sumUp_append _ _ _
  have hu := upN_mod (sumUp 0 ((nLens (l.take i)).map (4 + ·)))
  unfold szR
  rw [if_pos h]
  by_cases h2 : i < l.length - 1
  · rw [if_pos (by omega), if_pos h2, e]
    generalize upN (sumUp 0 ((nLens (l.take i)).map (4 + ·))) = u at hu
    unfold upN gapN; omega
  · rw [if_neg (by omega), if_neg h2, ← e]
    have : i + 1 = l.length := by omega
    rw [this, List.take_length]; rfl
theorem szR_le (l : List GNode) (i : Nat) : szR l i ≤ nSize l + 3 := by
  unfold szR
  split
  · have h1 := sumUp_le l i
    have h2 := gapN_le (sumUp 0 ((nLens (l.take i)).map (4 + ·)))
    unfold upN; omega
  · omega
theorem szR_zero (l : List GNode) : szR l 0 = 0 := by
  unfold szR
  split
  · simp [nLens, sumUp, upN, gapN]
  · have : l = [] := by cases l <;> simp_all
    subst this; rfl
theorem size08_step (l : List GNode) (hs : nSize l ≤ 2 ^ 30) (ih : ∀ a ∈ l, PC Tryz.prog 47 [.sl false 3 (nodesA false a.kids)] (nat (nSize a.kids))) :
    PC Tryz.prog 47 [.sl false 3 (nodesA false l)] (nat (nSize l)) := by
  have hlen := nSize_len l
  refine PC.of_bodyW (by simp only [push_cast]) Tryz.func47 rfl (by rw [Tryz.ntmps47]; simp) ?_
  refine AWp.regionW ?_
  refine AWp.regionW ?_
  refine AWp.seqK fun K1 hK1 => ?_
  refine AWp.regionW ?_
  refine AWp.block ?_
  refine AWp.loopK0 [0] (fun (i : Nat) => [(4, nat i), (3, nat (szR l i))]) (fun i => i ≤ l.length) (fun i => l.length - i) (0) ?_ (Nat.zero_le _) ?_
  · skip
    refine Le.m 0 ?_ ?_
    · exact Go.Abs.evM
    · simp only [push_cast, ↓reduceIte, Nat.reduceEqDiff, Nat.reduceLT, Nat.reduceAdd, Nat.reduceSub, Nat.reduceMul, Nat.reduceLeDiff, Nat.reducePow, Int.reduceLT, Int.reduceToNat, reduceCtorEq, Int.reduceNeg, Int.reduceEq, Nat.reduceBEq, Nat.reduceBNe, Int.reduceBEq, Int.reduceBNe, String.reduceEq]
      try simp (disch := omega) only [w_nat, w_add, w_addl, w_addr, w_sub, w_subl, w_mul, w_mull, w_mulr, w_u32, w_u16, w_u8, w_u32a, N_zero]
      rw [szR_zero]; rfl
  · intro i hi K2 hK2
    refine AWp.seqK fun K3 hK3 => ?_
    refine AWp.regionW ?_
    refine AWp.condLM (fun c0 => ?_) (fun c0 => ?_)
    · skip
      have hil : i < l.length := by simpa using c0
      have hm := List.getElem_mem hil
      have hv := vlen_mem hm
      have he := vlen_eq l[i]
      have hst := szR_step l i hil
      have hle := szR_le l i
      have hg := gapN_le (4 + vlen l[i])
      refine AWp.skip ?_
      refine hK3 _ ?_
      refine AWp.seqK fun K4 hK4 => ?_
      refine AWp.block ?_
      refine AWp.drS [[(0, none)], [(4, none)], [(12, some 0), (13, some 1)], [(14, some 2)], [(15, some 3)], [(16, some 4)], [(17, some 5)], [(0, none)], [(4, none)], [(19, some 7), (20, some 8)], [(21, some 9)], [(22, some 10)], [(23, some 11)], [(18, some 6), (24, some 12)], [(25, some 13)]] fun G hG => ?_
      refine Dr.sim ?_
      try simp only [List.cons_append, List.nil_append]
      refine Dr.sim ?_
      try simp only [List.cons_append, List.nil_append]
      refine Dr.idx (i) (nodeA false l[i]) ?_ ?_
      · exact nodesA_at _ _ _ hil
      try simp only [List.cons_append, List.nil_append]
      refine Dr.sim ?_
      try simp only [List.cons_append, List.nil_append]
      refine Dr.sim ?_
      try simp only [List.cons_append, List.nil_append]
      refine Dr.sim ?_
      try simp only [List.cons_append, List.nil_append]
      refine Dr.sim ?_
      try simp only [List.cons_append, List.nil_append]
      refine Dr.sim ?_
      try simp only [List.cons_append, List.nil_append]
      refine Dr.sim ?_
      try simp only [List.cons_append, List.nil_append]
      refine Dr.idx (i) (nodeA false l[i]) ?_ ?_
      · exact nodesA_at _ _ _ hil
      try simp only [List.cons_append, List.nil_append]
      refine Dr.sim ?_
      try simp only [List.cons_append, List.nil_append]
      refine Dr.sim ?_
      try simp only [List.cons_append, List.nil_append]
      refine Dr.call (ih l[i] hm) ?_
      try simp only [List.cons_append, List.nil_append]
      refine Dr.sim ?_
      try simp only [List.cons_append, List.nil_append]
      refine Dr.sim ?_
      try simp only [List.cons_append, List.nil_append]
      refine Dr.finM (n := 15) [(5, 14)] [0, 3, 4] hG YtldoehmlpdpiaaaGreatDoor.Facts.mixed fun KD hKD => ?_
      refine ARun2.endm (hKD _ ?_); clear hKD KD hG G
      refine AWp.regionW ?_
      refine AWp.regionW ?_
      refine AWp.condLM (fun c1 => ?_) (fun c1 => ?_)
      · skip
        have h1 : i < l.length - 1 := by simpa using c1
        rw [if_pos h1] at hst
        refine AWp.regionN fun K5 hK5 => ?_
        rw [show 4 + l[i].data.length + nSize l[i].kids = 4 + vlen l[i] by omega]
        refine ARun2.callM (gap03_c (4 + vlen l[i]) (by omega)) ?_
        refine ARun2.endm (hK5 _ ?_)
        refine hK4 _ ?_
        refine AWp.regionV ?_
        refine hK2 _ (i + 1) (by omega) (by omega) ?_
        refine Le.m 0 ?_ ?_
        · exact Go.Abs.evM
        · simp only [push_cast, ↓reduceIte, Nat.reduceEqDiff, Nat.reduceLT, Nat.reduceAdd, Nat.reduceSub, Nat.reduceMul, Nat.reduceLeDiff, Nat.reducePow, Int.reduceLT, Int.reduceToNat, reduceCtorEq, Int.reduceNeg, Int.reduceEq, Nat.reduceBEq, Nat.reduceBNe, Int.reduceBEq, Int.reduceBNe, String.reduceEq]
          try simp (disch := omega) only [w_nat, w_add, w_addl, w_addr, w_sub, w_subl, w_mul, w_mull, w_mulr, w_u32, w_u16, w_u8, w_u32a, N_zero]
          first | (rw [hst]; done) | (rw [hst]; congr 3; omega)
      · skip
        have h1 : ¬ i < l.length - 1 := by simpa using c1
        rw [if_neg h1] at hst
        refine AWp.skip ?_
        refine hK4 _ ?_
        refine AWp.regionV ?_
        refine hK2 _ (i + 1) (by omega) (by omega) ?_
        refine Le.m 0 ?_ ?_
        · exact Go.Abs.evM
        · simp only [push_cast, ↓reduceIte, Nat.reduceEqDiff, Nat.reduceLT, Nat.reduceAdd, Nat.reduceSub, Nat.reduceMul, Nat.reduceLeDiff, Nat.reducePow, Int.reduceLT, Int.reduceToNat, reduceCtorEq, Int.reduceNeg, Int.reduceEq, Nat.reduceBEq, Nat.reduceBNe, Int.reduceBEq, Int.reduceBNe, String.reduceEq]
          try simp (disch := omega) only [w_nat, w_add, w_addl, w_addr, w_sub, w_subl, w_mul, w_mull, w_mulr, w_u32, w_u16, w_u8, w_u32a, N_zero]
          first | (rw [hst]; done) | (rw [hst]; congr 3; omega)
    · skip
      have hil : i = l.length := by simp at c0; omega
      subst hil
      refine AWp.exit ?_
      try simp only [thenQ, blockQ, noGo, reduceIte, Nat.reduceEqDiff]
      refine hK1 _ ?_
      refine AWp.regionW ?_
      refine AWp.ret ?_
      try simp only [thenQ, blockQ, noGo]
      refine bodyQ.m ?_
      clear hK3 K3 hK2 K2 hK1 K1
      unfold szR; rw [if_neg (Nat.lt_irrefl _)]
      first | done | exact Hand.go
theorem size08_w : ∀ (w : Nat) (l : List GNode), szs l ≤ w → nSize l ≤ 2 ^ 30 → PC Tryz.prog 47 [.sl false 3 (nodesA false l)] (nat (nSize l)) := by
  have kl : ∀ (a : GNode) (l : List GNode), a ∈ l → szs a.kids < szs l := by
    intro a l ha
    have := szs_mem ha; rw [GNode.sz_eq] at this; omega
  intro w
  induction w with
  | zero => exact fun l hw hs => size08_step l hs (fun a ha => by have := kl a l ha; omega)
  | succ w ih => exact fun l hw hs => size08_step l hs (fun a ha => by have := kl a l ha; have := nSize_kids ha; exact ih _ (by omega) (by omega))
theorem size08_c (l : List GNode) (hs : nSize l ≤ 2 ^ 30) : PC Tryz.prog 47 [.sl false 3 (nodesA false l)] (nat (nSize l)) := size08_w _ l (Nat.le_refl _) hs
theorem form_small (c t : Nat) : (shapeOf c t).kids ≤ 4 ∧ (shapeOf c t).least < 2 ^ 40 ∧ (shapeOf c t).most < 2 ^ 40 ∧ (shapeOf c t).unit < 2 ^ 40 ∧ (shapeHas c t = true → (shapeOf c t).cls = c ∧ 0 < (shapeOf c t).unit) ∧ (shapeHas c t = false → shapeOf c t = zeroForm) := by
  have key : ∀ l : List ShForm, (∀ f ∈ l, f.kids ≤ 4 ∧ f.least < 2 ^ 40 ∧ f.most < 2 ^ 40 ∧ f.unit < 2 ^ 40 ∧ 0 < f.unit) →
      let g := (((l.find? fun f => f.ty == t).map fun f => { f with cls := c }).getD zeroForm)
      g.kids ≤ 4 ∧ g.least < 2 ^ 40 ∧ g.most < 2 ^ 40 ∧ g.unit < 2 ^ 40 ∧ ((l.find? fun f => f.ty == t).isSome = true → g.cls = c ∧ 0 < g.unit) ∧ ((l.find? fun f => f.ty == t).isSome = false → g = zeroForm) := by
    intro l hl
    cases hf : l.find? (fun f => f.ty == t) with
    | none => simp [zeroForm]
    | some f =>
      have := hl f (List.mem_of_find?_eq_some hf)
      simp
      omega
  refine key (formsN c) ?_
  match c with
  | 0 => intro f hf; simp [formsN] at hf
  | 1 => decide
  | 2 => decide
  | _ + 3 => intro f hf; simp [formsN] at hf
theorem counted_eq (c t : Nat) (d : List UInt8) (k : List GNode) (h : badN c t d.length k = false) (hc : c = 2) (ht : t = 2) : (!countedR d) = countedN c t d := by
  subst hc; subst ht
  have hf : fitsN (shapeOf 2 2) d.length = true := by
    unfold badN at h
    have : shapeHas 2 2 = true := rfl
    rw [this] at h
    cases hq : fitsN (shapeOf 2 2) d.length with
    | true => rfl
    | false => rw [hq] at h; simp at h
  have hl : 6 ≤ d.length ∧ (d.length - 6) % 2 = 0 := by
    have e : shapeOf 2 2 = ⟨2, 2, ⟨#[109, 105, 115, 115, 105, 110, 103, 45, 112, 97, 114, 97, 109, 101, 116, 101, 114]⟩, 6, 65531, 2, 0⟩ := rfl
    rw [e] at hf
    unfold fitsN at hf
    simp only [Bool.and_eq_true, decide_eq_true_eq, beq_iff_eq] at hf
    exact ⟨hf.1.1, hf.2⟩
  unfold countedR countedN
  rw [Bool.eq_iff_iff]
  simp
  omega
theorem check08_step (c dp : Nat) (n : GNode) (hc : c = 1 ∨ c = 2) (hdp : dp < 2 ^ 60) (hs : nSize [n] ≤ 2 ^ 30)
    (ih : ∀ (c dp : Nat) (a : GNode), a ∈ n.kids → (c = 1 ∨ c = 2) → dp < 2 ^ 60 → nSize [a] ≤ 2 ^ 30 → PC Tryz.prog 21 [nat c, nodeA false a, nat dp] (nat (checkN c dp a))) :
    PC Tryz.prog 21 [nat c, nodeA false n, nat dp] (nat (checkN c dp n)) := by
  have hkl := nSize_len n.kids
  have hk1 := nSize_kids1 n
  have hdl := nSize_data n
  obtain ⟨f1, f2, f3, f4, f5, f6⟩ := form_small c n.ty
  have hcl : (shapeOf c n.ty).cls = if shapeHas c n.ty = true then c else 0 := by
    cases h : shapeHas c n.ty with
    | true => exact (f5 h).1
    | false => rw [f6 h]; rfl
  have hc0 : ((shapeOf c n.ty).cls == 0) = !shapeHas c n.ty := by
    rw [hcl]; cases shapeHas c n.ty <;> simp; omega
  have hc1 : decide (0 < (shapeOf c n.ty).cls) = shapeHas c n.ty := by
    rw [hcl]; cases shapeHas c n.ty <;> simp; omega
  refine PC.of_bodyW (by simp only [push_cast]) Tryz.func21 rfl (by rw [Tryz.ntmps21]; simp) ?_
  refine AWp.regionW ?_
  refine AWp.seqK fun K1 hK1 => ?_
  refine AWp.regionW ?_
  refine AWp.condLM (fun c0 => ?_) (fun c0 => ?_)
  · skip
    have h0 : 4 < dp := by simpa using c0
    refine AWp.regionW ?_
    refine AWp.ret ?_
    try simp only [thenQ, blockQ, noGo]
    refine bodyQ.m ?_
    clear hK1 K1
    rw [checkN_eq, if_pos h0]
    first | done | exact Hand.go
  · skip
    have h0 : ¬ 4 < dp := by simpa using c0
    refine AWp.skip ?_
    refine hK1 _ ?_
    refine AWp.regionM fun K2 hK2 => ?_
    refine ARun2.callM (of07_c c n.ty hc) ?_
    refine ARun2.endm (hK2 _ ?_)
    refine AWp.seqK fun K3 hK3 => ?_
    refine AWp.regionA fun K4 hK4 => ?_
    refine ARun.segm 4 fun KS hKS => ?_
    refine ARun2.endm (hKS _ ?_); clear hKS KS
    apply ARun.grpM 4 3 true 23 [0, 2, 4, 7, 19]
    · intro g3 KG hKG
      refine ARun2.gom ?_
      exact ARun2.endm (hKG _ Le.grpM)
    refine ARun2.gom ?_
    refine ARun2.endm (hK4 _ ?_)
    refine AWp.condLM (fun c1 => ?_) (fun c1 => ?_)
    · skip
      rw [hc0] at c1
      have hb : badN c n.ty n.data.length n.kids = true := by unfold badN; rw [c1]; rfl
      refine AWp.regionW ?_
      refine AWp.ret ?_
      try simp only [thenQ, blockQ, noGo]
      refine bodyQ.m ?_
      clear hK4 K4 hK3 K3 hK2 K2 hK1 K1
      rw [checkN_eq, if_neg h0, if_pos hb]
      first | done | exact Hand.go
    · skip
      rw [hc0] at c1
      refine AWp.skip ?_
      refine hK3 _ ?_
      refine AWp.seqK fun K5 hK5 => ?_
      refine AWp.regionA fun K6 hK6 => ?_
      refine ARun.segm 4 fun KS hKS => ?_
      refine ARun2.endm (hKS _ ?_); clear hKS KS
      apply ARun.grpM 13 3 true 41 [0, 2, 4, 7, 28]
      · intro g3 KG hKG
        rw [hc1] at g3
        refine ARun.segm 7 fun KS hKS => ?_
        refine ARun2.callM (fits07_c (shapeOf c n.ty) n.data.length (by omega) f2 f3 (f5 g3).2 f4) ?_
        refine ARun2.endm (hKS _ ?_); clear hKS KS
        apply ARun.grpM 5 10 false 40 [0, 2, 4, 7, 28, 35]
        · intro g10 KG hKG
          refine ARun2.gom ?_
          refine ARun2.callM (wanted_c (shapeOf c n.ty) n.kids (by omega) f1) ?_
          exact ARun2.endm (hKG _ Le.grpM)
        refine ARun2.gom ?_
        exact ARun2.endm (hKG _ Le.grpM)
      refine ARun2.gom ?_
      refine ARun2.endm (hK6 _ ?_)
      refine AWp.condLM (fun c2 => ?_) (fun c2 => ?_)
      · skip
        rw [hc1] at c2
        have hb : badN c n.ty n.data.length n.kids = true := by
          unfold badN; revert c1 c2
          cases shapeHas c n.ty <;> cases fitsN (shapeOf c n.ty) n.data.length <;> cases kidsOk (shapeOf c n.ty) n.kids <;> simp
        refine AWp.regionW ?_
        refine AWp.ret ?_
        try simp only [thenQ, blockQ, noGo]
        refine bodyQ.m ?_
        clear hK6 K6 hK5 K5 hK4 K4 hK3 K3 hK2 K2 hK1 K1
        rw [checkN_eq, if_neg h0, if_pos hb]
        first | done | exact Hand.go
      · skip
        rw [hc1] at c2
        have hb : badN c n.ty n.data.length n.kids = false := by
          unfold badN; revert c1 c2
          cases shapeHas c n.ty <;> cases fitsN (shapeOf c n.ty) n.data.length <;> cases kidsOk (shapeOf c n.ty) n.kids <;> simp
        have hb' : ¬ badN c n.ty n.data.length n.kids = true := by rw [hb]; simp
        refine AWp.skip ?_
        refine hK5 _ ?_
        refine AWp.seqK fun K7 hK7 => ?_
        refine AWp.regionA fun K8 hK8 => ?_
        refine ARun.segm 3 fun KS hKS => ?_
        refine ARun2.endm (hKS _ ?_); clear hKS KS
        apply ARun.grpM 3 2 true 48 [2, 4, 7, 45]
        · intro g2 KG hKG
          refine ARun2.gom ?_
          exact ARun2.endm (hKG _ Le.grpM)
        refine ARun.segm 2 fun KS hKS => ?_
        refine ARun2.endm (hKS _ ?_); clear hKS KS
        apply ARun.grpM 4 7 true 54 [2, 4, 7, 50]
        · intro g7 KG hKG
          refine ARun2.gom ?_
          refine ARun2.callM (counted08_c n.data (by omega)) ?_
          exact ARun2.endm (hKG _ Le.grpM)
        refine ARun2.gom ?_
        refine ARun2.endm (hK8 _ ?_)
        refine AWp.condLM (fun c3 => ?_) (fun c3 => ?_)
        · skip
          have h3 : countedN c n.ty n.data = true := by
            simp only [Bool.and_eq_true, beq_iff_eq] at c3
            rw [← counted_eq c n.ty n.data n.kids hb c3.1.1 c3.1.2]; exact c3.2
          refine AWp.regionW ?_
          refine AWp.ret ?_
          try simp only [thenQ, blockQ, noGo]
          refine bodyQ.m ?_
          clear hK8 K8 hK7 K7 hK6 K6 hK5 K5 hK4 K4 hK3 K3 hK2 K2 hK1 K1
          rw [checkN_eq, if_neg h0, if_neg hb', if_pos h3]
          first | done | exact Hand.go
        · skip
          have h3 : ¬ countedN c n.ty n.data = true := by
            intro h3
            have e : c = 2 ∧ n.ty = 2 := by unfold countedN at h3; simp only [Bool.and_eq_true, beq_iff_eq] at h3; exact ⟨h3.1, h3.2.1⟩
            rw [← counted_eq c n.ty n.data n.kids hb e.1 e.2] at h3
            rw [e.1, e.2, h3] at c3
            simp at c3
          refine AWp.skip ?_
          refine hK7 _ ?_
          refine AWp.seqK fun K9 hK9 => ?_
          refine AWp.regionW ?_
          refine AWp.block ?_
          refine AWp.loopK0 [2, 4, 7] (fun (i : Nat) => [(8, nat i)]) (fun i => i ≤ n.kids.length ∧ checkL (insideN (shapeOf c n.ty).kids).1 (dp + 1) (n.kids.take i) = 0) (fun i => n.kids.length - i) (0) ?_ ⟨Nat.zero_le _, rfl⟩ ?_
          · skip
            refine Le.m 2 ?_ ?_
            · exact Go.Abs.evM
            · exact Go.Abs.evN
          · intro i hi K10 hK10
            refine AWp.seqK fun K11 hK11 => ?_
            refine AWp.regionW ?_
            refine AWp.condLM (fun c4 => ?_) (fun c4 => ?_)
            · skip
              have hil : i < n.kids.length := by simpa using c4
              have hm := List.getElem_mem hil
              have hci := inside_class c n.ty n.data.length n.kids hb (by omega)
              refine AWp.skip ?_
              refine hK11 _ ?_
              refine AWp.seqK fun K12 hK12 => ?_
              refine AWp.block ?_
              refine AWp.drS [[(7, none)], [(63, some 0)], [(64, some 1)], [(4, none)], [(66, some 3)], [(8, none)], [(67, some 4), (68, some 5)], [(69, some 6)], [(2, none)], [(71, some 8)], [(65, some 2), (70, some 7), (72, some 9)], [(73, some 10)]] fun G hG => ?_
              refine Dr.sim ?_
              try simp only [List.cons_append, List.nil_append]
              refine Dr.sim ?_
              try simp only [List.cons_append, List.nil_append]
              refine Dr.call (inside08_c (shapeOf c n.ty).kids f1) ?_
              try simp only [List.cons_append, List.nil_append]
              refine Dr.sim ?_
              try simp only [List.cons_append, List.nil_append]
              refine Dr.sim ?_
              try simp only [List.cons_append, List.nil_append]
              refine Dr.sim ?_
              try simp only [List.cons_append, List.nil_append]
              refine Dr.idx (i) (nodeA false n.kids[i]) ?_ ?_
              · exact nodesA_at _ _ _ hil
              try simp only [List.cons_append, List.nil_append]
              refine Dr.sim ?_
              try simp only [List.cons_append, List.nil_append]
              refine Dr.sim ?_
              try simp only [List.cons_append, List.nil_append]
              refine Dr.sim ?_
              try simp only [List.cons_append, List.nil_append]
              refine Dr.call (ih (insideN (shapeOf c n.ty).kids).1 (dp + 1) n.kids[i] hm hci (by omega) (by have := nSize_one hm; omega)) ?_
              try simp only [List.cons_append, List.nil_append]
              refine Dr.sim ?_
              try simp only [List.cons_append, List.nil_append]
              refine Dr.finM (n := 12) [(9, 11)] [2, 4, 7, 8] hG YtldoehmlpdpiaaaGreatDoor.Facts.mixed fun KD hKD => ?_
              refine ARun2.endm (hKD _ ?_); clear hKD KD hG G
              refine AWp.regionW ?_
              refine AWp.condLM (fun c5 => ?_) (fun c5 => ?_)
              · skip
                have h5 : checkN (insideN (shapeOf c n.ty).kids).1 (dp + 1) n.kids[i] ≠ 0 := by simpa using c5
                refine AWp.regionW ?_
                refine AWp.ret ?_
                try simp only [thenQ, blockQ, noGo]
                refine bodyQ.m ?_
                clear hK12 K12 hK11 K11 hK10 K10 hK9 K9 hK8 K8 hK7 K7 hK6 K6 hK5 K5 hK4 K4 hK3 K3 hK2 K2 hK1 K1
                have hL := checkL_at _ _ n.kids i hil hi.2 h5
                rw [checkN_eq c dp n, if_neg h0, if_neg hb', if_neg h3, if_pos (by rw [hL]; exact h5), hL]
                first | done | exact Hand.go
              · skip
                have h5 : checkN (insideN (shapeOf c n.ty).kids).1 (dp + 1) n.kids[i] = 0 := by simpa using c5
                refine AWp.skip ?_
                refine hK12 _ ?_
                refine AWp.regionV ?_
                refine hK10 _ (i + 1) (⟨by omega, by rw [List.take_succ_eq_append_getElem hil, checkL_snoc, hi.2]; simpa using h5⟩) (by omega) ?_
                refine Le.m 2 ?_ ?_
                · exact Go.Abs.evM
                · exact Go.Abs.evN
            · skip
              have hil : i = n.kids.length := by have := hi.1; simp at c4; omega
              have hL : checkL (insideN (shapeOf c n.ty).kids).1 (dp + 1) n.kids = 0 := by have := hi.2; rwa [hil, List.take_length] at this
              subst hil
              refine AWp.exit ?_
              try simp only [thenQ, blockQ, noGo, reduceIte, Nat.reduceEqDiff]
              refine hK9 _ ?_
              refine AWp.seqK fun K13 hK13 => ?_
              refine AWp.regionM fun K14 hK14 => ?_
              refine ARun2.callM (size08_c [n] hs) ?_
              refine ARun2.endm (hK14 _ ?_)
              refine AWp.condLM (fun c6 => ?_) (fun c6 => ?_)
              · skip
                have h6 : 65535 < nSize [n] := by simpa using c6
                refine AWp.regionW ?_
                refine AWp.ret ?_
                try simp only [thenQ, blockQ, noGo]
                refine bodyQ.m ?_
                clear hK14 K14 hK13 K13 hK11 K11 hK10 K10 hK9 K9 hK8 K8 hK7 K7 hK6 K6 hK5 K5 hK4 K4 hK3 K3 hK2 K2 hK1 K1
                rw [checkN_eq, if_neg h0, if_neg hb', if_neg h3, if_neg (by rw [hL]; simp), if_pos h6]
                first | done | exact Hand.go
              · skip
                have h6 : ¬ 65535 < nSize [n] := by simpa using c6
                refine AWp.skip ?_
                refine hK13 _ ?_
                refine AWp.regionW ?_
                refine AWp.ret ?_
                try simp only [thenQ, blockQ, noGo]
                refine bodyQ.m ?_
                clear hK14 K14 hK13 K13 hK11 K11 hK10 K10 hK9 K9 hK8 K8 hK7 K7 hK6 K6 hK5 K5 hK4 K4 hK3 K3 hK2 K2 hK1 K1
                rw [checkN_eq, if_neg h0, if_neg hb', if_neg h3, if_neg (by rw [hL]; simp), if_neg h6]
                first | done | exact Hand.go
theorem check08_w : ∀ (w c dp : Nat) (n : GNode), n.sz ≤ w → (c = 1 ∨ c = 2) → dp < 2 ^ 60 → nSize [n] ≤ 2 ^ 30 → PC Tryz.prog 21 [nat c, nodeA false n, nat dp] (nat (checkN c dp n)) := by
  intro w
  induction w with
  | zero => intro c dp n h; have := n.sz_eq; omega
  | succ w ih => exact fun c dp n hw hc hdp hs => check08_step c dp n hc hdp hs (fun c dp a ha hc hdp hs => ih c dp a (by have := szs_lt ha; omega) hc hdp hs)
theorem check08_c (c dp : Nat) (n : GNode) (hc : c = 1 ∨ c = 2) (hdp : dp < 2 ^ 60) (hs : nSize [n] ≤ 2 ^ 30) : PC Tryz.prog 21 [nat c, nodeA false n, nat dp] (nat (checkN c dp n)) := check08_w _ c dp n (Nat.le_refl _) hc hdp hs
def cntL (g : GNode → Nat) : List GNode → Nat → Nat
  | [], s => s
  | n :: l, s => if s < 1000 then cntL g l (s + 1 + n.data.length / 1000 + g n) else s
def countF : Nat → List GNode → Nat
  | 0, _ => 1000
  | f + 1, l => cntL (fun n => countF f n.kids) l 0
theorem cntL_le (g : GNode → Nat) (hg : ∀ n, g n ≤ 1000 + 2000 * szs n.kids) : ∀ (l : List GNode) (s : Nat), cntL g l s ≤ s + 2000 * szs l
  | [], s => by simp [cntL, szs]
  | n :: l, s => by
    have h1 := n.sz_eq
    have h2 := hg n
    have h3 := cntL_le g hg l (s + 1 + n.data.length / 1000 + g n)
    simp only [cntL, szs]
    split <;> omega
theorem countF_le : ∀ (f : Nat) (l : List GNode), countF f l ≤ 1000 + 2000 * szs l
  | 0, l => by simp [countF]
  | f + 1, l => by
    have := cntL_le (fun n => countF f n.kids) (fun n => countF_le f n.kids) l 0
    simp only [countF]; omega
theorem szs_take (l : List GNode) (i : Nat) (h : i < l.length) : szs (l.take (i + 1)) = szs (l.take i) + l[i].sz := by
  rw [List.take_succ_eq_append_getElem h]
  generalize l.take i = a
  induction a with
  | nil => simp [szs]
  | cons x a ih => simp only [List.cons_append, szs, ih]; omega
theorem count_step (f dp : Nat) (hf : f + dp = 21) (l : List GNode) (hs : szs l ≤ 2 ^ 30) (ih : ∀ a ∈ l, 0 < f → PC Tryz.prog 93 [.sl false 3 (nodesA false a.kids), nat (dp + 1)] (nat (countF (f - 1) a.kids))) :
    PC Tryz.prog 93 [.sl false 3 (nodesA false l), nat dp] (nat (countF f l)) := by
  have hlen := szs_len l
  refine PC.of_bodyW (by simp only [push_cast]) Tryz.func93 rfl (by rw [Tryz.ntmps93]; simp) ?_
  refine AWp.regionW ?_
  refine AWp.regionW ?_
  refine AWp.seqK fun K1 hK1 => ?_
  refine AWp.regionW ?_
  refine AWp.condLM (fun c0 => ?_) (fun c0 => ?_)
  · skip
    have h0 : f = 0 := by have := of_decide_eq_true c0; omega
    refine AWp.regionW ?_
    refine AWp.ret ?_
    try simp only [thenQ, blockQ, noGo]
    refine bodyQ.m ?_
    clear hK1 K1
    rw [h0, countF]
    first | done | exact Hand.go
  · skip
    obtain ⟨e, rfl⟩ : ∃ e, f = e + 1 := ⟨f - 1, by have : ¬ 20 < dp := of_decide_eq_false c0; omega⟩
    rw [Nat.add_sub_cancel] at ih
    have hq : countF (e + 1) l = cntL (fun n => countF e n.kids) l 0 := rfl
    refine AWp.skip ?_
    refine hK1 _ ?_
    refine AWp.seqK fun K2 hK2 => ?_
    refine AWp.regionW ?_
    refine AWp.block ?_
    refine AWp.loopK0 [0, 1] (fun (x : Nat × Nat) => [(6, nat x.1), (5, nat x.2)]) (fun x => x.1 ≤ l.length ∧ cntL (fun n => countF e n.kids) (l.drop x.1) x.2 = countF (e + 1) l ∧ x.2 ≤ 2000 * szs (l.take x.1)) (fun x => l.length - x.1) ((0, 0)) ?_ ⟨Nat.zero_le _, rfl, Nat.zero_le _⟩ ?_
    · skip
      refine Le.m 0 ?_ ?_
      · exact Go.Abs.evM
      · exact Go.Abs.evN
    · intro x hx K3 hK3
      obtain ⟨i, s⟩ := x
      obtain ⟨hi, hc, hb⟩ := hx
      simp only at hi hc hb
      refine AWp.seqK fun K4 hK4 => ?_
      refine AWp.regionA fun K5 hK5 => ?_
      refine ARun.segm 5 fun KS hKS => ?_
      refine ARun2.endm (hKS _ ?_); clear hKS KS
      apply ARun.grpM 2 4 true 15 [0, 1, 5, 6, 13]
      · intro g4 KG hKG
        refine ARun2.gom ?_
        exact ARun2.endm (hKG _ Le.grpM)
      refine ARun2.gom ?_
      refine ARun2.endm (hK5 _ ?_)
      refine AWp.condLM (fun c1 => ?_) (fun c1 => ?_)
      · skip
        have h1 : i < l.length ∧ s < 1000 := by simpa using c1
        have hil := h1.1
        have hm := List.getElem_mem hil
        have hsm := szs_mem hm
        have hse := GNode.sz_eq l[i]
        have hcl := countF_le e l[i].kids
        have hst := szs_take l i hil
        have hd : l.drop i = l[i] :: l.drop (i + 1) := List.drop_eq_getElem_cons hil
        refine AWp.skip ?_
        refine hK4 _ ?_
        refine AWp.seqK fun K6 hK6 => ?_
        refine AWp.block ?_
        refine AWp.drE [[(5, none)], [(19, some 0)], [(0, none)], [(6, none)], [(21, some 2), (22, some 3)], [(23, some 4)], [(24, some 5)], [(25, some 6)], [(26, some 7)], [(20, some 1), (27, some 8)], [(0, none)], [(6, none)], [(29, some 10), (30, some 11)], [(31, some 12)], [(32, some 13)], [(1, none)], [(34, some 15)], [(33, some 14), (35, some 16)], [(28, some 9), (36, some 17)], [(37, some 18)]] fun G hG => ?_
        refine Dr.sim ?_
        try simp only [List.cons_append, List.nil_append]
        refine Dr.sim ?_
        try simp only [List.cons_append, List.nil_append]
        refine Dr.sim ?_
        try simp only [List.cons_append, List.nil_append]
        refine Dr.sim ?_
        try simp only [List.cons_append, List.nil_append]
        refine Dr.idx (i) (nodeA false l[i]) ?_ ?_
        · exact nodesA_at _ _ _ hil
        try simp only [List.cons_append, List.nil_append]
        refine Dr.sim ?_
        try simp only [List.cons_append, List.nil_append]
        refine Dr.sim ?_
        try simp only [List.cons_append, List.nil_append]
        refine Dr.sim ?_
        try simp only [List.cons_append, List.nil_append]
        refine Dr.sim ?_
        try simp only [List.cons_append, List.nil_append]
        refine Dr.sim ?_
        try simp only [List.cons_append, List.nil_append]
        refine Dr.sim ?_
        try simp only [List.cons_append, List.nil_append]
        refine Dr.sim ?_
        try simp only [List.cons_append, List.nil_append]
        refine Dr.idx (i) (nodeA false l[i]) ?_ ?_
        · exact nodesA_at _ _ _ hil
        try simp only [List.cons_append, List.nil_append]
        refine Dr.sim ?_
        try simp only [List.cons_append, List.nil_append]
        refine Dr.sim ?_
        try simp only [List.cons_append, List.nil_append]
        refine Dr.sim ?_
        try simp only [List.cons_append, List.nil_append]
        refine Dr.sim ?_
        try simp only [List.cons_append, List.nil_append]
        refine Dr.call (ih l[i] hm (by omega)) ?_
        try simp only [List.cons_append, List.nil_append]
        refine Dr.sim ?_
        try simp only [List.cons_append, List.nil_append]
        refine Dr.sim ?_
        try simp only [List.cons_append, List.nil_append]
        refine Dr.finN (n := 20) [(5, 19)] [0, 1, 6] hG YtldoehmlpdpiaaaGreatDoor.Facts.mixed fun KD hKD => ?_
        refine ARun2.endm (hKD _ ?_); clear hKD KD hG G
        refine hK6 _ ?_
        refine AWp.regionV ?_
        refine hK3 _ ((i + 1, s + 1 + l[i].data.length / 1000 + countF e l[i].kids)) (⟨hil, by rw [← hc, hd, cntL, if_pos h1.2], by simp only; omega⟩) (by simp only; omega) ?_
        refine Le.m 0 ?_ ?_
        · exact Go.Abs.evM
        · exact Go.Abs.evN
      · skip
        have h1 : ¬ (i < l.length ∧ s < 1000) := by intro h; simp [h.1, h.2] at c1
        have hr : countF (e + 1) l = s := by
          rw [← hc]
          rcases Nat.lt_or_ge i l.length with h | h
          · rw [List.drop_eq_getElem_cons h, cntL, if_neg (fun h2 => h1 ⟨h, h2⟩)]
          · rw [List.drop_of_length_le h, cntL]
        refine AWp.exit ?_
        try simp only [thenQ, blockQ, noGo, reduceIte, Nat.reduceEqDiff]
        refine hK2 _ ?_
        refine AWp.regionW ?_
        refine AWp.ret ?_
        try simp only [thenQ, blockQ, noGo]
        refine bodyQ.m ?_
        clear hK5 K5 hK4 K4 hK3 K3 hK2 K2 hK1 K1
        rw [hr]
        first | done | exact Hand.go
theorem count_w : ∀ (f dp : Nat) (l : List GNode), f + dp = 21 → szs l ≤ 2 ^ 30 → PC Tryz.prog 93 [.sl false 3 (nodesA false l), nat dp] (nat (countF f l)) := by
  intro f
  induction f with
  | zero => exact fun dp l h hs => count_step 0 dp h l hs (fun a _ h => by omega)
  | succ f ih => exact fun dp l h hs => count_step (f + 1) dp h l hs (fun a ha _ => ih (dp + 1) a.kids (by omega) (by have := szs_mem ha; rw [GNode.sz_eq] at this; omega))
def fewN (l : List GNode) : Bool := decide (countF 21 l ≤ 200)
theorem few_c (l : List GNode) (hs : szs l ≤ 2 ^ 30) : PC Tryz.prog 72 [.sl false 3 (nodesA false l)] (bool (fewN l)) := by
  refine PC.of_bodyW (by simp only [push_cast]) Tryz.func72 rfl (by rw [Tryz.ntmps72]; simp) ?_
  refine AWp.regionW ?_
  refine AWp.regionM fun K1 hK1 => ?_
  refine ARun2.callM (count_w 21 0 l rfl hs) ?_
  refine ARun2.endm (hK1 _ ?_)
  refine AWp.ret ?_
  try simp only [thenQ, blockQ, noGo]
  refine bodyQ.m ?_
  clear hK1 K1
  rw [fewN]
  first | done | exact Hand.go
end Go.Proofs.YtldoehmlpdpiaaaGreatDoor.C
namespace Go.Abs
@[push_cast] theorem bys_fresh (l : List UInt8) : AV.freshL (bys l) = true := by
  unfold bys
  induction l with
  | nil => rfl
  | cons x l ih => simp only [List.map_cons, AV.freshL, AV.fresh, ih]; rfl
@[push_cast] theorem bys_ones (l : List UInt8) : (bys l).all AV.one = true := by
  unfold bys
  rw [List.all_eq_true]; intro x hx; simp only [List.mem_map] at hx; obtain ⟨b, _, rfl⟩ := hx; rfl
mutual
theorem nodeA_fresh : ∀ n : GNode, (nodeA true n).fresh = true
  | .mk t d k => by simp only [nodeA, AV.fresh, AV.freshL, bys_fresh, nodesA_fresh k, Bool.and_true]
theorem nodesA_fresh : ∀ l : List GNode, AV.freshL (nodesA true l) = true
  | [] => by simp [nodesA, AV.freshL]
  | n :: l => by simp only [nodesA, AV.freshL, nodeA_fresh n, nodesA_fresh l, Bool.and_true]
end
attribute [push_cast] nodesA_fresh
end Go.Abs
namespace Go.Proofs.YtldoehmlpdpiaaaGreatDoor.C
open Go.Abs
theorem nclone_fstep (n : GNode) (hs : n.sz ≤ 2 ^ 40) (ih : ∀ a : GNode, a.sz < n.sz → PC Tryz.prog 37 [nodeA false a] (nodeA true a)) : PC Tryz.prog 37 [nodeA false n] (nodeA true n) := by
  have hsz := n.sz_eq
  have hlen := szs_len n.kids
  refine PC.of_bodyK (by simp only [push_cast]) Tryz.func37 rfl (by rw [Tryz.ntmps37]; simp) ?_
  refine AWp.regionW ?_
  refine AWp.drS [[(1, none)], [(6, some 0)], [(1, none)], [(8, some 2)], [(9, some 3)], [(7, some 1), (10, some 4)], []] fun G hG => ?_
  refine Dr.sim ?_
  try simp only [List.cons_append, List.nil_append]
  refine Dr.sim ?_
  try simp only [List.cons_append, List.nil_append]
  refine Dr.sim ?_
  try simp only [List.cons_append, List.nil_append]
  refine Dr.sim ?_
  try simp only [List.cons_append, List.nil_append]
  refine Dr.call (clone_c n.data (by omega)) ?_
  try simp only [List.cons_append, List.nil_append]
  refine Dr.sim ?_
  try simp only [List.cons_append, List.nil_append]
  refine Dr.al ?_
  try simp only [List.cons_append, List.nil_append]
  refine Dr.finA (n := 7) 6 [(11, 5), (3, 6)] [1, 2] hG YtldoehmlpdpiaaaGreatDoor.Facts.mixed fun KD hKD => ?_
  refine ARun2.endm (hKD _ ?_); clear hKD KD hG G
  refine AWp.seqK fun K1 hK1 => ?_
  refine AWp.regionW ?_
  refine AWp.block ?_
  refine AWp.nilBox 2 2 49 3 rfl rfl ?_
  simp only [push_cast, ↓reduceIte, Nat.reduceEqDiff, Nat.reduceLT, Nat.reduceAdd, Nat.reduceSub, Nat.reduceMul, Nat.reduceLeDiff, Nat.reducePow, Int.reduceLT, Int.reduceToNat, reduceCtorEq, Int.reduceNeg, Int.reduceEq, Nat.reduceBEq, Nat.reduceBNe, Int.reduceBEq, Int.reduceBNe, String.reduceEq]
  refine AWp.loopK [2, 3, 13, 14] (fun (i : Nat) => [(15, nat i)]) (fun i => [.box 49 [u16 n.ty, .sl false 1 (bys n.data), .sl false 3 (nodesA false n.kids)], .box 49 [.val (.int .u16 0), .val (.slice none 0 0), .val (.slice none 0 0)], .box 49 [u16 n.ty, .sl true 1 (bys n.data), .own 3], .row 49 3 (nodesA true (n.kids.take i))]) (fun i => i ≤ n.kids.length) (fun i => n.kids.length - i) (0) ?_ (Nat.zero_le _) ?_
  · skip
    refine Le.m 4 ?_ ?_
    · exact Go.Abs.evM
    · exact Go.Abs.evN
  · intro i hi K2 hK2
    refine AWp.regionW ?_
    refine AWp.seqK fun K3 hK3 => ?_
    refine AWp.condLM (fun c0 => ?_) (fun c0 => ?_)
    · skip
      have hil : i < n.kids.length := by simpa using c0
      refine AWp.skip ?_
      refine hK3 _ ?_
      refine AWp.seqK fun K4 hK4 => ?_
      refine AWp.block ?_
      refine AWp.regionM fun K5 hK5 => ?_
      refine ARun2.indexM (i) (nodeA false n.kids[i]) ?_ ?_
      · exact nodesA_at _ _ _ hil
      refine ARun2.endm (hK5 _ ?_)
      refine AWp.drE [[(3, none)], [(19, some 0)], [(5, none)], [(21, some 2)], [(22, some 3)]] fun G hG => ?_
      refine Dr.sim ?_
      try simp only [List.cons_append, List.nil_append]
      refine Dr.sim ?_
      try simp only [List.cons_append, List.nil_append]
      refine Dr.sim ?_
      try simp only [List.cons_append, List.nil_append]
      refine Dr.call (ih n.kids[i] (szs_lt (List.getElem_mem hil))) ?_
      try simp only [List.cons_append, List.nil_append]
      refine Dr.build ?_
      try simp only [List.cons_append, List.nil_append]
      refine Dr.finN (n := 5) [(20, 1), (23, 4)] [2, 3, 13, 14, 15] hG YtldoehmlpdpiaaaGreatDoor.Facts.mixed fun KD hKD => ?_
      refine ARun2.appendM ?_ ?_ ?_
      · rw [YtldoehmlpdpiaaaGreatDoor.Facts.eb31, nodesA_len, List.length_take, List.length_cons, List.length_nil]; omega
      · rw [nodesA_len, List.length_take, List.length_cons, List.length_nil]; omega
      refine ARun2.endm (hKD _ ?_); clear hKD KD hG G
      refine hK4 _ ?_
      refine AWp.regionV ?_
      refine hK2 _ (i + 1) (by omega) (by omega) ?_
      refine Le.m 4 ?_ ?_
      · try simp only [push_cast, ↓reduceIte, Nat.reduceEqDiff, Nat.reduceLT, Nat.reduceAdd, Nat.reduceSub, Nat.reduceMul, Nat.reduceLeDiff, Nat.reducePow, Int.reduceLT, Int.reduceToNat, reduceCtorEq, Int.reduceNeg, Int.reduceEq, Nat.reduceBEq, Nat.reduceBNe, Int.reduceBEq, Int.reduceBNe, String.reduceEq]
        try simp (disch := omega) only [w_nat, w_add, w_addl, w_addr, w_sub, w_subl, w_mul, w_mull, w_mulr, w_u32, w_u16, w_u8, w_u32a, N_zero]
        first | done | skip
        rw [List.take_succ_eq_append_getElem hil, nodesA_snoc, nodeA_eq]
      · exact Go.Abs.evN
    · skip
      have hil : i = n.kids.length := by simp at c0; omega
      subst hil
      refine AWp.exit ?_
      try simp only [thenQ, blockQ, noGo, reduceIte, Nat.reduceEqDiff]
      refine hK1 _ ?_
      refine AWp.pubD 3 ?_
      refine AWp.regionW ?_
      refine AWp.ret ?_
      try simp only [thenQ, blockQ, noGo]
      refine bodyQ.m ?_
      clear hK3 K3 hK2 K2 hK1 K1
      rw [List.take_length]
      first | done | exact Wk.go
theorem nclone_fw : ∀ (w : Nat) (n : GNode), n.sz ≤ w → n.sz ≤ 2 ^ 40 → PC Tryz.prog 37 [nodeA false n] (nodeA true n) := by
  intro w
  induction w with
  | zero => intro n h; have := n.sz_eq; omega
  | succ w ih => exact fun n hw hs => nclone_fstep n hs (fun a h => ih a (by omega) (by omega))
theorem nclone_f (n : GNode) (hs : n.sz ≤ 2 ^ 40) : PC Tryz.prog 37 [nodeA false n] (nodeA true n) := nclone_fw _ n (Nat.le_refl _) hs
theorem right_f (n : GNode) (ok : Bool) (hs : n.sz ≤ 2 ^ 26) : PC Tryz.prog 60 [nodeA false n, bool ok] (.tup [nodeA true (rightN n ok).1, bool (rightN n ok).2]) := by
  have h1 := nSize_sz n
  refine PC.of_bodyK (by simp only [push_cast]) Tryz.func60 rfl (by rw [Tryz.ntmps60]; simp) ?_
  refine AWp.regionW ?_
  refine AWp.seqK fun K1 hK1 => ?_
  refine AWp.regionA fun K2 hK2 => ?_
  refine ARun.segm 3 fun KS hKS => ?_
  refine ARun2.endm (hKS _ ?_); clear hKS KS
  apply ARun.grpM 3 2 false 11 [2, 4, 8]
  · intro g2 KG hKG
    refine ARun2.gom ?_
    refine ARun2.callM (check_c 2 n (by omega) (by omega)) ?_
    exact ARun2.endm (hKG _ Le.grpM)
  refine ARun2.gom ?_
  refine ARun2.endm (hK2 _ ?_)
  refine AWp.condLM (fun c0 => ?_) (fun c0 => ?_)
  · skip
    have h0 : rightN n ok = (.zero, false) := by unfold rightN; cases ok <;> cases h : checkN 2 1 n == 0 <;> simp_all
    refine AWp.regionW ?_
    refine AWp.ret ?_
    try simp only [thenQ, blockQ, noGo]
    refine bodyQ.m ?_
    clear hK2 K2 hK1 K1
    rw [h0]
    first | done | exact Wk.go
  · skip
    have h0 : rightN n ok = (n, true) := by unfold rightN; cases ok <;> cases h : checkN 2 1 n == 0 <;> simp_all
    refine AWp.skip ?_
    refine hK1 _ ?_
    refine AWp.regionM fun K3 hK3 => ?_
    refine ARun2.callM (nclone_f n (by omega)) ?_
    refine ARun2.endm (hK3 _ ?_)
    refine AWp.ret ?_
    try simp only [thenQ, blockQ, noGo]
    refine bodyQ.m ?_
    clear hK3 K3 hK2 K2 hK1 K1
    rw [h0]
    first | done | exact Wk.go
theorem chunk_f (b : List UInt8) (hl : b.length ≤ 2 ^ 24) : PC Tryz.prog 30 [.sl false 1 (bys b)] (.tup [nodeA true (chunkN b).1, bool (chunkN b).2]) := by
  refine PC.of_bodyK (by simp only [push_cast]) Tryz.func30 rfl (by rw [Tryz.ntmps30]; simp) ?_
  refine AWp.regionW ?_
  refine AWp.regionM fun K1 hK1 => ?_
  refine ARun2.callM (right_f (.mk 6 b []) true (by simp only [GNode.sz, szs]; omega)) ?_
  refine ARun2.endm (hK1 _ ?_)
  refine AWp.ret ?_
  try simp only [thenQ, blockQ, noGo]
  refine bodyQ.m ?_
  clear hK1 K1
  rw [chunkN]
  first | done | exact Wk.go
def classOf (t : Nat) : Nat := (kinsideN (kindOf t).kids).1
def preE (c : GChunk) : Er := firstE [flagsE c (kindOf c.ty), dataE c (kindOf c.ty), kidsE c (kindOf c.ty), countE c, valueE c]
def startC (c : GChunk) : Nat := if kindHas c.ty = true then (preE c).codeOf.1 else if 0 < c.kids.length then 7 else 0
def checkC (c : GChunk) : Nat :=
  if startC c ≠ 0 then startC c else if checkL (classOf c.ty) 1 c.kids ≠ 0 then checkL (classOf c.ty) 1 c.kids
  else if 65535 < 4 + c.data.length + nSize c.kids then 4 else 0
def Er.isN : Er → Bool
  | .ok => true
  | .code c => c != 0
  | .flt c _ => c != 0
theorem firstE_isN : ∀ l : List Er, (∀ e ∈ l, e.isN = true) → (firstE l).isN = true
  | [], _ => rfl
  | e :: l, h => by
    rw [firstE]
    split
    · exact firstE_isN l fun x hx => h x (by simp [hx])
    · exact h e (by simp)
theorem preE_isN (c : GChunk) : (preE c).isN = true := by
  refine firstE_isN _ fun e he => ?_
  simp only [List.mem_cons, List.not_mem_nil, or_false] at he
  rcases he with rfl | rfl | rfl | rfl | rfl
  · unfold flagsE; split <;> rfl
  · unfold dataE; split <;> rfl
  · unfold kidsE; split <;> rfl
  · unfold countE; split <;> rfl
  · unfold valueE; split <;> rfl
theorem isN_code {e : Er} (h : e.isN = true) : e.codeOf.2 = true ↔ e.codeOf.1 ≠ 0 := by
  cases e <;> simp [Er.codeOf, Er.isN] at * <;> exact h
theorem isN_ok {e : Er} (h : e.isN = true) : e.codeOf.1 = 0 ↔ e = .ok := by
  cases e <;> simp [Er.codeOf, Er.isN] at * <;> exact h
theorem errA_code {e : Nat} (h : e ≠ 0) : errA e = .ifc 123 (nat e) := by
  unfold errA; rw [show (e == 0) = false by simpa using h]; rfl
theorem data_ok {c : GChunk} (h : dataE c (kindOf c.ty) = .ok) : (c.ty = 3 → 12 ≤ c.data.length) ∧ (c.ty = 64 → 17 ≤ c.data.length) ∧ (c.ty = 194 → 4 ≤ c.data.length ∧ (c.data.length - 4) % 8 = 0) := by
  have hf : kfitsN (kindOf c.ty) c.data.length = true := by
    unfold dataE at h
    cases hk : kfitsN (kindOf c.ty) c.data.length with
    | true => rfl
    | false => rw [hk] at h; cases h
  unfold kfitsN at hf
  simp only [Bool.and_eq_true, decide_eq_true_eq, beq_iff_eq] at hf
  obtain ⟨⟨h1, h2⟩, h3⟩ := hf
  refine ⟨fun e => ?_, fun e => ?_, fun e => ?_⟩
  · rw [e] at h1; exact h1
  · rw [e] at h1; exact h1
  · rw [e] at h1 h3; exact ⟨h1, h3⟩
theorem firstE_pre {l : List Er} (h : firstE l = .ok) : ∀ e ∈ l, e = .ok := by
  induction l with
  | nil => simp
  | cons e l ih =>
    rw [firstE] at h
    split at h
    · rename_i he
      intro x hx
      rcases List.mem_cons.1 hx with rfl | hx
      · exact he
      · exact ih h x hx
    · rename_i he; exact absurd h he
theorem kclass (k : KForm) (l : List GNode) (h : kkidsOk k l = true) (hk : k.kids ≤ 6) (hl : 0 < l.length) : (kinsideN k.kids).1 = 1 ∨ (kinsideN k.kids).1 = 2 := by
  have hh : k.kids = 0 ∨ k.kids = 1 ∨ k.kids = 2 ∨ k.kids = 3 ∨ k.kids = 4 ∨ k.kids = 5 ∨ k.kids = 6 := by omega
  unfold kkidsOk at h
  rcases hh with e | e | e | e | e | e | e <;> rw [e] at h ⊢ <;> first | exact .inl rfl | exact .inr rfl | skip
  simp [kinsideN] at h
  rw [h] at hl; simp at hl
theorem pre_kids {c : GChunk} (h : preE c = .ok) : kkidsOk (kindOf c.ty) c.kids = true := by
  have := firstE_pre h (kidsE c (kindOf c.ty)) (by simp)
  unfold kidsE at this
  cases hk : kkidsOk (kindOf c.ty) c.kids with
  | true => rfl
  | false => rw [hk] at this; cases this
set_option maxRecDepth 100000 in
theorem firsts_c (c : GChunk) (hd : c.data.length ≤ 2 ^ 40) (hk : c.kids.length ≤ 2 ^ 40) (hh : kindHas c.ty = true) :
    PC Tryz.prog 77 [chunkA false c, kformA (kindOf c.ty), .sl false 1 [.fn (.func 78) [] [], .fn (.func 79) [] [], .fn (.func 80) [] [], .fn (.func 81) [] [], .fn (.func 82) [] []]] (erA (preE c)) := by
  have hb := kind_bd c.ty
  have hu := (hb.2.2.2.2.2.2.1 hh).1
  refine cfirst_c c (kindOf c.ty) [78, 79, 80, 81, 82] [flagsE c (kindOf c.ty), dataE c (kindOf c.ty), kidsE c (kindOf c.ty), countE c, valueE c] rfl (by decide) ?_ ?_
  · intro i hi
    match i, hi with
    | 0, _ => rfl
    | 1, _ => rfl
    | 2, _ => rfl
    | 3, _ => rfl
    | 4, _ => rfl
    | i + 5, h => simp at h; omega
  · intro i hi hok
    match i, hi with
    | 0, _ => exact cflags_c c _
    | 1, _ => exact cdata_c c _ hd (by omega) hu (by omega)
    | 2, _ => exact ckids_c c _ (by omega) hk
    | 3, _ => exact ccount_c c _ hd (data_ok (hok 1 (by omega))).1
    | 4, _ => exact cvalue_c c _ hd (data_ok (hok 1 (by omega))).2.1 (data_ok (hok 1 (by omega))).2.2
    | i + 5, h => simp at h; omega
theorem ccheck_c (c : GChunk) (ht : c.ty < 256) (hd : c.data.length ≤ 2 ^ 40) (hs : nSize c.kids ≤ 2 ^ 30) : PC Tryz.prog 55 [chunkA false c] (errA (checkC c)) := by
  have hkl := nSize_len c.kids
  have hb := kind_bd c.ty
  have hC : checkC c = checkC c := rfl
  conv at hC => rhs; unfold checkC
  generalize checkC c = C at hC
  have hst : startC c = startC c := rfl
  conv at hst => rhs; unfold startC
  have hki := kinside_c (kindOf c.ty).kids (by omega)
  have hcc : classOf c.ty = (kinsideN (kindOf c.ty).kids).1 := rfl
  generalize (kinsideN (kindOf c.ty).kids).2.1 = u1 at hki
  generalize (kinsideN (kindOf c.ty).kids).2.2 = u2 at hki
  rw [← hcc] at hki
  generalize hcl : classOf c.ty = cl at hki hC
  refine PC.of_bodyW (by simp only [push_cast]) Tryz.func55 rfl (by rw [Tryz.ntmps55]; simp) ?_
  refine AWp.regionW ?_
  refine AWp.regionM fun K1 hK1 => ?_
  refine ARun2.callM (kof_c c.ty ht) ?_
  refine ARun2.endm (hK1 _ ?_)
  refine AWp.regionM fun K2 hK2 => ?_
  refine ARun2.callM (hki) ?_
  refine ARun2.endm (hK2 _ ?_)
  refine AWp.regionW ?_
  refine AWp.seqK fun K3 hK3 => ?_
  refine AWp.block ?_
  refine AWp.regionW ?_
  refine AWp.condLM (fun c0 => ?_) (fun c0 => ?_)
  · skip
    have hh : kindHas c.ty = true := c0
    have hfs := firsts_c c hd (by omega) hh
    rw [if_pos hh] at hst
    have hN := preE_isN c
    refine AWp.regionN fun K4 hK4 => ?_
    refine ARun2.callM (hfs) ?_
    refine ARun2.endm (hK4 _ ?_)
    refine hK3 _ ?_
    refine AWp.seqK fun K5 hK5 => ?_
    refine AWp.regionM fun K6 hK6 => ?_
    refine ARun2.callM (code_c (preE c)) ?_
    refine ARun2.endm (hK6 _ ?_)
    refine AWp.regionW ?_
    refine AWp.condLM (fun c2 => ?_) (fun c2 => ?_)
    · skip
      have hne := (isN_code hN).1 c2
      rw [hst, if_pos hne] at hC
      refine AWp.regionW ?_
      refine AWp.ret ?_
      try simp only [thenQ, blockQ, noGo]
      refine bodyQ.m ?_
      clear hK6 K6 hK5 K5 hK4 K4 hK3 K3 hK2 K2 hK1 K1
      rw [hC, errA_code hne]
      first | done | exact Hand.go
    · skip
      have h0 : (preE c).codeOf.1 = 0 := by
        cases h : (preE c).codeOf.1 with
        | zero => rfl
        | succ n => have := (isN_code hN).2 (by rw [h]; simp); rw [c2] at this; cases this
      have hcls : 0 < c.kids.length → cl = 1 ∨ cl = 2 := fun h => hcl ▸ kclass _ _ (pre_kids ((isN_ok hN).1 h0)) (by omega) h
      rw [hst, h0, if_neg (by simp)] at hC
      refine AWp.skip ?_
      refine hK5 _ ?_
      refine AWp.seqK fun K7 hK7 => ?_
      refine AWp.regionW ?_
      refine AWp.block ?_
      refine AWp.loopK0 [1, 5, 48, 49] (fun (i : Nat) => [(50, nat i)]) (fun i => i ≤ c.kids.length ∧ checkL cl 1 (c.kids.take i) = 0) (fun i => c.kids.length - i) (0) ?_ ⟨Nat.zero_le _, rfl⟩ ?_
      · skip
        refine Le.m 2 ?_ ?_
        · exact Go.Abs.evM
        · exact Go.Abs.evN
      · intro i hi K8 hK8
        refine AWp.regionW ?_
        refine AWp.seqK fun K9 hK9 => ?_
        refine AWp.condLM (fun c3 => ?_) (fun c3 => ?_)
        · skip
          have hil : i < c.kids.length := by simpa using c3
          have hm := List.getElem_mem hil
          have hcl2 := hcls (by omega)
          refine AWp.skip ?_
          refine hK9 _ ?_
          refine AWp.seqK fun K10 hK10 => ?_
          refine AWp.block ?_
          refine AWp.regionM fun K11 hK11 => ?_
          refine ARun2.indexM (i) (nodeA false c.kids[i]) ?_ ?_
          · exact nodesA_at _ _ _ hil
          refine ARun2.endm (hK11 _ ?_)
          refine AWp.regionM fun K12 hK12 => ?_
          refine ARun2.callM (check_c cl c.kids[i] hcl2 (by have := nSize_one hm; omega)) ?_
          refine ARun2.endm (hK12 _ ?_)
          refine AWp.regionW ?_
          refine AWp.condLM (fun c4 => ?_) (fun c4 => ?_)
          · skip
            have h5 : checkN cl 1 c.kids[i] ≠ 0 := by simpa using c4
            have hL := checkL_at _ _ c.kids i hil hi.2 h5
            rw [hL, if_pos h5] at hC
            refine AWp.regionW ?_
            refine AWp.ret ?_
            try simp only [thenQ, blockQ, noGo]
            refine bodyQ.m ?_
            clear hK12 K12 hK11 K11 hK10 K10 hK9 K9 hK8 K8 hK7 K7 hK6 K6 hK5 K5 hK4 K4 hK3 K3 hK2 K2 hK1 K1
            rw [hC]
            first | done | exact Hand.go
          · skip
            have h5 : checkN cl 1 c.kids[i] = 0 := by simpa using c4
            refine AWp.skip ?_
            refine hK10 _ ?_
            refine AWp.regionV ?_
            refine hK8 _ (i + 1) (⟨by omega, by rw [List.take_succ_eq_append_getElem hil, checkL_snoc, hi.2]; simpa using h5⟩) (by omega) ?_
            refine Le.m 2 ?_ ?_
            · exact Go.Abs.evM
            · exact Go.Abs.evN
        · skip
          have hil : i = c.kids.length := by have := hi.1; simp at c3; omega
          have hL : checkL cl 1 c.kids = 0 := by have := hi.2; rwa [hil, List.take_length] at this
          subst hil
          rw [hL, if_neg (by simp)] at hC
          refine AWp.exit ?_
          try simp only [thenQ, blockQ, noGo, reduceIte, Nat.reduceEqDiff]
          refine hK7 _ ?_
          refine AWp.seqK fun K13 hK13 => ?_
          refine AWp.regionM fun K14 hK14 => ?_
          refine ARun2.callM (csize_c c hd hs) ?_
          refine ARun2.endm (hK14 _ ?_)
          refine AWp.condLM (fun c5 => ?_) (fun c5 => ?_)
          · skip
            rw [if_pos (by simpa using c5)] at hC
            refine AWp.regionW ?_
            refine AWp.ret ?_
            try simp only [thenQ, blockQ, noGo]
            refine bodyQ.m ?_
            clear hK14 K14 hK13 K13 hK9 K9 hK8 K8 hK7 K7 hK6 K6 hK5 K5 hK4 K4 hK3 K3 hK2 K2 hK1 K1
            rw [hC]
            first | done | exact Hand.go
          · skip
            rw [if_neg (by simpa using c5)] at hC
            refine AWp.skip ?_
            refine hK13 _ ?_
            refine AWp.regionW ?_
            refine AWp.ret ?_
            try simp only [thenQ, blockQ, noGo]
            refine bodyQ.m ?_
            clear hK14 K14 hK13 K13 hK9 K9 hK8 K8 hK7 K7 hK6 K6 hK5 K5 hK4 K4 hK3 K3 hK2 K2 hK1 K1
            rw [hC]
            first | done | exact Hand.go
  · skip
    have hh : ¬ kindHas c.ty = true := by rw [c0]; simp
    rw [if_neg hh] at hst
    refine AWp.regionW ?_
    refine AWp.condLM (fun c1 => ?_) (fun c1 => ?_)
    · skip
      have hp : 0 < c.kids.length := by simpa using c1
      rw [if_pos hp] at hst
      refine AWp.regionV ?_
      refine hK3 _ ?_
      refine AWp.seqK fun K15 hK15 => ?_
      refine AWp.regionM fun K16 hK16 => ?_
      refine ARun2.callM (code_c (.code 7)) ?_
      refine ARun2.endm (hK16 _ ?_)
      refine AWp.regionW ?_
      refine AWp.condT ?_ (by first | (simp only [push_cast, ↓reduceIte, Nat.reduceEqDiff, Nat.reduceLT, Nat.reduceAdd, Nat.reduceSub, Nat.reduceMul, Nat.reduceLeDiff, Nat.reducePow, Int.reduceLT, Int.reduceToNat, reduceCtorEq, Int.reduceNeg, Int.reduceEq, Nat.reduceBEq, Nat.reduceBNe, Int.reduceBEq, Int.reduceBNe, String.reduceEq]; done) | (simp only [push_cast, ↓reduceIte, Nat.reduceEqDiff, Nat.reduceLT, Nat.reduceAdd, Nat.reduceSub, Nat.reduceMul, Nat.reduceLeDiff, Nat.reducePow, Int.reduceLT, Int.reduceToNat, reduceCtorEq, Int.reduceNeg, Int.reduceEq, Nat.reduceBEq, Nat.reduceBNe, Int.reduceBEq, Int.reduceBNe, String.reduceEq]; rfl))
      refine AWp.regionW ?_
      refine AWp.ret ?_
      try simp only [thenQ, blockQ, noGo]
      refine bodyQ.m ?_
      clear hK16 K16 hK15 K15 hK3 K3 hK2 K2 hK1 K1
      rw [hC, hst, if_pos (by simp), errA_code (by simp)]; simp only [Er.codeOf]
      first | done | exact Hand.go
    · skip
      have hp : ¬ 0 < c.kids.length := by simpa using c1
      rw [if_neg hp] at hst
      refine AWp.skip ?_
      refine hK3 _ ?_
      refine AWp.seqK fun K17 hK17 => ?_
      refine AWp.regionM fun K18 hK18 => ?_
      refine ARun2.callM (code_c .ok) ?_
      refine ARun2.endm (hK18 _ ?_)
      refine AWp.regionW ?_
      refine AWp.condF ?_ (by first | (simp only [push_cast, ↓reduceIte, Nat.reduceEqDiff, Nat.reduceLT, Nat.reduceAdd, Nat.reduceSub, Nat.reduceMul, Nat.reduceLeDiff, Nat.reducePow, Int.reduceLT, Int.reduceToNat, reduceCtorEq, Int.reduceNeg, Int.reduceEq, Nat.reduceBEq, Nat.reduceBNe, Int.reduceBEq, Int.reduceBNe, String.reduceEq]; done) | (simp only [push_cast, ↓reduceIte, Nat.reduceEqDiff, Nat.reduceLT, Nat.reduceAdd, Nat.reduceSub, Nat.reduceMul, Nat.reduceLeDiff, Nat.reducePow, Int.reduceLT, Int.reduceToNat, reduceCtorEq, Int.reduceNeg, Int.reduceEq, Nat.reduceBEq, Nat.reduceBNe, Int.reduceBEq, Int.reduceBNe, String.reduceEq]; rfl))
      refine AWp.skip ?_
      refine hK17 _ ?_
      refine AWp.seqK fun K19 hK19 => ?_
      refine AWp.regionW ?_
      refine AWp.block ?_
      have hcls : 0 < c.kids.length → cl = 1 ∨ cl = 2 := fun h => absurd h hp
      rw [hst, if_neg (by simp)] at hC
      refine AWp.loopK0 [1, 5, 48, 49] (fun (i : Nat) => [(50, nat i)]) (fun i => i ≤ c.kids.length ∧ checkL cl 1 (c.kids.take i) = 0) (fun i => c.kids.length - i) (0) ?_ ⟨Nat.zero_le _, rfl⟩ ?_
      · skip
        refine Le.m 2 ?_ ?_
        · exact Go.Abs.evM
        · exact Go.Abs.evN
      · intro i hi K20 hK20
        refine AWp.regionW ?_
        refine AWp.seqK fun K21 hK21 => ?_
        refine AWp.condLM (fun c3 => ?_) (fun c3 => ?_)
        · skip
          have hil : i < c.kids.length := by simpa using c3
          have hm := List.getElem_mem hil
          have hcl2 := hcls (by omega)
          exfalso; omega
        · skip
          have hil : i = c.kids.length := by have := hi.1; simp at c3; omega
          have hL : checkL cl 1 c.kids = 0 := by have := hi.2; rwa [hil, List.take_length] at this
          subst hil
          rw [hL, if_neg (by simp)] at hC
          refine AWp.exit ?_
          try simp only [thenQ, blockQ, noGo, reduceIte, Nat.reduceEqDiff]
          refine hK19 _ ?_
          refine AWp.seqK fun K22 hK22 => ?_
          refine AWp.regionM fun K23 hK23 => ?_
          refine ARun2.callM (csize_c c hd hs) ?_
          refine ARun2.endm (hK23 _ ?_)
          refine AWp.condLM (fun c5 => ?_) (fun c5 => ?_)
          · skip
            rw [if_pos (by simpa using c5)] at hC
            refine AWp.regionW ?_
            refine AWp.ret ?_
            try simp only [thenQ, blockQ, noGo]
            refine bodyQ.m ?_
            clear hK23 K23 hK22 K22 hK21 K21 hK20 K20 hK19 K19 hK18 K18 hK17 K17 hK3 K3 hK2 K2 hK1 K1
            rw [hC]
            first | done | exact Hand.go
          · skip
            rw [if_neg (by simpa using c5)] at hC
            refine AWp.skip ?_
            refine hK22 _ ?_
            refine AWp.regionW ?_
            refine AWp.ret ?_
            try simp only [thenQ, blockQ, noGo]
            refine bodyQ.m ?_
            clear hK23 K23 hK22 K22 hK21 K21 hK20 K20 hK19 K19 hK18 K18 hK17 K17 hK3 K3 hK2 K2 hK1 K1
            rw [hC]
            first | done | exact Hand.go
@[push_cast] theorem chunkA_hand (ids : List Nat) (b : Bool) (c : GChunk) : (chunkA b c).hand ids = chunkA false c := by
  simp only [chunkA, AV.hand, AV.handL, bys_hand, nodesA_hand]
theorem cclone_f (c : GChunk) (hd : c.data.length ≤ 2 ^ 40) (hs : szs c.kids ≤ 2 ^ 39) : PC Tryz.prog 32 [chunkA false c] (chunkA true c) := by
  refine PC.of_bodyK (by simp only [push_cast]) Tryz.func32 rfl (by rw [Tryz.ntmps32]; simp) ?_
  refine AWp.regionW ?_
  refine AWp.regionM fun K1 hK1 => ?_
  refine ARun2.callM (nclone_f (.mk 0 [] c.kids) (by simp only [GNode.sz]; simp; omega)) ?_
  refine ARun2.endm (hK1 _ ?_)
  refine AWp.drS [[(1, none)], [(9, some 0)], [(1, none)], [(11, some 2)], [(1, none)], [(13, some 4)], [(14, some 5)], [(3, none)], [(10, some 1), (12, some 3), (15, some 6), (16, some 7)]] fun G hG => ?_
  refine Dr.sim ?_
  try simp only [List.cons_append, List.nil_append]
  refine Dr.sim ?_
  try simp only [List.cons_append, List.nil_append]
  refine Dr.sim ?_
  try simp only [List.cons_append, List.nil_append]
  refine Dr.sim ?_
  try simp only [List.cons_append, List.nil_append]
  refine Dr.sim ?_
  try simp only [List.cons_append, List.nil_append]
  refine Dr.sim ?_
  try simp only [List.cons_append, List.nil_append]
  refine Dr.call (clone_c c.data hd) ?_
  try simp only [List.cons_append, List.nil_append]
  refine Dr.sim ?_
  try simp only [List.cons_append, List.nil_append]
  refine Dr.sim ?_
  try simp only [List.cons_append, List.nil_append]
  refine Dr.finM (n := 9) [(17, 8)] [2] hG YtldoehmlpdpiaaaGreatDoor.Facts.mixed fun KD hKD => ?_
  refine ARun2.endm (hKD _ ?_); clear hKD KD hG G
  refine AWp.ret ?_
  try simp only [thenQ, blockQ, noGo]
  refine bodyQ.m ?_
  clear hK1 K1
  first | done | exact Wk.go
set_option maxRecDepth 100000 in
set_option maxHeartbeats 1000000 in
theorem table11_c : PC Tryz.prog 67 [] (.sl false 7 (kformsA kindForms)) := by
  refine PC.of_bodyW (by simp only [push_cast]) Tryz.func67 rfl (by rw [Tryz.ntmps67]; simp) ?_
  refine AWp.regionW ?_
  refine AWp.regionW ?_
  refine AWp.regionW ?_
  refine AWp.ret ?_
  try simp only [thenQ, blockQ, noGo]
  refine bodyQ.m ?_
  simp only [kformsA, kindForms, List.map_cons, List.map_nil]
  first | done | exact Hand.go
theorem of11_c (t : Nat) : PC Tryz.prog 38 [u8 t] (.tup [kformA (kindOf t), bool (kindHas t)]) := by
  refine PC.of_bodyW (by simp only [push_cast]) Tryz.func38 rfl (by rw [Tryz.ntmps38]; simp) ?_
  refine AWp.regionW ?_
  refine AWp.regionM fun K1 hK1 => ?_
  refine ARun2.callM (table11_c) ?_
  refine ARun2.endm (hK1 _ ?_)
  refine AWp.seqK fun K2 hK2 => ?_
  refine AWp.regionW ?_
  refine AWp.block ?_
  refine AWp.loopK0 [0, 2, 4] (fun (i : Nat) => [(5, nat i)]) (fun i => i ≤ 23 ∧ ∀ m, m < i → (kf m).ty ≠ t) (fun i => 23 - i) (0) ?_ ⟨Nat.zero_le _, fun m h => by omega⟩ ?_
  · skip
    refine Le.m 1 ?_ ?_
    · exact Go.Abs.evM
    · exact Go.Abs.evN
  · intro i hi K3 hK3
    refine AWp.seqK fun K4 hK4 => ?_
    refine AWp.regionW ?_
    refine AWp.condLM (fun c0 => ?_) (fun c0 => ?_)
    · skip
      have hil : i < 23 := by simpa using c0
      refine AWp.skip ?_
      refine hK4 _ ?_
      refine AWp.seqK fun K5 hK5 => ?_
      refine AWp.block ?_
      refine AWp.regionM fun K6 hK6 => ?_
      refine ARun2.indexM (i) (kformA (kf i)) ?_ ?_
      · exact kformsA_kf i hil
      refine ARun2.endm (hK6 _ ?_)
      refine AWp.condLM (fun c1 => ?_) (fun c1 => ?_)
      · skip
        have h1 : (kf i).ty = t := by simpa using c1
        obtain ⟨e1, e2⟩ := kind_at t i hil h1
        refine AWp.regionM fun K7 hK7 => ?_
        refine ARun2.indexM (i) (kformA (kf i)) ?_ ?_
        · exact kformsA_kf i hil
        refine ARun2.endm (hK7 _ ?_)
        refine AWp.ret ?_
        try simp only [thenQ, blockQ, noGo]
        refine bodyQ.m ?_
        clear hK7 K7 hK6 K6 hK5 K5 hK4 K4 hK3 K3 hK2 K2 hK1 K1
        rw [e1, e2]
        first | done | exact Hand.go
      · skip
        have h1 : (kf i).ty ≠ t := by simpa using c1
        refine AWp.skip ?_
        refine hK5 _ ?_
        refine AWp.regionV ?_
        refine hK3 _ (i + 1) (⟨hil, fun m hm => (Nat.lt_or_ge m i).elim (hi.2 m) (fun h => (show i = m by omega) ▸ h1)⟩) (by omega) ?_
        refine Le.m 1 ?_ ?_
        · exact Go.Abs.evM
        · exact Go.Abs.evN
    · skip
      have hil : 23 ≤ i := by simpa using c0
      obtain ⟨e1, e2⟩ := kind_none t fun m hm => hi.2 m (by omega)
      refine AWp.exit ?_
      try simp only [thenQ, blockQ, noGo, reduceIte, Nat.reduceEqDiff]
      refine hK2 _ ?_
      refine AWp.regionW ?_
      refine AWp.ret ?_
      try simp only [thenQ, blockQ, noGo]
      refine bodyQ.m ?_
      clear hK4 K4 hK3 K3 hK2 K2 hK1 K1
      rw [e1, e2]; simp only [zeroK]
      first | done | exact Hand.go
theorem fits11_c (f : KForm) (n : Nat) (hn : n < 2 ^ 40) (hl : f.least < 2 ^ 40) (hm : f.most < 2 ^ 40) (hu : 0 < f.unit) (hu2 : f.unit < 2 ^ 40) : PC Tryz.prog 73 [kformA f, nat n] (bool (kfitsN f n)) := by
  refine PC.of_bodyW (by simp only [push_cast]) Tryz.func73 rfl (by rw [Tryz.ntmps73]; simp) ?_
  refine AWp.regionW ?_
  refine AWp.seqK fun K1 hK1 => ?_
  refine AWp.regionW ?_
  refine AWp.block ?_
  refine AWp.loopK [1, 2] (fun (i : Nat) => [(5, nat (f.least + i * f.unit))]) (fun i => [.box 77 [u8 f.ty, .val (.string f.name), u8 f.mask, nat f.least, nat f.most, nat f.unit, nat f.kids]]) (fun i => ∀ j, j < i → f.least + j * f.unit ≠ n) (fun i => f.most + 1 - (f.least + i * f.unit)) (0) ?_ (fun j h => by omega) ?_
  · skip
    refine Le.m 1 ?_ ?_
    · exact Go.Abs.evM
    · simp only [push_cast, ↓reduceIte, Nat.reduceEqDiff, Nat.reduceLT, Nat.reduceAdd, Nat.reduceSub, Nat.reduceMul, Nat.reduceLeDiff, Nat.reducePow, Int.reduceLT, Int.reduceToNat, reduceCtorEq, Int.reduceNeg, Int.reduceEq, Nat.reduceBEq, Nat.reduceBNe, Int.reduceBEq, Int.reduceBNe, String.reduceEq]
      try simp (disch := omega) only [w_nat, w_add, w_addl, w_addr, w_sub, w_subl, w_mul, w_mull, w_mulr, w_u32, w_u16, w_u8, w_u32a, N_zero]
      simp only [Nat.zero_mul, Nat.add_zero]
  · intro i hi K2 hK2
    refine AWp.seqK fun K3 hK3 => ?_
    refine AWp.regionW ?_
    refine AWp.condLM (fun c0 => ?_) (fun c0 => ?_)
    · skip
      have h0 : f.least + i * f.unit ≤ f.most := by simpa using c0
      have hs : (i + 1) * f.unit = i * f.unit + f.unit := by rw [Nat.add_mul, Nat.one_mul]
      refine AWp.skip ?_
      refine hK3 _ ?_
      refine AWp.seqK fun K4 hK4 => ?_
      refine AWp.block ?_
      refine AWp.regionW ?_
      refine AWp.condLM (fun c1 => ?_) (fun c1 => ?_)
      · skip
        have h1 : f.least + i * f.unit = n := by simpa using c1
        have hf : kfitsN f n = true := by
          have e : n - f.least = i * f.unit := by omega
          unfold kfitsN
          rw [e, Nat.mul_mod_left]
          simp
          omega
        refine AWp.regionW ?_
        refine AWp.ret ?_
        try simp only [thenQ, blockQ, noGo]
        refine bodyQ.m ?_
        clear hK4 K4 hK3 K3 hK2 K2 hK1 K1
        rw [hf]
        first | done | exact Hand.go
      · skip
        have h1 : f.least + i * f.unit ≠ n := by simpa using c1
        refine AWp.skip ?_
        refine hK4 _ ?_
        refine AWp.regionV ?_
        refine hK2 _ (i + 1) ((fun j hj => (Nat.lt_or_ge j i).elim (fun h => hi j h) (fun h => (show j = i by omega) ▸ h1))) (by omega) ?_
        refine Le.m 1 ?_ ?_
        · exact Go.Abs.evM
        · simp only [push_cast, ↓reduceIte, Nat.reduceEqDiff, Nat.reduceLT, Nat.reduceAdd, Nat.reduceSub, Nat.reduceMul, Nat.reduceLeDiff, Nat.reducePow, Int.reduceLT, Int.reduceToNat, reduceCtorEq, Int.reduceNeg, Int.reduceEq, Nat.reduceBEq, Nat.reduceBNe, Int.reduceBEq, Int.reduceBNe, String.reduceEq]
          try simp (disch := omega) only [w_nat, w_add, w_addl, w_addr, w_sub, w_subl, w_mul, w_mull, w_mulr, w_u32, w_u16, w_u8, w_u32a, N_zero]
          rw [hs, ← Nat.add_assoc]
    · skip
      have h0 : f.most < f.least + i * f.unit := by simpa using c0
      have hf : kfitsN f n = false := by
        unfold kfitsN
        by_cases h2 : f.least ≤ n ∧ n ≤ f.most
        · have h3 : (n - f.least) % f.unit ≠ 0 := by
            intro h3
            obtain ⟨j, hj⟩ := Nat.dvd_of_mod_eq_zero h3
            rw [Nat.mul_comm] at hj
            have hlt : j < i := by
              rcases Nat.lt_or_ge j i with h | h
              · exact h
              · have := Nat.mul_le_mul_right f.unit h
                omega
            exact hi j hlt (by omega)
          simp [h3]
        · rcases Nat.lt_or_ge n f.least with h4 | h4
          · simp; omega
          · simp; omega
      refine AWp.exit ?_
      try simp only [thenQ, blockQ, noGo, reduceIte, Nat.reduceEqDiff]
      refine hK1 _ ?_
      refine AWp.regionW ?_
      refine AWp.ret ?_
      try simp only [thenQ, blockQ, noGo]
      refine bodyQ.m ?_
      clear hK3 K3 hK2 K2 hK1 K1
      rw [hf]
      first | done | exact Hand.go
theorem class11_c (k : Nat) (hk : k ≤ 6) : PC Tryz.prog 39 [nat k] (nat (kinsideN k).1) := by
  have hq : (kinsideN k).1 = if k = 3 ∨ k = 4 then 2 else if 1 ≤ k then 1 else 0 := by
    have h : k = 0 ∨ k = 1 ∨ k = 2 ∨ k = 3 ∨ k = 4 ∨ k = 5 ∨ k = 6 := by omega
    rcases h with rfl | rfl | rfl | rfl | rfl | rfl | rfl <;> rfl
  refine PC.of_bodyW (by simp only [push_cast]) Tryz.func39 rfl (by rw [Tryz.ntmps39]; simp) ?_
  refine AWp.regionW ?_
  refine AWp.seqK fun K1 hK1 => ?_
  refine AWp.regionA fun K2 hK2 => ?_
  refine ARun.segm 3 fun KS hKS => ?_
  refine ARun2.endm (hKS _ ?_); clear hKS KS
  apply ARun.grpM 2 2 false 7 [0, 5]
  · intro g2 KG hKG
    refine ARun2.gom ?_
    exact ARun2.endm (hKG _ Le.grpM)
  refine ARun2.gom ?_
  refine ARun2.endm (hK2 _ ?_)
  refine AWp.condLM (fun c0 => ?_) (fun c0 => ?_)
  · skip
    refine AWp.regionW ?_
    refine AWp.ret ?_
    try simp only [thenQ, blockQ, noGo]
    refine bodyQ.m ?_
    clear hK2 K2 hK1 K1
    rw [hq, if_pos (by simpa using c0)]
    first | done | exact Hand.go
  · skip
    refine AWp.skip ?_
    refine hK1 _ ?_
    refine AWp.seqK fun K3 hK3 => ?_
    refine AWp.regionA fun K4 hK4 => ?_
    refine ARun.segm 3 fun KS hKS => ?_
    refine ARun2.endm (hKS _ ?_); clear hKS KS
    apply ARun.grpM 2 2 true 13 [11]
    · intro g2 KG hKG
      refine ARun2.gom ?_
      exact ARun2.endm (hKG _ Le.grpM)
    refine ARun2.gom ?_
    refine ARun2.endm (hK4 _ ?_)
    refine AWp.condLM (fun c1 => ?_) (fun c1 => ?_)
    · skip
      refine AWp.regionW ?_
      refine AWp.ret ?_
      try simp only [thenQ, blockQ, noGo]
      refine bodyQ.m ?_
      clear hK4 K4 hK3 K3 hK2 K2 hK1 K1
      rw [hq, if_neg (by simpa using c0), if_pos (by simp at c1; omega)]
      first | done | exact Hand.go
    · skip
      refine AWp.skip ?_
      refine hK3 _ ?_
      refine AWp.regionW ?_
      refine AWp.ret ?_
      try simp only [thenQ, blockQ, noGo]
      refine bodyQ.m ?_
      clear hK4 K4 hK3 K3 hK2 K2 hK1 K1
      rw [hq, if_neg (by simpa using c0), if_neg (by simp at c1; omega)]
      first | done | exact Hand.go
theorem kk_ref (q n y : Nat) (hq : q ≤ 6) : (decide ((kinsideN q).2.1 ≤ n) && decide (n ≤ (kinsideN q).2.2) && (q != 1 || y == 1) && (q != 6 || (y == 5 || y == 6))) =
    if q = 0 then n == 0 else if q = 1 then (n == 1 && y == 1) else if q = 4 then (decide (1 ≤ n) && decide (n ≤ 16384)) else if q = 5 then (n == 1 || n == 2) else if q = 6 then (decide (2 ≤ n) && decide (n ≤ 16384) && (y == 5 || y == 6)) else decide (n ≤ 16384) := by
  have h : q = 0 ∨ q = 1 ∨ q = 2 ∨ q = 3 ∨ q = 4 ∨ q = 5 ∨ q = 6 := by omega
  rcases h with rfl | rfl | rfl | rfl | rfl | rfl | rfl <;> rw [Bool.eq_iff_iff] <;> simp [kinsideN] <;> omega
theorem wanted12_c (k : KForm) (l : List GNode) (hk : k.kids ≤ 6) (hl : l.length ≤ 2 ^ 40) : PC Tryz.prog 74 [kformA k, .sl false 3 (nodesA false l)] (bool (kkidsOk k l)) := by
  have hq : kkidsOk k l = _ := kk_ref k.kids l.length (l.headD default).ty hk
  refine PC.of_bodyW (by simp only [push_cast]) Tryz.func74 rfl (by rw [Tryz.ntmps74]; simp) ?_
  refine AWp.regionW ?_
  refine AWp.regionW ?_
  refine AWp.seqK fun K1 hK1 => ?_
  refine AWp.regionW ?_
  refine AWp.block ?_
  refine AWp.regionW ?_
  refine AWp.condLM (fun c0 => ?_) (fun c0 => ?_)
  · skip
    have h0 : k.kids = 0 := by simpa using c0
    rw [if_pos h0] at hq
    refine AWp.regionW ?_
    refine AWp.ret ?_
    try simp only [thenQ, blockQ, noGo]
    refine bodyQ.m ?_
    clear hK1 K1
    rw [hq]
    first | done | exact Hand.go
  · skip
    have h0 : ¬ k.kids = 0 := by simpa using c0
    rw [if_neg h0] at hq
    refine AWp.regionW ?_
    refine AWp.condLM (fun c1 => ?_) (fun c1 => ?_)
    · skip
      rw [if_pos (by simpa using c1)] at hq
      refine AWp.regionA fun K2 hK2 => ?_
      refine ARun.segm 3 fun KS hKS => ?_
      refine ARun2.endm (hKS _ ?_); clear hKS KS
      apply ARun.grpM 5 2 true 23 [18]
      · intro g2 KG hKG
        have hn : 0 < l.length := by simp at g2; omega
        refine ARun2.gom ?_
        refine ARun2.indexM (0) (nodeA false (l.headD default)) ?_ ?_
        · exact nodesA_head false l hn
        exact ARun2.endm (hKG _ Le.grpM)
      refine ARun2.gom ?_
      refine ARun2.endm (hK2 _ ?_)
      refine AWp.ret ?_
      try simp only [thenQ, blockQ, noGo]
      refine bodyQ.m ?_
      clear hK2 K2 hK1 K1
      rw [hq]
      first | done | exact Hand.go
    · skip
      rw [if_neg (by simpa using c1)] at hq
      refine AWp.regionW ?_
      refine AWp.condLM (fun c2 => ?_) (fun c2 => ?_)
      · skip
        rw [if_pos (by simpa using c2)] at hq
        refine AWp.regionA fun K3 hK3 => ?_
        refine ARun.segm 3 fun KS hKS => ?_
        refine ARun2.endm (hKS _ ?_); clear hKS KS
        apply ARun.grpM 2 2 true 31 [29]
        · intro g2 KG hKG
          refine ARun2.gom ?_
          exact ARun2.endm (hKG _ Le.grpM)
        refine ARun2.gom ?_
        refine ARun2.endm (hK3 _ ?_)
        refine AWp.ret ?_
        try simp only [thenQ, blockQ, noGo]
        refine bodyQ.m ?_
        clear hK3 K3 hK1 K1
        rw [hq]
        first | done | exact Hand.go
      · skip
        rw [if_neg (by simpa using c2)] at hq
        refine AWp.regionW ?_
        refine AWp.condLM (fun c3 => ?_) (fun c3 => ?_)
        · skip
          rw [if_pos (by simpa using c3)] at hq
          refine AWp.regionA fun K4 hK4 => ?_
          refine ARun.segm 3 fun KS hKS => ?_
          refine ARun2.endm (hKS _ ?_); clear hKS KS
          apply ARun.grpM 2 2 false 39 [37]
          · intro g2 KG hKG
            refine ARun2.gom ?_
            exact ARun2.endm (hKG _ Le.grpM)
          refine ARun2.gom ?_
          refine ARun2.endm (hK4 _ ?_)
          refine AWp.ret ?_
          try simp only [thenQ, blockQ, noGo]
          refine bodyQ.m ?_
          clear hK4 K4 hK1 K1
          rw [hq]
          first | done | exact Hand.go
        · skip
          rw [if_neg (by simpa using c3)] at hq
          refine AWp.regionW ?_
          refine AWp.condLM (fun c4 => ?_) (fun c4 => ?_)
          · skip
            rw [if_pos (by simpa using c4)] at hq
            refine AWp.regionA fun K5 hK5 => ?_
            refine ARun.segm 3 fun KS hKS => ?_
            refine ARun2.endm (hKS _ ?_); clear hKS KS
            apply ARun.grpM 2 2 true 47 [1, 45]
            · intro g2 KG hKG
              refine ARun2.gom ?_
              exact ARun2.endm (hKG _ Le.grpM)
            refine ARun.segm 2 fun KS hKS => ?_
            refine ARun2.endm (hKS _ ?_); clear hKS KS
            apply ARun.grpM 12 6 true 61 [49]
            · intro g6 KG hKG
              have hn : 0 < l.length := by simp at g6; omega
              refine ARun.segm 6 fun KS hKS => ?_
              refine ARun2.indexM (0) (nodeA false (l.headD default)) ?_ ?_
              · exact nodesA_head false l hn
              refine ARun2.endm (hKS _ ?_); clear hKS KS
              apply ARun.grpM 5 12 false 60 [49, 55]
              · intro g12 KG hKG
                refine ARun2.gom ?_
                refine ARun2.indexM (0) (nodeA false (l.headD default)) ?_ ?_
                · exact nodesA_head false l hn
                exact ARun2.endm (hKG _ Le.grpM)
              refine ARun2.gom ?_
              exact ARun2.endm (hKG _ Le.grpM)
            refine ARun2.gom ?_
            refine ARun2.endm (hK5 _ ?_)
            refine AWp.ret ?_
            try simp only [thenQ, blockQ, noGo]
            refine bodyQ.m ?_
            clear hK5 K5 hK1 K1
            rw [hq]
            first | done | exact Hand.go
          · skip
            rw [if_neg (by simpa using c4)] at hq
            refine AWp.skip ?_
            refine hK1 _ ?_
            refine AWp.regionW ?_
            refine AWp.ret ?_
            try simp only [thenQ, blockQ, noGo]
            refine bodyQ.m ?_
            clear hK1 K1
            rw [hq]
            first | done | exact Hand.go
theorem number12_c (d : List UInt8) (i : Nat) (hd : d.length ≤ 2 ^ 40) (hi : i + 2 ≤ d.length) : PC Tryz.prog 94 [.sl false 1 (bys d), nat i] (nat (peekN 2 d i)) := by
  have hp := peek_bytes d i hi
  have h1 := (d[i]'(by omega)).toNat_lt
  have h2 := (d[i + 1]'(by omega)).toNat_lt
  refine PC.of_bodyW (by simp only [push_cast]) Tryz.func94 rfl (by rw [Tryz.ntmps94]; simp) ?_
  refine AWp.regionW ?_
  refine AWp.drS [[(0, none)], [(1, none)], [(5, some 0), (6, some 1)], [(7, some 2)], [(8, some 3)], [(9, some 4)], [(0, none)], [(1, none)], [(12, some 7)], [(11, some 6), (13, some 8)], [(14, some 9)], [(15, some 10)], [(10, some 5), (16, some 11)], [(17, some 12)]] fun G hG => ?_
  refine Dr.sim ?_
  try simp only [List.cons_append, List.nil_append]
  refine Dr.sim ?_
  try simp only [List.cons_append, List.nil_append]
  refine Dr.idx (i) (.val (.int .u8 (N (d[i]'(by omega)).toNat))) ?_ ?_
  · exact bys_at _ _ (by omega)
  try simp only [List.cons_append, List.nil_append]
  refine Dr.sim ?_
  try simp only [List.cons_append, List.nil_append]
  refine Dr.sim ?_
  try simp only [List.cons_append, List.nil_append]
  refine Dr.sim ?_
  try simp only [List.cons_append, List.nil_append]
  refine Dr.sim ?_
  try simp only [List.cons_append, List.nil_append]
  refine Dr.sim ?_
  try simp only [List.cons_append, List.nil_append]
  refine Dr.sim ?_
  try simp only [List.cons_append, List.nil_append]
  refine Dr.idx (i + 1) (.val (.int .u8 (N (d[i + 1]'(by omega)).toNat))) ?_ ?_
  · exact bys_at _ _ (by omega)
  try simp only [List.cons_append, List.nil_append]
  refine Dr.sim ?_
  try simp only [List.cons_append, List.nil_append]
  refine Dr.sim ?_
  try simp only [List.cons_append, List.nil_append]
  refine Dr.sim ?_
  try simp only [List.cons_append, List.nil_append]
  refine Dr.sim ?_
  try simp only [List.cons_append, List.nil_append]
  refine Dr.finM (n := 14) [(4, 13)] [] hG YtldoehmlpdpiaaaGreatDoor.Facts.mixed fun KD hKD => ?_
  refine ARun2.endm (hKD _ ?_); clear hKD KD hG G
  refine AWp.ret ?_
  try simp only [thenQ, blockQ, noGo]
  refine bodyQ.m ?_
  rw [hp, Nat.mul_comm]
  first | done | exact Hand.go
theorem counted12_c (c : GChunk) (hd : c.data.length ≤ 2 ^ 40) (h : c.ty = 3 → 12 ≤ c.data.length ∧ (c.data.length - 12) % 4 = 0) : PC Tryz.prog 75 [u8 c.ty, .sl false 1 (bys c.data)] (bool (!sackBad c)) := by
  have p1 := peek2_lt c.data 8
  have p2 := peek2_lt c.data 10
  have hs : (c.ty != 3 || 4 * (peekN 2 c.data 8 + peekN 2 c.data 10) == c.data.length - 12) = !sackBad c := by
    unfold sackBad
    by_cases h3 : c.ty = 3
    · have := h h3
      rw [Bool.eq_iff_iff]; simp [h3]; omega
    · have e : (c.ty == 3) = false := by simpa using h3
      simp [bne, e]
  refine PC.of_bodyW (by simp only [push_cast]) Tryz.func75 rfl (by rw [Tryz.ntmps75]; simp) ?_
  refine AWp.regionW ?_
  refine AWp.regionA fun K1 hK1 => ?_
  refine ARun.segm 3 fun KS hKS => ?_
  refine ARun2.endm (hKS _ ?_); clear hKS KS
  apply ARun.grpM 10 2 false 17 [7]
  · intro g2 KG hKG
    have h3 : c.ty = 3 := by simpa using g2
    have hl := h h3
    refine ARun2.gom ?_
    refine ARun2.callM (number12_c c.data 8 hd (by omega)) ?_
    refine ARun2.callM (number12_c c.data 10 hd (by omega)) ?_
    exact ARun2.endm (hKG _ Le.grpM)
  refine ARun2.gom ?_
  refine ARun2.endm (hK1 _ ?_)
  refine AWp.ret ?_
  try simp only [thenQ, blockQ, noGo]
  refine bodyQ.m ?_
  clear hK1 K1
  rw [← hs]
  first | done | exact Hand.go
def oddI (c : GChunk) : Int := match oddN c with
  | some i => N i
  | none => -1
theorem odd12_c (c : GChunk) (hd : c.data.length ≤ 2 ^ 40) (h64 : c.ty = 64 → 17 ≤ c.data.length) (h194 : c.ty = 194 → 4 ≤ c.data.length ∧ (c.data.length - 4) % 8 = 0) :
    PC Tryz.prog 76 [u8 c.ty, .sl false 1 (bys c.data)] (.val (.int .i64 (oddI c))) := by
  refine PC.of_bodyW (by simp only [push_cast]) Tryz.func76 rfl (by rw [Tryz.ntmps76]; simp) ?_
  refine AWp.regionW ?_
  refine AWp.seqK fun K1 hK1 => ?_
  refine AWp.regionA fun K2 hK2 => ?_
  refine ARun.segm 3 fun KS hKS => ?_
  refine ARun2.endm (hKS _ ?_); clear hKS KS
  apply ARun.grpM 3 2 true 11 [0, 1, 8]
  · intro g2 KG hKG
    have h3 : c.ty = 64 := by simpa using g2
    have hl := h64 h3
    refine ARun2.gom ?_
    refine ARun2.callM (number12_c c.data 6 hd (by omega)) ?_
    exact ARun2.endm (hKG _ Le.grpM)
  refine ARun2.gom ?_
  refine ARun2.endm (hK2 _ ?_)
  refine AWp.condLM (fun c0 => ?_) (fun c0 => ?_)
  · skip
    have hr : oddI c = 6 := by
      simp at c0
      unfold oddI oddN; rw [if_pos c0.1, if_pos c0.2]; rfl
    refine AWp.regionW ?_
    refine AWp.ret ?_
    try simp only [thenQ, blockQ, noGo]
    refine bodyQ.m ?_
    clear hK2 K2 hK1 K1
    rw [hr]
    first | done | exact Hand.go
  · skip
    have hq : oddN c = if c.ty = 194 then oddAt c.data c.data.length 4 else none := by
      unfold oddN
      by_cases h3 : c.ty = 64
      · have hp : peekN 2 c.data 6 = 0 := by simp [h3] at c0; exact c0
        rw [if_pos h3, if_neg (by rw [hp]; simp), if_neg (by omega)]
      · rw [if_neg h3]
    refine AWp.skip ?_
    refine hK1 _ ?_
    refine AWp.seqK fun K3 hK3 => ?_
    refine AWp.regionW ?_
    refine AWp.block ?_
    refine AWp.loopK0 [0, 1] (fun (g : Nat × Nat) => [(5, nat (g.2 + 2))]) (fun g => (c.ty = 194 → oddAt c.data c.data.length 4 = oddAt c.data g.1 g.2 ∧ g.2 ≤ c.data.length ∧ (c.data.length - g.2) % 8 = 0 ∧ c.data.length - g.2 ≤ g.1)) (fun g => c.data.length - g.2) ((c.data.length, 4)) ?_ (fun h => ⟨rfl, (h194 h).1, (h194 h).2, Nat.sub_le _ _⟩) ?_
    · skip
      refine Le.m 0 ?_ ?_
      · exact Go.Abs.evM
      · exact Go.Abs.evN
    · intro g hg K4 hK4
      obtain ⟨q, i⟩ := g
      dsimp only at hg ⊢
      refine AWp.seqK fun K5 hK5 => ?_
      refine AWp.regionA fun K6 hK6 => ?_
      refine ARun.segm 3 fun KS hKS => ?_
      refine ARun2.endm (hKS _ ?_); clear hKS KS
      apply ARun.grpM 4 2 true 19 [0, 1, 5, 15]
      · intro g2 KG hKG
        have h4 : c.ty = 194 := by simpa using g2
        have hgg := hg h4
        refine ARun2.gom ?_
        exact ARun2.endm (hKG _ Le.grpM)
      refine ARun2.gom ?_
      refine ARun2.endm (hK6 _ ?_)
      refine AWp.condLM (fun c1 => ?_) (fun c1 => ?_)
      · skip
        have h4 : c.ty = 194 ∧ i + 2 < c.data.length := by simpa using c1
        obtain ⟨hg1, hg2, hg3, hg4⟩ := hg h4.1
        obtain ⟨q, rfl⟩ : ∃ q', q = q' + 1 := ⟨q - 1, by omega⟩
        rw [oddAt, if_pos (by omega)] at hg1
        refine AWp.skip ?_
        refine hK5 _ ?_
        refine AWp.seqK fun K7 hK7 => ?_
        refine AWp.block ?_
        refine AWp.regionM fun K8 hK8 => ?_
        refine ARun2.callM (number12_c c.data (i + 2) hd (by omega)) ?_
        refine ARun2.endm (hK8 _ ?_)
        refine AWp.condLM (fun c2 => ?_) (fun c2 => ?_)
        · skip
          have hp : 1 < peekN 2 c.data (i + 2) := by simpa using c2
          rw [if_pos hp] at hg1
          have hr : oddI c = N (i + 2) := by unfold oddI; rw [hq, if_pos h4.1, hg1]
          refine AWp.regionW ?_
          refine AWp.ret ?_
          try simp only [thenQ, blockQ, noGo]
          refine bodyQ.m ?_
          clear hK8 K8 hK7 K7 hK6 K6 hK5 K5 hK4 K4 hK3 K3 hK2 K2 hK1 K1
          rw [hr]
          first | done | exact Hand.go
        · skip
          have hp : ¬ 1 < peekN 2 c.data (i + 2) := by simpa using c2
          rw [if_neg hp] at hg1
          refine AWp.skip ?_
          refine hK7 _ ?_
          refine AWp.regionV ?_
          refine hK4 _ ((q, i + 8)) ((fun _ => ⟨hg1, by show i + 8 ≤ _; omega, by show (c.data.length - (i + 8)) % 8 = 0; omega, by show c.data.length - (i + 8) ≤ q; omega⟩)) (by show c.data.length - (i + 8) < c.data.length - i; omega) ?_
          refine Le.m 0 ?_ ?_
          · exact Go.Abs.evM
          · exact Go.Abs.evN
      · skip
        have hr : oddI c = -1 := by
          unfold oddI; rw [hq]
          by_cases h4 : c.ty = 194
          · obtain ⟨hg1, hg2, hg3, hg4⟩ := hg h4
            simp [h4] at c1
            rw [if_pos h4, hg1]
            cases q with
            | zero => rfl
            | succ q => rw [oddAt, if_neg (by omega)]
          · rw [if_neg h4]
        refine AWp.exit ?_
        try simp only [thenQ, blockQ, noGo, reduceIte, Nat.reduceEqDiff]
        refine hK3 _ ?_
        refine AWp.regionW ?_
        refine AWp.ret ?_
        try simp only [thenQ, blockQ, noGo]
        refine bodyQ.m ?_
        clear hK6 K6 hK5 K5 hK4 K4 hK3 K3 hK2 K2 hK1 K1
        rw [hr]
        first | done | exact Hand.go
theorem refAll2_c (c : Nat) (l : List GNode) (hcl : 0 < l.length → c = 1 ∨ c = 2) (hs : nSize l ≤ 2 ^ 30) : PC Tryz.prog 20 [nat c, .sl false 3 (nodesA false l)] (nat (checkL c 1 l)) := by
  have hlen := nSize_len l
  refine PC.of_bodyW (by simp only [push_cast]) Tryz.func20 rfl (by rw [Tryz.ntmps20]; simp) ?_
  refine AWp.regionW ?_
  refine AWp.seqK fun K1 hK1 => ?_
  refine AWp.regionW ?_
  refine AWp.block ?_
  refine AWp.loopK0 [0, 1] (fun (i : Nat) => [(5, nat i)]) (fun i => i ≤ l.length ∧ checkL c 1 (l.take i) = 0) (fun i => l.length - i) (0) ?_ ⟨Nat.zero_le _, rfl⟩ ?_
  · skip
    refine Le.m 0 ?_ ?_
    · exact Go.Abs.evM
    · exact Go.Abs.evN
  · intro i hi K2 hK2
    refine AWp.seqK fun K3 hK3 => ?_
    refine AWp.regionW ?_
    refine AWp.condLM (fun c0 => ?_) (fun c0 => ?_)
    · skip
      have hil : i < l.length := by simpa using c0
      have hc := hcl (by omega)
      have hm := List.getElem_mem hil
      have hn1 := nSize_one hm
      refine AWp.skip ?_
      refine hK3 _ ?_
      refine AWp.seqK fun K4 hK4 => ?_
      refine AWp.block ?_
      refine AWp.regionM fun K5 hK5 => ?_
      refine ARun2.indexM (i) (nodeA false l[i]) ?_ ?_
      · exact nodesA_at _ _ _ hil
      refine ARun2.callM (check08_c c 1 l[i] hc (by omega) (by omega)) ?_
      refine ARun2.endm (hK5 _ ?_)
      refine AWp.regionW ?_
      refine AWp.condLM (fun c1 => ?_) (fun c1 => ?_)
      · skip
        have hne : checkN c 1 l[i] ≠ 0 := by simpa using c1
        have hr := checkL_at c 1 l i hil hi.2 hne
        refine AWp.regionW ?_
        refine AWp.ret ?_
        try simp only [thenQ, blockQ, noGo]
        refine bodyQ.m ?_
        clear hK5 K5 hK4 K4 hK3 K3 hK2 K2 hK1 K1
        rw [hr]
        first | done | exact Hand.go
      · skip
        have heq : checkN c 1 l[i] = 0 := by simpa using c1
        refine AWp.skip ?_
        refine hK4 _ ?_
        refine AWp.regionV ?_
        refine hK2 _ (i + 1) (⟨hil, by rw [List.take_succ_eq_append_getElem hil, checkL_snoc, hi.2]; simpa using heq⟩) (by omega) ?_
        refine Le.m 0 ?_ ?_
        · exact Go.Abs.evM
        · exact Go.Abs.evN
    · skip
      have hil : i = l.length := by have := hi.1; simp at c0; omega
      subst hil
      have hr : checkL c 1 l = 0 := by have := hi.2; rwa [List.take_length] at this
      refine AWp.exit ?_
      try simp only [thenQ, blockQ, noGo, reduceIte, Nat.reduceEqDiff]
      refine hK1 _ ?_
      refine AWp.regionW ?_
      refine AWp.ret ?_
      try simp only [thenQ, blockQ, noGo]
      refine bodyQ.m ?_
      clear hK3 K3 hK2 K2 hK1 K1
      rw [hr]
      first | done | exact Hand.go
theorem size12_c (c : GChunk) (hd : c.data.length ≤ 2 ^ 40) (hs : nSize c.kids ≤ 2 ^ 30) : PC Tryz.prog 61 [chunkA false c] (nat (4 + c.data.length + nSize c.kids)) := by
  refine PC.of_bodyW (by simp only [push_cast]) Tryz.func61 rfl (by rw [Tryz.ntmps61]; simp) ?_
  refine AWp.regionW ?_
  refine AWp.drS [[(1, none)], [(3, some 0)], [(4, some 1)], [(5, some 2)], [(1, none)], [(7, some 4)], [(8, some 5)], [(6, some 3), (9, some 6)], [(10, some 7)]] fun G hG => ?_
  refine Dr.sim ?_
  try simp only [List.cons_append, List.nil_append]
  refine Dr.sim ?_
  try simp only [List.cons_append, List.nil_append]
  refine Dr.sim ?_
  try simp only [List.cons_append, List.nil_append]
  refine Dr.sim ?_
  try simp only [List.cons_append, List.nil_append]
  refine Dr.sim ?_
  try simp only [List.cons_append, List.nil_append]
  refine Dr.sim ?_
  try simp only [List.cons_append, List.nil_append]
  refine Dr.call (size08_c c.kids hs) ?_
  try simp only [List.cons_append, List.nil_append]
  refine Dr.sim ?_
  try simp only [List.cons_append, List.nil_append]
  refine Dr.sim ?_
  try simp only [List.cons_append, List.nil_append]
  refine Dr.finM (n := 9) [(2, 8)] [] hG YtldoehmlpdpiaaaGreatDoor.Facts.mixed fun KD hKD => ?_
  refine ARun2.endm (hKD _ ?_); clear hKD KD hG G
  refine AWp.ret ?_
  try simp only [thenQ, blockQ, noGo]
  refine bodyQ.m ?_
  first | done | exact Hand.go
set_option maxRecDepth 100000 in
theorem mask_ref : ((List.range 256).all fun f => [0, 1, 15].all fun m => (bitsV .and .i64 (N f) (N (255 - m)) != 0) == maskBad f m) = true := by kernel_rfl
theorem mask_eq (f m : Nat) (hf : f < 256) (hm : m = 0 ∨ m = 1 ∨ m = 15) : (bitsV .and .i64 (N f) (N (255 - m)) != 0) = maskBad f m := by
  have h := List.all_eq_true.1 mask_ref f (by simpa using hf)
  have h2 := List.all_eq_true.1 h m (by simpa using hm)
  simpa using h2
theorem value_odd (c : GChunk) : (valueE c).codeOf.1 = if 0 ≤ oddI c then 11 else 0 := by
  unfold valueE oddI
  cases oddN c <;> simp [Er.codeOf, N]
theorem code_if (e : Er) : (if e = .ok then Er.ok else e).codeOf = e.codeOf := by
  split
  · rename_i h; rw [h]
  · rfl
theorem preE_eq (c : GChunk) : (preE c).codeOf.1 =
    if maskBad c.flags (kindOf c.ty).mask = true then 6 else if kfitsN (kindOf c.ty) c.data.length = false then 7 else if kkidsOk (kindOf c.ty) c.kids = false then 7 else if sackBad c = true then 8 else if 0 ≤ oddI c then 11 else 0 := by
  unfold preE
  simp only [firstE, flagsE, dataE, kidsE, countE]
  by_cases h1 : maskBad c.flags (kindOf c.ty).mask = true
  · simp [h1, Er.codeOf]
  · by_cases h2 : kfitsN (kindOf c.ty) c.data.length = false
    · simp [h1, h2, Er.codeOf]
    · by_cases h3 : kkidsOk (kindOf c.ty) c.kids = false
      · simp [h1, h2, h3, Er.codeOf]
      · by_cases h4 : sackBad c = true
        · simp [h1, h2, h3, h4, Er.codeOf]
        · simp [h1, h2, h3, h4, code_if, value_odd]
theorem fits_facts {c : GChunk} (h : kfitsN (kindOf c.ty) c.data.length = true) : (c.ty = 3 → 12 ≤ c.data.length ∧ (c.data.length - 12) % 4 = 0) ∧ (c.ty = 64 → 17 ≤ c.data.length) ∧ (c.ty = 194 → 4 ≤ c.data.length ∧ (c.data.length - 4) % 8 = 0) := by
  unfold kfitsN at h
  simp only [Bool.and_eq_true, decide_eq_true_eq, beq_iff_eq] at h
  obtain ⟨⟨h1, h2⟩, h3⟩ := h
  refine ⟨fun e => ?_, fun e => ?_, fun e => ?_⟩
  · rw [e] at h1 h3; exact ⟨h1, h3⟩
  · rw [e] at h1; exact h1
  · rw [e] at h1 h3; exact ⟨h1, h3⟩
theorem check12_c (c : GChunk) (hfl : c.flags < 256) (hd : c.data.length ≤ 2 ^ 39) (hs : nSize c.kids ≤ 2 ^ 30) : PC Tryz.prog 53 [chunkA false c] (nat (checkC c)) := by
  have hkl := nSize_len c.kids
  have hb := kind_bd c.ty
  have hof := of11_c c.ty
  have hm := mask_eq c.flags (kindOf c.ty).mask hfl hb.2.2.2.2.2.1
  obtain ⟨C, hC0⟩ : ∃ C, C = checkC c := ⟨_, rfl⟩
  obtain ⟨S, hS0⟩ : ∃ S, S = startC c := ⟨_, rfl⟩
  have hC : C = if S ≠ 0 then S else if checkL (classOf c.ty) 1 c.kids ≠ 0 then checkL (classOf c.ty) 1 c.kids else if 65535 < 4 + c.data.length + nSize c.kids then 4 else 0 := by rw [hC0, hS0]; rfl
  have hst : S = if kindHas c.ty = true then (if maskBad c.flags (kindOf c.ty).mask = true then 6 else if kfitsN (kindOf c.ty) c.data.length = false then 7 else if kkidsOk (kindOf c.ty) c.kids = false then 7 else if sackBad c = true then 8 else if 0 ≤ oddI c then 11 else 0) else if 0 < c.kids.length then 7 else 0 := by
    rw [hS0, ← preE_eq]; rfl
  rw [← hC0]
  have e255 : IntKind.i64.wrap (255 - N (kindOf c.ty).mask) = N (255 - (kindOf c.ty).mask) := by rw [IntKind.wrap_i64]; unfold N; omega
  have hcl : (kinsideN (kindOf c.ty).kids).1 = classOf c.ty := rfl
  have hcx := class11_c (kindOf c.ty).kids (by omega)
  rw [hcl] at hcx
  refine PC.of_bodyW (by simp only [push_cast]) Tryz.func53 rfl (by rw [Tryz.ntmps53]; simp) ?_
  refine AWp.regionW ?_
  refine AWp.regionM fun K1 hK1 => ?_
  refine ARun2.callM (hof) ?_
  refine ARun2.endm (hK1 _ ?_)
  refine AWp.seqK fun K2 hK2 => ?_
  refine AWp.regionA fun K3 hK3 => ?_
  refine ARun.segm 2 fun KS hKS => ?_
  refine ARun2.endm (hKS _ ?_); clear hKS KS
  apply ARun.grpM 9 1 true 22 [1, 3, 4, 13]
  · intro g1 KG hKG
    refine ARun2.gom ?_
    exact ARun2.endm (hKG _ Le.grpM)
  refine ARun2.gom ?_
  refine ARun2.endm (hK3 _ ?_)
  refine AWp.condLM (fun c0 => ?_) (fun c0 => ?_)
  · skip
    rw [e255, hm] at c0
    simp at c0
    rw [if_pos c0.1, if_pos c0.2] at hst
    rw [hst, if_pos (by simp)] at hC
    refine AWp.regionW ?_
    refine AWp.ret ?_
    try simp only [thenQ, blockQ, noGo]
    refine bodyQ.m ?_
    clear hK3 K3 hK2 K2 hK1 K1
    rw [hC]
    first | done | exact Hand.go
  · skip
    rw [e255, hm] at c0
    refine AWp.skip ?_
    refine hK2 _ ?_
    refine AWp.seqK fun K4 hK4 => ?_
    refine AWp.regionA fun K5 hK5 => ?_
    refine ARun.segm 3 fun KS hKS => ?_
    refine ARun2.endm (hKS _ ?_); clear hKS KS
    apply ARun.grpM 4 2 true 30 [1, 3, 4, 26]
    · intro g2 KG hKG
      refine ARun2.gom ?_
      exact ARun2.endm (hKG _ Le.grpM)
    refine ARun.segm 2 fun KS hKS => ?_
    refine ARun2.endm (hKS _ ?_); clear hKS KS
    apply ARun.grpM 16 8 false 48 [1, 3, 4, 32]
    · intro g8 KG hKG
      refine ARun.segm 2 fun KS hKS => ?_
      refine ARun2.endm (hKS _ ?_); clear hKS KS
      apply ARun.grpM 13 10 true 47 [1, 3, 4, 32, 34]
      · intro g10 KG hKG
        have hh : kindHas c.ty = true := g10
        obtain ⟨u1, u2⟩ := hb.2.2.2.2.2.2.1 hh
        refine ARun.segm 7 fun KS hKS => ?_
        refine ARun2.callM (fits11_c (kindOf c.ty) c.data.length (by omega) (by omega) (by omega) u1 (by omega)) ?_
        refine ARun2.endm (hKS _ ?_); clear hKS KS
        apply ARun.grpM 5 17 false 46 [1, 3, 4, 32, 34, 41]
        · intro g17 KG hKG
          refine ARun2.gom ?_
          refine ARun2.callM (wanted12_c (kindOf c.ty) c.kids (by omega) (by omega)) ?_
          exact ARun2.endm (hKG _ Le.grpM)
        refine ARun2.gom ?_
        exact ARun2.endm (hKG _ Le.grpM)
      refine ARun2.gom ?_
      exact ARun2.endm (hKG _ Le.grpM)
    refine ARun2.gom ?_
    refine ARun2.endm (hK5 _ ?_)
    refine AWp.condLM (fun c1 => ?_) (fun c1 => ?_)
    · skip
      have h7 : S = 7 := by
        rw [hst]; revert c0 c1
        cases kindHas c.ty <;> cases maskBad c.flags (kindOf c.ty).mask <;> cases kfitsN (kindOf c.ty) c.data.length <;> cases kkidsOk (kindOf c.ty) c.kids <;> by_cases hk0 : 0 < c.kids.length <;> simp [hk0]
      rw [h7, if_pos (by simp)] at hC
      refine AWp.regionW ?_
      refine AWp.ret ?_
      try simp only [thenQ, blockQ, noGo]
      refine bodyQ.m ?_
      clear hK5 K5 hK4 K4 hK3 K3 hK2 K2 hK1 K1
      rw [hC]
      first | done | exact Hand.go
    · skip
      have hx : (kindHas c.ty = true → maskBad c.flags (kindOf c.ty).mask = false ∧ kfitsN (kindOf c.ty) c.data.length = true ∧ kkidsOk (kindOf c.ty) c.kids = true) ∧ (kindHas c.ty = false → ¬ 0 < c.kids.length) := by
        revert c0 c1
        cases kindHas c.ty <;> cases maskBad c.flags (kindOf c.ty).mask <;> cases kfitsN (kindOf c.ty) c.data.length <;> cases kkidsOk (kindOf c.ty) c.kids <;> by_cases hk0 : 0 < c.kids.length <;> simp [hk0]
      have hst2 : S = if kindHas c.ty = true then (if sackBad c = true then 8 else if 0 ≤ oddI c then 11 else 0) else 0 := by
        rw [hst]
        cases hk : kindHas c.ty with
        | true => obtain ⟨x1, x2, x3⟩ := hx.1 hk; simp [x1, x2, x3]
        | false => simp [hx.2 hk]
      have hff : kindHas c.ty = true → _ := fun hk => fits_facts (hx.1 hk).2.1
      have hcls : 0 < c.kids.length → classOf c.ty = 1 ∨ classOf c.ty = 2 := fun hl => by
        cases hk : kindHas c.ty with
        | true => exact kclass _ _ (hx.1 hk).2.2 (by omega) hl
        | false => exact absurd hl (hx.2 hk)
      refine AWp.skip ?_
      refine hK4 _ ?_
      refine AWp.seqK fun K6 hK6 => ?_
      refine AWp.regionA fun K7 hK7 => ?_
      refine ARun.segm 2 fun KS hKS => ?_
      refine ARun2.endm (hKS _ ?_); clear hKS KS
      apply ARun.grpM 6 1 true 57 [1, 3, 4, 51]
      · intro g1 KG hKG
        have hh : kindHas c.ty = true := g1
        refine ARun2.gom ?_
        refine ARun2.callM (counted12_c c (by omega) (hff hh).1) ?_
        exact ARun2.endm (hKG _ Le.grpM)
      refine ARun2.gom ?_
      refine ARun2.endm (hK7 _ ?_)
      refine AWp.condLM (fun c2 => ?_) (fun c2 => ?_)
      · skip
        have h8 : S = 8 := by
          rw [hst2]; revert c2
          cases kindHas c.ty <;> cases sackBad c <;> simp
        rw [h8, if_pos (by simp)] at hC
        refine AWp.regionW ?_
        refine AWp.ret ?_
        try simp only [thenQ, blockQ, noGo]
        refine bodyQ.m ?_
        clear hK7 K7 hK6 K6 hK5 K5 hK4 K4 hK3 K3 hK2 K2 hK1 K1
        rw [hC]
        first | done | exact Hand.go
      · skip
        refine AWp.skip ?_
        refine hK6 _ ?_
        refine AWp.seqK fun K8 hK8 => ?_
        refine AWp.regionA fun K9 hK9 => ?_
        refine ARun.segm 2 fun KS hKS => ?_
        refine ARun2.endm (hKS _ ?_); clear hKS KS
        apply ARun.grpM 6 1 true 66 [1, 3, 60]
        · intro g1 KG hKG
          have hh : kindHas c.ty = true := g1
          refine ARun2.gom ?_
          refine ARun2.callM (odd12_c c (by omega) (hff hh).2.1 (hff hh).2.2) ?_
          exact ARun2.endm (hKG _ Le.grpM)
        refine ARun2.gom ?_
        refine ARun2.endm (hK9 _ ?_)
        refine AWp.condLM (fun c3 => ?_) (fun c3 => ?_)
        · skip
          have h11 : S = 11 := by
            rw [hst2]; revert c2 c3
            cases kindHas c.ty <;> cases sackBad c <;> by_cases ho : 0 ≤ oddI c <;> simp [ho]
          rw [h11, if_pos (by simp)] at hC
          refine AWp.regionW ?_
          refine AWp.ret ?_
          try simp only [thenQ, blockQ, noGo]
          refine bodyQ.m ?_
          clear hK9 K9 hK8 K8 hK7 K7 hK6 K6 hK5 K5 hK4 K4 hK3 K3 hK2 K2 hK1 K1
          rw [hC]
          first | done | exact Hand.go
        · skip
          have h0 : S = 0 := by
            rw [hst2]; revert c2 c3
            cases kindHas c.ty <;> cases sackBad c <;> by_cases ho : 0 ≤ oddI c <;> simp [ho]
          rw [h0, if_neg (by simp)] at hC
          refine AWp.skip ?_
          refine hK8 _ ?_
          refine AWp.drS [[(3, none)], [(68, some 0)], [(69, some 1)], [(1, none)], [(71, some 3)], [(70, some 2), (72, some 4)], [(73, some 5)]] fun G hG => ?_
          refine Dr.sim ?_
          try simp only [List.cons_append, List.nil_append]
          refine Dr.sim ?_
          try simp only [List.cons_append, List.nil_append]
          refine Dr.call (hcx) ?_
          try simp only [List.cons_append, List.nil_append]
          refine Dr.sim ?_
          try simp only [List.cons_append, List.nil_append]
          refine Dr.sim ?_
          try simp only [List.cons_append, List.nil_append]
          refine Dr.call (refAll2_c (classOf c.ty) c.kids hcls hs) ?_
          try simp only [List.cons_append, List.nil_append]
          refine Dr.sim ?_
          try simp only [List.cons_append, List.nil_append]
          refine Dr.finM (n := 7) [(5, 6)] [1] hG YtldoehmlpdpiaaaGreatDoor.Facts.mixed fun KD hKD => ?_
          refine ARun2.endm (hKD _ ?_); clear hKD KD hG G
          refine AWp.seqK fun K10 hK10 => ?_
          refine AWp.regionW ?_
          refine AWp.condLM (fun c4 => ?_) (fun c4 => ?_)
          · skip
            rw [if_pos (by simpa using c4)] at hC
            refine AWp.regionW ?_
            refine AWp.ret ?_
            try simp only [thenQ, blockQ, noGo]
            refine bodyQ.m ?_
            clear hK10 K10 hK9 K9 hK8 K8 hK7 K7 hK6 K6 hK5 K5 hK4 K4 hK3 K3 hK2 K2 hK1 K1
            rw [hC]
            first | done | exact Hand.go
          · skip
            rw [if_neg (by simpa using c4)] at hC
            refine AWp.skip ?_
            refine hK10 _ ?_
            refine AWp.seqK fun K11 hK11 => ?_
            refine AWp.regionM fun K12 hK12 => ?_
            refine ARun2.callM (size12_c c (by omega) hs) ?_
            refine ARun2.endm (hK12 _ ?_)
            refine AWp.condLM (fun c5 => ?_) (fun c5 => ?_)
            · skip
              rw [if_pos (by simpa using c5)] at hC
              refine AWp.regionW ?_
              refine AWp.ret ?_
              try simp only [thenQ, blockQ, noGo]
              refine bodyQ.m ?_
              clear hK12 K12 hK11 K11 hK10 K10 hK9 K9 hK8 K8 hK7 K7 hK6 K6 hK5 K5 hK4 K4 hK3 K3 hK2 K2 hK1 K1
              rw [hC]
              first | done | exact Hand.go
            · skip
              rw [if_neg (by simpa using c5)] at hC
              refine AWp.skip ?_
              refine hK11 _ ?_
              refine AWp.regionW ?_
              refine AWp.ret ?_
              try simp only [thenQ, blockQ, noGo]
              refine bodyQ.m ?_
              clear hK12 K12 hK11 K11 hK10 K10 hK9 K9 hK8 K8 hK7 K7 hK6 K6 hK5 K5 hK4 K4 hK3 K3 hK2 K2 hK1 K1
              rw [hC]
              first | done | exact Hand.go
@[push_cast] theorem bstr_size (d : List UInt8) : (bstr d).size = d.length := by simp [bstr, ByteArray.size]
end Go.Proofs.YtldoehmlpdpiaaaGreatDoor.C
namespace Go.Abs
set_option linter.unusedSectionVars false
section
variable {P : Program} {ops : Array Oper} {E : Env} {s s' : AS} {ρ σ : List Value} {B : Nat → Prop} {a : Act} {w w' : World} {o : Oper} {rest : List Oper} {Q : AS → Prop} {R : Exit → AS → Prop}
variable {nds : List (List (Nat × Option Nat))} {vals : List AV} {G : Prop}
end
end Go.Abs
namespace Go.Proofs.YtldoehmlpdpiaaaGreatDoor.C
open Go.Abs
theorem nSize_szs2 (l : List GNode) : nSize l ≤ 8 * szs l + 8 := by
  have h := nSize_sz (.mk 0 [] l)
  have e := vlen_eq (.mk 0 [] l)
  have e1 : nSize [GNode.mk 0 [] l] = 4 + vlen (.mk 0 [] l) := by simp [nSize, nLens, tlvSize, sumUp, upN, gapN]
  simp only [GNode.data, GNode.kids, List.length_nil] at e
  rw [e1, e, GNode.sz, List.length_nil] at h
  omega
structure Small (c : GChunk) : Prop where
  ty : c.ty < 256
  flags : c.flags < 256
  data : c.data.length ≤ 2 ^ 26
  kids : szs c.kids ≤ 2 ^ 26
theorem Small.check {c : GChunk} (h : Small c) : PC Tryz.prog 55 [chunkA false c] (errA (checkC c)) :=
  ccheck_c c h.ty (Nat.le_trans h.data (by decide)) (by have := nSize_szs2 c.kids; have := h.kids; omega)
theorem Small.check12 {c : GChunk} (h : Small c) : PC Tryz.prog 53 [chunkA false c] (nat (checkC c)) :=
  check12_c c h.flags (Nat.le_trans h.data (by decide)) (by have := nSize_szs2 c.kids; have := h.kids; omega)
theorem Small.clone {c : GChunk} (h : Small c) : PC Tryz.prog 32 [chunkA false c] (chunkA true c) :=
  cclone_f c (Nat.le_trans h.data (by decide)) (Nat.le_trans h.kids (by decide))
def sameC (a b : GChunk) : Bool := a.ty == b.ty && a.flags == b.flags && decide (a.data = b.data) && sameL a.kids b.kids
theorem sameC_self (a : GChunk) : sameC a a = true := by
  unfold sameC; rw [(sameL_iff _ _).2 rfl]; simp
theorem sameC_iff (a b : GChunk) : sameC a b = true ↔ a = b := by
  cases a; cases b
  unfold sameC
  simp [sameL_iff]
  constructor
  · rintro ⟨⟨⟨rfl, rfl⟩, rfl⟩, rfl⟩; exact ⟨rfl, rfl, rfl, rfl⟩
  · rintro ⟨rfl, rfl, rfl, rfl⟩; exact ⟨⟨⟨rfl, rfl⟩, rfl⟩, rfl⟩
theorem same12_c (a b : GChunk) (hd : a.data.length ≤ 2 ^ 40) (hs : szs a.kids ≤ 2 ^ 40) : PC Tryz.prog 18 [chunkA false a, chunkA false b] (bool (sameC a b)) := by
  refine PC.of_bodyW (by simp only [push_cast]) Tryz.func18 rfl (by rw [Tryz.ntmps18]; simp) ?_
  refine AWp.regionW ?_
  refine AWp.regionA fun K1 hK1 => ?_
  refine ARun.segm 6 fun KS hKS => ?_
  refine ARun2.endm (hKS _ ?_); clear hKS KS
  apply ARun.grpM 5 5 true 15 [2, 3, 10]
  · intro g5 KG hKG
    refine ARun2.gom ?_
    exact ARun2.endm (hKG _ Le.grpM)
  refine ARun.segm 2 fun KS hKS => ?_
  refine ARun2.endm (hKS _ ?_); clear hKS KS
  apply ARun.grpM 5 12 true 22 [2, 3, 17]
  · intro g12 KG hKG
    refine ARun2.gom ?_
    refine ARun2.callM (same01_c a.data b.data hd) ?_
    exact ARun2.endm (hKG _ Le.grpM)
  refine ARun.segm 2 fun KS hKS => ?_
  refine ARun2.endm (hKS _ ?_); clear hKS KS
  apply ARun.grpM 5 19 true 29 [24]
  · intro g19 KG hKG
    refine ARun2.gom ?_
    refine ARun2.callM (same08_c a.kids b.kids hs) ?_
    exact ARun2.endm (hKG _ Le.grpM)
  refine ARun2.gom ?_
  refine ARun2.endm (hK1 _ ?_)
  refine AWp.ret ?_
  try simp only [thenQ, blockQ, noGo]
  refine bodyQ.m ?_
  clear hK1 K1
  simp only [sameC]
  first | done | exact Hand.go
theorem Small.same {a b : GChunk} (h : Small a) : PC Tryz.prog 18 [chunkA false a, chunkA false b] (bool (sameC a b)) :=
  same12_c a b (Nat.le_trans h.data (by decide)) (Nat.le_trans h.kids (by decide))
def fewC (c : GChunk) : Bool := decide (c.data.length ≤ 70000) && fewN c.kids
theorem few12_c (c : GChunk) (h : Small c) : PC Tryz.prog 52 [chunkA false c] (bool (fewC c)) := by
  refine PC.of_bodyW (by simp only [push_cast]) Tryz.func52 rfl (by rw [Tryz.ntmps52]; simp) ?_
  refine AWp.regionW ?_
  refine AWp.regionA fun K1 hK1 => ?_
  refine ARun.segm 5 fun KS hKS => ?_
  refine ARun2.endm (hKS _ ?_); clear hKS KS
  apply ARun.grpM 3 4 true 10 [7]
  · intro g4 KG hKG
    refine ARun2.gom ?_
    refine ARun2.callM (few_c c.kids (Nat.le_trans h.kids (by decide))) ?_
    exact ARun2.endm (hKG _ Le.grpM)
  refine ARun2.gom ?_
  refine ARun2.endm (hK1 _ ?_)
  refine AWp.ret ?_
  try simp only [thenQ, blockQ, noGo]
  refine bodyQ.m ?_
  clear hK1 K1
  simp only [fewC]
  first | done | exact Hand.go
@[push_cast] theorem errA_nil (e : Nat) : nilIs .ifc (errA e) = some (e == 0) := nilIs_err e
def chunksA (b : Bool) (l : List GChunk) : List AV := l.map (chunkA b)
@[push_cast] theorem chunksA_len (b : Bool) (l : List GChunk) : (chunksA b l).length = l.length := by simp [chunksA]
theorem chunksA_at (b : Bool) (l : List GChunk) (i : Nat) (h : i < l.length) : (chunksA b l)[i]? = some (chunkA b l[i]) := by simp [chunksA, h]
@[push_cast] theorem chunksA_nil (b : Bool) : chunksA b [] = [] := rfl
@[push_cast] theorem chunksA_cons (b : Bool) (c : GChunk) (l : List GChunk) : chunksA b (c :: l) = chunkA b c :: chunksA b l := rfl
theorem chunksA_snoc (b : Bool) (l : List GChunk) (c : GChunk) : chunksA b (l ++ [c]) = chunksA b l ++ [chunkA b c] := by simp [chunksA]
theorem chunkA_ids (p : Nat → Bool) (b : Bool) (c : GChunk) : (chunkA b c).idsOk p = true := by
  simp only [chunkA, AV.idsOk, AV.idsOkL, bys_ids, nodesA_ids, Bool.and_self]
@[push_cast] theorem chunksA_ids (p : Nat → Bool) (b : Bool) (l : List GChunk) : AV.idsOkL p (chunksA b l) = true := by
  rw [AV.idsOkL_iff]; intro x hx; simp only [chunksA, List.mem_map] at hx; obtain ⟨c, _, rfl⟩ := hx; exact chunkA_ids p b c
@[push_cast] theorem chunksA_hand (ids : List Nat) (b : Bool) (l : List GChunk) : AV.handL ids (chunksA b l) = chunksA false l := by
  rw [AV.handL_map, chunksA, List.map_map]
  exact List.map_congr_left fun c _ => chunkA_hand ids b c
@[push_cast] theorem chunksA_pl (l : List GChunk) : AV.plL (chunksA false l) = true := by
  rw [AV.plL_iff]; intro x hx; simp only [chunksA, List.mem_map] at hx; obtain ⟨c, _, rfl⟩ := hx
  simp only [chunkA, AV.pl, AV.plL, bys_pl, nodesA_pl, Bool.and_self, Bool.not_false, Bool.and_true]
@[push_cast] theorem chunksA_fresh (l : List GChunk) : AV.freshL (chunksA true l) = true := by
  induction l with
  | nil => rfl
  | cons c l ih => simp only [chunksA_cons, chunkA, AV.freshL, AV.fresh, bys_fresh, nodesA_fresh, ih, Bool.and_self]
@[push_cast] theorem chunksA_ren (φ : Nat → Nat) (b : Bool) (l : List GChunk) : AV.renL φ (chunksA b l) = chunksA b l := AV.renL_closed φ _ (chunksA_ids _ b l)
@[push_cast] theorem chunksA_drop (b : Bool) (l : List GChunk) (k : Nat) : (chunksA b l).drop k = chunksA b (l.drop k) := by simp [chunksA]
@[push_cast] theorem chunksA_take (b : Bool) (l : List GChunk) (k : Nat) : (chunksA b l).take k = chunksA b (l.take k) := by simp [chunksA]
def putF (f : Frm) : List UInt8 := putB 2 f.ty ++ putB 2 (4 + f.val.length) ++ f.val
theorem putF_len (f : Frm) : (putF f).length = 4 + f.val.length := by simp [putF, putB_len]; omega
def fitF (f : Frm) : Bool := decide (f.val.length ≤ 65531)
theorem put_c (f : Frm) (ht : f.ty < 65536) (hl : f.val.length ≤ 2 ^ 38) : PC Tryz.prog 102 [frmA false f] (.tup [.sl true 1 (bys (if fitF f = true then putF f else [])), bool (fitF f)]) := by
  refine PC.of_bodyK (by simp only [push_cast]) Tryz.func102 rfl (by rw [Tryz.ntmps102]; simp) ?_
  refine AWp.regionW ?_
  refine AWp.seqK fun K1 hK1 => ?_
  refine AWp.regionW ?_
  refine AWp.condLM (fun c0 => ?_) (fun c0 => ?_)
  · skip
    have hf : fitF f = false := by simp at c0; unfold fitF; exact decide_eq_false (by omega)
    refine AWp.regionW ?_
    refine AWp.ret ?_
    try simp only [thenQ, blockQ, noGo]
    refine bodyQ.m ?_
    clear hK1 K1
    rw [hf]; simp only [if_true, if_false, reduceCtorEq, Bool.false_eq_true]
    first | done | exact Wk.go
  · skip
    have hle : f.val.length ≤ 65531 := by simp at c0; exact c0
    have hf : fitF f = true := decide_eq_true hle
    have hp := wire_put 2 [f.ty, 4 + f.val.length] (by omega) (by intro x hx; simp at hx; omega) (by simp)
    rw [show [f.ty, 4 + f.val.length].flatMap (putB 2) = putB 2 f.ty ++ putB 2 (4 + f.val.length) by simp] at hp
    have hj := wjoin_c [putB 2 f.ty ++ putB 2 (4 + f.val.length), f.val] (by simp [lens, putB_len]; omega) (by simp)
    rw [show [putB 2 f.ty ++ putB 2 (4 + f.val.length), f.val].flatten = putF f by simp [putF]] at hj
    refine AWp.skip ?_
    refine hK1 _ ?_
    refine AWp.drS [[(1, none)], [(8, some 0)], [(9, some 1)], [(1, none)], [(11, some 3)], [(12, some 4)], [(13, some 5)], [(14, some 6)], [(10, some 2), (15, some 7)], [(16, some 8)], [(1, none)], [(18, some 10)], [(17, some 9), (19, some 11)], [(20, some 12)], [(21, some 13)], []] fun G hG => ?_
    refine Dr.sim ?_
    try simp only [List.cons_append, List.nil_append]
    refine Dr.sim ?_
    try simp only [List.cons_append, List.nil_append]
    refine Dr.sim ?_
    try simp only [List.cons_append, List.nil_append]
    refine Dr.sim ?_
    try simp only [List.cons_append, List.nil_append]
    refine Dr.sim ?_
    try simp only [List.cons_append, List.nil_append]
    refine Dr.sim ?_
    try simp only [List.cons_append, List.nil_append]
    refine Dr.sim ?_
    try simp only [List.cons_append, List.nil_append]
    refine Dr.sim ?_
    try simp only [List.cons_append, List.nil_append]
    refine Dr.build ?_
    try simp only [List.cons_append, List.nil_append]
    refine Dr.call (hp) ?_
    try simp only [List.cons_append, List.nil_append]
    refine Dr.sim ?_
    try simp only [List.cons_append, List.nil_append]
    refine Dr.sim ?_
    try simp only [List.cons_append, List.nil_append]
    refine Dr.build ?_
    try simp only [List.cons_append, List.nil_append]
    refine Dr.call (hj) ?_
    try simp only [List.cons_append, List.nil_append]
    refine Dr.sim ?_
    try simp only [List.cons_append, List.nil_append]
    refine Dr.sim ?_
    try simp only [List.cons_append, List.nil_append]
    refine Dr.finM (n := 16) [(2, 14), (3, 15)] [] hG YtldoehmlpdpiaaaGreatDoor.Facts.mixed fun KD hKD => ?_
    refine ARun2.endm (hKD _ ?_); clear hKD KD hG G
    refine AWp.ret ?_
    try simp only [thenQ, blockQ, noGo]
    refine bodyQ.m ?_
    clear hK1 K1
    rw [hf]; simp only [if_true, if_false, reduceCtorEq, Bool.false_eq_true]
    first | done | exact Wk.go
def joinF (l : List Frm) : List UInt8 := l.foldl (fun out f => padB out ++ putF f) []
theorem joinF_snoc (l : List Frm) (f : Frm) : joinF (l ++ [f]) = padB (joinF l) ++ putF f := by simp [joinF]
theorem joinF_len_aux : ∀ (l : List Frm) (acc : List UInt8), (l.foldl (fun out f => padB out ++ putF f) acc).length = sumUp acc.length ((l.map fun f => f.val.length).map (4 + ·))
  | [], acc => rfl
  | f :: l, acc => by
    rw [List.foldl_cons, joinF_len_aux l, List.length_append, padB_len, putF_len]
    rfl
theorem joinF_len (l : List Frm) : (joinF l).length = tlvSize (l.map fun f => f.val.length) := joinF_len_aux l []
theorem tlvSize_take (l : List Nat) (i : Nat) : tlvSize (l.take i) ≤ tlvSize l := by
  unfold tlvSize; rw [List.map_take]; exact sumUp_take _ _
def joinX (l : List Frm) : List UInt8 := if l.all fitF = true then joinF l else []
theorem join_c (l : List Frm) (ht : ∀ f ∈ l, f.ty < 65536) (hs : tlvSize (l.map fun f => f.val.length) ≤ 2 ^ 36) (hl : l.length ≤ 2 ^ 40) : PC Tryz.prog 85 [.sl false 2 (frmsA false l)] (.tup [.sl true 1 (bys (joinX l)), bool (l.all fitF)]) := by
  refine PC.of_bodyK (by simp only [push_cast]) Tryz.func85 rfl (by rw [Tryz.ntmps85]; simp) ?_
  refine AWp.regionW ?_
  refine AWp.regionW ?_
  refine AWp.seqK fun K1 hK1 => ?_
  refine AWp.regionW ?_
  refine AWp.block ?_
  refine AWp.nilSl 4 true 1 ?_
  refine AWp.loopK0 [9, 10] (fun (i : Nat) => [(4, .sl true 1 (bys (joinF (l.take i)))), (11, nat i)]) (fun i => i ≤ l.length ∧ (l.take i).all fitF = true) (fun i => l.length - i) (0) ?_ ⟨Nat.zero_le _, rfl⟩ ?_
  · skip
    refine Le.m 0 ?_ ?_
    · exact Go.Abs.evM
    · exact Go.Abs.evN
  · intro i hi K2 hK2
    refine AWp.regionW ?_
    refine AWp.seqK fun K3 hK3 => ?_
    refine AWp.condLM (fun c0 => ?_) (fun c0 => ?_)
    · skip
      have hil : i < l.length := by simpa using c0
      have hti := ht l[i] (List.getElem_mem hil)
      have hsi := tlvSize_mem (l := l.map fun f => f.val.length) (List.mem_map.2 ⟨l[i], List.getElem_mem hil, rfl⟩)
      have hj := joinF_len (l.take (i + 1))
      rw [List.map_take] at hj
      have hj2 := tlvSize_take (l.map fun f => f.val.length) (i + 1)
      rw [List.take_succ_eq_append_getElem hil, joinF_snoc, List.length_append] at hj
      have hu := padB_len (joinF (l.take i))
      have hu2 : (joinF (l.take i)).length ≤ upN (joinF (l.take i)).length := by unfold upN; omega
      refine AWp.skip ?_
      refine hK3 _ ?_
      refine AWp.seqK fun K4 hK4 => ?_
      refine AWp.block ?_
      refine AWp.regionM fun K5 hK5 => ?_
      refine ARun2.indexM (i) (frmA false l[i]) ?_ ?_
      · exact frmsA_at _ _ _ hil
      refine ARun2.endm (hK5 _ ?_)
      refine AWp.regionM fun K6 hK6 => ?_
      refine ARun2.callM (put_c l[i] hti (by omega)) ?_
      refine ARun2.endm (hK6 _ ?_)
      refine AWp.seqK fun K7 hK7 => ?_
      refine AWp.regionW ?_
      refine AWp.condLM (fun c1 => ?_) (fun c1 => ?_)
      · skip
        have hf : fitF l[i] = false := by simpa using c1
        have hr : l.all fitF = false := by rw [List.all_eq_false]; exact ⟨l[i], List.getElem_mem hil, by simp [hf]⟩
        have hr2 : joinX l = [] := by unfold joinX; rw [hr]; rfl
        refine AWp.regionW ?_
        refine AWp.ret ?_
        try simp only [thenQ, blockQ, noGo]
        refine bodyQ.m ?_
        clear hK7 K7 hK6 K6 hK5 K5 hK4 K4 hK3 K3 hK2 K2 hK1 K1
        rw [hr, hr2]
        first | done | exact Wk.go
      · skip
        have hf : fitF l[i] = true := by simpa using c1
        rw [hf, if_pos rfl]
        refine AWp.skip ?_
        refine hK7 _ ?_
        refine AWp.regionN fun K8 hK8 => ?_
        refine ARun2.callOM [] (padBytes_o (joinF (l.take i)) (by omega)) ?_
        refine ARun2.appendM ?_ ?_ ?_
        · rw [YtldoehmlpdpiaaaGreatDoor.Facts.eb40, bys_len, bys_len]; omega
        · rw [bys_len, bys_len]; omega
        refine ARun2.endm (hK8 _ ?_)
        refine hK4 _ ?_
        refine AWp.pubD 1 ?_
        refine AWp.regionV ?_
        refine hK2 _ (i + 1) (⟨hil, by rw [List.take_succ_eq_append_getElem hil, List.all_append, hi.2]; simp [hf]⟩) (by omega) ?_
        refine Le.m 0 ?_ ?_
        · exact Go.Abs.evM
        · simp only [push_cast, ↓reduceIte, Nat.reduceEqDiff, Nat.reduceLT, Nat.reduceAdd, Nat.reduceSub, Nat.reduceMul, Nat.reduceLeDiff, Nat.reducePow, Int.reduceLT, Int.reduceToNat, reduceCtorEq, Int.reduceNeg, Int.reduceEq, Nat.reduceBEq, Nat.reduceBNe, Int.reduceBEq, Int.reduceBNe, String.reduceEq]
          try simp (disch := omega) only [w_nat, w_add, w_addl, w_addr, w_sub, w_subl, w_mul, w_mull, w_mulr, w_u32, w_u16, w_u8, w_u32a, N_zero]
          rw [List.take_succ_eq_append_getElem hil, joinF_snoc, bys_append]
    · skip
      have hil : i = l.length := by have := hi.1; simp at c0; omega
      subst hil
      have hr : l.all fitF = true := by have := hi.2; rwa [List.take_length] at this
      have hr2 : joinX l = joinF l := by unfold joinX; rw [if_pos hr]
      rw [List.take_length]
      refine AWp.exit ?_
      try simp only [thenQ, blockQ, noGo, reduceIte, Nat.reduceEqDiff]
      refine hK1 _ ?_
      refine AWp.regionW ?_
      refine AWp.ret ?_
      try simp only [thenQ, blockQ, noGo]
      refine bodyQ.m ?_
      clear hK3 K3 hK2 K2 hK1 K1
      rw [hr, hr2]
      first | done | exact Wk.go
mutual
def frameN : GNode → Frm
  | .mk t d k => ⟨t, d ++ joinX (framesN k)⟩
def framesN : List GNode → List Frm
  | [] => []
  | n :: l => frameN n :: framesN l
end
theorem framesN_map : ∀ l : List GNode, framesN l = l.map frameN
  | [] => rfl
  | n :: l => by rw [framesN, framesN_map l]; rfl
theorem frameN_eq (n : GNode) : frameN n = ⟨n.ty, n.data ++ joinX (framesN n.kids)⟩ := by cases n; rw [frameN]; rfl
theorem framesN_len (l : List GNode) : (framesN l).length = l.length := by rw [framesN_map]; simp
theorem upN_mono {a b : Nat} (h : a ≤ b) : upN a ≤ upN b := by unfold upN gapN; omega
theorem sumUp_mono {α : Type} (f g : α → Nat) : ∀ (l : List α) (s s' : Nat), s ≤ s' → (∀ x ∈ l, f x ≤ g x) → sumUp s (l.map f) ≤ sumUp s' (l.map g)
  | [], s, s', h, _ => h
  | x :: l, s, s', h, hl => by
    simp only [List.map_cons, sumUp]
    refine sumUp_mono f g l _ _ ?_ fun y hy => hl y (by simp [hy])
    have := upN_mono h
    have := hl x (by simp)
    omega
theorem framesT_of {l : List GNode} (h : ∀ x ∈ l, (frameN x).val.length ≤ vlen x) : tlvSize ((framesN l).map fun f => f.val.length) ≤ nSize l := by
  unfold nSize tlvSize
  rw [framesN_map, nLens_map, List.map_map, List.map_map, List.map_map]
  exact sumUp_mono _ _ l 0 0 (Nat.le_refl _) fun x hx => by simp only [Function.comp]; have := h x hx; omega
theorem joinX_le (l : List Frm) : (joinX l).length ≤ tlvSize (l.map fun f => f.val.length) := by
  unfold joinX
  split
  · rw [joinF_len]; exact Nat.le_refl _
  · simp
mutual
theorem frameN_le : ∀ n : GNode, (frameN n).val.length ≤ vlen n
  | .mk t d k => by
    have h1 := framesT_of (framesL_le k)
    have h2 := joinX_le (framesN k)
    simp only [frameN, vlen, List.length_append]
    unfold nSize at h1
    omega
theorem framesL_le : ∀ (l : List GNode), ∀ x ∈ l, (frameN x).val.length ≤ vlen x
  | [], x, h => by simp at h
  | n :: l, x, h => (List.mem_cons.1 h).elim (fun e => e ▸ frameN_le n) (fun h => framesL_le l x h)
end
theorem framesT_le (l : List GNode) : tlvSize ((framesN l).map fun f => f.val.length) ≤ nSize l := framesT_of (framesL_le l)
theorem framesN_le (l : List GNode) : (joinX (framesN l)).length ≤ nSize l := Nat.le_trans (joinX_le _) (framesT_le l)
theorem framesN_snoc (l : List GNode) (n : GNode) : framesN (l ++ [n]) = framesN l ++ [frameN n] := by rw [framesN_map, framesN_map]; simp
@[push_cast] theorem errA_zero : errA 0 = .val .nilIface := rfl
theorem frameN_ty (n : GNode) : (frameN n).ty = n.ty := by rw [frameN_eq]
theorem frames_step (w : Nat) (ih : ∀ l : List GNode, wts l < w → nSize l ≤ 2 ^ 30 → tysOk l = true → PC Tryz.prog 86 [.sl false 3 (nodesA false l)] (.sl true 2 (frmsA true (framesN l)))) (l : List GNode) (hw : wts l ≤ w) (hs : nSize l ≤ 2 ^ 30) (ht : tysOk l = true) :
    PC Tryz.prog 86 [.sl false 3 (nodesA false l)] (.sl true 2 (frmsA true (framesN l))) := by
  have hlen := nSize_len l
  refine PC.of_bodyK (by simp only [push_cast]) Tryz.func86 rfl (by rw [Tryz.ntmps86]; simp) ?_
  refine AWp.regionW ?_
  refine AWp.regionW ?_
  refine AWp.seqK fun K1 hK1 => ?_
  refine AWp.regionW ?_
  refine AWp.block ?_
  -- SLOTS THAT TURN AND ARE NOT TOLD: [3]
  refine AWp.nilOwn 3 152 2 (by simp only [push_cast, ↓reduceIte, Nat.reduceEqDiff, Nat.reduceLT, Nat.reduceAdd, Nat.reduceSub, Nat.reduceMul, Nat.reduceLeDiff, Nat.reducePow, Int.reduceLT, Int.reduceToNat, reduceCtorEq, Int.reduceNeg, Int.reduceEq, Nat.reduceBEq, Nat.reduceBNe, Int.reduceBEq, Int.reduceBNe, String.reduceEq]) ?_
  simp only [push_cast, ↓reduceIte, Nat.reduceEqDiff, Nat.reduceLT, Nat.reduceAdd, Nat.reduceSub, Nat.reduceMul, Nat.reduceLeDiff, Nat.reducePow, Int.reduceLT, Int.reduceToNat, reduceCtorEq, Int.reduceNeg, Int.reduceEq, Nat.reduceBEq, Nat.reduceBNe, Int.reduceBEq, Int.reduceBNe, String.reduceEq]
  refine AWp.loopK [3, 8, 9] (fun (i : Nat) => [(10, nat i)]) (fun i => [.row 152 2 (frmsA true (framesN (l.take i)))]) (fun i => i ≤ l.length) (fun i => l.length - i) (0) ?_ (Nat.zero_le _) ?_
  · skip
    refine Le.m 1 ?_ ?_
    · try simp only [push_cast, ↓reduceIte, Nat.reduceEqDiff, Nat.reduceLT, Nat.reduceAdd, Nat.reduceSub, Nat.reduceMul, Nat.reduceLeDiff, Nat.reducePow, Int.reduceLT, Int.reduceToNat, reduceCtorEq, Int.reduceNeg, Int.reduceEq, Nat.reduceBEq, Nat.reduceBNe, Int.reduceBEq, Int.reduceBNe, String.reduceEq]
      try simp (disch := omega) only [w_nat, w_add, w_addl, w_addr, w_sub, w_subl, w_mul, w_mull, w_mulr, w_u32, w_u16, w_u8, w_u32a, N_zero]
      first | done | skip
      rfl
    · exact Go.Abs.evN
  · intro i hi K2 hK2
    refine AWp.regionW ?_
    refine AWp.seqK fun K3 hK3 => ?_
    refine AWp.condLM (fun c0 => ?_) (fun c0 => ?_)
    · skip
      have hil : i < l.length := by simpa using c0
      have hm := List.getElem_mem hil
      have hv := vlen_mem hm
      have he := vlen_eq l[i]
      have hk := nSize_kids hm
      have hkl := nSize_len l[i].kids
      have hkt := GNode.tyOk_kids (tysOk_mem ht _ hm)
      have hfl := framesN_le l[i].kids
      refine AWp.skip ?_
      refine hK3 _ ?_
      refine AWp.seqK fun K4 hK4 => ?_
      refine AWp.block ?_
      refine AWp.regionM fun K5 hK5 => ?_
      refine ARun2.indexM (i) (nodeA false l[i]) ?_ ?_
      · exact nodesA_at _ _ _ hil
      refine ARun2.endm (hK5 _ ?_)
      refine AWp.regionM fun K6 hK6 => ?_
      refine ARun2.callM (ih l[i].kids (by have := kids_lt hm; omega) (by omega) hkt) ?_
      refine ARun2.callM (join_c (framesN l[i].kids) (by intro f hf; rw [framesN_map] at hf; obtain ⟨n, hn, rfl⟩ := List.mem_map.1 hf; rw [frameN_ty]; exact GNode.tyOk_ty (tysOk_mem hkt _ hn)) (by have := framesT_le l[i].kids; omega) (by rw [framesN_len]; omega)) ?_
      refine ARun2.endm (hK6 _ ?_)
      have hj := wjoin_c [l[i].data, joinX (framesN l[i].kids)] (by simp [lens]; omega) (by simp)
      rw [show [l[i].data, joinX (framesN l[i].kids)].flatten = l[i].data ++ joinX (framesN l[i].kids) by simp] at hj
      refine AWp.drE [[(3, none)], [(5, none)], [(22, some 1)], [(5, none)], [(24, some 3)], [(6, none)], [(25, some 4), (26, some 5)], [(27, some 6)], [(23, some 2), (28, some 7)], [(29, some 8)]] fun G hG => ?_
      refine Dr.sim ?_
      try simp only [List.cons_append, List.nil_append]
      refine Dr.sim ?_
      try simp only [List.cons_append, List.nil_append]
      refine Dr.sim ?_
      try simp only [List.cons_append, List.nil_append]
      refine Dr.sim ?_
      try simp only [List.cons_append, List.nil_append]
      refine Dr.sim ?_
      try simp only [List.cons_append, List.nil_append]
      refine Dr.sim ?_
      try simp only [List.cons_append, List.nil_append]
      refine Dr.build ?_
      try simp only [List.cons_append, List.nil_append]
      refine Dr.call (hj) ?_
      try simp only [List.cons_append, List.nil_append]
      refine Dr.sim ?_
      try simp only [List.cons_append, List.nil_append]
      refine Dr.build ?_
      try simp only [List.cons_append, List.nil_append]
      refine Dr.finN (n := 10) [(21, 0), (30, 9)] [8, 9, 10] hG YtldoehmlpdpiaaaGreatDoor.Facts.mixed fun KD hKD => ?_
      refine ARun2.appendM ?_ ?_ ?_
      · rw [YtldoehmlpdpiaaaGreatDoor.Facts.eb129, frmsA_len, framesN_len, List.length_take, List.length_cons, List.length_nil]; omega
      · rw [frmsA_len, framesN_len, List.length_take, List.length_cons, List.length_nil]; omega
      refine ARun2.endm (hKD _ ?_); clear hKD KD hG G
      refine hK4 _ ?_
      refine AWp.regionV ?_
      refine hK2 _ (i + 1) (by omega) (by omega) ?_
      refine Le.m 1 ?_ ?_
      · try simp only [push_cast, ↓reduceIte, Nat.reduceEqDiff, Nat.reduceLT, Nat.reduceAdd, Nat.reduceSub, Nat.reduceMul, Nat.reduceLeDiff, Nat.reducePow, Int.reduceLT, Int.reduceToNat, reduceCtorEq, Int.reduceNeg, Int.reduceEq, Nat.reduceBEq, Nat.reduceBNe, Int.reduceBEq, Int.reduceBNe, String.reduceEq]
        try simp (disch := omega) only [w_nat, w_add, w_addl, w_addr, w_sub, w_subl, w_mul, w_mull, w_mulr, w_u32, w_u16, w_u8, w_u32a, N_zero]
        first | done | skip
        rw [List.take_succ_eq_append_getElem hil, framesN_snoc, frmsA_snoc, frameN_eq l[i]]; rfl
      · exact Go.Abs.evN
    · skip
      have hil : i = l.length := by simp at c0; omega
      subst hil
      refine AWp.exit ?_
      try simp only [thenQ, blockQ, noGo, reduceIte, Nat.reduceEqDiff]
      refine hK1 _ ?_
      refine AWp.pubD 0 ?_
      refine AWp.regionW ?_
      refine AWp.ret ?_
      try simp only [thenQ, blockQ, noGo]
      refine bodyQ.m ?_
      clear hK3 K3 hK2 K2 hK1 K1
      rw [List.take_length]
      first | done | exact Wk.go
theorem frames_w : ∀ (w : Nat) (l : List GNode), wts l ≤ w → nSize l ≤ 2 ^ 30 → tysOk l = true → PC Tryz.prog 86 [.sl false 3 (nodesA false l)] (.sl true 2 (frmsA true (framesN l))) := by
  intro w
  induction w with
  | zero => exact frames_step 0 (fun l h => by omega)
  | succ w ih => exact frames_step (w + 1) (fun l h => ih l (by omega))
theorem frames_c (l : List GNode) (hs : nSize l ≤ 2 ^ 30) (ht : tysOk l = true) : PC Tryz.prog 86 [.sl false 3 (nodesA false l)] (.sl true 2 (frmsA true (framesN l))) := frames_w _ l (Nat.le_refl _) hs ht
def encN (l : List GNode) : List UInt8 := joinX (framesN l)
theorem ref03_o (l : List UInt8) (hl : l.length ≤ 2 ^ 39) : OC Tryz.prog 90 [.sl false 1 (bys l)] [] (.own 0) [.row 5 1 (bys (padB l))] := by
  refine OC.of_body [0] (by intro k hk; simp at hk) Tryz.func90 rfl (by rw [Tryz.ntmps90]; simp) ?_
  refine AWp.regionW ?_
  refine AWp.regionA fun K1 hK1 => ?_
  refine ARun.ownM ?_
  refine ARun2.gom ?_
  refine ARun2.appendM ?_ ?_ ?_
  · rw [YtldoehmlpdpiaaaGreatDoor.Facts.eb40, bys_len, List.length_nil]; omega
  · rw [bys_len, List.length_nil]; omega
  refine ARun2.endm (hK1 _ ?_)
  refine AWp.seqK fun K2 hK2 => ?_
  refine AWp.block ?_
  -- SLOTS THAT TURN AND ARE NOT TOLD: [3]
  refine AWp.loopK [3] (fun (i : Nat) => []) (fun i => [.row 5 1 (bys (l ++ List.replicate i 0))]) (fun i => i ≤ gapN l.length) (fun i => gapN l.length - i) (0) ?_ (Nat.zero_le _) ?_
  · skip
    refine Le.m 1 ?_ ?_
    · try simp only [push_cast, ↓reduceIte, Nat.reduceEqDiff, Nat.reduceLT, Nat.reduceAdd, Nat.reduceSub, Nat.reduceMul, Nat.reduceLeDiff, Nat.reducePow, Int.reduceLT, Int.reduceToNat, reduceCtorEq, Int.reduceNeg, Int.reduceEq, Nat.reduceBEq, Nat.reduceBNe, Int.reduceBEq, Int.reduceBNe, String.reduceEq]
      try simp (disch := omega) only [w_nat, w_add, w_addl, w_addr, w_sub, w_subl, w_mul, w_mull, w_mulr, w_u32, w_u16, w_u8, w_u32a, N_zero]
      first | done | skip
      simp
    · exact Go.Abs.evN
  · intro i hi K3 hK3
    refine AWp.seqK fun K4 hK4 => ?_
    refine AWp.regionW ?_
    refine AWp.condLM (fun c0 => ?_) (fun c0 => ?_)
    · skip
      have hil : i < gapN l.length := by have := hi; unfold gapN at *; simp at c0; omega
      have hg4 := gapN_le l.length
      refine AWp.skip ?_
      refine hK4 _ ?_
      refine AWp.block ?_
      refine AWp.regionN fun K5 hK5 => ?_
      refine ARun2.appendM ?_ ?_ ?_
      · rw [YtldoehmlpdpiaaaGreatDoor.Facts.eb40, bys_len, List.length_append, List.length_replicate, List.length_cons, List.length_nil]; omega
      · rw [bys_len, List.length_append, List.length_replicate, List.length_cons, List.length_nil]; omega
      refine ARun2.endm (hK5 _ ?_)
      refine hK3 _ (i + 1) (by omega) (by omega) ?_
      refine Le.m 1 ?_ ?_
      · try simp only [push_cast, ↓reduceIte, Nat.reduceEqDiff, Nat.reduceLT, Nat.reduceAdd, Nat.reduceSub, Nat.reduceMul, Nat.reduceLeDiff, Nat.reducePow, Int.reduceLT, Int.reduceToNat, reduceCtorEq, Int.reduceNeg, Int.reduceEq, Nat.reduceBEq, Nat.reduceBNe, Int.reduceBEq, Int.reduceBNe, String.reduceEq]
        try simp (disch := omega) only [w_nat, w_add, w_addl, w_addr, w_sub, w_subl, w_mul, w_mull, w_mulr, w_u32, w_u16, w_u8, w_u32a, N_zero]
        first | done | skip
        rw [List.replicate_succ', ← List.append_assoc, ← bys_snoc]; rfl
      · exact Go.Abs.evN
    · skip
      have hil : i = gapN l.length := by have := hi; unfold gapN at *; simp at c0; omega
      subst hil
      refine AWp.exit ?_
      try simp only [thenQ, blockQ, noGo, reduceIte, Nat.reduceEqDiff]
      refine hK2 _ ?_
      refine AWp.regionW ?_
      refine AWp.ret ?_
      try simp only [thenQ, blockQ, noGo]
      refine bodyQ.m ?_
      clear hK4 K4 hK3 K3 hK2 K2 hK1 K1
      refine endO.m ?_ ?_
      · rfl
      · skip
        first | done | exact Hand.go
mutual
def refV : GNode → List UInt8
  | .mk _ d k => d ++ joinF (refFs k)
def refFs : List GNode → List Frm
  | [] => []
  | n :: l => ⟨n.ty, refV n⟩ :: refFs l
end
theorem refV_eq (n : GNode) : refV n = n.data ++ joinF (refFs n.kids) := by cases n; simp [refV, GNode.data, GNode.kids]
theorem refFs_map : ∀ l : List GNode, refFs l = l.map fun n => ⟨n.ty, refV n⟩
  | [] => by simp [refFs]
  | n :: l => by simp [refFs, refFs_map l]
theorem refFs_snoc (l : List GNode) (n : GNode) : refFs (l ++ [n]) = refFs l ++ [⟨n.ty, refV n⟩] := by simp [refFs_map]
mutual
theorem refV_len : ∀ n : GNode, (refV n).length = vlen n
  | .mk t d k => by rw [refV, List.length_append, joinF_len, vlen, refFs_len k]
theorem refFs_len : ∀ l : List GNode, ((refFs l).map fun f => f.val.length) = nLens l
  | [] => by simp [refFs, nLens]
  | n :: l => by simp [refFs, nLens, refV_len n, refFs_len l]
end
theorem refB_len (l : List GNode) : (joinF (refFs l)).length = nSize l := by rw [joinF_len, refFs_len]; rfl
theorem nSize_take (l : List GNode) (i : Nat) : nSize (l.take i) ≤ nSize l := by
  unfold nSize; rw [nLens_map, nLens_map, List.map_take]; exact tlvSize_take _ _
theorem u8_wrap (x : Nat) : AV.val (.int .u8 (IntKind.u8.wrap (N x))) = .val (.int .u8 (N (UInt8.ofNat x).toNat)) := by
  rw [UInt8.toNat_ofNat', IntKind.wrap_u8]
  unfold N; congr 2
theorem four_bytes (t n : Nat) : [AV.val (.int .u8 (IntKind.u8.wrap ((N t).fdiv (2 ^ min 8 IntKind.u16.bits)))), .val (.int .u8 (IntKind.u8.wrap (N t))), .val (.int .u8 (IntKind.u8.wrap (N (n / 256)))), .val (.int .u8 (N (n % 256)))] = bys (putB 2 t ++ putB 2 n) := by
  have h1 : (N t).fdiv (2 ^ min 8 IntKind.u16.bits) = N (t / 256) := by
    rw [show min 8 IntKind.u16.bits = 8 from rfl]
    unfold N
    rw [Int.fdiv_eq_ediv_of_nonneg _ (by decide)]
    omega
  have h2 : N (n % 256) = N (UInt8.ofNat n).toNat := by rw [UInt8.toNat_ofNat']
  rw [h1, u8_wrap, u8_wrap, u8_wrap, h2]
  simp [putB, bys, List.range_succ]
theorem refBytes_step (w : Nat) (ih : ∀ l : List GNode, wts l < w → nSize l ≤ 2 ^ 30 → tysOk l = true → PC Tryz.prog 62 [.sl false 3 (nodesA false l)] (.sl true 1 (bys (joinF (refFs l))))) (l : List GNode) (hw : wts l ≤ w) (hs : nSize l ≤ 2 ^ 30) (ht : tysOk l = true) :
    PC Tryz.prog 62 [.sl false 3 (nodesA false l)] (.sl true 1 (bys (joinF (refFs l)))) := by
  have hlen := nSize_len l
  refine PC.of_bodyK (by simp only [push_cast]) Tryz.func62 rfl (by rw [Tryz.ntmps62]; simp) ?_
  refine AWp.regionW ?_
  refine AWp.regionW ?_
  refine AWp.seqK fun K1 hK1 => ?_
  refine AWp.regionW ?_
  refine AWp.block ?_
  refine AWp.nilSl 3 true 1 ?_
  refine AWp.loopK0 [0] (fun (i : Nat) => [(3, .sl true 1 (bys (joinF (refFs (l.take i))))), (4, nat i)]) (fun i => i ≤ l.length) (fun i => l.length - i) (0) ?_ (Nat.zero_le _) ?_
  · skip
    refine Le.m 0 ?_ ?_
    · exact Go.Abs.evM
    · exact Go.Abs.evN
  · intro i hi K2 hK2
    refine AWp.seqK fun K3 hK3 => ?_
    refine AWp.regionW ?_
    refine AWp.condLM (fun c0 => ?_) (fun c0 => ?_)
    · skip
      have hil : i < l.length := by simpa using c0
      have hm := List.getElem_mem hil
      have hk := nSize_kids hm
      have hv := vlen_mem hm
      have he := vlen_eq l[i]
      have hkt := GNode.tyOk_kids (tysOk_mem ht _ hm)
      have hty := GNode.tyOk_ty (tysOk_mem ht _ hm)
      have hr := refB_len l[i].kids
      have ht1 := refB_len (l.take i)
      have ht2 := nSize_take l i
      have hu := padB_len (joinF (refFs (l.take i)))
      have hg := gapN_le (joinF (refFs (l.take i))).length
      have hu2 : upN (joinF (refFs (l.take i))).length ≤ (joinF (refFs (l.take i))).length + 3 := by unfold upN; omega
      refine AWp.skip ?_
      refine hK3 _ ?_
      refine AWp.seqK fun K4 hK4 => ?_
      refine AWp.block ?_
      refine AWp.drS [[(58, none)], [(0, none)], [(4, none)], [(14, some 1), (15, some 2)], [(16, some 3)], [(17, some 4)], [(58, none)], [(0, none)], [(4, none)], [(20, some 7), (21, some 8)], [(22, some 9)], [(23, some 10)], [(24, some 11)]] fun G hG => ?_
      refine Dr.ownS ?_
      try simp only [List.cons_append, List.nil_append]
      refine Dr.sim ?_
      try simp only [List.cons_append, List.nil_append]
      refine Dr.sim ?_
      try simp only [List.cons_append, List.nil_append]
      refine Dr.idx (i) (nodeA false l[i]) ?_ ?_
      · exact nodesA_at _ _ _ hil
      try simp only [List.cons_append, List.nil_append]
      refine Dr.sim ?_
      try simp only [List.cons_append, List.nil_append]
      refine Dr.sim ?_
      try simp only [List.cons_append, List.nil_append]
      refine Dr.ownS ?_
      try simp only [List.cons_append, List.nil_append]
      refine Dr.sim ?_
      try simp only [List.cons_append, List.nil_append]
      refine Dr.sim ?_
      try simp only [List.cons_append, List.nil_append]
      refine Dr.idx (i) (nodeA false l[i]) ?_ ?_
      · exact nodesA_at _ _ _ hil
      try simp only [List.cons_append, List.nil_append]
      refine Dr.sim ?_
      try simp only [List.cons_append, List.nil_append]
      refine Dr.sim ?_
      try simp only [List.cons_append, List.nil_append]
      refine Dr.call (ih l[i].kids (by have := kids_lt hm; omega) (by omega) hkt) ?_
      try simp only [List.cons_append, List.nil_append]
      refine Dr.finCM (n := 13) [0, 6] 2 [[], [(0, none)], [(4, none)], [(14, some 1), (15, some 2)], [(16, some 3)], [(17, some 4)], [(13, some 0), (18, some 5)], [(0, none)], [(4, none)], [(20, some 7), (21, some 8)], [(22, some 9)], [(23, some 10)], [(24, some 11)]] [(19, 6), (25, 12)] [0, 3, 4] (CL.own (CL.app (hb := by rw [YtldoehmlpdpiaaaGreatDoor.Facts.eb40, bys_len, List.length_nil]; omega) (hsm := by rw [bys_len, List.length_nil]; omega) CL.nil)) hG YtldoehmlpdpiaaaGreatDoor.Facts.mixed fun KD hKD => ?_
      clear hG G
      refine AAny.one 13 ?_
      refine ARun.opM ?_
      refine ARun2.appendM ?_ ?_ ?_
      · rw [YtldoehmlpdpiaaaGreatDoor.Facts.eb40, bys_len, bys_len]; omega
      · rw [bys_len, bys_len]; omega
      refine ARun2.endm ?_
      refine AAny.one 14 ?_
      refine ARun.opM ?_
      refine ARun2.endm ?_
      refine AAny.fin (hKD _ ?_); clear hKD KD
      refine AWp.regionW ?_
      refine AWp.regionM fun K5 hK5 => ?_
      refine ARun2.callOM [] (ref03_o (joinF (refFs (l.take i))) (by omega)) ?_
      refine ARun2.endm (hK5 _ ?_)
      refine AWp.drS [[(3, none)], [(0, none)], [(4, none)], [(33, some 1), (34, some 2)], [(35, some 3)], [(36, some 4)], [(37, some 5)], [(38, some 6)], [(0, none)], [(4, none)], [(40, some 8), (41, some 9)], [(42, some 10)], [(43, some 11)], [(44, some 12)], [(6, none)], [(46, some 14)], [(47, some 15)], [(6, none)], [(49, some 17)], [(50, some 18)], [(39, some 7), (45, some 13), (48, some 16), (51, some 19)]] fun G hG => ?_
      refine Dr.sim ?_
      try simp only [List.cons_append, List.nil_append]
      refine Dr.sim ?_
      try simp only [List.cons_append, List.nil_append]
      refine Dr.sim ?_
      try simp only [List.cons_append, List.nil_append]
      refine Dr.idx (i) (nodeA false l[i]) ?_ ?_
      · exact nodesA_at _ _ _ hil
      try simp only [List.cons_append, List.nil_append]
      refine Dr.sim ?_
      try simp only [List.cons_append, List.nil_append]
      refine Dr.sim ?_
      try simp only [List.cons_append, List.nil_append]
      refine Dr.sim ?_
      try simp only [List.cons_append, List.nil_append]
      refine Dr.sim ?_
      try simp only [List.cons_append, List.nil_append]
      refine Dr.sim ?_
      try simp only [List.cons_append, List.nil_append]
      refine Dr.sim ?_
      try simp only [List.cons_append, List.nil_append]
      refine Dr.idx (i) (nodeA false l[i]) ?_ ?_
      · exact nodesA_at _ _ _ hil
      try simp only [List.cons_append, List.nil_append]
      refine Dr.sim ?_
      try simp only [List.cons_append, List.nil_append]
      refine Dr.sim ?_
      try simp only [List.cons_append, List.nil_append]
      refine Dr.sim ?_
      try simp only [List.cons_append, List.nil_append]
      refine Dr.sim ?_
      try simp only [List.cons_append, List.nil_append]
      refine Dr.sim ?_
      try simp only [List.cons_append, List.nil_append]
      refine Dr.sim ?_
      try simp only [List.cons_append, List.nil_append]
      refine Dr.sim ?_
      try simp only [List.cons_append, List.nil_append]
      refine Dr.sim ?_
      try simp only [List.cons_append, List.nil_append]
      refine Dr.sim ?_
      try simp only [List.cons_append, List.nil_append]
      refine Dr.build ?_
      try simp only [List.cons_append, List.nil_append]
      refine Dr.finM (n := 21) [(32, 0), (52, 20)] [0, 4, 5] hG YtldoehmlpdpiaaaGreatDoor.Facts.mixed fun KD hKD => ?_
      refine ARun2.appendM ?_ ?_ ?_
      · rw [YtldoehmlpdpiaaaGreatDoor.Facts.eb40, bys_len]; simp; omega
      · rw [bys_len]; simp; omega
      refine ARun2.endm (hKD _ ?_); clear hKD KD hG G
      rw [four_bytes]
      refine AWp.regionN fun K6 hK6 => ?_
      refine ARun2.appendM ?_ ?_ ?_
      · rw [YtldoehmlpdpiaaaGreatDoor.Facts.eb40]; simp only [List.length_append, bys_len, putB_len, padB_len]; omega
      · simp only [List.length_append, bys_len, putB_len, padB_len]; omega
      refine ARun2.endm (hK6 _ ?_)
      refine hK4 _ ?_
      refine AWp.pubD 1 ?_
      refine AWp.regionV ?_
      refine hK2 _ (i + 1) (by omega) (by omega) ?_
      refine Le.m 0 ?_ ?_
      · exact Go.Abs.evM
      · simp only [push_cast, ↓reduceIte, Nat.reduceEqDiff, Nat.reduceLT, Nat.reduceAdd, Nat.reduceSub, Nat.reduceMul, Nat.reduceLeDiff, Nat.reducePow, Int.reduceLT, Int.reduceToNat, reduceCtorEq, Int.reduceNeg, Int.reduceEq, Nat.reduceBEq, Nat.reduceBNe, Int.reduceBEq, Int.reduceBNe, String.reduceEq]
        try simp (disch := omega) only [w_nat, w_add, w_addl, w_addr, w_sub, w_subl, w_mul, w_mull, w_mulr, w_u32, w_u16, w_u8, w_u32a, N_zero]
        simp only [bys_append]
        rw [List.take_succ_eq_append_getElem hil, refFs_snoc, joinF_snoc]
        simp only [putF, refV_eq, List.length_append, List.append_assoc]
    · skip
      have hil : i = l.length := by have := hi; simp at c0; omega
      subst hil
      rw [List.take_length]
      refine AWp.exit ?_
      try simp only [thenQ, blockQ, noGo, reduceIte, Nat.reduceEqDiff]
      refine hK1 _ ?_
      refine AWp.regionW ?_
      refine AWp.ret ?_
      try simp only [thenQ, blockQ, noGo]
      refine bodyQ.m ?_
      clear hK3 K3 hK2 K2 hK1 K1
      first | done | exact Wk.go
theorem refBytes_w : ∀ (w : Nat) (l : List GNode), wts l ≤ w → nSize l ≤ 2 ^ 30 → tysOk l = true → PC Tryz.prog 62 [.sl false 3 (nodesA false l)] (.sl true 1 (bys (joinF (refFs l)))) := by
  intro w
  induction w with
  | zero => exact refBytes_step 0 (fun l h => by omega)
  | succ w ih => exact refBytes_step (w + 1) (fun l h => ih l (by omega))
theorem refBytes_c (l : List GNode) (hs : nSize l ≤ 2 ^ 30) (ht : tysOk l = true) : PC Tryz.prog 62 [.sl false 3 (nodesA false l)] (.sl true 1 (bys (joinF (refFs l)))) := refBytes_w _ l (Nat.le_refl _) hs ht
theorem checkL_mem {c dp : Nat} : ∀ {l : List GNode}, checkL c dp l = 0 → ∀ n ∈ l, checkN c dp n = 0
  | [], h, n, hn => by simp at hn
  | m :: l, h, n, hn => by
    rw [checkL] at h
    split at h
    · rename_i hm; exact absurd h hm
    · rename_i hm
      rcases List.mem_cons.1 hn with rfl | hn
      · simpa using hm
      · exact checkL_mem h n hn
theorem checkN_zero {c dp : Nat} {n : GNode} (h : checkN c dp n = 0) : dp ≤ 4 ∧ badN c n.ty n.data.length n.kids = false ∧ countedN c n.ty n.data = false ∧ checkL (insideN (shapeOf c n.ty).kids).1 (dp + 1) n.kids = 0 ∧ nSize [n] ≤ 65535 := by
  rw [checkN_eq] at h
  split at h
  · cases h
  · rename_i h1
    split at h
    · cases h
    · rename_i h2
      split at h
      · cases h
      · rename_i h3
        split at h
        · rename_i h4; exact absurd h h4
        · rename_i h4
          split at h
          · cases h
          · rename_i h5
            exact ⟨by omega, by simpa using h2, by simpa using h3, by simpa using h4, by omega⟩
theorem size_one (n : GNode) : nSize [n] = 4 + vlen n := by simp [nSize, nLens, tlvSize, sumUp, upN, gapN]
theorem enc_rt : ∀ (w dp c : Nat) (l : List GNode), wts l ≤ w → checkL c dp l = 0 → encN l = joinF (refFs l)
  | w, dp, c, l, hw, h => by
    have key : ∀ n ∈ l, frameN n = ⟨n.ty, refV n⟩ := by
      intro n hn
      have hz := checkN_zero (checkL_mem h n hn)
      have hlt := kids_lt hn
      match w with
      | 0 => omega
      | w + 1 =>
        have := enc_rt w (dp + 1) _ n.kids (by omega) hz.2.2.2.1
        unfold encN at this
        rw [frameN_eq, this, ← refV_eq]
    have e : framesN l = refFs l := by
      rw [framesN_map, refFs_map]
      exact List.map_congr_left key
    unfold encN joinX
    rw [e, if_pos]
    rw [List.all_eq_true]
    intro f hf
    rw [refFs_map] at hf
    obtain ⟨n, hn, rfl⟩ := List.mem_map.1 hf
    have hz := (checkN_zero (checkL_mem h n hn)).2.2.2.2
    rw [size_one] at hz
    have := refV_len n
    simp [fitF]; omega
def headB (c : GChunk) : List UInt8 := [UInt8.ofNat c.ty, UInt8.ofNat c.flags]
def bytesC (c : GChunk) : List UInt8 := headB c ++ (putB 2 (4 + c.data.length + nSize c.kids) ++ (c.data ++ joinF (refFs c.kids)))
theorem bytesC_len (c : GChunk) : (bytesC c).length = 4 + c.data.length + nSize c.kids := by
  simp only [bytesC, headB, List.length_append, putB_len, refB_len, List.length_cons, List.length_nil]; omega
theorem check_pre {c : GChunk} (h : checkC c = 0) (hh : kindHas c.ty = true) : preE c = .ok := by
  have hs : startC c = 0 := by
    unfold checkC at h
    split at h
    · rename_i h1; exact absurd h h1
    · rename_i h1; simpa using h1
  unfold startC at hs
  rw [if_pos hh] at hs
  exact (isN_ok (preE_isN c)).1 hs
theorem check_size {c : GChunk} (h : checkC c = 0) : 4 + c.data.length + nSize c.kids ≤ 65535 ∧ checkL (classOf c.ty) 1 c.kids = 0 := by
  unfold checkC at h
  split at h
  · rename_i h1; exact absurd h h1
  split at h
  · rename_i h1; exact absurd h h1
  rename_i h2
  split at h
  · cases h
  · rename_i h1; exact ⟨by omega, by simpa using h2⟩
theorem check_none {c : GChunk} (h : checkC c = 0) (hh : kindHas c.ty = false) : c.kids = [] := by
  by_cases h2 : 0 < c.kids.length
  · have hs : startC c = 7 := by unfold startC; rw [if_neg (by rw [hh]; simp), if_pos h2]
    unfold checkC at h
    rw [hs] at h
    simp at h
  · exact List.length_eq_zero_iff.1 (by omega)
theorem u8_nat {n : Nat} (h : n < 256) : (UInt8.ofNat n).toNat = n := by rw [UInt8.toNat_ofNat']; omega
theorem encode2_c (c : Nat) (l : List GNode) (hc : 0 < l.length → c = 1 ∨ c = 2) (hs : nSize l ≤ 2 ^ 30) (ht : tysOk l = true) : PC Tryz.prog 56 [nat c, .sl false 3 (nodesA false l)]
    (.tup [.sl true 1 (bys (if checkL c 1 l = 0 then encN l else [])), errA (checkL c 1 l)]) := by
  have hlen := nSize_len l
  refine PC.of_bodyK (by simp only [push_cast]) Tryz.func56 rfl (by rw [Tryz.ntmps56]; simp) ?_
  refine AWp.regionW ?_
  refine AWp.seqK fun K1 hK1 => ?_
  refine AWp.regionW ?_
  refine AWp.block ?_
  refine AWp.loopK0 [0, 1, 11, 12] (fun (i : Nat) => [(13, nat i)]) (fun i => i ≤ l.length ∧ checkL c 1 (l.take i) = 0) (fun i => l.length - i) (0) ?_ ⟨Nat.zero_le _, rfl⟩ ?_
  · skip
    refine Le.m 0 ?_ ?_
    · exact Go.Abs.evM
    · exact Go.Abs.evN
  · intro i hi K2 hK2
    refine AWp.regionW ?_
    refine AWp.seqK fun K3 hK3 => ?_
    refine AWp.condLM (fun c0 => ?_) (fun c0 => ?_)
    · skip
      have hil : i < l.length := by simpa using c0
      have hm := List.getElem_mem hil
      have hn1 := nSize_one hm
      refine AWp.skip ?_
      refine hK3 _ ?_
      refine AWp.seqK fun K4 hK4 => ?_
      refine AWp.block ?_
      refine AWp.regionM fun K5 hK5 => ?_
      refine ARun2.indexM (i) (nodeA false l[i]) ?_ ?_
      · exact nodesA_at _ _ _ hil
      refine ARun2.endm (hK5 _ ?_)
      refine AWp.regionM fun K6 hK6 => ?_
      refine ARun2.callM (check_c c l[i] (hc (by omega)) (by omega)) ?_
      refine ARun2.endm (hK6 _ ?_)
      refine AWp.regionW ?_
      refine AWp.condLM (fun c1 => ?_) (fun c1 => ?_)
      · skip
        have hne : checkN c 1 l[i] ≠ 0 := by simpa using c1
        have hr := checkL_at c 1 l i hil hi.2 hne
        have hr2 : (if checkL c 1 l = 0 then encN l else []) = [] := by rw [hr, if_neg hne]
        refine AWp.regionW ?_
        refine AWp.ret ?_
        try simp only [thenQ, blockQ, noGo]
        refine bodyQ.m ?_
        clear hK6 K6 hK5 K5 hK4 K4 hK3 K3 hK2 K2 hK1 K1
        rw [hr2, hr]; try rw [encN]
        first | done | exact Wk.go
      · skip
        have heq : checkN c 1 l[i] = 0 := by simpa using c1
        refine AWp.skip ?_
        refine hK4 _ ?_
        refine AWp.regionV ?_
        refine hK2 _ (i + 1) (⟨hil, by rw [List.take_succ_eq_append_getElem hil, checkL_snoc, hi.2]; simpa using heq⟩) (by omega) ?_
        refine Le.m 0 ?_ ?_
        · exact Go.Abs.evM
        · exact Go.Abs.evN
    · skip
      have hil : i = l.length := by have := hi.1; simp at c0; omega
      subst hil
      have hr : checkL c 1 l = 0 := by have := hi.2; rwa [List.take_length] at this
      have hr2 : (if checkL c 1 l = 0 then encN l else []) = encN l := if_pos hr
      refine AWp.exit ?_
      try simp only [thenQ, blockQ, noGo, reduceIte, Nat.reduceEqDiff]
      refine hK1 _ ?_
      refine AWp.regionM fun K7 hK7 => ?_
      refine ARun2.callM (frames_c l hs ht) ?_
      refine ARun2.callM (join_c (framesN l) (by intro f hf; rw [framesN_map] at hf; obtain ⟨n, hn, rfl⟩ := List.mem_map.1 hf; rw [frameN_ty]; exact GNode.tyOk_ty (tysOk_mem ht _ hn)) (by have := framesT_le l; omega) (by rw [framesN_len]; omega)) ?_
      refine ARun2.endm (hK7 _ ?_)
      refine AWp.regionW ?_
      refine AWp.ret ?_
      try simp only [thenQ, blockQ, noGo]
      refine bodyQ.m ?_
      clear hK7 K7 hK3 K3 hK2 K2 hK1 K1
      rw [hr2, hr]; try rw [encN]
      first | done | exact Wk.go
theorem headB_A (c : GChunk) (ht : c.ty < 256) (hf : c.flags < 256) : [u8 c.ty, u8 c.flags] = bys (headB c) := by
  simp only [bys, headB, List.map_cons, List.map_nil, u8_nat ht, u8_nat hf]
theorem check_class {c : GChunk} (h : checkC c = 0) : 0 < c.kids.length → classOf c.ty = 1 ∨ classOf c.ty = 2 := by
  intro hl
  cases hh : kindHas c.ty with
  | false => rw [check_none h hh] at hl; simp at hl
  | true => exact kclass _ _ (pre_kids (check_pre h hh)) (kind_bd c.ty).2.2.2.2.1 hl
theorem encN_check {c : GChunk} (h : checkC c = 0) : encN c.kids = joinF (refFs c.kids) := enc_rt _ 1 _ c.kids (Nat.le_refl _) (check_size h).2
def encC (c : GChunk) : List UInt8 := if checkC c = 0 then bytesC c else []
theorem wjoin4 (a b c d : List UInt8) : [a, b, c, d].flatten = a ++ (b ++ (c ++ d)) := by simp
theorem cenc_yes (c : GChunk) (u1 u2 : Nat) (BB J : List UInt8) (h : Small c) (hck : PC Tryz.prog 55 [chunkA false c] (errA 0))
    (hki : PC Tryz.prog 34 [nat (kindOf c.ty).kids] (.tup [nat (classOf c.ty), nat u1, nat u2])) (hs : 4 + c.data.length + nSize c.kids ≤ 65535)
    (hen : PC Tryz.prog 56 [nat (classOf c.ty), .sl false 3 (nodesA false c.kids)] (.tup [.sl true 1 (bys J), errA 0]))
    (hsz : PC Tryz.prog 59 [chunkA false c] (nat (4 + c.data.length + nSize c.kids)))
    (hp : PC Tryz.prog 58 [nat 2, .sl false 1 [u32 (4 + c.data.length + nSize c.kids)]] (.sl true 1 (bys (putB 2 (4 + c.data.length + nSize c.kids)))))
    (hj : PC Tryz.prog 57 [.sl false 1 [.sl false 1 [u8 c.ty, u8 c.flags], .sl false 1 (bys (putB 2 (4 + c.data.length + nSize c.kids))), .sl false 1 (bys c.data), .sl false 1 (bys J)]] (.sl true 1 (bys BB))) :
    PC Tryz.prog 29 [chunkA false c] (.tup [.sl true 1 (bys BB), errA 0]) := by
  refine PC.of_bodyK (by simp only [push_cast]) Tryz.func29 rfl (by rw [Tryz.ntmps29]; simp) ?_
  refine AWp.regionW ?_
  refine AWp.seqK fun K1 hK1 => ?_
  refine AWp.regionM fun K2 hK2 => ?_
  refine ARun2.callM (hck) ?_
  refine ARun2.endm (hK2 _ ?_)
  refine AWp.regionW ?_
  refine AWp.condF ?_
  refine AWp.skip ?_
  refine hK1 _ ?_
  refine AWp.regionM fun K3 hK3 => ?_
  refine ARun2.callM (kof_c c.ty h.ty) ?_
  refine ARun2.endm (hK3 _ ?_)
  refine AWp.regionM fun K4 hK4 => ?_
  refine ARun2.callM (hki) ?_
  refine ARun2.endm (hK4 _ ?_)
  refine AWp.regionM fun K5 hK5 => ?_
  refine ARun2.callM (hen) ?_
  refine ARun2.endm (hK5 _ ?_)
  refine AWp.drS [[(1, none)], [(37, some 0)], [(1, none)], [(39, some 2)], [(38, some 1), (40, some 3)], [(1, none)], [(42, some 5)], [(43, some 6)], [(44, some 7)], [(45, some 8)], [(1, none)], [(47, some 10)], [(10, none)], [(41, some 4), (46, some 9), (48, some 11), (49, some 12)], [(50, some 13)], [(11, none)], [(51, some 14)], [(52, some 15)]] fun G hG => ?_
  refine Dr.sim ?_
  try simp only [List.cons_append, List.nil_append]
  refine Dr.sim ?_
  try simp only [List.cons_append, List.nil_append]
  refine Dr.sim ?_
  try simp only [List.cons_append, List.nil_append]
  refine Dr.sim ?_
  try simp only [List.cons_append, List.nil_append]
  refine Dr.build ?_
  try simp only [List.cons_append, List.nil_append]
  refine Dr.sim ?_
  try simp only [List.cons_append, List.nil_append]
  refine Dr.call (hsz) ?_
  try simp only [List.cons_append, List.nil_append]
  refine Dr.sim ?_
  try simp only [List.cons_append, List.nil_append]
  refine Dr.build ?_
  try simp only [List.cons_append, List.nil_append]
  refine Dr.call (hp) ?_
  try simp only [List.cons_append, List.nil_append]
  refine Dr.sim ?_
  try simp only [List.cons_append, List.nil_append]
  refine Dr.sim ?_
  try simp only [List.cons_append, List.nil_append]
  refine Dr.sim ?_
  try simp only [List.cons_append, List.nil_append]
  refine Dr.build ?_
  try simp only [List.cons_append, List.nil_append]
  refine Dr.call (hj) ?_
  try simp only [List.cons_append, List.nil_append]
  refine Dr.sim ?_
  try simp only [List.cons_append, List.nil_append]
  refine Dr.sim ?_
  try simp only [List.cons_append, List.nil_append]
  refine Dr.sim ?_
  try simp only [List.cons_append, List.nil_append]
  refine Dr.finM (n := 18) [(2, 16), (3, 17)] [] hG YtldoehmlpdpiaaaGreatDoor.Facts.mixed fun KD hKD => ?_
  refine ARun2.endm (hKD _ ?_); clear hKD KD hG G
  refine AWp.ret ?_
  try simp only [thenQ, blockQ, noGo]
  refine bodyQ.m ?_
  clear hK5 K5 hK4 K4 hK3 K3 hK2 K2 hK1 K1
  first | done | exact Wk.go
theorem cenc_no (c : GChunk) (h : Small c) (h0 : ¬ checkC c = 0) : PC Tryz.prog 29 [chunkA false c] (.tup [.sl true 1 (bys []), errA (checkC c)]) := by
  have hck := h.check
  refine PC.of_bodyK (by simp only [push_cast]) Tryz.func29 rfl (by rw [Tryz.ntmps29]; simp) ?_
  refine AWp.regionW ?_
  refine AWp.seqK fun K1 hK1 => ?_
  refine AWp.regionM fun K2 hK2 => ?_
  refine ARun2.callM (hck) ?_
  refine ARun2.endm (hK2 _ ?_)
  refine AWp.regionW ?_
  refine AWp.condLM (fun c0 => ?_) (fun c0 => ?_)
  · skip
    refine AWp.regionW ?_
    refine AWp.ret ?_
    try simp only [thenQ, blockQ, noGo]
    refine bodyQ.m ?_
    clear hK2 K2 hK1 K1
    first | done | exact Wk.go
  · skip
    exfalso; apply h0; simpa using c0
theorem cenc_c (c : GChunk) (h : Small c) (htk : tysOk c.kids = true) : PC Tryz.prog 29 [chunkA false c] (.tup [.sl true 1 (bys (encC c)), errA (checkC c)]) := by
  have hb := kind_bd c.ty
  have hck := h.check
  have hki := kinside_c (kindOf c.ty).kids (by omega)
  have hcc : classOf c.ty = (kinsideN (kindOf c.ty).kids).1 := rfl
  rw [← hcc] at hki
  have hns := nSize_szs2 c.kids
  have hkk := h.kids
  have hdd := h.data
  have hsz := csize_c c (by omega) (by omega)
  by_cases h0 : checkC c = 0
  · obtain ⟨hs, hL⟩ := check_size h0
    have hen := encode2_c (classOf c.ty) c.kids (check_class h0) (by omega) htk
    rw [hL, if_pos rfl, encN_check h0] at hen
    have hrl := refB_len c.kids
    have hp : PC Tryz.prog 58 [nat 2, .sl false 1 [u32 (4 + c.data.length + nSize c.kids)]] (.sl true 1 (bys (putB 2 (4 + c.data.length + nSize c.kids)))) := by
      have := wire_put 2 [4 + c.data.length + nSize c.kids] (by omega) (by intro x hx; simp at hx; omega) (by simp)
      simpa [u32s, List.flatMap_cons, List.flatMap_nil] using this
    have hj : PC Tryz.prog 57 [.sl false 1 [.sl false 1 (bys (headB c)), .sl false 1 (bys (putB 2 (4 + c.data.length + nSize c.kids))), .sl false 1 (bys c.data), .sl false 1 (bys (joinF (refFs c.kids)))]] (.sl true 1 (bys (bytesC c))) := by
      have := wjoin_c [headB c, putB 2 (4 + c.data.length + nSize c.kids), c.data, joinF (refFs c.kids)] (by simp only [lens, List.map_cons, List.map_nil, List.sum_cons, List.sum_nil, putB_len, headB, List.length_cons, List.length_nil]; omega) (by simp)
      rw [wjoin4] at this
      exact this
    rw [← headB_A c h.ty h.flags] at hj
    have he : encC c = bytesC c := if_pos h0
    rw [h0] at hck ⊢
    rw [he]
    exact cenc_yes c _ _ _ _ h hck hki hs hen hsz hp hj
  · have he : encC c = [] := if_neg h0
    rw [he]
    exact cenc_no c h h0
theorem bytes4 (n : Nat) (h : n < 65536) : [AV.val (.int .u8 (N (n / 256))), AV.val (.int .u8 (N (n % 256)))] = bys (putB 2 n) := by
  rw [putB2, twoB]
  have a1 : N (n / 256) = N (UInt8.ofNat (n / 256)).toNat := by rw [UInt8.toNat_ofNat', Nat.mod_eq_of_lt (by omega)]
  have a2 : N (n % 256) = N (UInt8.ofNat n).toNat := by rw [UInt8.toNat_ofNat']
  rw [a1, a2]; rfl
theorem rbytes12_c (c : GChunk) (h : Small c) (htk : tysOk c.kids = true) (hs : 4 + c.data.length + nSize c.kids ≤ 65535) : PC Tryz.prog 31 [chunkA false c] (.sl true 1 (bys (bytesC c))) := by
  have hdd := h.data
  have h1 := size12_c c (by omega) (by omega)
  have h2 := refBytes_c c.kids (by omega) htk
  have hrl := refB_len c.kids
  have hb4 := bytes4 (4 + c.data.length + nSize c.kids) (by omega)
  have hB : bytesC c = headB c ++ (putB 2 (4 + c.data.length + nSize c.kids) ++ (c.data ++ joinF (refFs c.kids))) := rfl
  have hha := headB_A c h.ty h.flags
  have hln : (headB c).length = 2 := rfl
  have hpl := putB_len 2 (4 + c.data.length + nSize c.kids)
  rw [hB]
  generalize joinF (refFs c.kids) = J at h2 hrl
  generalize hn : 4 + c.data.length + nSize c.kids = n at h1 hs hb4 hpl
  have h4 : [AV.val (.int .u8 (N c.ty)), AV.val (.int .u8 (N c.flags)), AV.val (.int .u8 (N (n / 256))), AV.val (.int .u8 (N (n % 256)))] = bys (headB c ++ putB 2 n) := by
    rw [← bys_append, ← hb4, ← hha]; rfl
  generalize headB c = HB at hha hln h4
  refine PC.of_bodyK (by simp only [push_cast]) Tryz.func31 rfl (by rw [Tryz.ntmps31]; simp) ?_
  refine AWp.regionW ?_
  refine AWp.regionM fun K1 hK1 => ?_
  refine ARun2.callM (h1) ?_
  refine ARun2.endm (hK1 _ ?_)
  refine AWp.regionA fun K2 hK2 => ?_
  refine ARun.segm 10 fun KS hKS => ?_
  refine ARun2.endm (hKS _ ?_); clear hKS KS
  refine ARun.ownM ?_
  refine ARun2.gom ?_
  rw [h4]
  refine ARun2.appendM ?_ ?_ ?_
  · rw [YtldoehmlpdpiaaaGreatDoor.Facts.eb40, bys_len, bys_len, List.length_append]; omega
  · rw [bys_len, bys_len, List.length_append]; omega
  refine ARun2.endm (hK2 _ ?_)
  refine AWp.regionM fun K3 hK3 => ?_
  refine ARun2.callM (h2) ?_
  refine ARun2.appendM ?_ ?_ ?_
  · rw [YtldoehmlpdpiaaaGreatDoor.Facts.eb40, bys_len, List.length_append, bys_len, bys_len, List.length_append]; omega
  · rw [List.length_append, bys_len, bys_len, bys_len, List.length_append]; omega
  refine ARun2.pubD 1 ?_
  refine ARun2.endm (hK3 _ ?_)
  refine AWp.ret ?_
  try simp only [thenQ, blockQ, noGo]
  refine bodyQ.m ?_
  clear hK3 K3 hK2 K2 hK1 K1
  simp only [bys_append, List.append_assoc]
  first | done | exact Wk.go
def actC (t : Nat) : Nat := if kindHas t = true then 4 else t / 64
def actP (t : Nat) : Nat := if shapeHas 1 t = true then 4 else t / 16384
def playF : Nat → List Nat → List Nat × List Nat × Bool
  | _, [] => ([], [], false)
  | i, a :: l =>
    if a = 4 then (i :: (playF (i + 1) l).1, (playF (i + 1) l).2)
    else if a = 3 then ((playF (i + 1) l).1, i :: (playF (i + 1) l).2.1, (playF (i + 1) l).2.2)
    else if a = 1 then ([], [i], true) else if a = 0 then ([], [], true) else playF (i + 1) l
def disF {α : Type} (f : α → Nat) : List α → List α × List α × Bool
  | [] => ([], [], false)
  | x :: l =>
    if f x = 4 then (x :: (disF f l).1, (disF f l).2)
    else if f x = 3 then ((disF f l).1, x :: (disF f l).2.1, (disF f l).2.2)
    else if f x = 1 then ([], [x], true) else if f x = 0 then ([], [], true) else disF f l
theorem playF_lt : ∀ (l : List Nat) (i : Nat), (∀ j ∈ (playF i l).1, j < i + l.length) ∧ (∀ j ∈ (playF i l).2.1, j < i + l.length)
  | [], i => ⟨by simp [playF], by simp [playF]⟩
  | a :: l, i => by
    have h := playF_lt l (i + 1)
    have e : i + (a :: l).length = i + 1 + l.length := by simp; omega
    rw [e]
    simp only [playF]
    split
    · exact ⟨fun j hj => (List.mem_cons.1 hj).elim (fun h => by omega) (h.1 j), h.2⟩
    split
    · exact ⟨h.1, fun j hj => (List.mem_cons.1 hj).elim (fun h => by omega) (h.2 j)⟩
    split
    · exact ⟨by simp, by simp; omega⟩
    split
    · exact ⟨by simp, by simp⟩
    · exact h
theorem playF_len : ∀ (l : List Nat) (i : Nat), (playF i l).1.length + (playF i l).2.1.length ≤ l.length
  | [], i => by simp [playF]
  | a :: l, i => by
    have h := playF_len l (i + 1)
    simp only [playF, List.length_cons]
    split
    · simp only [List.length_cons]; omega
    split
    · simp only [List.length_cons]; omega
    split
    · simp
    split
    · simp
    · omega
def pickN {α : Type} (d : α) (l : List α) (is : List Nat) : List α := is.map fun i => l.getD i d
theorem pick_play {α : Type} (f : α → Nat) (d : α) : ∀ (l pre : List α), pickN d (pre ++ l) (playF pre.length (l.map f)).1 = (disF f l).1 ∧ pickN d (pre ++ l) (playF pre.length (l.map f)).2.1 = (disF f l).2.1 ∧ (playF pre.length (l.map f)).2.2 = (disF f l).2.2
  | [], pre => ⟨rfl, rfl, rfl⟩
  | x :: l, pre => by
    have h := pick_play f d l (pre ++ [x])
    rw [List.append_assoc, List.length_append, List.length_singleton] at h
    simp only [List.cons_append, List.nil_append] at h
    have hx : (pre ++ x :: l).getD pre.length d = x := by simp [List.getD_eq_getElem?_getD]
    simp only [List.map_cons, playF, disF]
    split
    · refine ⟨?_, h.2.1, h.2.2⟩
      show (pre ++ x :: l).getD pre.length d :: pickN d _ _ = _
      rw [hx, h.1]
    split
    · refine ⟨h.1, ?_, h.2.2⟩
      show (pre ++ x :: l).getD pre.length d :: pickN d _ _ = _
      rw [hx, h.2.1]
    split
    · refine ⟨rfl, ?_, rfl⟩
      show [(pre ++ x :: l).getD pre.length d] = _
      rw [hx]
    split
    · exact ⟨rfl, rfl, rfl⟩
    · exact h
theorem pick_dis {α : Type} (f : α → Nat) (d : α) (l : List α) : pickN d l (playF 0 (l.map f)).1 = (disF f l).1 ∧ pickN d l (playF 0 (l.map f)).2.1 = (disF f l).2.1 ∧ (playF 0 (l.map f)).2.2 = (disF f l).2.2 := pick_play f d l []
theorem disF_mem {α : Type} (f : α → Nat) : ∀ (l : List α), (∀ x ∈ (disF f l).1, x ∈ l ∧ f x = 4) ∧ (∀ x ∈ (disF f l).2.1, x ∈ l ∧ (f x = 1 ∨ f x = 3))
  | [] => ⟨by simp [disF], by simp [disF]⟩
  | a :: l => by
    have h := disF_mem f l
    simp only [disF]
    split
    · rename_i ha
      exact ⟨fun x hx => (List.mem_cons.1 hx).elim (fun e => by subst e; exact ⟨by simp, ha⟩) (fun hx => ⟨by simp [(h.1 x hx).1], (h.1 x hx).2⟩), fun x hx => ⟨by simp [(h.2 x hx).1], (h.2 x hx).2⟩⟩
    split
    · rename_i ha
      exact ⟨fun x hx => ⟨by simp [(h.1 x hx).1], (h.1 x hx).2⟩, fun x hx => (List.mem_cons.1 hx).elim (fun e => by subst e; exact ⟨by simp, .inr ha⟩) (fun hx => ⟨by simp [(h.2 x hx).1], (h.2 x hx).2⟩)⟩
    split
    · rename_i ha
      exact ⟨by simp, fun x hx => by simp at hx; subst hx; exact ⟨by simp, .inl ha⟩⟩
    split
    · exact ⟨by simp, by simp⟩
    · exact ⟨fun x hx => ⟨by simp [(h.1 x hx).1], (h.1 x hx).2⟩, fun x hx => ⟨by simp [(h.2 x hx).1], (h.2 x hx).2⟩⟩
theorem disF_len {α : Type} (f : α → Nat) : ∀ (l : List α), (disF f l).1.length + (disF f l).2.1.length ≤ l.length
  | [] => by simp [disF]
  | a :: l => by
    have h := disF_len f l
    simp only [disF, List.length_cons]
    split
    · simp only [List.length_cons]; omega
    split
    · simp only [List.length_cons]; omega
    split
    · simp
    split
    · simp
    · omega
theorem disF_app {α : Type} (f : α → Nat) (m : List α) : ∀ (l : List α), (disF f (l ++ m)) = if (disF f l).2.2 = true then disF f l else ((disF f l).1 ++ (disF f m).1, (disF f l).2.1 ++ (disF f m).2.1, (disF f m).2.2)
  | [] => rfl
  | a :: l => by
    have h := disF_app f m l
    simp only [List.cons_append, disF]
    by_cases h4 : f a = 4
    · simp only [if_pos h4, h]; split <;> rfl
    by_cases h3 : f a = 3
    · simp only [if_neg h4, if_pos h3, h]; split <;> rfl
    by_cases h1 : f a = 1
    · simp only [if_neg h4, if_neg h3, if_pos h1, if_true]
    by_cases h0 : f a = 0
    · simp only [if_neg h4, if_neg h3, if_neg h1, if_pos h0, if_true]
    · simp only [if_neg h4, if_neg h3, if_neg h1, if_neg h0, h]
def wrapN (n : GNode) : GNode := .mk 8 [] [n]
def cleanC (c : GChunk) : GChunk × List GNode :=
  if classOf c.ty = 1 then ({ c with kids := (disF (fun n => actP n.ty) c.kids).1 }, ((disF (fun n => actP n.ty) c.kids).2.1).map wrapN) else (c, [])
structure GRes where
  done : List GChunk
  chunks : List GNode
  params : List GNode
  stopped : Bool
def repC (c : GChunk) : GNode := .mk 6 (bytesC c) []
def disO (l : List GChunk) : GRes :=
  ⟨(disF (fun c => actC c.ty) l).1.map fun c => (cleanC c).1, (disF (fun c => actC c.ty) l).2.1.map repC, (disF (fun c => actC c.ty) l).1.flatMap fun c => (cleanC c).2, (disF (fun c => actC c.ty) l).2.2⟩
@[push_cast] def resA (b : Bool) (r : GRes) : AV := .agg [.sl b 4 (chunksA b r.done), .sl b 3 (nodesA b r.chunks), .sl b 3 (nodesA b r.params), bool r.stopped]
structure GPkt where
  src : Nat
  dst : Nat
  tag : Nat
  l : List GChunk
@[push_cast] def pktA (b : Bool) (p : GPkt) : AV := .agg [u16 p.src, u16 p.dst, u32 p.tag, .sl b 4 (chunksA b p.l)]
theorem actC_le (t : Nat) (h : t < 256) : actC t ≤ 4 := by unfold actC; split <;> omega
theorem actP_le (t : Nat) (h : t < 65536) : actP t ≤ 4 := by unfold actP; split <;> omega
theorem sh26 : shapeHas 2 6 = true ∧ (shapeOf 2 6).least = 4 ∧ (shapeOf 2 6).unit = 1 ∧ (shapeOf 2 6).kids = 0 ∧ (shapeOf 2 6).most = 65531 := by
  refine ⟨by kernel_rfl, by kernel_rfl, by kernel_rfl, by kernel_rfl, by kernel_rfl⟩
theorem rep_right (b : List UInt8) (h4 : 4 ≤ b.length) (hl : b.length ≤ 65531) : checkN 2 1 (.mk 6 b []) = 0 := by
  obtain ⟨s1, s2, s3, s4, s5⟩ := sh26
  have hf : fitsN (shapeOf 2 6) b.length = true := by unfold fitsN; rw [s2, s3, s5]; simp [Nat.mod_one]; omega
  have hk : kidsOk (shapeOf 2 6) [] = true := by unfold kidsOk; rw [s4]; rfl
  rw [checkN_eq]
  rw [if_neg (by decide), if_neg (by unfold badN; show ¬ ((!shapeHas 2 6 && decide (0 < ([] : List GNode).length)) || (shapeHas 2 6 && (!fitsN (shapeOf 2 6) b.length || !kidsOk (shapeOf 2 6) []))) = true; rw [s1, hf, hk]; decide)]
  rw [if_neg (by show ¬ countedN 2 6 b = true; unfold countedN; simp), if_neg (by show ¬ checkL _ _ [] ≠ 0; simp [checkL]), if_neg ?_]
  simp [nSize, nLens, tlvSize, sumUp, upN, gapN, vlen]
  omega
theorem actC_unk {t : Nat} (h : actC t = 1 ∨ actC t = 3) : kindHas t = false := by
  unfold actC at h
  cases hs : kindHas t with
  | false => rfl
  | true => rw [if_pos hs] at h; omega
def rightO (l : List GChunk) : Prop := ∀ c ∈ l, checkC c = 0 ∧ c.data.length ≤ 65527
theorem rep_bytes {c : GChunk} (h : checkC c = 0) (hd : c.data.length ≤ 65527) (hu : kindHas c.ty = false) : 4 ≤ (bytesC c).length ∧ (bytesC c).length ≤ 65531 := by
  have hk := check_none h hu
  rw [bytesC_len, hk]
  simp [nSize, nLens, tlvSize, sumUp]
  omega
theorem repC_right {c : GChunk} (h : checkC c = 0) (hd : c.data.length ≤ 65527) (hu : kindHas c.ty = false) : rightN (repC c) true = (repC c, true) := by
  obtain ⟨h1, h2⟩ := rep_bytes h hd hu
  unfold rightN repC
  rw [rep_right _ h1 h2]; rfl
theorem disF_all {α : Type} (f : α → Nat) : ∀ (l : List α), (disF f l).1.length = l.length → (∀ x ∈ l, f x = 4)
  | [], _ => by simp
  | a :: l, h => by
    have hl := disF_len f l
    simp only [disF] at h
    by_cases h4 : f a = 4
    · rw [if_pos h4] at h
      simp only [List.length_cons] at h
      have ih := disF_all f l (by omega)
      intro x hx
      rcases List.mem_cons.1 hx with rfl | hx
      · exact h4
      · exact ih x hx
    · exfalso
      rw [if_neg h4] at h
      by_cases h3 : f a = 3
      · rw [if_pos h3] at h; simp only [List.length_cons] at h; omega
      · rw [if_neg h3] at h
        by_cases h1 : f a = 1
        · rw [if_pos h1] at h; simp at h
        · rw [if_neg h1] at h
          by_cases h0 : f a = 0
          · rw [if_pos h0] at h; simp at h
          · rw [if_neg h0] at h; simp only [List.length_cons] at h; omega
theorem disF_keep {α : Type} (f : α → Nat) : ∀ (l : List α), (∀ x ∈ l, f x = 4) → disF f l = (l, [], false)
  | [], _ => rfl
  | a :: l, h => by
    simp only [disF]
    rw [if_pos (h a (by simp)), disF_keep f l (fun x hx => h x (by simp [hx]))]
def cleanB (c : GChunk) : Bool := decide ((cleanC c).2.length = 0) && decide ((cleanC c).1.kids.length = c.kids.length)
theorem cleanB_iff (c : GChunk) : cleanB c = true ↔ cleanC c = (c, []) := by
  unfold cleanB cleanC
  by_cases h : classOf c.ty = 1
  · simp only [if_pos h, List.length_map, Bool.and_eq_true, decide_eq_true_eq]
    constructor
    · rintro ⟨h1, h2⟩
      rw [disF_keep _ _ (disF_all _ _ h2)]; rfl
    · intro hh
      have e1 := congrArg (fun p => p.1.kids.length) hh
      have e2 := congrArg (fun p => p.2.length) hh
      simp only [List.length_map, List.length_nil] at e1 e2
      exact ⟨e2, e1⟩
  · simp [if_neg h]
def knownB (l : List GChunk) : Bool := l.all fun c => decide (actC c.ty = 4) && cleanB c
def sameLC (l m : List GChunk) : Bool := decide (l.length = m.length) && (l.zip m).all fun p => sameC p.1 p.2
theorem sameLC_at {l m : List GChunk} {i : Nat} (hl : i < l.length) (hm : i < m.length) (h : sameC l[i] m[i] = false) : sameLC l m = false := by
  unfold sameLC
  have : ((l.zip m).all fun p => sameC p.1 p.2) = false := by
    rw [Bool.eq_false_iff]
    intro hh
    have := List.all_eq_true.1 hh (l[i], m[i]) (by
      rw [List.mem_iff_getElem]
      exact ⟨i, by rw [List.length_zip]; omega, by simp⟩)
    rw [h] at this; cases this
  rw [this, Bool.and_false]
theorem sameLC_all {l m : List GChunk} (he : l.length = m.length) (h : ∀ i (hl : i < l.length) (hm : i < m.length), sameC l[i] m[i] = true) : sameLC l m = true := by
  unfold sameLC
  rw [decide_eq_true he, Bool.true_and, List.all_eq_true]
  intro p hp
  obtain ⟨i, hi, rfl⟩ := List.mem_iff_getElem.1 hp
  simp only [List.length_zip] at hi
  simp only [List.getElem_zip]
  exact h i (by omega) (by omega)
theorem sameLC_iff (l m : List GChunk) : sameLC l m = true ↔ l = m := by
  constructor
  · intro h
    unfold sameLC at h
    simp only [Bool.and_eq_true, decide_eq_true_eq] at h
    refine List.ext_getElem h.1 fun i h1 h2 => ?_
    have := List.all_eq_true.1 h.2 (l[i], m[i]) (by rw [List.mem_iff_getElem]; exact ⟨i, by rw [List.length_zip]; omega, by simp⟩)
    exact (sameC_iff _ _).1 this
  · rintro rfl
    exact sameLC_all rfl fun i _ _ => sameC_self _
def quietB (l : List GChunk) : Bool := !(disO l).stopped && sameLC (disO l).done l && decide ((disO l).chunks.length = 0) && decide ((disO l).params.length = 0)
theorem quiet_known (l : List GChunk) : quietB l = knownB l := by
  rw [Bool.eq_iff_iff]
  unfold quietB knownB
  simp only [Bool.and_eq_true, Bool.not_eq_true', decide_eq_true_eq, List.all_eq_true, sameLC_iff]
  constructor
  · rintro ⟨⟨⟨h1, h2⟩, h3⟩, h4⟩
    have hlen : (disF (fun c : GChunk => actC c.ty) l).1.length = l.length := by
      have := congrArg List.length h2
      simpa [disO] using this
    have hall := disF_all _ _ hlen
    have hk := disF_keep _ _ hall
    have hd : l.map (fun c => (cleanC c).1) = l := by simpa [disO, hk] using h2
    have hp : (l.flatMap fun c => (cleanC c).2).length = 0 := by simpa [disO, hk] using h4
    intro c hc
    refine ⟨hall c hc, (cleanB_iff c).2 ?_⟩
    obtain ⟨i, hi, rfl⟩ := List.mem_iff_getElem.1 hc
    have e1 : (cleanC l[i]).1 = l[i] := by
      have := congrArg (fun m => m[i]?) hd
      simpa [hi] using this
    have e2 : (cleanC l[i]).2 = [] := by
      have hnil := List.eq_nil_of_length_eq_zero hp
      rw [List.flatMap_eq_nil_iff] at hnil
      exact hnil _ hc
    exact Prod.ext e1 e2
  · intro h
    have hk := disF_keep (fun c : GChunk => actC c.ty) l (fun c hc => (h c hc).1)
    have hc : ∀ c ∈ l, cleanC c = (c, []) := fun c hc => (cleanB_iff c).1 (h c hc).2
    have h1 : l.map (fun c => (cleanC c).1) = l := by
      rw [show l.map (fun c => (cleanC c).1) = l.map id from List.map_congr_left fun c hcm => by rw [hc c hcm]; rfl]
      exact List.map_id l
    have h2 : (l.flatMap fun c => (cleanC c).2) = [] := List.flatMap_eq_nil_iff.2 fun c hcm => by rw [hc c hcm]
    have e1 : (disO l).stopped = false := by unfold disO; rw [hk]
    have e2 : (disO l).done = l := by unfold disO; rw [hk]; exact h1
    have e3 : (disO l).chunks = [] := by unfold disO; rw [hk]; rfl
    have e4 : (disO l).params = [] := by unfold disO; rw [hk]; exact h2
    rw [e1, e2, e3, e4]
    exact ⟨⟨⟨rfl, rfl⟩, rfl⟩, rfl⟩
theorem disO_app (l m : List GChunk) : ((disO l).stopped = true → disO (l ++ m) = disO l) ∧ ((disO l).stopped = false → (disO (l ++ m)).done = (disO l).done ++ (disO m).done ∧ (disO (l ++ m)).chunks = (disO l).chunks ++ (disO m).chunks) := by
  have h := disF_app (fun c : GChunk => actC c.ty) m l
  constructor
  · intro hs
    have hs' : (disF (fun c : GChunk => actC c.ty) l).2.2 = true := hs
    unfold disO
    rw [h, if_pos hs']
  · intro hs
    have hs' : ¬ (disF (fun c : GChunk => actC c.ty) l).2.2 = true := by intro he; rw [show (disF (fun c : GChunk => actC c.ty) l).2.2 = false from hs] at he; cases he
    unfold disO
    rw [h, if_neg hs']
    exact ⟨List.map_append .., List.map_append ..⟩
end Go.Proofs.YtldoehmlpdpiaaaGreatDoor.C
namespace Go.Abs
set_option linter.unusedSectionVars false
@[push_cast] def eqAll : List (IntKind × Int × Int) → Bool
  | [] => true
  | p :: r => (p.2.1 == p.2.2) && eqAll r
section
variable {P : Program} {ops : Array Oper} {E : Env} {s s' : AS} {ρ : List Value} {B : Nat → Prop} {a : Act} {w w' : World} {o : Oper} {rest : List Oper} {Q : AS → Prop} {R : Exit → AS → Prop} {nds : List (List (Nat × Option Nat))} {vals : List AV} {G : Prop}
end
set_option linter.unusedSectionVars false
section
variable {P : Program} {ops : Array Oper} {E : Env} {s s' : AS} {ρ : List Value} {B : Nat → Prop} {a : Act} {w w' : World} {o : Oper} {rest : List Oper} {Q : AS → Prop} {R : Exit → AS → Prop} {nds : List (List (Nat × Option Nat))} {vals : List AV} {G : Prop}
def tailF (ops : Array Oper) (n q : Nat) : Bool :=
  decide (n < ops.size) && ((List.range n).all fun i => decide (i = q) || Region.waitsFor .any ops n i || (List.range n).any fun j => decide (i < j) && decide (j ≠ q) && Region.waitsFor .any ops j i) &&
  ((List.range ops.size).all fun j => decide (j ≤ n) || (List.range j).any fun i => decide (n ≤ i) && Region.waitsFor .any ops j i)
theorem tailF.tail {n q : Nat} (h : tailF ops n q = true) {listed : Array Bool} (inv : HeadInv .any ops n listed) : ∀ (d i : Nat), n - i = d → i < n → i ≠ q → listed.getD i true = false → ∀ t, n ≤ t → t ∉ Region.ready .any ops listed := by
  simp only [tailF, Bool.and_eq_true, decide_eq_true_eq] at h
  obtain ⟨⟨hn, hs⟩, hc⟩ := h
  intro d
  induction d using Nat.strongRecOn with
  | _ d ih =>
    intro i hd hi hiq hun t ht hr
    obtain ⟨_, ot, hot, hall⟩ := mem_ready.1 hr
    have htlt : t < ops.size := (Array.getElem?_eq_some_iff.1 hot).1
    by_cases htn : t = n
    · subst htn
      have h1 := List.all_eq_true.1 hs i (List.mem_range.2 hi)
      simp only [Bool.or_eq_true, decide_eq_true_eq] at h1
      rcases h1 with (h1 | h1) | h1
      · exact hiq h1
      · obtain ⟨oj, hoj, e, he, hb, hon⟩ := Region.waitsFor_spec h1
        have : oj = ot := Option.some.inj (hoj.symm.trans hot)
        subst this
        have h2 := hall e he hb
        rw [hon, getD_both hun] at h2
        cases h2
      · obtain ⟨j, hj, hj2⟩ := List.any_eq_true.1 h1
        simp only [Bool.and_eq_true, decide_eq_true_eq] at hj2
        obtain ⟨oj, hoj, e, he, hb, hon⟩ := Region.waitsFor_spec hj2.2
        have hjlt := List.mem_range.1 hj
        cases hl : listed.getD j false with
        | true =>
          have h2 := inv.closed j oj hoj hl e he hb
          rw [hon, getD_both hun] at h2
          cases h2
        | false =>
          have hjs : j < listed.size := by rw [inv.size]; omega
          exact ih (t - j) (by omega) j rfl (by omega) hj2.1.2 (getD_in hjs hl) t (Nat.le_refl _) hr
    · have h1 := List.all_eq_true.1 hc t (List.mem_range.2 htlt)
      simp only [Bool.or_eq_true, decide_eq_true_eq] at h1
      rcases h1 with h1 | h1
      · omega
      · obtain ⟨i', hi', h1⟩ := List.any_eq_true.1 h1
        simp only [Bool.and_eq_true, decide_eq_true_eq] at h1
        obtain ⟨o', ho', e, he, hb, hon⟩ := Region.waitsFor_spec h1.2
        have : o' = ot := Option.some.inj (ho'.symm.trans hot)
        subst this
        have h2 := hall e he hb
        have := List.mem_range.1 hi'
        rw [hon, getD_both (inv.tail i' h1.1 (by omega))] at h2
        cases h2
section fin
variable {id n : Nat} {y : Code} {T : TypeId} {z : List Value}
end fin
end
set_option linter.unusedSectionVars false
section
variable {P : Program} {ops : Array Oper} {E : Env} {s s' : AS} {ρ σ : List Value} {B : Nat → Prop} {a : Act} {w w' : World} {o : Oper} {rest : List Oper} {Q : AS → Prop} {R : Exit → AS → Prop}
variable {nds : List (List (Nat × Option Nat))} {vals : List AV} {G : Prop} {nds1 : List (List (Nat × Option Nat))} {X XL : List Ob} {i : Nat} {r : List Nat}
end
set_option linter.unusedSectionVars false
section
variable {P : Program} {ops : Array Oper} {E : Env} {s s' : AS} {ρ σ : List Value} {B : Nat → Prop} {a : Act} {w w' : World} {o : Oper} {rest : List Oper} {Q : AS → Prop} {R : Exit → AS → Prop}
end
section
variable {P : Program} {ops : Array Oper} {E : Env} {s s' : AS} {ρ σ : List Value} {B : Nat → Prop} {a : Act} {w w' : World} {o : Oper} {rest : List Oper} {Q : AS → Prop} {R : Exit → AS → Prop}
theorem obInval_nil (o : Ob) : Ob.invalL [] o = o := by
  cases o with
  | box T cs =>
    simp only [Ob.invalL]
    have : cs.map (AV.invalL []) = cs := by
      conv => rhs; rw [← List.map_id cs]
      exact List.map_congr_left fun x _ => by simp [AV.invalL]
    rw [this]
  | _ => simp [Ob.invalL]
theorem CSpec.callO {f : FuncId} {args : Array Operand} {ts : Array TypeId} {ys xs : List AV} {e : TypeId} {sz : Nat} (hp : OC P f ys [] (.own 0) [.row e sz xs]) (hx : AV.idsOkL (fun _ => false) xs = true) (hg : gd ops s o = some true)
    (ho : o.op = .call { callee := .value (.func f), args := args, argTypes := ts }) (hc : callable P f = true) (hsub : HandL [] (args.toList.map s.ev) ys) : CSpec P ops o s [] [.row e sz xs] (.own s.ob.length) := by
  intro E hE ρ B a w hs K Q' hK
  have hs' : RS E s ρ B a w := by simpa using hs
  rw [if_pos (gd_wanted hg hs')]
  unfold callable at hc
  split at hc <;> (try (simp at hc; done))
  rename_i fn hf
  simp only [Bool.and_eq_true, Bool.not_eq_true'] at hc
  have hr := run_call_func (P := P) (w := w) (args := args) (ts := ts) (ty := o.type) (ρe := a.eval) hf hc.1 hc.2 rfl
  have he : (execOp a.eval o).run P w = .ok (.enter f (args.map a.eval)) w := by
    simp only [execOp, ho]; exact hr
  have hrel : RelL w B E.bs ρ (args.toList.map s.ev) (args.toList.map a.eval) := RelL.map_ev hs' _
  have hsub' : SubXL [] (args.toList.map s.ev) ys := hsub
  refine owp_enter he ?_
  have hargs : args.map a.eval = (args.toList.map a.eval).toArray := by apply Array.ext'; simp
  rw [hargs]
  refine hp E.bs w [] B _ (hE.glb.call hs'.rw_ (fun _ h => h) (by intro v hv; simp at hv)) hs'.rw_.callee (hsub'.rel (Nat.le_refl _) (by intro i k hik; simp at hik) hrel) _ ?_
  rintro r' v τ' σ' B' w' ⟨rfl, rfl⟩ hw hv
  have haft := hs'.after (ids := []) (τ := []) List.nodup_nil trivial (by simpa [pick] using hw) (Nat.zero_le _)
  have e1 : obAfter s.ob [] [] [Ob.row e sz xs] = s.ob ++ [Ob.row e sz xs] := by
    unfold obAfter
    have h1 : s.ob.map (Ob.invalL (rowIds [] [])) = s.ob := by
      conv => rhs; rw [← List.map_id s.ob]
      exact List.map_congr_left fun x _ => obInval_nil x
    rw [h1]
    simp only [setAll, List.length_nil, List.drop_zero, List.map_cons, List.map_nil, Ob.ren, AV.renL_closed _ _ hx]
  have e2 : setAll ρ [] σ' ++ σ'.drop ([] : List Nat).length = ρ ++ σ' := by simp [setAll]
  rw [e1, e2] at haft
  have hl := hs'.rw_.len
  refine ⟨v, rfl, hK v w' (ρ ++ σ') B' ⟨haft.rw_, haft.jj⟩ hw.bsub (fun b hb => hw.block b (hs'.rw_.blt b hb) ⟨by rintro ⟨v, hv, _⟩; simp at hv, by simp⟩) (fun j u hj h => by rw [List.getElem?_append_left (by omega)]; exact h) ?_⟩
  cases hv with
  | own hq h1 => exact .own (by rw [← hl, List.getElem?_append_right (Nat.le_refl _), Nat.sub_self]; exact hq) h1
variable {nds : List (List (Nat × Option Nat))} {vals : List AV} {G : Prop} {nds1 : List (List (Nat × Option Nat))} {X XL : List Ob} {i : Nat} {r : List Nat}
theorem CL.callO {f : FuncId} {args : Array Operand} {ts : Array TypeId} {ys xs : List AV} {e : TypeId} {sz : Nat} (hp : OC P f ys [] (.own 0) [.row e sz xs]) (k : CL P ops s nds1 vals r [.row e sz xs] XL) (hx : AV.idsOkL (fun _ => false) xs = true := by simp only [push_cast]) (hol : ops[i]? = some o := by exact Go.Abs.evT)
    (ho : o.op = .call { callee := .value (.func f), args := args, argTypes := ts } := by rfl) (hg : gd ops { s with fr := needFr s.fr vals (nds1.getD i []) } o = some true := by exact Go.Abs.evT) (hc : callable P f = true := by exact Go.Abs.evT)
    (hsub : HandL [] (args.toList.map (AS.ev { s with fr := needFr s.fr vals (nds1.getD i []) })) ys := by
      exact Go.Abs.evH)
    (hv : vals.getD i .any = .own s.ob.length := by rfl) : CL P ops s nds1 vals (i :: r) [] XL :=
  ⟨_, fun o' ho' => by
    have : o' = o := Option.some.inj (ho'.symm.trans hol)
    subst this
    rw [hv]
    exact CSpec.callO (s := { s with fr := needFr s.fr vals (nds1.getD i []) }) hp hx hg ho hc hsub, k⟩
end
set_option linter.unusedSectionVars false
section
variable {P : Program} {ops : Array Oper} {E : Env} {s s' : AS} {ρ σ : List Value} {B : Nat → Prop} {a : Act} {w w' : World} {o : Oper} {rest : List Oper} {Q : AS → Prop} {R : Exit → AS → Prop}
end
set_option linter.unusedSectionVars false
section
variable {P : Program} {ops : Array Oper} {E : Env} {s s' : AS} {ρ σ : List Value} {B : Nat → Prop} {a : Act} {w w' : World} {o : Oper} {rest : List Oper} {Q : AS → Prop} {R : Exit → AS → Prop} {nds : List (List (Nat × Option Nat))} {vals : List AV} {G : Prop}
end
set_option linter.unusedSectionVars false
set_option linter.unnecessarySimpa false
section
variable {P : Program} {ops : Array Oper} {E : Env} {s s' : AS} {ρ ρ' : List Value} {B B' : Nat → Prop} {a a' : Act} {w w' : World} {o : Oper} {rest : List Oper} {Q : AS → Prop} {R : Exit → AS → Prop} {nds : List (List (Nat × Option Nat))} {vals : List AV} {G : Prop}
def slotO (T : TypeId) (z : List Value) (b : Bool) : Ob := match b with | true => .box T (z.map AV.val) | false => .gone
theorem Ob.inval_ids {k : Nat} {o : Ob} (h : obIds (· != k) o = true) : Ob.inval k o = o := by
  cases o with
  | box T cs =>
    simp only [Ob.inval, Ob.box.injEq, true_and]
    simp only [obIds] at h
    refine (List.map_congr_left (g := id) fun x hx => ?_).trans (List.map_id _)
    unfold AV.inval
    rw [if_pos ((AV.idsOkL_iff _ _).1 h x hx)]; rfl
  | row T sz xs =>
    simp only [obIds] at h
    simp only [Ob.inval]
    rw [if_pos h]
  | mp es => rfl
  | gone => rfl
theorem RJ.gone (h : RJ E s s.ob ρ B w) : RJ E s (s.ob ++ [.gone]) (ρ ++ [undef]) B w := by
  have h1 : RW E (s.ob ++ [.gone]) (ρ ++ [undef]) B w := h.1.new (same_refl w) trivial (by intro b hb; cases hb)
  exact ⟨h1, h.2.chg ⟨rfl, rfl, rfl, Nat.le_refl _, fun _ _ _ => rfl, Dof.new h.1.len (n := w.heap.size) (by intro b hb; cases hb), fun _ h => h, fun _ h => .inl h⟩ h1.bd⟩
theorem RJ.fill {T : TypeId} {z : List Value} {ob X : List Ob} {k : Nat} (h : RJ E s (ob ++ [slotO T z false] ++ X) ρ B w) (hk : ob.length = k) (hm : E.ρ0.length ≤ k ∧ E.pp.length ≤ k) (hone : ∀ x ∈ z.map AV.val, x.one = true) (hob : ob.all (obIds (· != k)) = true) (hX : X.all (obIds (· != k)) = true) :
    RJ E s (ob ++ [slotO T z true] ++ X) (ρ.set k (.pointer (some ⟨w.heap.size, 0, none⟩))) B (w.alloc (.cells z.toArray T)) := by
  obtain ⟨h, hj⟩ := h
  subst hk
  have hs := same_alloc w (.cells z.toArray T)
  have hBw : ∀ b, B b → (w.alloc (.cells z.toArray T)).heap[b]? = w.heap[b]? := fun b hb => hs.block b (h.blt b hb)
  have hsz : (w.alloc (.cells z.toArray T)).heap.size = w.heap.size + 1 := by simp
  have hlen := h.len
  have hkl : ob.length < ρ.length := by rw [hlen]; simp
  have tk : ∀ {i : Nat} {o : Ob}, (ob ++ [slotO T z true] ++ X)[i]? = some o → (i = ob.length ∧ o = slotO T z true) ∨ (i ≠ ob.length ∧ (ob ++ [slotO T z false] ++ X)[i]? = some o ∧ obIds (· != ob.length) o = true) := by
    intro i o hi
    rw [List.append_assoc] at hi
    rw [List.append_assoc]
    rcases Nat.lt_trichotomy i ob.length with hlt | rfl | hgt
    · rw [List.getElem?_append_left hlt] at hi
      refine .inr ⟨Nat.ne_of_lt hlt, by rw [List.getElem?_append_left hlt]; exact hi, ?_⟩
      exact List.all_eq_true.1 hob o (List.mem_of_getElem? hi)
    · rw [List.getElem?_append_right (Nat.le_refl _), Nat.sub_self] at hi
      exact .inl ⟨rfl, (by simpa using hi.symm)⟩
    · rw [List.getElem?_append_right (Nat.le_of_lt hgt)] at hi
      have e : i - ob.length = (i - ob.length - 1) + 1 := by omega
      rw [e] at hi
      refine .inr ⟨Nat.ne_of_gt hgt, ?_, ?_⟩
      · rw [List.getElem?_append_right (Nat.le_of_lt hgt), e]; simpa using hi
      · have hi' : X[i - ob.length - 1]? = some o := by simpa using hi
        exact List.all_eq_true.1 hX o (List.mem_of_getElem? hi')
  have hne : ∀ {i : Nat} {v u : Value}, i ≠ ob.length → (ρ.set ob.length v)[i]? = some u → ρ[i]? = some u := fun hi h => by rw [List.getElem?_set_ne (Ne.symm hi)] at h; exact h
  have hself : ∀ {v u : Value}, (ρ.set ob.length v)[ob.length]? = some u → u = v := fun h => by rw [List.getElem?_set_self hkl] at h; exact (Option.some.inj h).symm
  have hrw : RW E (ob ++ [slotO T z true] ++ X) (ρ.set ob.length (.pointer (some ⟨w.heap.size, 0, none⟩))) B (w.alloc (.cells z.toArray T)) := by
    refine { ep := h.ep, os := hs.os.trans h.os, tape := hs.tape.trans h.tape, output := hs.output.trans h.output, size := Nat.le_trans h.size hs.size,
             block := fun k h1 h2 => (hs.block k (Nat.lt_of_lt_of_le h1 h.size)).trans (h.block k h1 h2), pre := ?_, bsub := h.bsub, bnew := h.bnew,
             blt := fun b hb => Nat.lt_of_lt_of_le (h.blt b hb) hs.size, len := by simpa using hlen, obs := ?_, dis := ?_, prv := ?_ }
    · intro j v h1 h2
      have hj : j < ob.length := by
        rcases h1 with h1 | h1
        · have := get_lt h1; omega
        · have := get_lt h1; omega
      rw [List.getElem?_set_ne (by omega)]; exact h.pre j v h1 h2
    · intro i o hi
      rcases tk hi with ⟨rfl, rfl⟩ | ⟨h1, h2, h3⟩
      · refine ⟨w.heap.size, z, (0, 0), List.getElem?_set_self hkl, alloc_get _ _, .inl (by simp), RelL.vals z, fun c hc => AV.oc_of (hone c hc)⟩
      · have := RO.inval (k := ob.length) (v' := .pointer (some ⟨w.heap.size, 0, none⟩)) hBw h1 (fun u b hl hu hbu => hs.block b (h.prv i o u b h2 hl hu hbu).2.1) (h.obs i o h2)
        rw [Ob.inval_ids h3] at this
        exact this
    · intro i j o1 o2 u1 u2 b hij h1 l1 h2 l2 r1 r2 b1 b2
      rcases tk h1 with ⟨rfl, rfl⟩ | ⟨p1, p2, p3⟩ <;> rcases tk h2 with ⟨rfl, rfl⟩ | ⟨q1, q2, q3⟩
      · exact hij rfl
      · have e1 := hself r1
        subst e1
        have := (h.prv j o2 u2 b q2 l2 (hne q1 r2) b2).2.1
        simp only [blk, Option.some.injEq] at b1
        omega
      · have e1 := hself r2
        subst e1
        have := (h.prv i o1 u1 b p2 l1 (hne p1 r1) b1).2.1
        simp only [blk, Option.some.injEq] at b2
        omega
      · exact h.dis i j o1 o2 u1 u2 b hij p2 l1 q2 l2 (hne p1 r1) (hne q1 r2) b1 b2
    · intro i o u b hi hl hu hbu
      rcases tk hi with ⟨rfl, rfl⟩ | ⟨p1, p2, p3⟩
      · have e1 := hself hu
        subst e1
        simp only [blk, Option.some.injEq] at hbu
        subst hbu
        exact ⟨fun hB => by have := h.blt _ hB; omega, by omega, .inl h.size⟩
      · obtain ⟨a1, a2, a3⟩ := h.prv i o u b p2 hl (hne p1 hu) hbu
        exact ⟨a1, Nat.lt_of_lt_of_le a2 hs.size, a3⟩
  refine ⟨hrw, hj.chg ⟨hs.os, hs.tape, hs.output, hs.size, fun b hb _ => hs.block b hb, ?_, fun _ h => h, fun _ h => .inl h⟩ hrw.bd⟩
  rintro b ⟨i, o, u, h1, h2, h3, h4⟩
  rcases tk h1 with ⟨rfl, rfl⟩ | ⟨p1, p2, p3⟩
  · have e1 := hself h3
    subst e1
    simp only [blk, Option.some.injEq] at h4
    exact .inr (Nat.le_of_eq h4)
  · exact .inl ⟨i, o, u, p2, h2, hne p1 h3, h4⟩
theorem AS.ev_ob (s : AS) (X : List Ob) : AS.ev { s with ob := X } = AS.ev s := by
  funext y
  cases y with
  | const v => cases v <;> rfl
  | _ => rfl
def CLA (P : Program) (ops : Array Oper) (s : AS) (T : TypeId) (z : List Value) (nds1 : List (List (Nat × Option Nat))) (vals : List AV) : List Nat → List Ob → List Ob → Prop
  | [], X, XL => X = XL
  | i :: r, X, XL => ∃ X', X'.all (obIds (· != s.ob.length)) = true ∧ (∀ bb o, ops[i]? = some o → CSpec P ops o { s with fr := needFr s.fr vals (nds1.getD i []), ob := s.ob ++ [slotO T z bb] } X X' (vals.getD i .any)) ∧ CLA P ops s T z nds1 vals r X' XL
theorem CLA.obs {T : TypeId} {z : List Value} {nds1 : List (List (Nat × Option Nat))} : ∀ {ci : List Nat} {X XL : List Ob}, X.all (obIds (· != s.ob.length)) = true → CLA P ops s T z nds1 vals ci X XL → ∃ obs : Nat → List Ob, obs 0 = X ∧ obs ci.length = XL ∧ (∀ k, (obs k).all (obIds (· != s.ob.length)) = true) ∧
    ∀ bb l o, l < ci.length → ops[ci.getD l 0]? = some o → CSpec P ops o { s with fr := needFr s.fr vals (nds1.getD (ci.getD l 0) []), ob := s.ob ++ [slotO T z bb] } (obs l) (obs (l + 1)) (vals.getD (ci.getD l 0) .any)
  | [], X, XL, hX, h => ⟨fun _ => X, rfl, h, fun _ => hX, fun bb l o hl => by simp at hl⟩
  | i :: r, X, XL, hX, ⟨X', h0, h1, h2⟩ => by
    obtain ⟨obs, a1, a2, a4, a3⟩ := CLA.obs h0 h2
    refine ⟨fun l => match l with | 0 => X | l + 1 => obs l, rfl, a2, fun k => ?_, fun bb l o hl ho => ?_⟩
    · cases k with
      | zero => exact hX
      | succ k => exact a4 k
    · cases l with
      | zero =>
        have := h1 bb o (by simpa using ho)
        simp only [List.getD_cons_zero]
        rw [a1]; exact this
      | succ l =>
        simp only [List.getD_cons_succ] at ho ⊢
        exact a3 bb l o (by simpa using hl) ho
section cl
variable {T : TypeId} {z : List Value} {nds1 : List (List (Nat × Option Nat))} {X XL : List Ob} {i : Nat} {r : List Nat}
theorem CLA.nil : CLA P ops s T z nds1 vals [] X X := rfl
end cl
def chIds (p : Nat → Bool) (ci : List Nat) : Nat → List AV → Bool
  | _, [] => true
  | i, x :: r => (bif ciB ci i then x.idsOk p else true) && chIds p ci (i + 1) r
attribute [push_cast] chIds slotO cond_true cond_false
end
set_option linter.unusedSectionVars false
section
variable {P : Program} {ops : Array Oper} {E : Env} {s s' : AS} {ρ σ : List Value} {B : Nat → Prop} {a : Act} {w w' : World} {o : Oper} {rest : List Oper} {Q : AS → Prop} {R : Exit → AS → Prop} {nds : List (List (Nat × Option Nat))} {vals : List AV} {G : Prop}
theorem NSpec.callV {f : FuncId} {g : Operand} {cap : List AV} {args : Array Operand} {ts : Array TypeId} {ys : List AV} {r : AV} (hgd : gd ops s o = some true) (ho : o.op = .call { callee := .value g, args := args, argTypes := ts }) (hg : s.ev g = .fn (.func f) [] cap) (hc : callable P f = true)
    (hp : PC P f ys r) (hsub : SubL (args.toList.map s.ev ++ cap) ys) : NSpec P ops o s r := by
  intro E hE ρ B a w ob hs K Q' hK
  rw [if_pos (gd_wanted (s := { s with ob := s.ob ++ ob }) hgd hs)]
  have hev : AS.ev { s with ob := s.ob ++ ob } = s.ev := funext fun y => by cases y <;> rfl
  have hfn := hs.ev g
  rw [hev, hg] at hfn
  obtain ⟨v, hv⟩ : ∃ v, a.eval g = v := ⟨_, rfl⟩
  rw [hv] at hfn
  cases hfn with
  | fn r1 r2 =>
    rename_i cs ds
    cases r1
    have he : (execOp a.eval o).run P w = .ok (.enter f (args.map a.eval ++ ds.toArray)) w := by
      simp only [execOp, ho]; exact run_callV hc (by simpa using hv)
    have hrel0 : RelL w B E.bs ρ (args.toList.map s.ev) (args.toList.map a.eval) := by have := RelL.map_ev hs args.toList; rwa [hev] at this
    have hrel : RelL w B E.bs ρ (args.toList.map s.ev ++ cap) (args.toList.map a.eval ++ ds) := hrel0.append r2
    refine owp_enter he ?_
    have hargs : args.map a.eval ++ ds.toArray = (args.toList.map a.eval ++ ds).toArray := by apply Array.ext'; simp
    rw [hargs]
    refine hp.2 E.bs w [] B _ (hE.glb.call hs.rw_ (fun _ h => h) (by intro v hv; simp at hv)) hs.rw_.callee (hsub.rel (Nat.le_refl _) hrel) _ ?_
    rintro r' v τ' ρ' B' w' ⟨rfl, rfl⟩ hw hv
    have hρ : ρ' = [] := by have := hw.len; simpa using this
    subst hρ
    obtain ⟨hb, hsame⟩ := hs.rw_.back hw
    refine ⟨v, rfl, hK _ _ B' (hs.back hw).rj hw.bsub (fun b h => hsame.block b (hs.rw_.blt b h)) ?_⟩
    refine (hv.mono (fun _ h => h) (fun _ _ => rfl) (Nat.le_refl _) (fun _ _ h => h)).ids (p := fun _ => false) ?_ hp.1
    intro _ _ h; simp at h
theorem Dr.callV {f : FuncId} {g : Operand} {cap : List AV} {args : Array Operand} {ts : Array TypeId} {ys : List AV} {r : AV} (hp : PC P f ys r) (k : Dr P ops s nds (vals ++ [r]) G) (hn : ndsB nds = true := by first | rfl | decide) (hol : ops[vals.length]? = some o := by exact Go.Abs.evT)
    (ho : o.op = .call { callee := .value g, args := args, argTypes := ts } := by rfl) (hgd : gd ops { s with fr := needFr s.fr vals (nds.getD vals.length []) } o = some true := by exact Go.Abs.evT) (hg : AS.ev { s with fr := needFr s.fr vals (nds.getD vals.length []) } g = .fn (.func f) [] cap := by exact Go.Abs.evT) (hc : callable P f = true := by first | exact Go.Abs.evT | assumption)
    (hsub : HandL [] (args.toList.map (AS.ev { s with fr := needFr s.fr vals (nds.getD vals.length []) }) ++ cap) ys := by
      exact Go.Abs.evH) : Dr P ops s nds vals G :=
  Dr.step hn hol (NSpec.callV (s := { s with fr := needFr s.fr vals (nds.getD vals.length []) }) hgd ho hg hc hp (SubL.of hsub)) k
end
set_option linter.unusedSectionVars false
set_option linter.unnecessarySimpa false
section
variable {P : Program} {ops : Array Oper} {E : Env} {s s' : AS} {ρ σ : List Value} {B : Nat → Prop} {a : Act} {w w' : World} {o : Oper} {rest : List Oper} {Q : AS → Prop} {R : Exit → AS → Prop}
end
set_option linter.unusedSectionVars false
section
variable {P : Program} {ops : Array Oper} {E : Env} {s s' : AS} {ρ σ : List Value} {B : Nat → Prop} {a : Act} {w w' : World} {o : Oper} {rest : List Oper} {Q : AS → Prop} {R : Exit → AS → Prop}
end
set_option linter.unusedSectionVars false
section
variable {P : Program} {ops : Array Oper} {E : Env} {s s' : AS} {ρ : List Value} {B : Nat → Prop} {a : Act} {w w' : World} {o : Oper} {rest : List Oper} {Q : AS → Prop} {R : Exit → AS → Prop} {nds : List (List (Nat × Option Nat))} {vals : List AV} {G : Prop}
end
set_option linter.unusedSectionVars false
section
variable {P : Program} {ops : Array Oper} {E : Env} {s s' : AS} {ρ : List Value} {B : Nat → Prop} {a : Act} {w w' : World} {o : Oper} {rest : List Oper} {Q : AS → Prop} {R : Exit → AS → Prop}
end
set_option linter.unusedSectionVars false
section
variable {P : Program} {ops : Array Oper} {E : Env} {s s' : AS} {o : Oper} {Q : AS → Prop}
theorem wpOpIn_mono2 {F : Fence} {n : Nat} {i : Nat} {K K' : Act → World → Prop} {Q Q' : Exit → Act → World → Prop} {a : Act} {w : World} (h : ∀ a w, K a w → K' a w) (hq : ∀ e a w, e ≠ .normal → Q e a w → Q' e a w)
    (hh : wpOpIn F n P ops Q i K a w) : wpOpIn F n P ops Q' i K' a w := by
  unfold wpOpIn at *
  split
  · rename_i hn; simp only [hn] at hh; exact h _ _ hh
  · rename_i o ho
    simp only [ho] at hh
    split
    · rename_i hw; simp only [hw, if_true] at hh; exact wpIn_mono2 h hq hh
    · rename_i hw; simp only [hw] at hh; exact ⟨hh.1, h _ _ hh.2⟩
theorem wpAnyIn_monoQ {F : Fence} {n : Nat} {md : Region.Mode} {Q Q' : Exit → Act → World → Prop} (hq : ∀ e a w, Q e a w → Q' e a w) : ∀ (fuel : Nat) (listed : Array Bool) (a : Act) (w : World),
    wpAnyIn F n P md ops Q fuel listed a w → wpAnyIn F n P md ops Q' fuel listed a w
  | 0, _, _, _, h => ⟨h.1, hq _ _ _ h.2⟩
  | fuel + 1, listed, a, w, h => ⟨fun e => hq _ _ _ (h.1 e), fun i hi => wpOpIn_mono2 (fun a w h => wpAnyIn_monoQ hq fuel _ a w h) (fun e a w _ h => hq e a w h) (h.2 i hi)⟩
def placeB (P : Program) (ops : Array Oper) (s : AS) (j : Nat) : Bool :=
  match ops[j]? with
  | some o => o.guard.isNone && match o.op with
    | .fieldAddr T x f => (fld P T f).isSome && (match s.ev x with | .ptr _ _ => true | _ => false)
    | .move _ => true
    | .binOp op _ x y _ => match s.ev x, s.ev y with
      | .val a, .val b => (binV op (.val a) (.val b)).isSome
      | _, _ => false
    | _ => false
  | none => false
theorem placeB.spec {j : Nat} (h : placeB P ops s j = true) {ρ : List Value} {B : Nat → Prop} {a : Act} {w : World} (hs : RS E s ρ B a w) : ∃ o v, ops[j]? = some o ∧ YieldsFenced P ops o v a := by
  unfold placeB at h
  cases ho : ops[j]? with
  | none => simp [ho] at h
  | some o =>
    simp only [ho, Bool.and_eq_true, Option.isNone_iff_eq_none] at h
    obtain ⟨h1, h2⟩ := h
    have hw : Region.wanted o (yielded ops a.tmps) = true := by unfold Region.wanted; rw [h1]
    split at h2
    · rename_i T x f hop
      simp only [Bool.and_eq_true] at h2
      obtain ⟨h2, h3⟩ := h2
      obtain ⟨⟨o', k'⟩, hf⟩ := Option.isSome_iff_exists.1 h2
      split at h3
      · rename_i k off e
        have hy := hs.ev x
        rw [e] at hy
        generalize hu : a.eval x = u at hy
        cases hy with
        | ptr hp =>
          rename_i b
          refine ⟨o, .pointer (some ⟨b, off + o', none⟩), rfl, .inl ⟨hw, fun w' => ?_⟩, fun w' => by unfold Oper.about; rw [hop]⟩
          simp only [execOp, hop, hu]
          exact val_run (run_fieldAt hf)
      · cases h3
    · rename_i x hop
      refine ⟨o, a.eval x, rfl, .inl ⟨hw, fun w' => ?_⟩, fun w' => by unfold Oper.about; rw [hop]⟩
      simp [execOp, hop]
    · rename_i op T x y T2 hop
      split at h2
      · rename_i u v e1 e2
        obtain ⟨z, hz⟩ := Option.isSome_iff_exists.1 h2
        have hx : a.eval x = u := (e1 ▸ hs.ev x : Rel w B E.bs ρ (.val u) (a.eval x)).val_eq
        have hy : a.eval y = v := (e2 ▸ hs.ev y : Rel w B E.bs ρ (.val v) (a.eval y)).val_eq
        obtain ⟨r, _, hr, _⟩ := binV_run (P := P) (w := w) (B := B) (E := E) (ρ := ρ) (T := T) hz (.val u) (.val v)
        refine ⟨o, r, rfl, .inl ⟨hw, fun w' => ?_⟩, fun w' => by unfold Oper.about; rw [hop]⟩
        obtain ⟨r', h3, h4, h5⟩ := binV_run (P := P) (w := w') (B := B) (E := E) (ρ := ρ) (T := T) hz (.val u) (.val v)
        have hrr : r' = r := by rw [hr] at h4; injection h4 with h4; exact h4.symm
        subst hrr
        simp only [execOp, hop, hx, hy]
        exact val_run (by simp only [Sem.run_bind, h5 x y, Result.andThen_ok]; exact h3)
      · cases h2
    · cases h2
theorem yields_wpOpIn {F : Fence} {n : Nat} {Q : Exit → Act → World → Prop} {i : Nat} {o : Oper} {v : Value} {a : Act} (hd : ∀ c, o.op ≠ .defer c) (hi : ops[i]? = some o) (hy : YieldsFenced P ops o v a)
    {K : Act → World → Prop} {w : World} (h : K (a.put o.dst v) w) : wpOpIn F n P ops Q i K a w := by
  unfold wpOpIn
  simp only [hi]
  have hab : ∀ f, o.about P w a.eval = some f → F.fn f := fun f hf => by rw [hy.2 w] at hf; cases hf
  rcases hy.1 with ⟨hw, hv⟩ | ⟨hw, rfl⟩
  · simp only [hw, if_true, Oper.wpIn, Oper.semAt_eq _ _ _ hd, hv w, Oper.uponIn]; exact ⟨hab, h⟩
  · simp only [hw, Bool.false_eq_true, if_false]; exact ⟨hab, h⟩
theorem wpOpIn_putR {F : Fence} {n : Nat} {Q : Exit → Act → World → Prop} {j : Nat} {oi oj : Oper} {v : Value} (hdj : ∀ c, oj.op ≠ .defer c) (hj : ops[j]? = some oj) (hap : oi.apart ops oj = true)
    (hsi : ∀ cs b, oi.op ≠ .select cs b) (hsj : ∀ cs b, oj.op ≠ .select cs b)
    (hQ : ∀ c a w, Q (.panic c) (a.put oi.dst v) w → Q (.panic c) a w) {K : Act → World → Prop} {a : Act} {w : World}
    (hy : YieldsFenced P ops oi v a) (h : wpOpIn F n P ops Q j K (a.put oi.dst v) w) :
    wpOpIn F n P ops Q j (fun a' w' => YieldsFenced P ops oi v a' ∧ K (a'.put oi.dst v) w') a w := by
  obtain ⟨h1, h2, h3⟩ := Oper.apart_spec hap
  have keep : ∀ (a : Act), YieldsFenced P ops oi v a → ∀ u, YieldsFenced P ops oi v (a.put oj.dst u) := fun a hy u =>
    hy.of_same (execOp_put oi hsi a oj.dst u h3) (wanted_put oi a oj.dst u h3) (fun w => about_put oi w a oj.dst u h3)
  have keepD : ∀ d, YieldsFenced P ops oi v { a with defers := d :: a.defers } := fun d => hy.of_same rfl rfl (fun _ => rfl)
  unfold wpOpIn at *
  simp only [hj] at *
  rw [wanted_put oj a oi.dst v h1, about_put oj w a oi.dst v h1] at h
  split
  · rename_i hw
    simp only [hw, if_true] at h
    unfold Oper.wpIn at *
    rw [about_put oj w a oi.dst v h1] at h
    refine ⟨h.1, ?_⟩
    have h := h.2
    rw [Oper.semAt_eq _ _ _ hdj, execOp_put oj hsj a oi.dst v h1] at h
    rw [Oper.semAt_eq _ _ _ hdj]
    generalize (execOp a.eval oj).run P w = r at *
    cases r with
    | ok x w' =>
      cases x <;> simp only [Oper.uponIn] at h ⊢
      case value u => exact ⟨keep a hy u, by rw [← Act.put_comm a v u h2]; exact h⟩
      case skip => exact ⟨keep a hy _, by rw [← Act.put_comm a v undef h2]; exact h⟩
      case defer d =>
        refine ⟨keep _ (keepD d) _, ?_⟩
        rw [← Act.put_comm _ v undef h2, ← Act.put_defers]
        exact h
      case enter f args =>
        refine ⟨h.1, CallsIn.mono h.2 fun e w'' he => ?_⟩
        cases e with
        | returned u => exact ⟨keep a hy u, by rw [← Act.put_comm a v u h2]; exact he⟩
        | panicked c => exact hQ _ _ _ he
        | outgrown => exact he
      case row row args => exact ⟨h.1, RowsIn.mono h.2 fun u w'' he => ⟨keep a hy u, by rw [← Act.put_comm a v u h2]; exact he⟩⟩
      case round l f tmps assign body =>
        refine ⟨h.1, RoundIn.mono h.2 fun e w'' he => ?_⟩
        cases e with
        | returned u => exact ⟨keep a hy u, by rw [← Act.put_comm a v u h2]; exact he⟩
        | panicked c => exact hQ _ _ _ he
        | outgrown => exact he
    | halt x w' =>
      cases x <;> simp only [Oper.uponIn] at h ⊢
      case panic u => exact hQ _ _ _ h
  · rename_i hw
    simp only [hw] at h
    exact ⟨h.1, keep a hy _, by rw [← Act.put_comm a v undef h2]; exact h.2⟩
theorem wpAnyIn_firstR {F : Fence} {n : Nat} {md : Region.Mode} {Q : Exit → Act → World → Prop} {i : Nat} {oi : Oper} {v : Value} (hdf : ∀ (j : Nat) (o : Oper) c, ops[j]? = some o → o.op ≠ .defer c) (hi : ops[i]? = some oi) (hsel : ∀ (j : Nat) (o : Oper) cs b, ops[j]? = some o → o.op ≠ .select cs b)
    (hQ : ∀ c a w, Q (.panic c) (a.put oi.dst v) w → Q (.panic c) a w) :
    ∀ (fuel : Nat) (listed : Array Bool) (a : Act) (w : World),
      (∀ j oj, ops[j]? = some oj → j ≠ i → listed.getD j true = false → (∀ e ∈ oj.after, Region.binds md e = true → e.on ≠ i) → oi.apart ops oj = true) →
      i ∈ Region.ready md ops listed → YieldsFenced P ops oi v a →
      wpAnyIn F n P md ops Q fuel (listed.setIfInBounds i true) (a.put oi.dst v) w → wpAnyIn F n P md ops Q (fuel + 1) listed a w := by
  intro fuel
  induction fuel with
  | zero =>
    intro listed a w _ hr hy H
    refine ⟨fun h => (by rw [h] at hr; cases hr), fun j hj => ?_⟩
    by_cases hji : j = i
    · subst hji; exact yields_wpOpIn (fun c => hdf _ _ c hi) hi hy H
    · have := ready_mono hj hji
      rw [H.1] at this
      cases this
  | succ fuel ih =>
    intro listed a w hfree hr hy H
    refine ⟨fun h => (by rw [h] at hr; cases hr), fun j hj => ?_⟩
    by_cases hji : j = i
    · subst hji; exact yields_wpOpIn (fun c => hdf _ _ c hi) hi hy H
    · have h1 := H.2 j (ready_mono hj hji)
      obtain ⟨hjun, oj, hoj, hall⟩ := mem_ready.1 hj
      have hnot : ∀ e ∈ oj.after, Region.binds md e = true → e.on ≠ i := fun e he hb heq => by
        have h1 := hall e he hb
        have h0 := (mem_ready.1 hr).1
        rw [heq] at h1
        rcases Nat.lt_or_ge i listed.size with h' | h'
        · simp [h'] at h0 h1; rw [h0] at h1; cases h1
        · simp [Array.getElem?_eq_none h'] at h1
      have h2 := wpOpIn_putR (fun c => hdf _ _ c hoj) hoj (hfree j oj hoj hji hjun hnot) (fun cs b => hsel i oi cs b hi) (fun cs b => hsel j oj cs b hoj) hQ hy h1
      have hfree' : ∀ k ok, ops[k]? = some ok → k ≠ i → (listed.setIfInBounds j true).getD k true = false →
          (∀ e ∈ ok.after, Region.binds md e = true → e.on ≠ i) → oi.apart ops ok = true := fun k ok hk hki hun hno => by
        refine hfree k ok hk hki ?_ hno
        by_cases hjk : j = k
        · subst hjk; exact hjun
        · rw [getD_set_ne true hjk] at hun; exact hun
      refine wpOpIn_mono (fun a' w' h3 => ih (listed.setIfInBounds j true) a' w' hfree' (ready_mono hr (Ne.symm hji)) h3.1 ?_) h2
      rw [Array.setIfInBounds_comm _ _ hji]
      exact h3.2
def noDefer (ops : Array Oper) : Bool := ops.all fun o => match o.op with | .defer .. => false | _ => true
theorem noDefer_spec (h : noDefer ops = true) (j : Nat) (o : Oper) (c) (ho : ops[j]? = some o) : o.op ≠ .defer c := by
  intro heq
  have := Array.all_eq_true_iff_forall_mem.1 h o (Array.mem_of_getElem? ho)
  simp [heq] at this
theorem AAny.first {fuel : Nat} {listed : Array Bool} (j : Nat) (k : ARun P ops (ops[j]?).toList s (fun s' => AAny P ops fuel (listed.setIfInBounds j true) Q s'))
    (hp : placeB P ops s j = true := by kernel_rfl) (hns : (Region.noSelect ops && noDefer ops) = true := by kernel_rfl) (hf : Region.free .any ops listed j = true := by kernel_rfl) (hr : (Region.ready .any ops listed).contains j = true := by kernel_rfl) :
    AAny P ops (fuel + 1) listed Q s := by
  intro E hE ρ B a w hs Q' hQ
  obtain ⟨o, v, ho, hy⟩ := placeB.spec hp hs
  refine wpAnyIn_monoQ (Q := fun e a w => e = .normal ∧ Q' e a w) (fun e a w h => h.2) _ _ _ _ ?_
  rw [Bool.and_eq_true] at hns
  refine wpAnyIn_firstR (oi := o) (v := v) (noDefer_spec hns.2) ho (Region.noSelect_spec hns.1) (fun c a w h => by cases h.1) fuel listed a w (Region.free_spec ho hf) (by simpa using hr) hy ?_
  rw [ho] at k
  have := k E hE ρ B a w hs (fun e a w => match e with | .normal => wpAnyIn (FR E.rnd) 0 P .any ops (fun e a w => e = .normal ∧ Q' e a w) fuel (listed.setIfInBounds j true) a w | e => False)
    (fun s' ρ' B' a' w' q hs' => q E hE ρ' B' a' w' hs' _ (fun s2 ρ2 B2 a2 w2 q2 hs2 => ⟨rfl, hQ _ _ _ _ _ q2 hs2⟩))
  simp only [Option.toList_some, lwp] at this
  rcases hy.1 with ⟨hw, hv⟩ | ⟨hw, hv⟩
  · rw [if_pos hw] at this
    unfold owp Oper.wpIn at this
    have h2 := this.2
    rw [Oper.semAt_eq _ _ _ (fun c => noDefer_spec hns.2 j o c ho), hv w] at h2
    exact h2
  · rw [if_neg (by rw [hw]; simp)] at this
    rw [hv]; exact this
end
set_option linter.unusedSectionVars false
section
variable {P : Program} {ops : Array Oper} {E : Env} {s s' : AS} {o : Oper} {rest : List Oper} {Q : AS → Prop}
end
set_option linter.unusedSectionVars false
section
variable {P : Program} {ops : Array Oper} {s : AS} {Q : AS → Prop}
end
end Go.Abs
namespace Go.Proofs.YtldoehmlpdpiaaaGreatDoor.C
open Go.Abs
theorem kknown_c (t : Nat) (ht : t < 256) : PC Tryz.prog 54 [u8 t] (bool (kindHas t)) := by
  have k := kof_c t ht
  refine PC.of_bodyW (by simp only [push_cast]) Tryz.func54 rfl (by rw [Tryz.ntmps54]; simp) ?_
  refine AWp.regionW ?_
  refine AWp.regionM fun K1 hK1 => ?_
  refine ARun2.callM (k) ?_
  refine ARun2.endm (hK1 _ ?_)
  refine AWp.regionW ?_
  refine AWp.ret ?_
  try simp only [thenQ, blockQ, noGo]
  refine bodyQ.m ?_
  clear hK1 K1
  first | done | exact Hand.go
theorem sknown_c (c t : Nat) (hc : c = 1 ∨ c = 2) : PC Tryz.prog 66 [nat c, u16 t] (bool (shapeHas c t)) := by
  have k := of_c c t hc
  refine PC.of_bodyW (by simp only [push_cast]) Tryz.func66 rfl (by rw [Tryz.ntmps66]; simp) ?_
  refine AWp.regionW ?_
  refine AWp.regionM fun K1 hK1 => ?_
  refine ARun2.callM (k) ?_
  refine ARun2.endm (hK1 _ ?_)
  refine AWp.regionW ?_
  refine AWp.ret ?_
  try simp only [thenQ, blockQ, noGo]
  refine bodyQ.m ?_
  clear hK1 K1
  first | done | exact Hand.go
theorem shr6 (t : Nat) (h : t < 256) : IntKind.i64.wrap ((N t).fdiv (2 ^ min 6 IntKind.u8.bits)) = N (t / 64) := by
  rw [show (min 6 IntKind.u8.bits) = 6 from rfl, show ((2 : Int) ^ 6) = 64 from rfl, Int.fdiv_eq_ediv_of_nonneg _ (by decide), IntKind.wrap_i64]
  unfold N; omega
theorem shr14 (t : Nat) (h : t < 65536) : IntKind.i64.wrap ((N t).fdiv (2 ^ min 14 IntKind.u16.bits)) = N (t / 16384) := by
  rw [show (min 14 IntKind.u16.bits) = 14 from rfl, show ((2 : Int) ^ 14) = 16384 from rfl, Int.fdiv_eq_ediv_of_nonneg _ (by decide), IntKind.wrap_i64]
  unfold N; omega
theorem natsAt (l : List Nat) (i : Nat) (h : i < l.length) : (nats l)[i]? = some (nat l[i]) := by simp [nats, h]
theorem natsSnoc (l : List Nat) (n : Nat) : nats (l ++ [n]) = nats l ++ [nat n] := by simp [nats]
theorem acc_c (t : Nat) (ht : t < 256) : PC Tryz.prog 26 [u8 t] (nat (actC t)) := by
  have k := kknown_c t ht
  refine PC.of_bodyW (by simp only [push_cast]) Tryz.func26 rfl (by rw [Tryz.ntmps26]; simp) ?_
  refine AWp.regionW ?_
  refine AWp.seqK fun K1 hK1 => ?_
  refine AWp.regionM fun K2 hK2 => ?_
  refine ARun2.callM (k) ?_
  refine ARun2.endm (hK2 _ ?_)
  refine AWp.condLM (fun c0 => ?_) (fun c0 => ?_)
  · skip
    have hr : actC t = 4 := if_pos c0
    refine AWp.regionW ?_
    refine AWp.ret ?_
    try simp only [thenQ, blockQ, noGo]
    refine bodyQ.m ?_
    clear hK2 K2 hK1 K1
    rw [hr]
    try rw [h6]
    first | done | exact Hand.go
  · skip
    have hr : actC t = t / 64 := if_neg (by rw [c0]; simp)
    have h6 := shr6 t ht
    refine AWp.skip ?_
    refine hK1 _ ?_
    refine AWp.regionW ?_
    refine AWp.ret ?_
    try simp only [thenQ, blockQ, noGo]
    refine bodyQ.m ?_
    clear hK2 K2 hK1 K1
    rw [hr]
    try rw [h6]
    first | done | exact Hand.go
theorem acp_c (t : Nat) (ht : t < 65536) : PC Tryz.prog 35 [u16 t] (nat (actP t)) := by
  have k := sknown_c 1 t (by decide)
  refine PC.of_bodyW (by simp only [push_cast]) Tryz.func35 rfl (by rw [Tryz.ntmps35]; simp) ?_
  refine AWp.regionW ?_
  refine AWp.seqK fun K1 hK1 => ?_
  refine AWp.regionM fun K2 hK2 => ?_
  refine ARun2.callM (k) ?_
  refine ARun2.endm (hK2 _ ?_)
  refine AWp.condLM (fun c0 => ?_) (fun c0 => ?_)
  · skip
    have hr : actP t = 4 := if_pos c0
    refine AWp.regionW ?_
    refine AWp.ret ?_
    try simp only [thenQ, blockQ, noGo]
    refine bodyQ.m ?_
    clear hK2 K2 hK1 K1
    rw [hr]
    try rw [h6]
    first | done | exact Hand.go
  · skip
    have hr : actP t = t / 16384 := if_neg (by rw [c0]; simp)
    have h6 := shr14 t ht
    refine AWp.skip ?_
    refine hK1 _ ?_
    refine AWp.regionW ?_
    refine AWp.ret ?_
    try simp only [thenQ, blockQ, noGo]
    refine bodyQ.m ?_
    clear hK2 K2 hK1 K1
    rw [hr]
    try rw [h6]
    first | done | exact Hand.go
theorem racc_c (t : Nat) (ht : t < 256) : PC Tryz.prog 22 [u8 t] (nat (actC t)) := by
  have k := of11_c t
  refine PC.of_bodyW (by simp only [push_cast]) Tryz.func22 rfl (by rw [Tryz.ntmps22]; simp) ?_
  refine AWp.regionW ?_
  refine AWp.regionM fun K1 hK1 => ?_
  refine ARun2.callM (k) ?_
  refine ARun2.endm (hK1 _ ?_)
  refine AWp.seqK fun K2 hK2 => ?_
  refine AWp.regionW ?_
  refine AWp.condLM (fun c0 => ?_) (fun c0 => ?_)
  · skip
    have hr : actC t = 4 := if_pos c0
    refine AWp.regionW ?_
    refine AWp.ret ?_
    try simp only [thenQ, blockQ, noGo]
    refine bodyQ.m ?_
    clear hK2 K2 hK1 K1
    rw [hr]
    first | done | exact Hand.go
  · skip
    have hr : actC t = t / 64 := if_neg (by rw [c0]; simp)
    refine AWp.skip ?_
    refine hK2 _ ?_
    refine AWp.regionW ?_
    refine AWp.ret ?_
    try simp only [thenQ, blockQ, noGo]
    refine bodyQ.m ?_
    clear hK2 K2 hK1 K1
    rw [hr]
    first | done | exact Hand.go
theorem racp_c (t : Nat) (ht : t < 65536) : PC Tryz.prog 40 [u16 t] (nat (actP t)) := by
  have k := of07_c 1 t (by decide)
  obtain ⟨f1, f2, f3, f4, f5, f6⟩ := form_small 1 t
  have hcl : decide (0 < (shapeOf 1 t).cls) = shapeHas 1 t := by
    cases h : shapeHas 1 t with
    | true => rw [(f5 h).1]; rfl
    | false => rw [f6 h]; rfl
  refine PC.of_bodyW (by simp only [push_cast]) Tryz.func40 rfl (by rw [Tryz.ntmps40]; simp) ?_
  refine AWp.regionW ?_
  refine AWp.seqK fun K1 hK1 => ?_
  refine AWp.regionM fun K2 hK2 => ?_
  refine ARun2.callM (k) ?_
  refine ARun2.endm (hK2 _ ?_)
  refine AWp.condLM (fun c0 => ?_) (fun c0 => ?_)
  · skip
    rw [hcl] at c0
    have hr : actP t = 4 := if_pos c0
    refine AWp.regionW ?_
    refine AWp.ret ?_
    try simp only [thenQ, blockQ, noGo]
    refine bodyQ.m ?_
    clear hK2 K2 hK1 K1
    rw [hr]
    first | done | exact Hand.go
  · skip
    rw [hcl] at c0
    have hr : actP t = t / 16384 := if_neg (by rw [c0]; simp)
    refine AWp.skip ?_
    refine hK1 _ ?_
    refine AWp.regionW ?_
    refine AWp.ret ?_
    try simp only [thenQ, blockQ, noGo]
    refine bodyQ.m ?_
    clear hK2 K2 hK1 K1
    rw [hr]
    first | done | exact Hand.go
theorem playF_app (m : List Nat) : ∀ (l : List Nat) (i : Nat), playF i (l ++ m) = if (playF i l).2.2 = true then playF i l else ((playF i l).1 ++ (playF (i + l.length) m).1, (playF i l).2.1 ++ (playF (i + l.length) m).2.1, (playF (i + l.length) m).2.2)
  | [], i => rfl
  | a :: l, i => by
    have h := playF_app m l (i + 1)
    rw [show i + 1 + l.length = i + (a :: l).length by simp; omega] at h
    simp only [List.cons_append, playF]
    by_cases h4 : a = 4
    · simp only [if_pos h4, h]; split <;> rfl
    by_cases h3 : a = 3
    · simp only [if_neg h4, if_pos h3, h]; split <;> rfl
    by_cases h1 : a = 1
    · simp only [if_neg h4, if_neg h3, if_pos h1, if_true]
    by_cases h0 : a = 0
    · simp only [if_neg h4, if_neg h3, if_neg h1, if_pos h0, if_true]
    · simp only [if_neg h4, if_neg h3, if_neg h1, if_neg h0, h]
theorem playF_step (l : List Nat) (i : Nat) (hi : i < l.length) (h : (playF 0 (l.take i)).2.2 = false) : playF 0 (l.take (i + 1)) = ((playF 0 (l.take i)).1 ++ (playF i [l[i]]).1, (playF 0 (l.take i)).2.1 ++ (playF i [l[i]]).2.1, (playF i [l[i]]).2.2) := by
  rw [List.take_succ_eq_append_getElem hi, playF_app, if_neg (by rw [h]; simp), List.length_take, Nat.min_eq_left (by omega), Nat.zero_add]
theorem playF_stop (l : List Nat) (i : Nat) (h : (playF 0 (l.take i)).2.2 = true) : playF 0 l = playF 0 (l.take i) := by
  have := playF_app (l.drop i) (l.take i) 0
  rw [List.take_append_drop, if_pos h] at this
  exact this
theorem playF_four (i a : Nat) (h : a = 4) : playF i [a] = ([i], [], false) := by simp [playF, h]
theorem playF_three (i a : Nat) (h4 : ¬ a = 4) (h : a = 3) : playF i [a] = ([], [i], false) := by simp [playF, h]
theorem playF_one (i a : Nat) (h4 : ¬ a = 4) (h3 : ¬ a = 3) (h : a = 1) : playF i [a] = ([], [i], true) := by simp [playF, h]
theorem playF_zero (i a : Nat) (h4 : ¬ a = 4) (h3 : ¬ a = 3) (h1 : ¬ a = 1) (h : a = 0) : playF i [a] = ([], [], true) := by simp [playF, h]
theorem playF_else (i a : Nat) (h4 : ¬ a = 4) (h3 : ¬ a = 3) (h1 : ¬ a = 1) (h : ¬ a = 0) : playF i [a] = ([], [], false) := by simp [playF, h4, h3, h1, h]
set_option maxRecDepth 100000 in
theorem play_c (l : List Nat) (hl : l.length ≤ 2 ^ 30) : PC Tryz.prog 27 [.sl false 1 (nats l)] (.tup [.sl true 1 (nats (playF 0 l).1), .sl true 1 (nats (playF 0 l).2.1), bool (playF 0 l).2.2]) := by
  refine PC.of_bodyK (by simp only [push_cast]) Tryz.func27 rfl (by rw [Tryz.ntmps27]; simp) ?_
  refine AWp.regionW ?_
  refine AWp.seqK fun K1 hK1 => ?_
  refine AWp.regionW ?_
  refine AWp.block ?_
  -- SLOTS THAT TURN AND ARE NOT TOLD: [2, 3]
  refine AWp.nilOwn 2 3 1 (by simp only [push_cast, ↓reduceIte, Nat.reduceEqDiff, Nat.reduceLT, Nat.reduceAdd, Nat.reduceSub, Nat.reduceMul, Nat.reduceLeDiff, Nat.reducePow, Int.reduceLT, Int.reduceToNat, reduceCtorEq, Int.reduceNeg, Int.reduceEq, Nat.reduceBEq, Nat.reduceBNe, Int.reduceBEq, Int.reduceBNe, String.reduceEq]) ?_
  simp only [push_cast, ↓reduceIte, Nat.reduceEqDiff, Nat.reduceLT, Nat.reduceAdd, Nat.reduceSub, Nat.reduceMul, Nat.reduceLeDiff, Nat.reducePow, Int.reduceLT, Int.reduceToNat, reduceCtorEq, Int.reduceNeg, Int.reduceEq, Nat.reduceBEq, Nat.reduceBNe, Int.reduceBEq, Int.reduceBNe, String.reduceEq]
  refine AWp.nilOwn 3 3 1 (by simp only [push_cast, ↓reduceIte, Nat.reduceEqDiff, Nat.reduceLT, Nat.reduceAdd, Nat.reduceSub, Nat.reduceMul, Nat.reduceLeDiff, Nat.reducePow, Int.reduceLT, Int.reduceToNat, reduceCtorEq, Int.reduceNeg, Int.reduceEq, Nat.reduceBEq, Nat.reduceBNe, Int.reduceBEq, Int.reduceBNe, String.reduceEq]) ?_
  simp only [push_cast, ↓reduceIte, Nat.reduceEqDiff, Nat.reduceLT, Nat.reduceAdd, Nat.reduceSub, Nat.reduceMul, Nat.reduceLeDiff, Nat.reducePow, Int.reduceLT, Int.reduceToNat, reduceCtorEq, Int.reduceNeg, Int.reduceEq, Nat.reduceBEq, Nat.reduceBNe, Int.reduceBEq, Int.reduceBNe, String.reduceEq]
  refine AWp.loopK [2, 3, 7, 8] (fun (i : Nat) => [(9, nat i)]) (fun i => [.row 3 1 (nats (playF 0 (l.take i)).1), .row 3 1 (nats (playF 0 (l.take i)).2.1)]) (fun i => i ≤ l.length ∧ (playF 0 (l.take i)).2.2 = false) (fun i => l.length - i) (0) ?_ ⟨Nat.zero_le _, rfl⟩ ?_
  · skip
    refine Le.m 2 ?_ ?_
    · try simp only [push_cast, ↓reduceIte, Nat.reduceEqDiff, Nat.reduceLT, Nat.reduceAdd, Nat.reduceSub, Nat.reduceMul, Nat.reduceLeDiff, Nat.reducePow, Int.reduceLT, Int.reduceToNat, reduceCtorEq, Int.reduceNeg, Int.reduceEq, Nat.reduceBEq, Nat.reduceBNe, Int.reduceBEq, Int.reduceBNe, String.reduceEq]
      try simp (disch := omega) only [w_nat, w_add, w_addl, w_addr, w_sub, w_subl, w_mul, w_mull, w_mulr, w_u32, w_u16, w_u8, w_u32a, N_zero]
      first | done | skip
      try rfl
    · exact Go.Abs.evN
  · intro i hi K2 hK2
    refine AWp.regionW ?_
    refine AWp.seqK fun K3 hK3 => ?_
    refine AWp.condLM (fun c0 => ?_) (fun c0 => ?_)
    · skip
      have hil : i < l.length := by simpa using c0
      have hst := playF_step l i hil hi.2
      have hln := playF_len (l.take i) 0
      rw [List.length_take] at hln
      obtain ⟨a, ha⟩ : ∃ a, a = l[i] := ⟨_, rfl⟩
      rw [← ha] at hst
      have hat : (nats l)[i]? = some (nat a) := by rw [ha]; exact natsAt l i hil
      refine AWp.skip ?_
      refine hK3 _ ?_
      refine AWp.seqK fun K4 hK4 => ?_
      refine AWp.block ?_
      refine AWp.regionM fun K5 hK5 => ?_
      refine ARun2.indexM (i) (nat a) ?_ ?_
      · exact hat
      refine ARun2.endm (hK5 _ ?_)
      refine AWp.regionW ?_
      refine AWp.block ?_
      refine AWp.seqK fun K6 hK6 => ?_
      refine AWp.block ?_
      refine AWp.seqK fun K7 hK7 => ?_
      refine AWp.block ?_
      refine AWp.seqK fun K8 hK8 => ?_
      refine AWp.block ?_
      refine AWp.seqK fun K9 hK9 => ?_
      refine AWp.block ?_
      refine AWp.seqK fun K10 hK10 => ?_
      refine AWp.seqK fun K11 hK11 => ?_
      refine AWp.regionW ?_
      refine AWp.condLM (fun c1 => ?_) (fun c1 => ?_)
      · skip
        have h4 : a = 4 := by simpa using c1
        rw [playF_four i a h4] at hst
        refine AWp.exit ?_
        try simp only [thenQ, blockQ, noGo, reduceIte, Nat.reduceEqDiff]
        refine hK9 _ ?_
        refine AWp.regionM fun K12 hK12 => ?_
        refine ARun2.appendM ?_ ?_ ?_
        · rw [YtldoehmlpdpiaaaGreatDoor.Facts.eb56, nats_len, List.length_cons, List.length_nil]; omega
        · rw [nats_len, List.length_cons, List.length_nil]; omega
        refine ARun2.endm (hK12 _ ?_)
        refine AWp.exit ?_
        try simp only [thenQ, blockQ, noGo, reduceIte, Nat.reduceEqDiff]
        refine hK4 _ ?_
        refine AWp.regionV ?_
        refine hK2 _ (i + 1) (⟨hil, by rw [hst]⟩) (by omega) ?_
        refine Le.m 2 ?_ ?_
        · try simp only [push_cast, ↓reduceIte, Nat.reduceEqDiff, Nat.reduceLT, Nat.reduceAdd, Nat.reduceSub, Nat.reduceMul, Nat.reduceLeDiff, Nat.reducePow, Int.reduceLT, Int.reduceToNat, reduceCtorEq, Int.reduceNeg, Int.reduceEq, Nat.reduceBEq, Nat.reduceBNe, Int.reduceBEq, Int.reduceBNe, String.reduceEq]
          try simp (disch := omega) only [w_nat, w_add, w_addl, w_addr, w_sub, w_subl, w_mul, w_mull, w_mulr, w_u32, w_u16, w_u8, w_u32a, N_zero]
          first | done | skip
          rw [hst]
          simp [nats]
        · exact Go.Abs.evN
      · skip
        have h4 : ¬ a = 4 := by simpa using c1
        refine AWp.skip ?_
        refine hK11 _ ?_
        refine AWp.seqK fun K13 hK13 => ?_
        refine AWp.regionW ?_
        refine AWp.condLM (fun c2 => ?_) (fun c2 => ?_)
        · skip
          have h3 : a = 3 := by simpa using c2
          rw [playF_three i a h4 h3] at hst
          refine AWp.exit ?_
          try simp only [thenQ, blockQ, noGo, reduceIte, Nat.reduceEqDiff]
          refine hK8 _ ?_
          refine AWp.regionM fun K14 hK14 => ?_
          refine ARun2.appendM ?_ ?_ ?_
          · rw [YtldoehmlpdpiaaaGreatDoor.Facts.eb56, nats_len, List.length_cons, List.length_nil]; omega
          · rw [nats_len, List.length_cons, List.length_nil]; omega
          refine ARun2.endm (hK14 _ ?_)
          refine AWp.exit ?_
          try simp only [thenQ, blockQ, noGo, reduceIte, Nat.reduceEqDiff]
          refine hK4 _ ?_
          refine AWp.regionV ?_
          refine hK2 _ (i + 1) (⟨hil, by rw [hst]⟩) (by omega) ?_
          refine Le.m 2 ?_ ?_
          · try simp only [push_cast, ↓reduceIte, Nat.reduceEqDiff, Nat.reduceLT, Nat.reduceAdd, Nat.reduceSub, Nat.reduceMul, Nat.reduceLeDiff, Nat.reducePow, Int.reduceLT, Int.reduceToNat, reduceCtorEq, Int.reduceNeg, Int.reduceEq, Nat.reduceBEq, Nat.reduceBNe, Int.reduceBEq, Int.reduceBNe, String.reduceEq]
            try simp (disch := omega) only [w_nat, w_add, w_addl, w_addr, w_sub, w_subl, w_mul, w_mull, w_mulr, w_u32, w_u16, w_u8, w_u32a, N_zero]
            first | done | skip
            rw [hst]
            simp [nats]
          · exact Go.Abs.evN
        · skip
          have h3 : ¬ a = 3 := by simpa using c2
          refine AWp.skip ?_
          refine hK13 _ ?_
          refine AWp.seqK fun K15 hK15 => ?_
          refine AWp.regionW ?_
          refine AWp.condLM (fun c3 => ?_) (fun c3 => ?_)
          · skip
            have h1 : a = 1 := by simpa using c3
            rw [playF_one i a h4 h3 h1] at hst
            have hr : playF 0 l = _ := (playF_stop l (i + 1) (by rw [hst])).trans hst
            refine AWp.exit ?_
            try simp only [thenQ, blockQ, noGo, reduceIte, Nat.reduceEqDiff]
            refine hK7 _ ?_
            refine AWp.regionN fun K16 hK16 => ?_
            refine ARun2.appendM ?_ ?_ ?_
            · rw [YtldoehmlpdpiaaaGreatDoor.Facts.eb56, nats_len, List.length_cons, List.length_nil]; omega
            · rw [nats_len, List.length_cons, List.length_nil]; omega
            refine ARun2.endm (hK16 _ ?_)
            refine hK6 _ ?_
            refine AWp.seqK fun K17 hK17 => ?_
            refine AWp.pubD 0 ?_
            refine AWp.pubD 1 ?_
            refine AWp.regionW ?_
            refine AWp.ret ?_
            try simp only [thenQ, blockQ, noGo]
            refine bodyQ.m ?_
            clear hK17 K17 hK16 K16 hK15 K15 hK13 K13 hK11 K11 hK10 K10 hK9 K9 hK8 K8 hK7 K7 hK6 K6 hK5 K5 hK4 K4 hK3 K3 hK2 K2 hK1 K1
            first | (rw [hr]; simp only [List.append_nil, natsSnoc]) | (have h2 := hi.2; rw [List.take_length] at h2; rw [h2])
            first | done | exact Wk.go
          · skip
            have h1 : ¬ a = 1 := by simpa using c3
            refine AWp.skip ?_
            refine hK15 _ ?_
            refine AWp.regionW ?_
            refine AWp.condLM (fun c4 => ?_) (fun c4 => ?_)
            · skip
              have h0 : a = 0 := by simpa using c4
              rw [playF_zero i a h4 h3 h1 h0] at hst
              have hr : playF 0 l = _ := (playF_stop l (i + 1) (by rw [hst])).trans hst
              refine AWp.exit ?_
              try simp only [thenQ, blockQ, noGo, reduceIte, Nat.reduceEqDiff]
              refine hK6 _ ?_
              refine AWp.seqK fun K18 hK18 => ?_
              refine AWp.pubD 0 ?_
              refine AWp.pubD 1 ?_
              refine AWp.regionW ?_
              refine AWp.ret ?_
              try simp only [thenQ, blockQ, noGo]
              refine bodyQ.m ?_
              clear hK18 K18 hK15 K15 hK13 K13 hK11 K11 hK10 K10 hK9 K9 hK8 K8 hK7 K7 hK6 K6 hK5 K5 hK4 K4 hK3 K3 hK2 K2 hK1 K1
              first | (rw [hr]; simp only [List.append_nil, natsSnoc]) | (have h2 := hi.2; rw [List.take_length] at h2; rw [h2])
              first | done | exact Wk.go
            · skip
              have h0 : ¬ a = 0 := by simpa using c4
              rw [playF_else i a h4 h3 h1 h0] at hst
              refine AWp.skip ?_
              refine hK10 _ ?_
              refine AWp.exit ?_
              try simp only [thenQ, blockQ, noGo, reduceIte, Nat.reduceEqDiff]
              refine hK4 _ ?_
              refine AWp.regionV ?_
              refine hK2 _ (i + 1) (⟨hil, by rw [hst]⟩) (by omega) ?_
              refine Le.m 2 ?_ ?_
              · try simp only [push_cast, ↓reduceIte, Nat.reduceEqDiff, Nat.reduceLT, Nat.reduceAdd, Nat.reduceSub, Nat.reduceMul, Nat.reduceLeDiff, Nat.reducePow, Int.reduceLT, Int.reduceToNat, reduceCtorEq, Int.reduceNeg, Int.reduceEq, Nat.reduceBEq, Nat.reduceBNe, Int.reduceBEq, Int.reduceBNe, String.reduceEq]
                try simp (disch := omega) only [w_nat, w_add, w_addl, w_addr, w_sub, w_subl, w_mul, w_mull, w_mulr, w_u32, w_u16, w_u8, w_u32a, N_zero]
                first | done | skip
                rw [hst]
                simp [nats]
              · exact Go.Abs.evN
    · skip
      have hil : i = l.length := by have := hi.1; simp at c0; omega
      subst hil
      rw [List.take_length]
      refine AWp.exit ?_
      try simp only [thenQ, blockQ, noGo, reduceIte, Nat.reduceEqDiff]
      refine hK1 _ ?_
      refine AWp.pubD 0 ?_
      refine AWp.pubD 1 ?_
      refine AWp.regionW ?_
      refine AWp.ret ?_
      try simp only [thenQ, blockQ, noGo]
      refine bodyQ.m ?_
      clear hK3 K3 hK2 K2 hK1 K1
      first | (rw [hr]; simp only [List.append_nil, natsSnoc]) | (have h2 := hi.2; rw [List.take_length] at h2; rw [h2])
      first | done | exact Wk.go
theorem pickN_snoc {α : Type} (d : α) (l : List α) (is : List Nat) (j : Nat) : pickN d l (is ++ [j]) = pickN d l is ++ [l.getD j d] := by simp [pickN]
theorem pickN_len {α : Type} (d : α) (l : List α) (is : List Nat) : (pickN d l is).length = is.length := by simp [pickN]
theorem pickC_c (l : List GChunk) (is : List Nat) (hl : l.length ≤ 2 ^ 30) (hs : is.length ≤ 2 ^ 30) (hin : ∀ j ∈ is, j < l.length) : PC Tryz.prog 28 [.sl false 4 (chunksA false l), .sl false 1 (nats is)] (.sl false 4 (chunksA false (pickN .zero l is))) := by
  refine PC.of_bodyW (by simp only [push_cast]) Tryz.func28 rfl (by rw [Tryz.ntmps28]; simp) ?_
  refine AWp.regionW ?_
  refine AWp.regionW ?_
  refine AWp.seqK fun K1 hK1 => ?_
  refine AWp.regionW ?_
  refine AWp.block ?_
  -- SLOTS THAT TURN AND ARE NOT TOLD: [5]
  refine AWp.nilOwn 5 42 4 (by simp only [push_cast, ↓reduceIte, Nat.reduceEqDiff, Nat.reduceLT, Nat.reduceAdd, Nat.reduceSub, Nat.reduceMul, Nat.reduceLeDiff, Nat.reducePow, Int.reduceLT, Int.reduceToNat, reduceCtorEq, Int.reduceNeg, Int.reduceEq, Nat.reduceBEq, Nat.reduceBNe, Int.reduceBEq, Int.reduceBNe, String.reduceEq]) ?_
  simp only [push_cast, ↓reduceIte, Nat.reduceEqDiff, Nat.reduceLT, Nat.reduceAdd, Nat.reduceSub, Nat.reduceMul, Nat.reduceLeDiff, Nat.reducePow, Int.reduceLT, Int.reduceToNat, reduceCtorEq, Int.reduceNeg, Int.reduceEq, Nat.reduceBEq, Nat.reduceBNe, Int.reduceBEq, Int.reduceBNe, String.reduceEq]
  refine AWp.loopK [0, 5, 8, 9] (fun (i : Nat) => [(10, nat i)]) (fun i => [.row 42 4 (chunksA false (pickN .zero l (is.take i)))]) (fun i => i ≤ is.length) (fun i => is.length - i) (0) ?_ (Nat.zero_le _) ?_
  · skip
    refine Le.m 1 ?_ ?_
    · try simp only [push_cast, ↓reduceIte, Nat.reduceEqDiff, Nat.reduceLT, Nat.reduceAdd, Nat.reduceSub, Nat.reduceMul, Nat.reduceLeDiff, Nat.reducePow, Int.reduceLT, Int.reduceToNat, reduceCtorEq, Int.reduceNeg, Int.reduceEq, Nat.reduceBEq, Nat.reduceBNe, Int.reduceBEq, Int.reduceBNe, String.reduceEq]
      try simp (disch := omega) only [w_nat, w_add, w_addl, w_addr, w_sub, w_subl, w_mul, w_mull, w_mulr, w_u32, w_u16, w_u8, w_u32a, N_zero]
      first | done | skip
      try rfl
    · exact Go.Abs.evN
  · intro i hi K2 hK2
    refine AWp.regionW ?_
    refine AWp.seqK fun K3 hK3 => ?_
    refine AWp.condLM (fun c0 => ?_) (fun c0 => ?_)
    · skip
      have hil : i < is.length := by simpa using c0
      have hj := hin is[i] (List.getElem_mem hil)
      have hpl : (pickN GChunk.zero l (is.take i)).length ≤ is.length := by rw [pickN_len, List.length_take]; omega
      obtain ⟨j, hje⟩ : ∃ j, j = is[i] := ⟨_, rfl⟩
      have hat : (nats is)[i]? = some (nat j) := by rw [hje]; exact natsAt is i hil
      rw [← hje] at hj
      refine AWp.skip ?_
      refine hK3 _ ?_
      refine AWp.seqK fun K4 hK4 => ?_
      refine AWp.block ?_
      refine AWp.regionM fun K5 hK5 => ?_
      refine ARun2.indexM (i) (nat j) ?_ ?_
      · exact hat
      refine ARun2.endm (hK5 _ ?_)
      refine AWp.regionN fun K6 hK6 => ?_
      refine ARun2.indexM (j) (chunkA false l[j]) ?_ ?_
      · exact chunksA_at _ _ _ hj
      refine ARun2.appendM ?_ ?_ ?_
      · rw [YtldoehmlpdpiaaaGreatDoor.Facts.eb26, chunksA_len, List.length_cons, List.length_nil]; omega
      · rw [chunksA_len, List.length_cons, List.length_nil]; omega
      refine ARun2.endm (hK6 _ ?_)
      refine hK4 _ ?_
      refine AWp.regionV ?_
      refine hK2 _ (i + 1) (by omega) (by omega) ?_
      refine Le.m 1 ?_ ?_
      · try simp only [push_cast, ↓reduceIte, Nat.reduceEqDiff, Nat.reduceLT, Nat.reduceAdd, Nat.reduceSub, Nat.reduceMul, Nat.reduceLeDiff, Nat.reducePow, Int.reduceLT, Int.reduceToNat, reduceCtorEq, Int.reduceNeg, Int.reduceEq, Nat.reduceBEq, Nat.reduceBNe, Int.reduceBEq, Int.reduceBNe, String.reduceEq]
        try simp (disch := omega) only [w_nat, w_add, w_addl, w_addr, w_sub, w_subl, w_mul, w_mull, w_mulr, w_u32, w_u16, w_u8, w_u32a, N_zero]
        first | done | skip
        rw [List.take_succ_eq_append_getElem hil, ← hje, pickN_snoc, chunksA_snoc, List.getD_eq_getElem?_getD, List.getElem?_eq_getElem hj]; rfl
      · exact Go.Abs.evN
    · skip
      have hil : i = is.length := by simp at c0; omega
      subst hil
      refine AWp.exit ?_
      try simp only [thenQ, blockQ, noGo, reduceIte, Nat.reduceEqDiff]
      refine hK1 _ ?_
      refine AWp.pubD 0 ?_
      rw [List.take_length]
      refine AWp.regionW ?_
      refine AWp.ret ?_
      try simp only [thenQ, blockQ, noGo]
      refine bodyQ.m ?_
      clear hK3 K3 hK2 K2 hK1 K1
      first | done | exact Hand.go
theorem pickG_c (l : List GNode) (is : List Nat) (hl : l.length ≤ 2 ^ 30) (hs : is.length ≤ 2 ^ 30) (hin : ∀ j ∈ is, j < l.length) : PC Tryz.prog 36 [.sl false 3 (nodesA false l), .sl false 1 (nats is)] (.sl false 3 (nodesA false (pickN (.mk 0 [] []) l is))) := by
  refine PC.of_bodyW (by simp only [push_cast]) Tryz.func36 rfl (by rw [Tryz.ntmps36]; simp) ?_
  refine AWp.regionW ?_
  refine AWp.regionW ?_
  refine AWp.seqK fun K1 hK1 => ?_
  refine AWp.regionW ?_
  refine AWp.block ?_
  -- SLOTS THAT TURN AND ARE NOT TOLD: [5]
  refine AWp.nilOwn 5 49 3 (by simp only [push_cast, ↓reduceIte, Nat.reduceEqDiff, Nat.reduceLT, Nat.reduceAdd, Nat.reduceSub, Nat.reduceMul, Nat.reduceLeDiff, Nat.reducePow, Int.reduceLT, Int.reduceToNat, reduceCtorEq, Int.reduceNeg, Int.reduceEq, Nat.reduceBEq, Nat.reduceBNe, Int.reduceBEq, Int.reduceBNe, String.reduceEq]) ?_
  simp only [push_cast, ↓reduceIte, Nat.reduceEqDiff, Nat.reduceLT, Nat.reduceAdd, Nat.reduceSub, Nat.reduceMul, Nat.reduceLeDiff, Nat.reducePow, Int.reduceLT, Int.reduceToNat, reduceCtorEq, Int.reduceNeg, Int.reduceEq, Nat.reduceBEq, Nat.reduceBNe, Int.reduceBEq, Int.reduceBNe, String.reduceEq]
  refine AWp.loopK [0, 5, 8, 9] (fun (i : Nat) => [(10, nat i)]) (fun i => [.row 49 3 (nodesA false (pickN (.mk 0 [] []) l (is.take i)))]) (fun i => i ≤ is.length) (fun i => is.length - i) (0) ?_ (Nat.zero_le _) ?_
  · skip
    refine Le.m 1 ?_ ?_
    · try simp only [push_cast, ↓reduceIte, Nat.reduceEqDiff, Nat.reduceLT, Nat.reduceAdd, Nat.reduceSub, Nat.reduceMul, Nat.reduceLeDiff, Nat.reducePow, Int.reduceLT, Int.reduceToNat, reduceCtorEq, Int.reduceNeg, Int.reduceEq, Nat.reduceBEq, Nat.reduceBNe, Int.reduceBEq, Int.reduceBNe, String.reduceEq]
      try simp (disch := omega) only [w_nat, w_add, w_addl, w_addr, w_sub, w_subl, w_mul, w_mull, w_mulr, w_u32, w_u16, w_u8, w_u32a, N_zero]
      first | done | skip
      try rfl
    · exact Go.Abs.evN
  · intro i hi K2 hK2
    refine AWp.regionW ?_
    refine AWp.seqK fun K3 hK3 => ?_
    refine AWp.condLM (fun c0 => ?_) (fun c0 => ?_)
    · skip
      have hil : i < is.length := by simpa using c0
      have hj := hin is[i] (List.getElem_mem hil)
      have hpl : (pickN (GNode.mk 0 [] []) l (is.take i)).length ≤ is.length := by rw [pickN_len, List.length_take]; omega
      obtain ⟨j, hje⟩ : ∃ j, j = is[i] := ⟨_, rfl⟩
      have hat : (nats is)[i]? = some (nat j) := by rw [hje]; exact natsAt is i hil
      rw [← hje] at hj
      refine AWp.skip ?_
      refine hK3 _ ?_
      refine AWp.seqK fun K4 hK4 => ?_
      refine AWp.block ?_
      refine AWp.regionM fun K5 hK5 => ?_
      refine ARun2.indexM (i) (nat j) ?_ ?_
      · exact hat
      refine ARun2.endm (hK5 _ ?_)
      refine AWp.regionN fun K6 hK6 => ?_
      refine ARun2.indexM (j) (nodeA false l[j]) ?_ ?_
      · exact nodesA_at _ _ _ hj
      refine ARun2.appendM ?_ ?_ ?_
      · rw [YtldoehmlpdpiaaaGreatDoor.Facts.eb31, nodesA_len, List.length_cons, List.length_nil]; omega
      · rw [nodesA_len, List.length_cons, List.length_nil]; omega
      refine ARun2.endm (hK6 _ ?_)
      refine hK4 _ ?_
      refine AWp.regionV ?_
      refine hK2 _ (i + 1) (by omega) (by omega) ?_
      refine Le.m 1 ?_ ?_
      · try simp only [push_cast, ↓reduceIte, Nat.reduceEqDiff, Nat.reduceLT, Nat.reduceAdd, Nat.reduceSub, Nat.reduceMul, Nat.reduceLeDiff, Nat.reducePow, Int.reduceLT, Int.reduceToNat, reduceCtorEq, Int.reduceNeg, Int.reduceEq, Nat.reduceBEq, Nat.reduceBNe, Int.reduceBEq, Int.reduceBNe, String.reduceEq]
        try simp (disch := omega) only [w_nat, w_add, w_addl, w_addr, w_sub, w_subl, w_mul, w_mull, w_mulr, w_u32, w_u16, w_u8, w_u32a, N_zero]
        first | done | skip
        rw [List.take_succ_eq_append_getElem hil, ← hje, pickN_snoc, nodesA_snoc, List.getD_eq_getElem?_getD, List.getElem?_eq_getElem hj, Option.getD_some, nodeA_eq]
      · exact Go.Abs.evN
    · skip
      have hil : i = is.length := by simp at c0; omega
      subst hil
      refine AWp.exit ?_
      try simp only [thenQ, blockQ, noGo, reduceIte, Nat.reduceEqDiff]
      refine hK1 _ ?_
      refine AWp.pubD 0 ?_
      rw [List.take_length]
      refine AWp.regionW ?_
      refine AWp.ret ?_
      try simp only [thenQ, blockQ, noGo]
      refine bodyQ.m ?_
      clear hK3 K3 hK2 K2 hK1 K1
      first | done | exact Hand.go
def wrapV (b : Bool) (n : GNode) : AV := .agg [.val (.int .u16 8), .val (.slice none 0 0), .sl true 3 (nodesA b [n])]
def wrapsV (b : Bool) (l : List GNode) : List AV := l.map (wrapV b)
@[push_cast] theorem wrapsV_len (b : Bool) (l : List GNode) : (wrapsV b l).length = l.length := by simp [wrapsV]
@[push_cast] theorem wrapsV_nil (b : Bool) : wrapsV b [] = [] := rfl
theorem wrapsV_snoc (b : Bool) (l : List GNode) (n : GNode) : wrapsV b (l ++ [n]) = wrapsV b l ++ [wrapV b n] := by simp [wrapsV]
@[push_cast] theorem wrapsV_ids (p : Nat → Bool) (b : Bool) (l : List GNode) : AV.idsOkL p (wrapsV b l) = true := by
  rw [AV.idsOkL_iff]; intro x hx; simp only [wrapsV, List.mem_map] at hx; obtain ⟨n, _, rfl⟩ := hx
  simp only [wrapV, AV.idsOk, AV.idsOkL, nodesA_ids, Bool.and_self]
theorem wrapV_handR (b : Bool) : ∀ l : List GNode, HandR [] 3 (wrapsV b l) (nodesA false (l.map wrapN))
  | [] => trivial
  | n :: l => by
    have ih := wrapV_handR b l
    have h1 : Hand [] (.sl true 3 (nodesA b [n])) (.sl false 3 (nodesA false [n])) := by cases b <;> exact Hand.go
    exact HandR.cons (cs := [.val (.int .u16 8), .val (.slice none 0 0), .sl true 3 (nodesA b [n])]) (ds := [u16 8, .sl false 1 (bys []), .sl false 3 (nodesA false [n])]) (HandC.cons Hand.go (HandC.cons Hand.nil (HandC.cons h1 HandC.nil))) ih rfl rfl rfl
theorem small_kid {c : GChunk} (h : Small c) {n : GNode} (hn : n ∈ c.kids) : n.sz ≤ 2 ^ 26 := Nat.le_trans (szs_mem hn) h.kids
theorem disF_none {α : Type} (f : α → Nat) (l : List α) : (disF f l).1.length ≤ l.length ∧ (disF f l).2.1.length ≤ l.length := by
  have := disF_len f l; omega
set_option maxRecDepth 100000 in
set_option maxHeartbeats 1000000 in
theorem dclean_c (c : GChunk) (h : Small c) (htk : tysOk c.kids = true) : PC Tryz.prog 16 [chunkA false c] (.tup [chunkA false (cleanC c).1, .sl false 3 (nodesA false (cleanC c).2)]) := by
  have hbd := kind_bd c.ty
  have hki := kinside_c (kindOf c.ty).kids (by omega)
  have hclass : (kinsideN (kindOf c.ty).kids).1 = classOf c.ty := rfl
  generalize (kinsideN (kindOf c.ty).kids).2.1 = u1 at hki
  generalize (kinsideN (kindOf c.ty).kids).2.2 = u2 at hki
  rw [hclass] at hki
  have hkl := szs_len c.kids
  have hkk := h.kids
  have kcl := h.clone
  have kko := kof_c c.ty h.ty
  obtain ⟨acts, hacts⟩ : ∃ acts, acts = c.kids.map fun n => actP n.ty := ⟨_, rfl⟩
  have hal : acts.length = c.kids.length := by rw [hacts, List.length_map]
  have kpl := play_c acts (by omega)
  obtain ⟨q1, q2⟩ := playF_lt acts 0
  have hpl := playF_len acts 0
  have hpd := pick_dis (fun n : GNode => actP n.ty) (.mk 0 [] []) c.kids
  rw [← hacts] at hpd
  obtain ⟨d1, d2, d3⟩ := hpd
  have kp1 := pickG_c c.kids (playF 0 acts).1 (by omega) (by omega) (fun j hj => by have := q1 j hj; omega)
  have kp2 := pickG_c c.kids (playF 0 acts).2.1 (by omega) (by omega) (fun j hj => by have := q2 j hj; omega)
  rw [d1] at kp1
  rw [d2] at kp2
  have hdl := disF_none (fun n : GNode => actP n.ty) c.kids
  have hdm := (disF_mem (fun n : GNode => actP n.ty) c.kids).2
  have hcl : classOf c.ty = 1 → cleanC c = ({ c with kids := (disF (fun n : GNode => actP n.ty) c.kids).1 }, ((disF (fun n : GNode => actP n.ty) c.kids).2.1).map wrapN) := fun h => if_pos h
  obtain ⟨K, hK⟩ : ∃ K, K = (disF (fun n : GNode => actP n.ty) c.kids).1 := ⟨_, rfl⟩
  obtain ⟨R, hR⟩ : ∃ R, R = (disF (fun n : GNode => actP n.ty) c.kids).2.1 := ⟨_, rfl⟩
  rw [← hK, ← hR] at hcl hdl
  rw [← hK] at kp1
  rw [← hR] at kp2
  have hRm : ∀ n ∈ R, n.sz ≤ 2 ^ 26 := fun n hn => small_kid h (hdm n (by rw [← hR]; exact hn)).1
  generalize (playF 0 acts).1 = P at kpl kp1
  generalize (playF 0 acts).2.1 = S at kpl kp2
  generalize (playF 0 acts).2.2 = st at kpl
  have hw := wrapV_handR true R
  refine PC.of_bodyW (by simp only [push_cast]) Tryz.func16 rfl (by rw [Tryz.ntmps16]; simp) ?_
  refine AWp.regionW ?_
  refine AWp.regionM fun K1 hK1 => ?_
  refine ARun2.callM (kcl) ?_
  refine ARun2.endm (hK1 _ ?_)
  refine AWp.regionM fun K2 hK2 => ?_
  refine ARun2.callM (kko) ?_
  refine ARun2.endm (hK2 _ ?_)
  refine AWp.seqK fun K3 hK3 => ?_
  refine AWp.regionM fun K4 hK4 => ?_
  refine ARun2.callM (hki) ?_
  refine ARun2.endm (hK4 _ ?_)
  refine AWp.regionW ?_
  refine AWp.condLM (fun c0 => ?_) (fun c0 => ?_)
  · skip
    have hr : cleanC c = (c, []) := if_neg (by simpa using c0)
    refine AWp.regionW ?_
    refine AWp.ret ?_
    try simp only [thenQ, blockQ, noGo]
    refine bodyQ.m ?_
    clear hK4 K4 hK3 K3 hK2 K2 hK1 K1
    rw [hr]
    first | done | exact Hand.go
  · skip
    have hr := hcl (by simpa using c0)
    refine AWp.skip ?_
    refine hK3 _ ?_
    refine AWp.regionW ?_
    refine AWp.seqK fun K5 hK5 => ?_
    refine AWp.regionW ?_
    refine AWp.block ?_
    -- SLOTS THAT TURN AND ARE NOT TOLD: [9]
    refine AWp.nilOwn 9 3 1 (by simp only [push_cast, ↓reduceIte, Nat.reduceEqDiff, Nat.reduceLT, Nat.reduceAdd, Nat.reduceSub, Nat.reduceMul, Nat.reduceLeDiff, Nat.reducePow, Int.reduceLT, Int.reduceToNat, reduceCtorEq, Int.reduceNeg, Int.reduceEq, Nat.reduceBEq, Nat.reduceBNe, Int.reduceBEq, Int.reduceBNe, String.reduceEq]) ?_
    simp only [push_cast, ↓reduceIte, Nat.reduceEqDiff, Nat.reduceLT, Nat.reduceAdd, Nat.reduceSub, Nat.reduceMul, Nat.reduceLeDiff, Nat.reducePow, Int.reduceLT, Int.reduceToNat, reduceCtorEq, Int.reduceNeg, Int.reduceEq, Nat.reduceBEq, Nat.reduceBNe, Int.reduceBEq, Int.reduceBNe, String.reduceEq]
    refine AWp.loopK [1, 2, 9, 37, 38] (fun (i : Nat) => [(39, nat i)]) (fun i => [.box 42 [u8 c.ty, u8 c.flags, .sl true 1 (bys c.data), .sl true 3 (nodesA true c.kids)], .box 42 [.val (.int .u8 0), .val (.int .u8 0), .val (.slice none 0 0), .val (.slice none 0 0)], .box 69 [u8 (kindOf c.ty).ty, .val (.string (kindOf c.ty).name), u8 (kindOf c.ty).mask, nat (kindOf c.ty).least, nat (kindOf c.ty).most, nat (kindOf c.ty).unit, nat (kindOf c.ty).kids], .row 3 1 (nats (acts.take i))]) (fun i => i ≤ c.kids.length) (fun i => c.kids.length - i) (0) ?_ (Nat.zero_le _) ?_
    · skip
      refine Le.m 4 ?_ ?_
      · try simp only [push_cast, ↓reduceIte, Nat.reduceEqDiff, Nat.reduceLT, Nat.reduceAdd, Nat.reduceSub, Nat.reduceMul, Nat.reduceLeDiff, Nat.reducePow, Int.reduceLT, Int.reduceToNat, reduceCtorEq, Int.reduceNeg, Int.reduceEq, Nat.reduceBEq, Nat.reduceBNe, Int.reduceBEq, Int.reduceBNe, String.reduceEq]
        try simp (disch := omega) only [w_nat, w_add, w_addl, w_addr, w_sub, w_subl, w_mul, w_mull, w_mulr, w_u32, w_u16, w_u8, w_u32a, N_zero]
        first | done | skip
        try rfl
      · exact Go.Abs.evN
    · intro i hi K6 hK6
      refine AWp.regionW ?_
      refine AWp.seqK fun K7 hK7 => ?_
      refine AWp.condLM (fun c1 => ?_) (fun c1 => ?_)
      · skip
        have hil : i < c.kids.length := by simpa using c1
        have kap := acp_c c.kids[i].ty (GNode.tyOk_ty (tysOk_mem htk _ (List.getElem_mem hil)))
        have hai : acts[i]'(by omega) = actP c.kids[i].ty := by simp [hacts]
        refine AWp.skip ?_
        refine hK7 _ ?_
        refine AWp.seqK fun K8 hK8 => ?_
        refine AWp.block ?_
        refine AWp.regionM fun K9 hK9 => ?_
        refine ARun2.indexM (i) (nodeA true c.kids[i]) ?_ ?_
        · exact nodesA_at _ _ _ hil
        refine ARun2.endm (hK9 _ ?_)
        refine AWp.regionN fun K10 hK10 => ?_
        refine ARun2.callM (kap) ?_
        refine ARun2.appendM ?_ ?_ ?_
        · rw [YtldoehmlpdpiaaaGreatDoor.Facts.eb56, nats_len, List.length_take, List.length_cons, List.length_nil]; omega
        · rw [nats_len, List.length_take, List.length_cons, List.length_nil]; omega
        refine ARun2.endm (hK10 _ ?_)
        refine hK8 _ ?_
        refine AWp.regionV ?_
        refine hK6 _ (i + 1) (by omega) (by omega) ?_
        refine Le.m 4 ?_ ?_
        · try simp only [push_cast, ↓reduceIte, Nat.reduceEqDiff, Nat.reduceLT, Nat.reduceAdd, Nat.reduceSub, Nat.reduceMul, Nat.reduceLeDiff, Nat.reducePow, Int.reduceLT, Int.reduceToNat, reduceCtorEq, Int.reduceNeg, Int.reduceEq, Nat.reduceBEq, Nat.reduceBNe, Int.reduceBEq, Int.reduceBNe, String.reduceEq]
          try simp (disch := omega) only [w_nat, w_add, w_addl, w_addr, w_sub, w_subl, w_mul, w_mull, w_mulr, w_u32, w_u16, w_u8, w_u32a, N_zero]
          first | done | skip
          rw [List.take_succ_eq_append_getElem (by omega), natsSnoc, hai]
        · exact Go.Abs.evN
      · skip
        have hil : i = c.kids.length := by simp at c1; omega
        subst hil
        rw [← hal, List.take_length]
        refine AWp.exit ?_
        try simp only [thenQ, blockQ, noGo, reduceIte, Nat.reduceEqDiff]
        refine hK5 _ ?_
        refine AWp.pubD 3 ?_
        refine AWp.regionM fun K11 hK11 => ?_
        refine ARun2.callM (kpl) ?_
        refine ARun2.endm (hK11 _ ?_)
        refine AWp.regionW ?_
        refine AWp.seqK fun K12 hK12 => ?_
        refine AWp.regionM fun K13 hK13 => ?_
        refine ARun2.callM (kp2) ?_
        refine ARun2.endm (hK13 _ ?_)
        refine AWp.block ?_
        -- SLOTS THAT TURN AND ARE NOT TOLD: [15]
        refine AWp.nilOwn 15 49 3 (by simp only [push_cast, ↓reduceIte, Nat.reduceEqDiff, Nat.reduceLT, Nat.reduceAdd, Nat.reduceSub, Nat.reduceMul, Nat.reduceLeDiff, Nat.reducePow, Int.reduceLT, Int.reduceToNat, reduceCtorEq, Int.reduceNeg, Int.reduceEq, Nat.reduceBEq, Nat.reduceBNe, Int.reduceBEq, Int.reduceBNe, String.reduceEq]) ?_
        simp only [push_cast, ↓reduceIte, Nat.reduceEqDiff, Nat.reduceLT, Nat.reduceAdd, Nat.reduceSub, Nat.reduceMul, Nat.reduceLeDiff, Nat.reducePow, Int.reduceLT, Int.reduceToNat, reduceCtorEq, Int.reduceNeg, Int.reduceEq, Nat.reduceBEq, Nat.reduceBNe, Int.reduceBEq, Int.reduceBNe, String.reduceEq]
        refine AWp.loopK [1, 2, 12, 15, 59, 60] (fun (i : Nat) => [(61, nat i)]) (fun i => [.box 42 [u8 c.ty, u8 c.flags, .sl true 1 (bys c.data), .sl true 3 (nodesA true c.kids)], .box 42 [.val (.int .u8 0), .val (.int .u8 0), .val (.slice none 0 0), .val (.slice none 0 0)], .box 69 [u8 (kindOf c.ty).ty, .val (.string (kindOf c.ty).name), u8 (kindOf c.ty).mask, nat (kindOf c.ty).least, nat (kindOf c.ty).most, nat (kindOf c.ty).unit, nat (kindOf c.ty).kids], .gone, .row 49 3 (wrapsV true (R.take i))]) (fun i => i ≤ R.length) (fun i => R.length - i) (0) ?_ (Nat.zero_le _) ?_
        · skip
          refine Le.m 5 ?_ ?_
          · try simp only [push_cast, ↓reduceIte, Nat.reduceEqDiff, Nat.reduceLT, Nat.reduceAdd, Nat.reduceSub, Nat.reduceMul, Nat.reduceLeDiff, Nat.reducePow, Int.reduceLT, Int.reduceToNat, reduceCtorEq, Int.reduceNeg, Int.reduceEq, Nat.reduceBEq, Nat.reduceBNe, Int.reduceBEq, Int.reduceBNe, String.reduceEq]
            try simp (disch := omega) only [w_nat, w_add, w_addl, w_addr, w_sub, w_subl, w_mul, w_mull, w_mulr, w_u32, w_u16, w_u8, w_u32a, N_zero]
            first | done | skip
            try rfl
          · exact Go.Abs.evN
        · intro i hi K14 hK14
          refine AWp.regionW ?_
          refine AWp.seqK fun K15 hK15 => ?_
          refine AWp.condLM (fun c2 => ?_) (fun c2 => ?_)
          · skip
            have hil : i < R.length := by simpa using c2
            have kn := nclone_f R[i] (by have := hRm R[i] (List.getElem_mem hil); omega)
            refine AWp.skip ?_
            refine hK15 _ ?_
            refine AWp.seqK fun K16 hK16 => ?_
            refine AWp.block ?_
            refine AWp.regionM fun K17 hK17 => ?_
            refine ARun2.indexM (i) (nodeA false R[i]) ?_ ?_
            · exact nodesA_at _ _ _ hil
            refine ARun2.endm (hK17 _ ?_)
            refine AWp.regionN fun K18 hK18 => ?_
            refine ARun2.callM (kn) ?_
            refine ARun2.appendM ?_ ?_ ?_
            · rw [YtldoehmlpdpiaaaGreatDoor.Facts.eb31, wrapsV_len, List.length_take, List.length_cons, List.length_nil]; omega
            · rw [wrapsV_len, List.length_take, List.length_cons, List.length_nil]; omega
            refine ARun2.endm (hK18 _ ?_)
            refine hK16 _ ?_
            refine AWp.regionV ?_
            refine hK14 _ (i + 1) (by omega) (by omega) ?_
            refine Le.m 5 ?_ ?_
            · try simp only [push_cast, ↓reduceIte, Nat.reduceEqDiff, Nat.reduceLT, Nat.reduceAdd, Nat.reduceSub, Nat.reduceMul, Nat.reduceLeDiff, Nat.reducePow, Int.reduceLT, Int.reduceToNat, reduceCtorEq, Int.reduceNeg, Int.reduceEq, Nat.reduceBEq, Nat.reduceBNe, Int.reduceBEq, Int.reduceBNe, String.reduceEq]
              try simp (disch := omega) only [w_nat, w_add, w_addl, w_addr, w_sub, w_subl, w_mul, w_mull, w_mulr, w_u32, w_u16, w_u8, w_u32a, N_zero]
              first | done | skip
              rw [List.take_succ_eq_append_getElem hil, wrapsV_snoc, wrapV, nodesA_cons, nodesA_nil, nodeA_eq]
            · exact Go.Abs.evN
          · skip
            have hil : i = R.length := by simp at c2; omega
            subst hil
            rw [List.take_length]
            refine AWp.exit ?_
            try simp only [thenQ, blockQ, noGo, reduceIte, Nat.reduceEqDiff]
            refine hK12 _ ?_
            refine AWp.pubD 4 ?_
            refine AWp.regionM fun K19 hK19 => ?_
            refine ARun2.callM (kp1) ?_
            refine ARun2.endm (hK19 _ ?_)
            refine AWp.regionW ?_
            refine AWp.ret ?_
            try simp only [thenQ, blockQ, noGo]
            refine bodyQ.m ?_
            clear hK19 K19 hK15 K15 hK14 K14 hK13 K13 hK12 K12 hK11 K11 hK7 K7 hK6 K6 hK5 K5 hK4 K4 hK3 K3 hK2 K2 hK1 K1
            rw [hr]
            first | done | exact Hand.go
set_option maxRecDepth 100000 in
set_option maxHeartbeats 1000000 in
theorem rclean24_c (c : GChunk) (h : Small c) (htk : tysOk c.kids = true) : PC Tryz.prog 17 [chunkA false c] (.tup [chunkA false (cleanC c).1, .sl false 3 (nodesA false (cleanC c).2)]) := by
  have hbd := kind_bd c.ty
  have hof := of11_c c.ty
  have hclass : (kinsideN (kindOf c.ty).kids).1 = classOf c.ty := rfl
  have hcx := class11_c (kindOf c.ty).kids (by omega)
  rw [hclass] at hcx
  have hkl := szs_len c.kids
  have hkk := h.kids
  have hcl : classOf c.ty = 1 → cleanC c = ({ c with kids := (disF (fun n : GNode => actP n.ty) c.kids).1 }, ((disF (fun n : GNode => actP n.ty) c.kids).2.1).map wrapN) := fun h => if_pos h
  obtain ⟨ty, fl, d, ks⟩ := c
  simp only at hbd hof hcx hkl hkk hcl htk
  refine PC.of_bodyW (by simp only [push_cast]) Tryz.func17 rfl (by rw [Tryz.ntmps17]; simp) ?_
  refine AWp.regionW ?_
  refine AWp.regionM fun K1 hK1 => ?_
  refine ARun2.callM (hof) ?_
  refine ARun2.endm (hK1 _ ?_)
  refine AWp.regionW ?_
  refine AWp.seqK fun K2 hK2 => ?_
  refine AWp.regionM fun K3 hK3 => ?_
  refine ARun2.callM (hcx) ?_
  refine ARun2.endm (hK3 _ ?_)
  refine AWp.condLM (fun c0 => ?_) (fun c0 => ?_)
  · skip
    have hr : cleanC ⟨ty, fl, d, ks⟩ = (⟨ty, fl, d, ks⟩, []) := if_neg (by simpa using c0)
    refine AWp.regionW ?_
    refine AWp.ret ?_
    try simp only [thenQ, blockQ, noGo]
    refine bodyQ.m ?_
    clear hK3 K3 hK2 K2 hK1 K1
    rw [hr]
    first | done | exact Hand.go
  · skip
    have hr0 := hcl (by simpa using c0)
    refine AWp.skip ?_
    refine hK2 _ ?_
    refine AWp.regionW ?_
    refine AWp.seqK fun K4 hK4 => ?_
    refine AWp.regionW ?_
    refine AWp.block ?_
    -- SLOTS THAT TURN AND ARE NOT TOLD: [6, 7]
    refine AWp.nilOwn 7 49 3 (by simp only [push_cast, ↓reduceIte, Nat.reduceEqDiff, Nat.reduceLT, Nat.reduceAdd, Nat.reduceSub, Nat.reduceMul, Nat.reduceLeDiff, Nat.reducePow, Int.reduceLT, Int.reduceToNat, reduceCtorEq, Int.reduceNeg, Int.reduceEq, Nat.reduceBEq, Nat.reduceBNe, Int.reduceBEq, Int.reduceBNe, String.reduceEq]) ?_
    simp only [push_cast, ↓reduceIte, Nat.reduceEqDiff, Nat.reduceLT, Nat.reduceAdd, Nat.reduceSub, Nat.reduceMul, Nat.reduceLeDiff, Nat.reducePow, Int.reduceLT, Int.reduceToNat, reduceCtorEq, Int.reduceNeg, Int.reduceEq, Nat.reduceBEq, Nat.reduceBNe, Int.reduceBEq, Int.reduceBNe, String.reduceEq]
    refine AWp.nilOwn 6 49 3 (by simp only [push_cast, ↓reduceIte, Nat.reduceEqDiff, Nat.reduceLT, Nat.reduceAdd, Nat.reduceSub, Nat.reduceMul, Nat.reduceLeDiff, Nat.reducePow, Int.reduceLT, Int.reduceToNat, reduceCtorEq, Int.reduceNeg, Int.reduceEq, Nat.reduceBEq, Nat.reduceBNe, Int.reduceBEq, Int.reduceBNe, String.reduceEq]) ?_
    simp only [push_cast, ↓reduceIte, Nat.reduceEqDiff, Nat.reduceLT, Nat.reduceAdd, Nat.reduceSub, Nat.reduceMul, Nat.reduceLeDiff, Nat.reducePow, Int.reduceLT, Int.reduceToNat, reduceCtorEq, Int.reduceNeg, Int.reduceEq, Nat.reduceBEq, Nat.reduceBNe, Int.reduceBEq, Int.reduceBNe, String.reduceEq]
    refine AWp.loopK [1, 2, 6, 7] (fun (i : Nat) => [(8, nat i)]) (fun i => [.box 42 [u8 ty, u8 fl, .sl false 1 (bys d), .sl false 3 (nodesA false ks)], .box 42 [.val (.int .u8 0), .val (.int .u8 0), .val (.slice none 0 0), .val (.slice none 0 0)], .box 77 [u8 (kindOf ty).ty, .val (.string (kindOf ty).name), u8 (kindOf ty).mask, nat (kindOf ty).least, nat (kindOf ty).most, nat (kindOf ty).unit, nat (kindOf ty).kids], .row 49 3 (nodesA false (disF (fun n : GNode => actP n.ty) (ks.take i)).1), .row 49 3 (wrapsV false (disF (fun n : GNode => actP n.ty) (ks.take i)).2.1)]) (fun i => i ≤ ks.length ∧ (disF (fun n : GNode => actP n.ty) (ks.take i)).2.2 = false) (fun i => ks.length - i) (0) ?_ ⟨Nat.zero_le _, rfl⟩ ?_
    · skip
      refine Le.m 5 ?_ ?_
      · try simp only [push_cast, ↓reduceIte, Nat.reduceEqDiff, Nat.reduceLT, Nat.reduceAdd, Nat.reduceSub, Nat.reduceMul, Nat.reduceLeDiff, Nat.reducePow, Int.reduceLT, Int.reduceToNat, reduceCtorEq, Int.reduceNeg, Int.reduceEq, Nat.reduceBEq, Nat.reduceBNe, Int.reduceBEq, Int.reduceBNe, String.reduceEq]
        try simp (disch := omega) only [w_nat, w_add, w_addl, w_addr, w_sub, w_subl, w_mul, w_mull, w_mulr, w_u32, w_u16, w_u8, w_u32a, N_zero]
        first | done | skip
        try rfl
      · exact Go.Abs.evN
    · intro i hi K5 hK5
      refine AWp.seqK fun K6 hK6 => ?_
      refine AWp.regionW ?_
      refine AWp.condLM (fun c1 => ?_) (fun c1 => ?_)
      · skip
        have hil : i < ks.length := by simpa using c1
        have hln := disF_none (fun n : GNode => actP n.ty) (ks.take i)
        rw [List.length_take] at hln
        have hst := disF_app (fun n : GNode => actP n.ty) [ks[i]] (ks.take i)
        rw [← List.take_succ_eq_append_getElem hil, if_neg (by rw [hi.2]; simp)] at hst
        obtain ⟨n, hn⟩ : ∃ n, n = ks[i] := ⟨_, rfl⟩
        have hty := GNode.tyOk_ty (tysOk_mem htk _ (List.getElem_mem hil))
        have hat := nodesA_at false ks i hil
        rw [← hn] at hst hty hat
        have kap := racp_c n.ty hty
        have hle := actP_le n.ty hty
        have hone : disF (fun n : GNode => actP n.ty) [n] = if actP n.ty = 4 then ([n], [], false) else if actP n.ty = 3 then ([], [n], false) else if actP n.ty = 1 then ([], [n], true) else if actP n.ty = 0 then ([], [], true) else ([], [], false) := rfl
        have hsp := disF_app (fun n : GNode => actP n.ty) (ks.drop (i + 1)) (ks.take (i + 1))
        rw [List.take_append_drop] at hsp
        obtain ⟨a, ha⟩ : ∃ a, a = actP n.ty := ⟨_, rfl⟩
        rw [← ha] at kap hle hone
        obtain ⟨A, hA⟩ : ∃ A, A = (disF (fun n : GNode => actP n.ty) (ks.take i)).1 := ⟨_, rfl⟩
        obtain ⟨B, hB⟩ : ∃ B, B = (disF (fun n : GNode => actP n.ty) (ks.take i)).2.1 := ⟨_, rfl⟩
        rw [← hA, ← hB] at hst hln
        have G4 : a = 4 → disF (fun n : GNode => actP n.ty) (ks.take (i + 1)) = (A ++ [n], B, false) := fun h => by rw [hst, hone, if_pos h]; simp
        have G3 : a = 3 → disF (fun n : GNode => actP n.ty) (ks.take (i + 1)) = (A, B ++ [n], false) := fun h => by rw [hst, hone, if_neg (by omega), if_pos h]; simp
        have G2 : a = 2 → disF (fun n : GNode => actP n.ty) (ks.take (i + 1)) = (A, B, false) := fun h => by rw [hst, hone, if_neg (by omega), if_neg (by omega), if_neg (by omega), if_neg (by omega)]; simp
        have F1 : a = 1 → disF (fun n : GNode => actP n.ty) ks = (A, B ++ [n], true) := fun h => by
          have e : disF (fun n : GNode => actP n.ty) (ks.take (i + 1)) = (A, B ++ [n], true) := by rw [hst, hone, if_neg (by omega), if_neg (by omega), if_pos h]; simp
          rw [hsp, e]; rfl
        have F0 : a = 0 → disF (fun n : GNode => actP n.ty) ks = (A, B, true) := fun h => by
          have e : disF (fun n : GNode => actP n.ty) (ks.take (i + 1)) = (A, B, true) := by rw [hst, hone, if_neg (by omega), if_neg (by omega), if_neg (by omega), if_pos h]; simp
          rw [hsp, e]; rfl
        clear hst hone hsp
        rw [← hA, ← hB]
        refine AWp.skip ?_
        refine hK6 _ ?_
        refine AWp.seqK fun K7 hK7 => ?_
        refine AWp.block ?_
        refine AWp.regionM fun K8 hK8 => ?_
        refine ARun2.indexM (i) (nodeA false n) ?_ ?_
        · exact hat
        refine ARun2.callM (kap) ?_
        refine ARun2.endm (hK8 _ ?_)
        refine AWp.seqK fun K9 hK9 => ?_
        refine AWp.regionW ?_
        refine AWp.condLM (fun c2 => ?_) (fun c2 => ?_)
        · skip
          have h4 : a = 4 := by simpa using c2
          refine AWp.regionN fun K10 hK10 => ?_
          refine ARun2.indexM (i) (nodeA false n) ?_ ?_
          · exact hat
          refine ARun2.appendM ?_ ?_ ?_
          · rw [YtldoehmlpdpiaaaGreatDoor.Facts.eb31, nodesA_len, List.length_cons, List.length_nil]; omega
          · rw [nodesA_len, List.length_cons, List.length_nil]; omega
          refine ARun2.endm (hK10 _ ?_)
          refine hK9 _ ?_
          refine AWp.seqK fun K11 hK11 => ?_
          refine AWp.regionA fun K12 hK12 => ?_
          refine ARun.segm 3 fun KS hKS => ?_
          refine ARun2.endm (hKS _ ?_); clear hKS KS
          apply ARun.grpM 2 2 false 50 [1, 2, 6, 7, 8, 9, 48]
          · intro g2 KG hKG
            refine ARun2.gom ?_
            exact ARun2.endm (hKG _ Le.grpM)
          refine ARun2.gom ?_
          refine ARun2.endm (hK12 _ ?_)
          refine AWp.condLM (fun c3 => ?_) (fun c3 => ?_)
          · skip
            exfalso; rw [h4] at c3; simp at c3
          · skip
            refine AWp.skip ?_
            refine hK11 _ ?_
            refine AWp.regionW ?_
            refine AWp.condLM (fun c4 => ?_) (fun c4 => ?_)
            · skip
              have h2 : a < 2 := by simpa using c4
              have hr := hr0
              rw [F0 (by simp at c3; omega)] at hr
              have hw := wrapV_handR false B
              exfalso; rw [h4] at c4; simp at c4
            · skip
              have h2 : ¬ a < 2 := by simpa using c4
              have hst : disF (fun n : GNode => actP n.ty) (ks.take (i + 1)) = (if a = 4 then A ++ [n] else A, B, false) := by
                by_cases hx : a = 4
                · rw [if_pos hx]; exact G4 hx
                · rw [if_neg hx]; exact G2 (by simp at c3; omega)
              first | rw [if_pos h4] at hst | rw [if_neg h4] at hst
              refine AWp.skip ?_
              refine hK7 _ ?_
              refine AWp.regionV ?_
              refine hK5 _ (i + 1) (⟨hil, by rw [hst]⟩) (by omega) ?_
              refine Le.m 5 ?_ ?_
              · try simp only [push_cast, ↓reduceIte, Nat.reduceEqDiff, Nat.reduceLT, Nat.reduceAdd, Nat.reduceSub, Nat.reduceMul, Nat.reduceLeDiff, Nat.reducePow, Int.reduceLT, Int.reduceToNat, reduceCtorEq, Int.reduceNeg, Int.reduceEq, Nat.reduceBEq, Nat.reduceBNe, Int.reduceBEq, Int.reduceBNe, String.reduceEq]
                try simp (disch := omega) only [w_nat, w_add, w_addl, w_addr, w_sub, w_subl, w_mul, w_mull, w_mulr, w_u32, w_u16, w_u8, w_u32a, N_zero]
                first | done | skip
                rw [hst]; try simp only [List.append_nil, nodesA_snoc, wrapsV_snoc, wrapV, nodesA_cons, nodesA_nil, nodeA_eq]; try rfl
              · exact Go.Abs.evN
        · skip
          have h4 : ¬ a = 4 := by simpa using c2
          refine AWp.skip ?_
          refine hK9 _ ?_
          refine AWp.seqK fun K13 hK13 => ?_
          refine AWp.regionA fun K14 hK14 => ?_
          refine ARun.segm 3 fun KS hKS => ?_
          refine ARun2.endm (hKS _ ?_); clear hKS KS
          apply ARun.grpM 2 2 false 50 [1, 2, 6, 7, 8, 9, 48]
          · intro g2 KG hKG
            refine ARun2.gom ?_
            exact ARun2.endm (hKG _ Le.grpM)
          refine ARun2.gom ?_
          refine ARun2.endm (hK14 _ ?_)
          refine AWp.condLM (fun c3 => ?_) (fun c3 => ?_)
          · skip
            refine AWp.regionN fun K15 hK15 => ?_
            refine ARun2.indexM (i) (nodeA false n) ?_ ?_
            · exact hat
            refine ARun2.appendM ?_ ?_ ?_
            · rw [YtldoehmlpdpiaaaGreatDoor.Facts.eb31, wrapsV_len, List.length_cons, List.length_nil]; omega
            · rw [wrapsV_len, List.length_cons, List.length_nil]; omega
            refine ARun2.endm (hK15 _ ?_)
            refine hK13 _ ?_
            refine AWp.regionW ?_
            refine AWp.condLM (fun c4 => ?_) (fun c4 => ?_)
            · skip
              have h2 : a < 2 := by simpa using c4
              have hr := hr0
              rw [F1 (by simp at c3; omega)] at hr
              have hw := wrapV_handR false (B ++ [n])
              rw [wrapsV_snoc, wrapV, nodesA_cons, nodesA_nil, nodeA_eq] at hw
              refine AWp.exit ?_
              try simp only [thenQ, blockQ, noGo, reduceIte, Nat.reduceEqDiff]
              refine hK4 _ ?_
              refine AWp.pubD 3 ?_
              refine AWp.pubD 4 ?_
              refine AWp.regionW ?_
              refine AWp.regionW ?_
              refine AWp.ret ?_
              try simp only [thenQ, blockQ, noGo]
              refine bodyQ.m ?_
              clear hK15 K15 hK14 K14 hK13 K13 hK9 K9 hK8 K8 hK7 K7 hK6 K6 hK5 K5 hK4 K4 hK3 K3 hK2 K2 hK1 K1
              rw [hr]
              first | done | exact Hand.go
            · skip
              have h2 : ¬ a < 2 := by simpa using c4
              have hst := G3 (by simp at c3; omega)
              refine AWp.skip ?_
              refine hK7 _ ?_
              refine AWp.regionV ?_
              refine hK5 _ (i + 1) (⟨hil, by rw [hst]⟩) (by omega) ?_
              refine Le.m 5 ?_ ?_
              · try simp only [push_cast, ↓reduceIte, Nat.reduceEqDiff, Nat.reduceLT, Nat.reduceAdd, Nat.reduceSub, Nat.reduceMul, Nat.reduceLeDiff, Nat.reducePow, Int.reduceLT, Int.reduceToNat, reduceCtorEq, Int.reduceNeg, Int.reduceEq, Nat.reduceBEq, Nat.reduceBNe, Int.reduceBEq, Int.reduceBNe, String.reduceEq]
                try simp (disch := omega) only [w_nat, w_add, w_addl, w_addr, w_sub, w_subl, w_mul, w_mull, w_mulr, w_u32, w_u16, w_u8, w_u32a, N_zero]
                first | done | skip
                rw [hst]; try simp only [List.append_nil, nodesA_snoc, wrapsV_snoc, wrapV, nodesA_cons, nodesA_nil, nodeA_eq]; try rfl
              · exact Go.Abs.evN
          · skip
            refine AWp.skip ?_
            refine hK13 _ ?_
            refine AWp.regionW ?_
            refine AWp.condLM (fun c4 => ?_) (fun c4 => ?_)
            · skip
              have h2 : a < 2 := by simpa using c4
              have hr := hr0
              rw [F0 (by simp at c3; omega)] at hr
              have hw := wrapV_handR false B
              refine AWp.exit ?_
              try simp only [thenQ, blockQ, noGo, reduceIte, Nat.reduceEqDiff]
              refine hK4 _ ?_
              refine AWp.pubD 3 ?_
              refine AWp.pubD 4 ?_
              refine AWp.regionW ?_
              refine AWp.regionW ?_
              refine AWp.ret ?_
              try simp only [thenQ, blockQ, noGo]
              refine bodyQ.m ?_
              clear hK14 K14 hK13 K13 hK9 K9 hK8 K8 hK7 K7 hK6 K6 hK5 K5 hK4 K4 hK3 K3 hK2 K2 hK1 K1
              rw [hr]
              first | done | exact Hand.go
            · skip
              have h2 : ¬ a < 2 := by simpa using c4
              have hst : disF (fun n : GNode => actP n.ty) (ks.take (i + 1)) = (if a = 4 then A ++ [n] else A, B, false) := by
                by_cases hx : a = 4
                · rw [if_pos hx]; exact G4 hx
                · rw [if_neg hx]; exact G2 (by simp at c3; omega)
              first | rw [if_pos h4] at hst | rw [if_neg h4] at hst
              refine AWp.skip ?_
              refine hK7 _ ?_
              refine AWp.regionV ?_
              refine hK5 _ (i + 1) (⟨hil, by rw [hst]⟩) (by omega) ?_
              refine Le.m 5 ?_ ?_
              · try simp only [push_cast, ↓reduceIte, Nat.reduceEqDiff, Nat.reduceLT, Nat.reduceAdd, Nat.reduceSub, Nat.reduceMul, Nat.reduceLeDiff, Nat.reducePow, Int.reduceLT, Int.reduceToNat, reduceCtorEq, Int.reduceNeg, Int.reduceEq, Nat.reduceBEq, Nat.reduceBNe, Int.reduceBEq, Int.reduceBNe, String.reduceEq]
                try simp (disch := omega) only [w_nat, w_add, w_addl, w_addr, w_sub, w_subl, w_mul, w_mull, w_mulr, w_u32, w_u16, w_u8, w_u32a, N_zero]
                first | done | skip
                rw [hst]; try simp only [List.append_nil, nodesA_snoc, wrapsV_snoc, wrapV, nodesA_cons, nodesA_nil, nodeA_eq]; try rfl
              · exact Go.Abs.evN
      · skip
        have hil : i = ks.length := by have := hi.1; simp at c1; omega
        subst hil
        rw [List.take_length]
        have hr := hr0
        have hw := wrapV_handR false (disF (fun n : GNode => actP n.ty) ks).2.1
        refine AWp.exit ?_
        try simp only [thenQ, blockQ, noGo, reduceIte, Nat.reduceEqDiff]
        refine hK4 _ ?_
        refine AWp.pubD 3 ?_
        refine AWp.pubD 4 ?_
        refine AWp.regionW ?_
        refine AWp.regionW ?_
        refine AWp.ret ?_
        try simp only [thenQ, blockQ, noGo]
        refine bodyQ.m ?_
        clear hK6 K6 hK5 K5 hK4 K4 hK3 K3 hK2 K2 hK1 K1
        rw [hr]
        first | done | exact Hand.go
end Go.Proofs.YtldoehmlpdpiaaaGreatDoor.C
