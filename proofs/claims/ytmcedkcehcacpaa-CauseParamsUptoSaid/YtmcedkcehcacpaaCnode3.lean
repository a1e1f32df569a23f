/- node: check. -/
import Derived.Test.YtmcedkcehcacpaaCnode2
set_option linter.unusedVariables false
set_option linter.unusedSimpArgs false
namespace Go.Proofs.Ytmcedkcehcacpaa.C
open Go.Abs

/-- an error that is a code; 0: none -/
def errA (e : Nat) : AV := bif e == 0 then .val .nilIface else .ifc 88 (.val (.int .i64 (N e)))
@[push_cast] theorem nilIs_err (e : Nat) : nilIs .ifc (errA e) = some (e == 0) := by
  unfold errA; cases e == 0 <;> rfl
@[push_cast] theorem err_ids (p : Nat → Bool) (e : Nat) : (errA e).idsOk p = true := by unfold errA; cases e == 0 <;> rfl
@[push_cast] theorem err_hand (ids : List Nat) (e : Nat) : (errA e).hand ids = errA e := by unfold errA; cases e == 0 <;> rfl
@[push_cast] theorem err_one (e : Nat) : (errA e).one = true := by unfold errA; cases e == 0 <;> rfl
@[push_cast] theorem err_flat (e : Nat) : (errA e).flat = true := by unfold errA; cases e == 0 <;> rfl
@[push_cast] theorem err_cells (e : Nat) : (errA e).cells = [errA e] := by unfold errA; cases e == 0 <;> rfl

/-- is the form of a node wrong? -/
def badN (c t len : Nat) (k : List GNode) : Bool :=
  (!shapeHas c t && decide (0 < k.length)) || (shapeHas c t && (!fitsN (shapeOf c t) len || !kidsOk (shapeOf c t) k))

mutual
/-- the code of a node's error; 0: none -/
def checkN (c dp : Nat) : GNode → Nat
  | .mk t d k =>
    if 4 < dp then 9 else if badN c t d.length k = true then 7 else if countedN c t d = true then 8
    else if checkL (insideN (shapeOf c t).kids).1 (dp + 1) k ≠ 0 then checkL (insideN (shapeOf c t).kids).1 (dp + 1) k
    else if 65535 < nSize [.mk t d k] then 4 else 0
/-- the first error of some nodes -/
def checkL (c dp : Nat) : List GNode → Nat
  | [] => 0
  | n :: l => if checkN c dp n ≠ 0 then checkN c dp n else checkL c dp l
end

theorem checkN_eq (c dp : Nat) (n : GNode) : checkN c dp n =
    if 4 < dp then 9 else if badN c n.ty n.data.length n.kids = true then 7 else if countedN c n.ty n.data = true then 8
    else if checkL (insideN (shapeOf c n.ty).kids).1 (dp + 1) n.kids ≠ 0 then checkL (insideN (shapeOf c n.ty).kids).1 (dp + 1) n.kids
    else if 65535 < nSize [n] then 4 else 0 := by
  cases n; simp only [checkN, GNode.ty, GNode.data, GNode.kids]; rfl

theorem checkL_snoc (c dp : Nat) (n : GNode) : ∀ l : List GNode, checkL c dp (l ++ [n]) = if checkL c dp l ≠ 0 then checkL c dp l else checkN c dp n
  | [] => by
    simp only [List.nil_append, checkL]
    by_cases h : checkN c dp n = 0 <;> simp [h]
  | m :: l => by
    simp only [List.cons_append, checkL, checkL_snoc c dp n l]
    by_cases h : checkN c dp m = 0 <;> simp [h]
theorem checkL_app (c dp : Nat) (r : List GNode) : ∀ l : List GNode, checkL c dp l ≠ 0 → checkL c dp (l ++ r) = checkL c dp l
  | [], h => by simp [checkL] at h
  | m :: l, h => by
    simp only [List.cons_append, checkL] at h ⊢
    by_cases hm : checkN c dp m = 0
    · simp only [hm, ne_eq, not_true_eq_false, if_false] at h ⊢
      exact checkL_app c dp r l h
    · simp [hm]

theorem checkL_at (c dp : Nat) (l : List GNode) (i : Nat) (hil : i < l.length) (h0 : checkL c dp (l.take i) = 0) (h : checkN c dp l[i] ≠ 0) : checkL c dp l = checkN c dp l[i] := by
  have e := checkL_snoc c dp l[i] (l.take i)
  rw [h0, ← List.take_succ_eq_append_getElem hil] at e
  simp only [ne_eq, not_true_eq_false, if_false] at e
  have e2 := checkL_app c dp (l.drop (i + 1)) (l.take (i + 1)) (by rw [e]; exact h)
  rw [List.take_append_drop] at e2
  exact e2.trans e

theorem form_ok (c t : Nat) (h : shapeHas c t = true) : 0 < (shapeOf c t).unit ∧ (shapeOf c t).unit < 2 ^ 60 ∧ (shapeOf c t).least < 2 ^ 60 := by
  have key : ∀ l : List ShForm, (∀ f ∈ l, 0 < f.unit ∧ f.unit < 2 ^ 60 ∧ f.least < 2 ^ 60) → (l.find? fun f => f.ty == t).isSome = true →
      0 < (((l.find? fun f => f.ty == t).map fun f => { f with cls := c }).getD zeroForm).unit ∧ (((l.find? fun f => f.ty == t).map fun f => { f with cls := c }).getD zeroForm).unit < 2 ^ 60 ∧ (((l.find? fun f => f.ty == t).map fun f => { f with cls := c }).getD zeroForm).least < 2 ^ 60 := by
    intro l hl hs
    cases hf : l.find? (fun f => f.ty == t) with
    | none => simp [hf] at hs
    | some f => simpa using hl f (List.mem_of_find?_eq_some hf)
  refine key (formsN c) ?_ h
  match c with
  | 0 => intro f hf; simp [formsN] at hf
  | 1 => decide
  | 2 => decide
  | _ + 3 => intro f hf; simp [formsN] at hf
theorem form_kids (c t : Nat) : (shapeOf c t).kids < 2 ^ 60 := by
  have key : ∀ l : List ShForm, (∀ f ∈ l, f.kids < 2 ^ 60) → (((l.find? fun f => f.ty == t).map fun f => { f with cls := c }).getD zeroForm).kids < 2 ^ 60 := by
    intro l hl
    cases hf : l.find? (fun f => f.ty == t) with
    | none => simp [zeroForm]
    | some f => simpa using hl f (List.mem_of_find?_eq_some hf)
  refine key (formsN c) ?_
  match c with
  | 0 => intro f hf; simp [formsN] at hf
  | 1 => decide
  | 2 => decide
  | _ + 3 => intro f hf; simp [formsN] at hf
/-- right nodes with nodes inside say what class these have -/
theorem inside_class (c t len : Nat) (k : List GNode) (h : badN c t len k = false) (hk : 0 < k.length) : (insideN (shapeOf c t).kids).1 = 1 ∨ (insideN (shapeOf c t).kids).1 = 2 := by
  unfold badN at h
  have hd : decide (0 < k.length) = true := by simpa using hk
  rw [hd] at h
  cases hs : shapeHas c t with
  | false => simp [hs] at h
  | true =>
    simp only [hs, Bool.not_true, Bool.false_and, Bool.false_or, Bool.true_and, Bool.or_eq_false_iff, Bool.not_eq_false'] at h
    have hkk := h.2
    unfold kidsOk insideN at hkk
    unfold insideN
    by_cases h1 : (shapeOf c t).kids = 1 ∨ (shapeOf c t).kids = 4
    · simp [h1]
    · by_cases h2 : (shapeOf c t).kids = 2
      · simp [h2]
      · by_cases h3 : (shapeOf c t).kids = 3
        · simp [h3]
        · simp [h1, h2, h3] at hkk
          rw [hkk.1] at hk
          simp at hk

theorem nSize_kids1 (n : GNode) : nSize n.kids ≤ nSize [n] := nSize_kids (by simp)
theorem nSize_one {l : List GNode} {n : GNode} (h : n ∈ l) : nSize [n] ≤ nSize l := by
  have := vlen_mem h
  have e : nSize [n] = 4 + vlen n := by simp [nSize, nLens, tlvSize, sumUp, upN, gapN]
  omega
theorem nSize_data (n : GNode) : n.data.length ≤ nSize [n] := by
  have e : nSize [n] = 4 + vlen n := by simp [nSize, nLens, tlvSize, sumUp, upN, gapN]
  rw [vlen_eq] at e; omega

theorem check_step (w : Nat) (ih : ∀ (c dp : Nat) (n : GNode), n.wt < w → (c = 1 ∨ c = 2) → dp < 2 ^ 60 → nSize [n] ≤ 2 ^ 30 → PC Try.prog 49 [nat c, nodeA false n, nat dp] (errA (checkN c dp n)))
    (c dp : Nat) (n : GNode) (hw : n.wt ≤ w) (hc : c = 1 ∨ c = 2) (hdp : dp < 2 ^ 60) (hs : nSize [n] ≤ 2 ^ 30) : PC Try.prog 49 [nat c, nodeA false n, nat dp] (errA (checkN c dp n)) := by
  have hkl := nSize_len n.kids
  have hk1 := nSize_kids1 n
  have hdl := nSize_data n
  refine PC.of_bodyW (by simp only [push_cast]) Try.func49 rfl (by rw [Try.ntmps49]; simp) ?_
  refine AWp.regionW ?_
  refine AWp.seqK fun K1 hK1 => ?_
  refine AWp.regionW ?_
  refine AWp.condLM (fun c0 => ?_) (fun c0 => ?_)
  · skip
    have h0 : 4 < dp := by simpa using c0
    refine AWp.regionW ?_
    refine AWp.ret ?_
    try simp only [thenQ, blockQ]
    refine bodyQ.m ?_
    clear hK1 K1
    rw [checkN_eq, if_pos h0]
    first | done | exact Hand.go
  · skip
    have h0 : ¬ 4 < dp := by simpa using c0
    refine AWp.skip ?_
    refine hK1 _ ?_
    refine AWp.regionM fun K2 hK2 => ?_
    refine ARun2.callM (of_c c n.ty hc) ?_
    refine ARun2.endm (hK2 _ ?_)
    refine AWp.seqK fun K3 hK3 => ?_
    refine AWp.block ?_
    refine AWp.seqK fun K4 hK4 => ?_
    refine AWp.regionA fun K5 hK5 => ?_
    refine ARun.segm 3 fun KS hKS => ?_
    refine ARun2.endm (hKS _ ?_); clear hKS KS
    apply ARun.grpM 4 2 true 32 [0, 2, 4, 7, 8, 28]
    · intro g2 KG hKG
      refine ARun2.gom ?_
      exact ARun2.endm (hKG _ Le.grpM)
    refine ARun2.gom ?_
    refine ARun2.endm (hK5 _ ?_)
    refine AWp.condLM (fun c1 => ?_) (fun c1 => ?_)
    · skip
      refine AWp.skip ?_
      refine hK4 _ ?_
      refine AWp.condT ?_
      have hb : badN c n.ty n.data.length n.kids = true := by unfold badN; simp_all
      refine AWp.regionW ?_
      refine AWp.ret ?_
      try simp only [thenQ, blockQ]
      refine bodyQ.m ?_
      clear hK5 K5 hK4 K4 hK3 K3 hK2 K2 hK1 K1
      rw [checkN_eq, if_neg h0, if_pos hb]
      first | done | exact Hand.go
    · skip
      refine AWp.regionB fun K6 hK6 => ?_
      refine ARun.segm 2 fun KS hKS => ?_
      refine ARun2.endm (hKS _ ?_); clear hKS KS
      apply ARun.grpM 13 1 true 48 [0, 2, 4, 7, 35]
      · intro g1 KG hKG
        have hf := form_ok c n.ty g1
        refine ARun.segm 7 fun KS hKS => ?_
        refine ARun2.callM (fits_c (shapeOf c n.ty) n.data.length (by omega) hf.2.2 hf.1 hf.2.1) ?_
        refine ARun2.endm (hKS _ ?_); clear hKS KS
        apply ARun.grpM 5 8 false 47 [0, 2, 4, 7, 35, 42]
        · intro g8 KG hKG
          refine ARun2.gom ?_
          refine ARun2.callM (kids_c (shapeOf c n.ty) n.kids (by omega) (form_kids c n.ty)) ?_
          exact ARun2.endm (hKG _ Le.grpM)
        refine ARun2.gom ?_
        exact ARun2.endm (hKG _ Le.grpM)
      refine ARun2.gom ?_
      refine ARun2.endm (hK6 _ ?_)
      refine hK4 _ ?_
      refine AWp.condLM (fun c2 => ?_) (fun c2 => ?_)
      · skip
        have hb : badN c n.ty n.data.length n.kids = true := by unfold badN; simp_all
        refine AWp.regionW ?_
        refine AWp.ret ?_
        try simp only [thenQ, blockQ]
        refine bodyQ.m ?_
        clear hK6 K6 hK5 K5 hK4 K4 hK3 K3 hK2 K2 hK1 K1
        rw [checkN_eq, if_neg h0, if_pos hb]
        first | done | exact Hand.go
      · skip
        have hb : badN c n.ty n.data.length n.kids = false := by unfold badN; simp_all
        have hb' : ¬ badN c n.ty n.data.length n.kids = true := by rw [hb]; simp
        refine AWp.regionM fun K7 hK7 => ?_
        refine ARun2.callM (counted_c c n.ty n.data (by omega)) ?_
        refine ARun2.endm (hK7 _ ?_)
        refine AWp.condLM (fun c3 => ?_) (fun c3 => ?_)
        · skip
          have h3 : countedN c n.ty n.data = true := c3
          refine AWp.regionW ?_
          refine AWp.ret ?_
          try simp only [thenQ, blockQ]
          refine bodyQ.m ?_
          clear hK7 K7 hK6 K6 hK5 K5 hK4 K4 hK3 K3 hK2 K2 hK1 K1
          rw [checkN_eq, if_neg h0, if_neg hb', if_pos h3]
          first | done | exact Hand.go
        · skip
          have h3 : ¬ countedN c n.ty n.data = true := by rw [c3]; simp
          refine AWp.skip ?_
          refine hK3 _ ?_
          refine AWp.regionM fun K8 hK8 => ?_
          refine ARun2.callM (inside_c (shapeOf c n.ty).kids (form_kids c n.ty)) ?_
          refine ARun2.endm (hK8 _ ?_)
          refine AWp.seqK fun K9 hK9 => ?_
          refine AWp.regionW ?_
          refine AWp.block ?_
          refine AWp.loopK0 [2, 4, 9, 67, 68] (fun (i : Nat) => [(69, nat i)]) (fun i => i ≤ n.kids.length ∧ checkL (insideN (shapeOf c n.ty).kids).1 (dp + 1) (n.kids.take i) = 0) (fun i => n.kids.length - i) (0) ?_ ⟨Nat.zero_le _, rfl⟩ ?_
          · skip
            refine Le.m 2 ?_ ?_
            · first | with_reducible rfl | (simp only [push_cast, reduceIte, Nat.reduceEqDiff, Nat.reduceLT, Nat.reduceAdd, Nat.reduceSub, Nat.reduceMul, Nat.reduceLeDiff, Nat.reducePow, Int.reduceLT, Int.reduceToNat, reduceCtorEq, Int.reduceNeg, Int.reduceEq, Nat.reduceBEq, Nat.reduceBNe, Int.reduceBEq, Int.reduceBNe, String.reduceEq]; first | done | rfl | (simp (disch := omega) only [w_nat, w_add, w_addl, w_addr, w_sub, w_subl, w_mul, w_mull, w_mulr, w_u32, w_u16, w_u8, w_u32a, N_zero]; first | done | rfl))
            · first | (simp only [push_cast, reduceIte, Nat.reduceEqDiff, Nat.reduceLT, Nat.reduceAdd, Nat.reduceSub, Nat.reduceMul, Nat.reduceLeDiff, Nat.reducePow, Int.reduceLT, Int.reduceToNat, reduceCtorEq, Int.reduceNeg, Int.reduceEq, Nat.reduceBEq, Nat.reduceBNe, Int.reduceBEq, Int.reduceBNe, String.reduceEq]; first | done | rfl | (simp (disch := omega) only [w_nat, w_add, w_addl, w_addr, w_sub, w_subl, w_mul, w_mull, w_mulr, w_u32, w_u16, w_u8, w_u32a, N_zero]; first | done | rfl))
          · intro i hi K10 hK10
            refine AWp.regionW ?_
            refine AWp.seqK fun K11 hK11 => ?_
            refine AWp.condLM (fun c4 => ?_) (fun c4 => ?_)
            · skip
              have hil : i < n.kids.length := by simpa using c4
              have hm := List.getElem_mem hil
              have hcl := inside_class c n.ty n.data.length n.kids hb (by omega)
              refine AWp.skip ?_
              refine hK11 _ ?_
              refine AWp.seqK fun K12 hK12 => ?_
              refine AWp.block ?_
              refine AWp.regionM fun K13 hK13 => ?_
              refine ARun2.indexM (i) (nodeA false n.kids[i]) ?_ ?_
              · exact nodesA_at _ _ _ hil
              refine ARun2.endm (hK13 _ ?_)
              refine AWp.regionM fun K14 hK14 => ?_
              refine ARun2.callM (ih (insideN (shapeOf c n.ty).kids).1 (dp + 1) n.kids[i] (by have := wts_mem hm; rw [GNode.wt_eq] at hw; omega) hcl (by omega) (by have := nSize_one hm; omega)) ?_
              refine ARun2.endm (hK14 _ ?_)
              refine AWp.regionW ?_
              refine AWp.condLM (fun c5 => ?_) (fun c5 => ?_)
              · skip
                have h5 : checkN (insideN (shapeOf c n.ty).kids).1 (dp + 1) n.kids[i] ≠ 0 := by simpa using c5
                refine AWp.regionW ?_
                refine AWp.ret ?_
                try simp only [thenQ, blockQ]
                refine bodyQ.m ?_
                clear hK14 K14 hK13 K13 hK12 K12 hK11 K11 hK10 K10 hK9 K9 hK8 K8 hK7 K7 hK6 K6 hK5 K5 hK4 K4 hK3 K3 hK2 K2 hK1 K1
                have hL := checkL_at _ _ n.kids i hil hi.2 h5
                rw [checkN_eq c dp n, if_neg h0, if_neg hb', if_neg h3, if_pos (by rw [hL]; exact h5), hL]
                first | done | exact Hand.go
              · skip
                have h5 : checkN (insideN (shapeOf c n.ty).kids).1 (dp + 1) n.kids[i] = 0 := by simpa using c5
                refine AWp.skip ?_
                refine hK12 _ ?_
                refine AWp.regionV ?_
                refine hK10 _ (i + 1) (⟨by omega, by rw [List.take_succ_eq_append_getElem hil, checkL_snoc, hi.2]; simpa using h5⟩) (by omega) ?_
                refine Le.m 2 ?_ ?_
                · first | with_reducible rfl | (simp only [push_cast, reduceIte, Nat.reduceEqDiff, Nat.reduceLT, Nat.reduceAdd, Nat.reduceSub, Nat.reduceMul, Nat.reduceLeDiff, Nat.reducePow, Int.reduceLT, Int.reduceToNat, reduceCtorEq, Int.reduceNeg, Int.reduceEq, Nat.reduceBEq, Nat.reduceBNe, Int.reduceBEq, Int.reduceBNe, String.reduceEq]; first | done | rfl | (simp (disch := omega) only [w_nat, w_add, w_addl, w_addr, w_sub, w_subl, w_mul, w_mull, w_mulr, w_u32, w_u16, w_u8, w_u32a, N_zero]; first | done | rfl))
                · first | (simp only [push_cast, reduceIte, Nat.reduceEqDiff, Nat.reduceLT, Nat.reduceAdd, Nat.reduceSub, Nat.reduceMul, Nat.reduceLeDiff, Nat.reducePow, Int.reduceLT, Int.reduceToNat, reduceCtorEq, Int.reduceNeg, Int.reduceEq, Nat.reduceBEq, Nat.reduceBNe, Int.reduceBEq, Int.reduceBNe, String.reduceEq]; first | done | rfl | (simp (disch := omega) only [w_nat, w_add, w_addl, w_addr, w_sub, w_subl, w_mul, w_mull, w_mulr, w_u32, w_u16, w_u8, w_u32a, N_zero]; first | done | rfl))
            · skip
              have hil : i = n.kids.length := by have := hi.1; simp at c4; omega
              have hL : checkL (insideN (shapeOf c n.ty).kids).1 (dp + 1) n.kids = 0 := by have := hi.2; rwa [hil, List.take_length] at this
              subst hil
              refine AWp.exit ?_
              simp only [thenQ, blockQ, reduceIte, Nat.reduceEqDiff]
              refine hK9 _ ?_
              refine AWp.seqK fun K15 hK15 => ?_
              refine AWp.regionM fun K16 hK16 => ?_
              refine ARun2.callM (size_c [n] hs) ?_
              refine ARun2.endm (hK16 _ ?_)
              refine AWp.condLM (fun c6 => ?_) (fun c6 => ?_)
              · skip
                have h6 : 65535 < nSize [n] := by simpa using c6
                refine AWp.regionW ?_
                refine AWp.ret ?_
                try simp only [thenQ, blockQ]
                refine bodyQ.m ?_
                clear hK16 K16 hK15 K15 hK11 K11 hK10 K10 hK9 K9 hK8 K8 hK7 K7 hK6 K6 hK5 K5 hK4 K4 hK3 K3 hK2 K2 hK1 K1
                rw [checkN_eq, if_neg h0, if_neg hb', if_neg h3, if_neg (by rw [hL]; simp), if_pos h6]
                first | done | exact Hand.go
              · skip
                have h6 : ¬ 65535 < nSize [n] := by simpa using c6
                refine AWp.skip ?_
                refine hK15 _ ?_
                refine AWp.regionW ?_
                refine AWp.ret ?_
                try simp only [thenQ, blockQ]
                refine bodyQ.m ?_
                clear hK16 K16 hK15 K15 hK11 K11 hK10 K10 hK9 K9 hK8 K8 hK7 K7 hK6 K6 hK5 K5 hK4 K4 hK3 K3 hK2 K2 hK1 K1
                rw [checkN_eq, if_neg h0, if_neg hb', if_neg h3, if_neg (by rw [hL]; simp), if_neg h6]
                first | done | exact Hand.go

theorem check_w : ∀ (w c dp : Nat) (n : GNode), n.wt ≤ w → (c = 1 ∨ c = 2) → dp < 2 ^ 60 → nSize [n] ≤ 2 ^ 30 → PC Try.prog 49 [nat c, nodeA false n, nat dp] (errA (checkN c dp n)) := by
  intro w
  induction w with
  | zero => exact check_step 0 (fun c dp n h => by omega)
  | succ w ih => exact check_step (w + 1) (fun c dp n h => ih c dp n (by omega))
theorem check_c (c : Nat) (n : GNode) (hc : c = 1 ∨ c = 2) (hs : nSize [n] ≤ 2 ^ 30) : PC Try.prog 39 [nat c, nodeA false n] (errA (checkN c 1 n)) := by
  refine PC.of_bodyW (by simp only [push_cast]) Try.func39 rfl (by rw [Try.ntmps39]; simp) ?_
  refine AWp.regionW ?_
  refine AWp.regionM fun K1 hK1 => ?_
  refine ARun2.callM (check_w n.wt c 1 n (Nat.le_refl _) hc (by omega) hs) ?_
  refine ARun2.endm (hK1 _ ?_)
  refine AWp.ret ?_
  try simp only [thenQ, blockQ]
  refine bodyQ.m ?_
  clear hK1 K1
  first | done | exact Hand.go
end Go.Proofs.Ytmcedkcehcacpaa.C
