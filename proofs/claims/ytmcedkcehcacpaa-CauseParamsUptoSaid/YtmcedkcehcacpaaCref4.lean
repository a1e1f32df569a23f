/- The reference: Check, Count, Value, Types. -/
import Derived.Test.YtmcedkcehcacpaaCref3
set_option linter.unusedVariables false
set_option linter.unusedSimpArgs false
namespace Go.Proofs.Ytmcedkcehcacpaa.C
open Go.Abs

theorem form_small (c t : Nat) : (shapeOf c t).kids ≤ 4 ∧ (shapeOf c t).least < 2 ^ 40 ∧ (shapeOf c t).most < 2 ^ 40 ∧ (shapeOf c t).unit < 2 ^ 40 ∧ (shapeHas c t = true → (shapeOf c t).cls = c ∧ 0 < (shapeOf c t).unit) ∧ (shapeHas c t = false → shapeOf c t = zeroForm) := by
  have key : ∀ l : List ShForm, (∀ f ∈ l, f.kids ≤ 4 ∧ f.least < 2 ^ 40 ∧ f.most < 2 ^ 40 ∧ f.unit < 2 ^ 40 ∧ 0 < f.unit) →
      let g := (((l.find? fun f => f.ty == t).map fun f => { f with cls := c }).getD zeroForm)
      g.kids ≤ 4 ∧ g.least < 2 ^ 40 ∧ g.most < 2 ^ 40 ∧ g.unit < 2 ^ 40 ∧ ((l.find? fun f => f.ty == t).isSome = true → g.cls = c ∧ 0 < g.unit) ∧ ((l.find? fun f => f.ty == t).isSome = false → g = zeroForm) := by
    intro l hl
    cases hf : l.find? (fun f => f.ty == t) with
    | none => simp [zeroForm]
    | some f =>
      have := hl f (List.mem_of_find?_eq_some hf)
      simp
      omega
  refine key (formsN c) ?_
  match c with
  | 0 => intro f hf; simp [formsN] at hf
  | 1 => decide
  | 2 => decide
  | _ + 3 => intro f hf; simp [formsN] at hf

theorem counted_eq (c t : Nat) (d : List UInt8) (k : List GNode) (h : badN c t d.length k = false) (hc : c = 2) (ht : t = 2) : (!countedR d) = countedN c t d := by
  subst hc; subst ht
  have hf : fitsN (shapeOf 2 2) d.length = true := by
    unfold badN at h
    have : shapeHas 2 2 = true := rfl
    rw [this] at h
    cases hq : fitsN (shapeOf 2 2) d.length with
    | true => rfl
    | false => rw [hq] at h; simp at h
  have hl : 6 ≤ d.length ∧ (d.length - 6) % 2 = 0 := by
    have e : shapeOf 2 2 = ⟨2, 2, ⟨#[109, 105, 115, 115, 105, 110, 103, 45, 112, 97, 114, 97, 109, 101, 116, 101, 114]⟩, 6, 65531, 2, 0⟩ := rfl
    rw [e] at hf
    unfold fitsN at hf
    simp only [Bool.and_eq_true, decide_eq_true_eq, beq_iff_eq] at hf
    exact ⟨hf.1.1, hf.2⟩
  unfold countedR countedN
  rw [Bool.eq_iff_iff]
  simp
  omega

theorem check08_step (c dp : Nat) (n : GNode) (hc : c = 1 ∨ c = 2) (hdp : dp < 2 ^ 60) (hs : nSize [n] ≤ 2 ^ 30)
    (ih : ∀ (c dp : Nat) (a : GNode), a ∈ n.kids → (c = 1 ∨ c = 2) → dp < 2 ^ 60 → nSize [a] ≤ 2 ^ 30 → PC Try.prog 24 [nat c, nodeA false a, nat dp] (nat (checkN c dp a))) :
    PC Try.prog 24 [nat c, nodeA false n, nat dp] (nat (checkN c dp n)) := by
  have hkl := nSize_len n.kids
  have hk1 := nSize_kids1 n
  have hdl := nSize_data n
  obtain ⟨f1, f2, f3, f4, f5, f6⟩ := form_small c n.ty
  have hcl : (shapeOf c n.ty).cls = if shapeHas c n.ty = true then c else 0 := by
    cases h : shapeHas c n.ty with
    | true => exact (f5 h).1
    | false => rw [f6 h]; rfl
  have hc0 : ((shapeOf c n.ty).cls == 0) = !shapeHas c n.ty := by
    rw [hcl]; cases shapeHas c n.ty <;> simp; omega
  have hc1 : decide (0 < (shapeOf c n.ty).cls) = shapeHas c n.ty := by
    rw [hcl]; cases shapeHas c n.ty <;> simp; omega
  refine PC.of_bodyW (by simp only [push_cast]) Try.func24 rfl (by rw [Try.ntmps24]; simp) ?_
  refine AWp.regionW ?_
  refine AWp.seqK fun K1 hK1 => ?_
  refine AWp.regionW ?_
  refine AWp.condLM (fun c0 => ?_) (fun c0 => ?_)
  · skip
    have h0 : 4 < dp := by simpa using c0
    refine AWp.regionW ?_
    refine AWp.ret ?_
    try simp only [thenQ, blockQ]
    refine bodyQ.m ?_
    clear hK1 K1
    rw [checkN_eq, if_pos h0]
    first | done | exact Hand.go
  · skip
    have h0 : ¬ 4 < dp := by simpa using c0
    refine AWp.skip ?_
    refine hK1 _ ?_
    refine AWp.regionM fun K2 hK2 => ?_
    refine ARun2.callM (of07_c c n.ty hc) ?_
    refine ARun2.endm (hK2 _ ?_)
    refine AWp.seqK fun K3 hK3 => ?_
    refine AWp.regionA fun K4 hK4 => ?_
    refine ARun.segm 4 fun KS hKS => ?_
    refine ARun2.endm (hKS _ ?_); clear hKS KS
    apply ARun.grpM 4 3 true 23 [0, 2, 4, 7, 19]
    · intro g3 KG hKG
      refine ARun2.gom ?_
      exact ARun2.endm (hKG _ Le.grpM)
    refine ARun2.gom ?_
    refine ARun2.endm (hK4 _ ?_)
    refine AWp.condLM (fun c1 => ?_) (fun c1 => ?_)
    · skip
      rw [hc0] at c1
      have hb : badN c n.ty n.data.length n.kids = true := by unfold badN; rw [c1]; rfl
      refine AWp.regionW ?_
      refine AWp.ret ?_
      try simp only [thenQ, blockQ]
      refine bodyQ.m ?_
      clear hK4 K4 hK3 K3 hK2 K2 hK1 K1
      rw [checkN_eq, if_neg h0, if_pos hb]
      first | done | exact Hand.go
    · skip
      rw [hc0] at c1
      refine AWp.skip ?_
      refine hK3 _ ?_
      refine AWp.seqK fun K5 hK5 => ?_
      refine AWp.regionA fun K6 hK6 => ?_
      refine ARun.segm 4 fun KS hKS => ?_
      refine ARun2.endm (hKS _ ?_); clear hKS KS
      apply ARun.grpM 13 3 true 41 [0, 2, 4, 7, 28]
      · intro g3 KG hKG
        rw [hc1] at g3
        refine ARun.segm 7 fun KS hKS => ?_
        refine ARun2.callM (fits07_c (shapeOf c n.ty) n.data.length (by omega) f2 f3 (f5 g3).2 f4) ?_
        refine ARun2.endm (hKS _ ?_); clear hKS KS
        apply ARun.grpM 5 10 false 40 [0, 2, 4, 7, 28, 35]
        · intro g10 KG hKG
          refine ARun2.gom ?_
          refine ARun2.callM (wanted_c (shapeOf c n.ty) n.kids (by omega) f1) ?_
          exact ARun2.endm (hKG _ Le.grpM)
        refine ARun2.gom ?_
        exact ARun2.endm (hKG _ Le.grpM)
      refine ARun2.gom ?_
      refine ARun2.endm (hK6 _ ?_)
      refine AWp.condLM (fun c2 => ?_) (fun c2 => ?_)
      · skip
        rw [hc1] at c2
        have hb : badN c n.ty n.data.length n.kids = true := by
          unfold badN; revert c1 c2
          cases shapeHas c n.ty <;> cases fitsN (shapeOf c n.ty) n.data.length <;> cases kidsOk (shapeOf c n.ty) n.kids <;> simp
        refine AWp.regionW ?_
        refine AWp.ret ?_
        try simp only [thenQ, blockQ]
        refine bodyQ.m ?_
        clear hK6 K6 hK5 K5 hK4 K4 hK3 K3 hK2 K2 hK1 K1
        rw [checkN_eq, if_neg h0, if_pos hb]
        first | done | exact Hand.go
      · skip
        rw [hc1] at c2
        have hb : badN c n.ty n.data.length n.kids = false := by
          unfold badN; revert c1 c2
          cases shapeHas c n.ty <;> cases fitsN (shapeOf c n.ty) n.data.length <;> cases kidsOk (shapeOf c n.ty) n.kids <;> simp
        have hb' : ¬ badN c n.ty n.data.length n.kids = true := by rw [hb]; simp
        refine AWp.skip ?_
        refine hK5 _ ?_
        refine AWp.seqK fun K7 hK7 => ?_
        refine AWp.regionA fun K8 hK8 => ?_
        refine ARun.segm 3 fun KS hKS => ?_
        refine ARun2.endm (hKS _ ?_); clear hKS KS
        apply ARun.grpM 3 2 true 48 [2, 4, 7, 45]
        · intro g2 KG hKG
          refine ARun2.gom ?_
          exact ARun2.endm (hKG _ Le.grpM)
        refine ARun.segm 2 fun KS hKS => ?_
        refine ARun2.endm (hKS _ ?_); clear hKS KS
        apply ARun.grpM 4 7 true 54 [2, 4, 7, 50]
        · intro g7 KG hKG
          refine ARun2.gom ?_
          refine ARun2.callM (counted08_c n.data (by omega)) ?_
          exact ARun2.endm (hKG _ Le.grpM)
        refine ARun2.gom ?_
        refine ARun2.endm (hK8 _ ?_)
        refine AWp.condLM (fun c3 => ?_) (fun c3 => ?_)
        · skip
          have h3 : countedN c n.ty n.data = true := by
            simp only [Bool.and_eq_true, beq_iff_eq] at c3
            rw [← counted_eq c n.ty n.data n.kids hb c3.1.1 c3.1.2]; exact c3.2
          refine AWp.regionW ?_
          refine AWp.ret ?_
          try simp only [thenQ, blockQ]
          refine bodyQ.m ?_
          clear hK8 K8 hK7 K7 hK6 K6 hK5 K5 hK4 K4 hK3 K3 hK2 K2 hK1 K1
          rw [checkN_eq, if_neg h0, if_neg hb', if_pos h3]
          first | done | exact Hand.go
        · skip
          have h3 : ¬ countedN c n.ty n.data = true := by
            intro h3
            have e : c = 2 ∧ n.ty = 2 := by unfold countedN at h3; simp only [Bool.and_eq_true, beq_iff_eq] at h3; exact ⟨h3.1, h3.2.1⟩
            rw [← counted_eq c n.ty n.data n.kids hb e.1 e.2] at h3
            rw [e.1, e.2, h3] at c3
            simp at c3
          refine AWp.skip ?_
          refine hK7 _ ?_
          refine AWp.seqK fun K9 hK9 => ?_
          refine AWp.regionW ?_
          refine AWp.block ?_
          refine AWp.loopK0 [2, 4, 7] (fun (i : Nat) => [(8, nat i)]) (fun i => i ≤ n.kids.length ∧ checkL (insideN (shapeOf c n.ty).kids).1 (dp + 1) (n.kids.take i) = 0) (fun i => n.kids.length - i) (0) ?_ ⟨Nat.zero_le _, rfl⟩ ?_
          · skip
            refine Le.m 2 ?_ ?_
            · first | with_reducible rfl | (simp only [push_cast, reduceIte, Nat.reduceEqDiff, Nat.reduceLT, Nat.reduceAdd, Nat.reduceSub, Nat.reduceMul, Nat.reduceLeDiff, Nat.reducePow, Int.reduceLT, Int.reduceToNat, reduceCtorEq, Int.reduceNeg, Int.reduceEq, Nat.reduceBEq, Nat.reduceBNe, Int.reduceBEq, Int.reduceBNe, String.reduceEq]; first | done | rfl | (simp (disch := omega) only [w_nat, w_add, w_addl, w_addr, w_sub, w_subl, w_mul, w_mull, w_mulr, w_u32, w_u16, w_u8, w_u32a, N_zero]; first | done | rfl))
            · first | (simp only [push_cast, reduceIte, Nat.reduceEqDiff, Nat.reduceLT, Nat.reduceAdd, Nat.reduceSub, Nat.reduceMul, Nat.reduceLeDiff, Nat.reducePow, Int.reduceLT, Int.reduceToNat, reduceCtorEq, Int.reduceNeg, Int.reduceEq, Nat.reduceBEq, Nat.reduceBNe, Int.reduceBEq, Int.reduceBNe, String.reduceEq]; first | done | rfl | (simp (disch := omega) only [w_nat, w_add, w_addl, w_addr, w_sub, w_subl, w_mul, w_mull, w_mulr, w_u32, w_u16, w_u8, w_u32a, N_zero]; first | done | rfl))
          · intro i hi K10 hK10
            refine AWp.seqK fun K11 hK11 => ?_
            refine AWp.regionW ?_
            refine AWp.condLM (fun c4 => ?_) (fun c4 => ?_)
            · skip
              have hil : i < n.kids.length := by simpa using c4
              have hm := List.getElem_mem hil
              have hci := inside_class c n.ty n.data.length n.kids hb (by omega)
              refine AWp.skip ?_
              refine hK11 _ ?_
              refine AWp.seqK fun K12 hK12 => ?_
              refine AWp.block ?_
              refine AWp.drS [[(7, none)], [(63, some 0)], [(64, some 1)], [(4, none)], [(66, some 3)], [(8, none)], [(67, some 4), (68, some 5)], [(69, some 6)], [(2, none)], [(71, some 8)], [(65, some 2), (70, some 7), (72, some 9)], [(73, some 10)]] fun G hG => ?_
              refine Dr.sim ?_
              try simp only [List.cons_append, List.nil_append]
              refine Dr.sim ?_
              try simp only [List.cons_append, List.nil_append]
              refine Dr.call (inside08_c (shapeOf c n.ty).kids f1) ?_
              try simp only [List.cons_append, List.nil_append]
              refine Dr.sim ?_
              try simp only [List.cons_append, List.nil_append]
              refine Dr.sim ?_
              try simp only [List.cons_append, List.nil_append]
              refine Dr.sim ?_
              try simp only [List.cons_append, List.nil_append]
              refine Dr.idx (i) (nodeA false n.kids[i]) ?_ ?_
              · exact nodesA_at _ _ _ hil
              try simp only [List.cons_append, List.nil_append]
              refine Dr.sim ?_
              try simp only [List.cons_append, List.nil_append]
              refine Dr.sim ?_
              try simp only [List.cons_append, List.nil_append]
              refine Dr.sim ?_
              try simp only [List.cons_append, List.nil_append]
              refine Dr.call (ih (insideN (shapeOf c n.ty).kids).1 (dp + 1) n.kids[i] hm hci (by omega) (by have := nSize_one hm; omega)) ?_
              try simp only [List.cons_append, List.nil_append]
              refine Dr.sim ?_
              try simp only [List.cons_append, List.nil_append]
              refine Dr.finM (n := 12) [(9, 11)] [2, 4, 7, 8] hG Ytmcedkcehcacpaa.Facts.mixed fun KD hKD => ?_
              refine ARun2.endm (hKD _ ?_); clear hKD KD hG G
              refine AWp.regionW ?_
              refine AWp.condLM (fun c5 => ?_) (fun c5 => ?_)
              · skip
                have h5 : checkN (insideN (shapeOf c n.ty).kids).1 (dp + 1) n.kids[i] ≠ 0 := by simpa using c5
                refine AWp.regionW ?_
                refine AWp.ret ?_
                try simp only [thenQ, blockQ]
                refine bodyQ.m ?_
                clear hK12 K12 hK11 K11 hK10 K10 hK9 K9 hK8 K8 hK7 K7 hK6 K6 hK5 K5 hK4 K4 hK3 K3 hK2 K2 hK1 K1
                have hL := checkL_at _ _ n.kids i hil hi.2 h5
                rw [checkN_eq c dp n, if_neg h0, if_neg hb', if_neg h3, if_pos (by rw [hL]; exact h5), hL]
                first | done | exact Hand.go
              · skip
                have h5 : checkN (insideN (shapeOf c n.ty).kids).1 (dp + 1) n.kids[i] = 0 := by simpa using c5
                refine AWp.skip ?_
                refine hK12 _ ?_
                refine AWp.regionV ?_
                refine hK10 _ (i + 1) (⟨by omega, by rw [List.take_succ_eq_append_getElem hil, checkL_snoc, hi.2]; simpa using h5⟩) (by omega) ?_
                refine Le.m 2 ?_ ?_
                · first | with_reducible rfl | (simp only [push_cast, reduceIte, Nat.reduceEqDiff, Nat.reduceLT, Nat.reduceAdd, Nat.reduceSub, Nat.reduceMul, Nat.reduceLeDiff, Nat.reducePow, Int.reduceLT, Int.reduceToNat, reduceCtorEq, Int.reduceNeg, Int.reduceEq, Nat.reduceBEq, Nat.reduceBNe, Int.reduceBEq, Int.reduceBNe, String.reduceEq]; first | done | rfl | (simp (disch := omega) only [w_nat, w_add, w_addl, w_addr, w_sub, w_subl, w_mul, w_mull, w_mulr, w_u32, w_u16, w_u8, w_u32a, N_zero]; first | done | rfl))
                · first | (simp only [push_cast, reduceIte, Nat.reduceEqDiff, Nat.reduceLT, Nat.reduceAdd, Nat.reduceSub, Nat.reduceMul, Nat.reduceLeDiff, Nat.reducePow, Int.reduceLT, Int.reduceToNat, reduceCtorEq, Int.reduceNeg, Int.reduceEq, Nat.reduceBEq, Nat.reduceBNe, Int.reduceBEq, Int.reduceBNe, String.reduceEq]; first | done | rfl | (simp (disch := omega) only [w_nat, w_add, w_addl, w_addr, w_sub, w_subl, w_mul, w_mull, w_mulr, w_u32, w_u16, w_u8, w_u32a, N_zero]; first | done | rfl))
            · skip
              have hil : i = n.kids.length := by have := hi.1; simp at c4; omega
              have hL : checkL (insideN (shapeOf c n.ty).kids).1 (dp + 1) n.kids = 0 := by have := hi.2; rwa [hil, List.take_length] at this
              subst hil
              refine AWp.exit ?_
              simp only [thenQ, blockQ, reduceIte, Nat.reduceEqDiff]
              refine hK9 _ ?_
              refine AWp.seqK fun K13 hK13 => ?_
              refine AWp.regionM fun K14 hK14 => ?_
              refine ARun2.callM (size08_c [n] hs) ?_
              refine ARun2.endm (hK14 _ ?_)
              refine AWp.condLM (fun c6 => ?_) (fun c6 => ?_)
              · skip
                have h6 : 65535 < nSize [n] := by simpa using c6
                refine AWp.regionW ?_
                refine AWp.ret ?_
                try simp only [thenQ, blockQ]
                refine bodyQ.m ?_
                clear hK14 K14 hK13 K13 hK11 K11 hK10 K10 hK9 K9 hK8 K8 hK7 K7 hK6 K6 hK5 K5 hK4 K4 hK3 K3 hK2 K2 hK1 K1
                rw [checkN_eq, if_neg h0, if_neg hb', if_neg h3, if_neg (by rw [hL]; simp), if_pos h6]
                first | done | exact Hand.go
              · skip
                have h6 : ¬ 65535 < nSize [n] := by simpa using c6
                refine AWp.skip ?_
                refine hK13 _ ?_
                refine AWp.regionW ?_
                refine AWp.ret ?_
                try simp only [thenQ, blockQ]
                refine bodyQ.m ?_
                clear hK14 K14 hK13 K13 hK11 K11 hK10 K10 hK9 K9 hK8 K8 hK7 K7 hK6 K6 hK5 K5 hK4 K4 hK3 K3 hK2 K2 hK1 K1
                rw [checkN_eq, if_neg h0, if_neg hb', if_neg h3, if_neg (by rw [hL]; simp), if_neg h6]
                first | done | exact Hand.go
theorem check08_w : ∀ (w c dp : Nat) (n : GNode), n.sz ≤ w → (c = 1 ∨ c = 2) → dp < 2 ^ 60 → nSize [n] ≤ 2 ^ 30 → PC Try.prog 24 [nat c, nodeA false n, nat dp] (nat (checkN c dp n)) := by
  intro w
  induction w with
  | zero => intro c dp n h; have := n.sz_eq; omega
  | succ w ih => exact fun c dp n hw hc hdp hs => check08_step c dp n hc hdp hs (fun c dp a ha hc hdp hs => ih c dp a (by have := szs_lt ha; omega) hc hdp hs)
theorem check08_c (c dp : Nat) (n : GNode) (hc : c = 1 ∨ c = 2) (hdp : dp < 2 ^ 60) (hs : nSize [n] ≤ 2 ^ 30) : PC Try.prog 24 [nat c, nodeA false n, nat dp] (nat (checkN c dp n)) := check08_w _ c dp n (Nat.le_refl _) hc hdp hs
end Go.Proofs.Ytmcedkcehcacpaa.C
