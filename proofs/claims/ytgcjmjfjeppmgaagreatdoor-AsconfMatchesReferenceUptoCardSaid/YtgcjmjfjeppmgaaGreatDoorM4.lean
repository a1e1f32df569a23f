/- The reference: Check, Count, Value, Types. -/
import Derived.Test.YtgcjmjfjeppmgaaGreatDoorM3
import Derived.Laws.StructEq
import Derived.ChangeKeysEq
import Derived.Lib.BytesEntry
set_option linter.unusedVariables false
set_option linter.unusedSimpArgs false
namespace Go.Proofs.YtgcjmjfjeppmgaaGreatDoor.C
open Go.Abs
theorem form_small (c t : Nat) : (shapeOf c t).kids ≤ 4 ∧ (shapeOf c t).least < 2 ^ 40 ∧ (shapeOf c t).most < 2 ^ 40 ∧ (shapeOf c t).unit < 2 ^ 40 ∧ (shapeHas c t = true → (shapeOf c t).cls = c ∧ 0 < (shapeOf c t).unit) ∧ (shapeHas c t = false → shapeOf c t = zeroForm) := by
  have key : ∀ l : List ShForm, (∀ f ∈ l, f.kids ≤ 4 ∧ f.least < 2 ^ 40 ∧ f.most < 2 ^ 40 ∧ f.unit < 2 ^ 40 ∧ 0 < f.unit) →
      let g := (((l.find? fun f => f.ty == t).map fun f => { f with cls := c }).getD zeroForm)
      g.kids ≤ 4 ∧ g.least < 2 ^ 40 ∧ g.most < 2 ^ 40 ∧ g.unit < 2 ^ 40 ∧ ((l.find? fun f => f.ty == t).isSome = true → g.cls = c ∧ 0 < g.unit) ∧ ((l.find? fun f => f.ty == t).isSome = false → g = zeroForm) := by
    intro l hl
    cases hf : l.find? (fun f => f.ty == t) with
    | none => simp [zeroForm]
    | some f =>
      have := hl f (List.mem_of_find?_eq_some hf)
      simp
      omega
  refine key (formsN c) ?_
  match c with
  | 0 => intro f hf; simp [formsN] at hf
  | 1 => decide
  | 2 => decide
  | _ + 3 => intro f hf; simp [formsN] at hf
theorem counted_eq (c t : Nat) (d : List UInt8) (k : List GNode) (h : badN c t d.length k = false) (hc : c = 2) (ht : t = 2) : (!countedR d) = countedN c t d := by
  subst hc; subst ht
  have hf : fitsN (shapeOf 2 2) d.length = true := by
    unfold badN at h
    have : shapeHas 2 2 = true := rfl
    rw [this] at h
    cases hq : fitsN (shapeOf 2 2) d.length with
    | true => rfl
    | false => rw [hq] at h; simp at h
  have hl : 6 ≤ d.length ∧ (d.length - 6) % 2 = 0 := by
    have e : shapeOf 2 2 = ⟨2, 2, ⟨#[109, 105, 115, 115, 105, 110, 103, 45, 112, 97, 114, 97, 109, 101, 116, 101, 114]⟩, 6, 65531, 2, 0⟩ := rfl
    rw [e] at hf
    unfold fitsN at hf
    simp only [Bool.and_eq_true, decide_eq_true_eq, beq_iff_eq] at hf
    exact ⟨hf.1.1, hf.2⟩
  unfold countedR countedN
  rw [Bool.eq_iff_iff]
  simp
  omega
theorem check08_step (c dp : Nat) (n : GNode) (hc : c = 1 ∨ c = 2) (hdp : dp < 2 ^ 60) (hs : nSize [n] ≤ 2 ^ 30)
    (ih : ∀ (c dp : Nat) (a : GNode), a ∈ n.kids → (c = 1 ∨ c = 2) → dp < 2 ^ 60 → nSize [a] ≤ 2 ^ 30 → PC Tryz.prog 81 [nat c, nodeA false a, nat dp] (nat (checkN c dp a))) :
    PC Tryz.prog 81 [nat c, nodeA false n, nat dp] (nat (checkN c dp n)) := by
  have hkl := nSize_len n.kids
  have hk1 := nSize_kids1 n
  have hdl := nSize_data n
  obtain ⟨f1, f2, f3, f4, f5, f6⟩ := form_small c n.ty
  have hcl : (shapeOf c n.ty).cls = if shapeHas c n.ty = true then c else 0 := by
    cases h : shapeHas c n.ty with
    | true => exact (f5 h).1
    | false => rw [f6 h]; rfl
  have hc0 : ((shapeOf c n.ty).cls == 0) = !shapeHas c n.ty := by
    rw [hcl]; cases shapeHas c n.ty <;> simp; omega
  have hc1 : decide (0 < (shapeOf c n.ty).cls) = shapeHas c n.ty := by
    rw [hcl]; cases shapeHas c n.ty <;> simp; omega
  refine PC.of_bodyW (by simp only [push_cast]) Tryz.func81 rfl (by rw [Tryz.ntmps81]; simp) ?_
  refine AWp.regionW ?_
  refine AWp.seqK fun K1 hK1 => ?_
  refine AWp.regionW ?_
  refine AWp.condLM (fun c0 => ?_) (fun c0 => ?_)
  · skip
    have h0 : 4 < dp := by simpa using c0
    refine AWp.regionW ?_
    refine AWp.ret ?_
    try simp only [thenQ, blockQ, noGo]
    refine bodyQ.m ?_
    clear hK1 K1
    rw [checkN_eq, if_pos h0]
    first | done | exact Hand.go
  · skip
    have h0 : ¬ 4 < dp := by simpa using c0
    refine AWp.skip ?_
    refine hK1 _ ?_
    refine AWp.regionM fun K2 hK2 => ?_
    refine ARun2.callM (of07_c c n.ty hc) ?_
    refine ARun2.endm (hK2 _ ?_)
    refine AWp.seqK fun K3 hK3 => ?_
    refine AWp.regionA fun K4 hK4 => ?_
    refine ARun.segm 4 fun KS hKS => ?_
    refine ARun2.endm (hKS _ ?_); clear hKS KS
    apply ARun.grpM 4 3 true 23 [0, 2, 4, 7, 19]
    · intro g3 KG hKG
      refine ARun2.gom ?_
      exact ARun2.endm (hKG _ Le.grpM)
    refine ARun2.gom ?_
    refine ARun2.endm (hK4 _ ?_)
    refine AWp.condLM (fun c1 => ?_) (fun c1 => ?_)
    · skip
      rw [hc0] at c1
      have hb : badN c n.ty n.data.length n.kids = true := by unfold badN; rw [c1]; rfl
      refine AWp.regionW ?_
      refine AWp.ret ?_
      try simp only [thenQ, blockQ, noGo]
      refine bodyQ.m ?_
      clear hK4 K4 hK3 K3 hK2 K2 hK1 K1
      rw [checkN_eq, if_neg h0, if_pos hb]
      first | done | exact Hand.go
    · skip
      rw [hc0] at c1
      refine AWp.skip ?_
      refine hK3 _ ?_
      refine AWp.seqK fun K5 hK5 => ?_
      refine AWp.regionA fun K6 hK6 => ?_
      refine ARun.segm 4 fun KS hKS => ?_
      refine ARun2.endm (hKS _ ?_); clear hKS KS
      apply ARun.grpM 13 3 true 41 [0, 2, 4, 7, 28]
      · intro g3 KG hKG
        rw [hc1] at g3
        refine ARun.segm 7 fun KS hKS => ?_
        refine ARun2.callM (fits07_c (shapeOf c n.ty) n.data.length (by omega) f2 f3 (f5 g3).2 f4) ?_
        refine ARun2.endm (hKS _ ?_); clear hKS KS
        apply ARun.grpM 5 10 false 40 [0, 2, 4, 7, 28, 35]
        · intro g10 KG hKG
          refine ARun2.gom ?_
          refine ARun2.callM (wanted_c (shapeOf c n.ty) n.kids (by omega) f1) ?_
          exact ARun2.endm (hKG _ Le.grpM)
        refine ARun2.gom ?_
        exact ARun2.endm (hKG _ Le.grpM)
      refine ARun2.gom ?_
      refine ARun2.endm (hK6 _ ?_)
      refine AWp.condLM (fun c2 => ?_) (fun c2 => ?_)
      · skip
        rw [hc1] at c2
        have hb : badN c n.ty n.data.length n.kids = true := by
          unfold badN; revert c1 c2
          cases shapeHas c n.ty <;> cases fitsN (shapeOf c n.ty) n.data.length <;> cases kidsOk (shapeOf c n.ty) n.kids <;> simp
        refine AWp.regionW ?_
        refine AWp.ret ?_
        try simp only [thenQ, blockQ, noGo]
        refine bodyQ.m ?_
        clear hK6 K6 hK5 K5 hK4 K4 hK3 K3 hK2 K2 hK1 K1
        rw [checkN_eq, if_neg h0, if_pos hb]
        first | done | exact Hand.go
      · skip
        rw [hc1] at c2
        have hb : badN c n.ty n.data.length n.kids = false := by
          unfold badN; revert c1 c2
          cases shapeHas c n.ty <;> cases fitsN (shapeOf c n.ty) n.data.length <;> cases kidsOk (shapeOf c n.ty) n.kids <;> simp
        have hb' : ¬ badN c n.ty n.data.length n.kids = true := by rw [hb]; simp
        refine AWp.skip ?_
        refine hK5 _ ?_
        refine AWp.seqK fun K7 hK7 => ?_
        refine AWp.regionA fun K8 hK8 => ?_
        refine ARun.segm 3 fun KS hKS => ?_
        refine ARun2.endm (hKS _ ?_); clear hKS KS
        apply ARun.grpM 3 2 true 48 [2, 4, 7, 45]
        · intro g2 KG hKG
          refine ARun2.gom ?_
          exact ARun2.endm (hKG _ Le.grpM)
        refine ARun.segm 2 fun KS hKS => ?_
        refine ARun2.endm (hKS _ ?_); clear hKS KS
        apply ARun.grpM 4 7 true 54 [2, 4, 7, 50]
        · intro g7 KG hKG
          refine ARun2.gom ?_
          refine ARun2.callM (counted08_c n.data (by omega)) ?_
          exact ARun2.endm (hKG _ Le.grpM)
        refine ARun2.gom ?_
        refine ARun2.endm (hK8 _ ?_)
        refine AWp.condLM (fun c3 => ?_) (fun c3 => ?_)
        · skip
          have h3 : countedN c n.ty n.data = true := by
            simp only [Bool.and_eq_true, beq_iff_eq] at c3
            rw [← counted_eq c n.ty n.data n.kids hb c3.1.1 c3.1.2]; exact c3.2
          refine AWp.regionW ?_
          refine AWp.ret ?_
          try simp only [thenQ, blockQ, noGo]
          refine bodyQ.m ?_
          clear hK8 K8 hK7 K7 hK6 K6 hK5 K5 hK4 K4 hK3 K3 hK2 K2 hK1 K1
          rw [checkN_eq, if_neg h0, if_neg hb', if_pos h3]
          first | done | exact Hand.go
        · skip
          have h3 : ¬ countedN c n.ty n.data = true := by
            intro h3
            have e : c = 2 ∧ n.ty = 2 := by unfold countedN at h3; simp only [Bool.and_eq_true, beq_iff_eq] at h3; exact ⟨h3.1, h3.2.1⟩
            rw [← counted_eq c n.ty n.data n.kids hb e.1 e.2] at h3
            rw [e.1, e.2, h3] at c3
            simp at c3
          refine AWp.skip ?_
          refine hK7 _ ?_
          refine AWp.seqK fun K9 hK9 => ?_
          refine AWp.regionW ?_
          refine AWp.block ?_
          refine AWp.loopK0 [2, 4, 7] (fun (i : Nat) => [(8, nat i)]) (fun i => i ≤ n.kids.length ∧ checkL (insideN (shapeOf c n.ty).kids).1 (dp + 1) (n.kids.take i) = 0) (fun i => n.kids.length - i) (0) ?_ ⟨Nat.zero_le _, rfl⟩ ?_
          · skip
            refine Le.m 2 ?_ ?_
            · first | with_reducible rfl | (simp only [push_cast, ↓reduceIte, Nat.reduceEqDiff, Nat.reduceLT, Nat.reduceAdd, Nat.reduceSub, Nat.reduceMul, Nat.reduceLeDiff, Nat.reducePow, Int.reduceLT, Int.reduceToNat, reduceCtorEq, Int.reduceNeg, Int.reduceEq, Nat.reduceBEq, Nat.reduceBNe, Int.reduceBEq, Int.reduceBNe, String.reduceEq]; first | done | rfl | (simp (disch := omega) only [w_nat, w_add, w_addl, w_addr, w_sub, w_subl, w_mul, w_mull, w_mulr, w_u32, w_u16, w_u8, w_u32a, N_zero]; first | done | rfl))
            · first | (simp only [push_cast, ↓reduceIte, Nat.reduceEqDiff, Nat.reduceLT, Nat.reduceAdd, Nat.reduceSub, Nat.reduceMul, Nat.reduceLeDiff, Nat.reducePow, Int.reduceLT, Int.reduceToNat, reduceCtorEq, Int.reduceNeg, Int.reduceEq, Nat.reduceBEq, Nat.reduceBNe, Int.reduceBEq, Int.reduceBNe, String.reduceEq]; first | done | rfl | (simp (disch := omega) only [w_nat, w_add, w_addl, w_addr, w_sub, w_subl, w_mul, w_mull, w_mulr, w_u32, w_u16, w_u8, w_u32a, N_zero]; first | done | rfl))
          · intro i hi K10 hK10
            refine AWp.seqK fun K11 hK11 => ?_
            refine AWp.regionW ?_
            refine AWp.condLM (fun c4 => ?_) (fun c4 => ?_)
            · skip
              have hil : i < n.kids.length := by simpa using c4
              have hm := List.getElem_mem hil
              have hci := inside_class c n.ty n.data.length n.kids hb (by omega)
              refine AWp.skip ?_
              refine hK11 _ ?_
              refine AWp.seqK fun K12 hK12 => ?_
              refine AWp.block ?_
              refine AWp.drS [[(7, none)], [(63, some 0)], [(64, some 1)], [(4, none)], [(66, some 3)], [(8, none)], [(67, some 4), (68, some 5)], [(69, some 6)], [(2, none)], [(71, some 8)], [(65, some 2), (70, some 7), (72, some 9)], [(73, some 10)]] fun G hG => ?_
              refine Dr.sim ?_
              try simp only [List.cons_append, List.nil_append]
              refine Dr.sim ?_
              try simp only [List.cons_append, List.nil_append]
              refine Dr.call (inside08_c (shapeOf c n.ty).kids f1) ?_
              try simp only [List.cons_append, List.nil_append]
              refine Dr.sim ?_
              try simp only [List.cons_append, List.nil_append]
              refine Dr.sim ?_
              try simp only [List.cons_append, List.nil_append]
              refine Dr.sim ?_
              try simp only [List.cons_append, List.nil_append]
              refine Dr.idx (i) (nodeA false n.kids[i]) ?_ ?_
              · exact nodesA_at _ _ _ hil
              try simp only [List.cons_append, List.nil_append]
              refine Dr.sim ?_
              try simp only [List.cons_append, List.nil_append]
              refine Dr.sim ?_
              try simp only [List.cons_append, List.nil_append]
              refine Dr.sim ?_
              try simp only [List.cons_append, List.nil_append]
              refine Dr.call (ih (insideN (shapeOf c n.ty).kids).1 (dp + 1) n.kids[i] hm hci (by omega) (by have := nSize_one hm; omega)) ?_
              try simp only [List.cons_append, List.nil_append]
              refine Dr.sim ?_
              try simp only [List.cons_append, List.nil_append]
              refine Dr.finM (n := 12) [(9, 11)] [2, 4, 7, 8] hG YtgcjmjfjeppmgaaGreatDoor.Facts.mixed fun KD hKD => ?_
              refine ARun2.endm (hKD _ ?_); clear hKD KD hG G
              refine AWp.regionW ?_
              refine AWp.condLM (fun c5 => ?_) (fun c5 => ?_)
              · skip
                have h5 : checkN (insideN (shapeOf c n.ty).kids).1 (dp + 1) n.kids[i] ≠ 0 := by simpa using c5
                refine AWp.regionW ?_
                refine AWp.ret ?_
                try simp only [thenQ, blockQ, noGo]
                refine bodyQ.m ?_
                clear hK12 K12 hK11 K11 hK10 K10 hK9 K9 hK8 K8 hK7 K7 hK6 K6 hK5 K5 hK4 K4 hK3 K3 hK2 K2 hK1 K1
                have hL := checkL_at _ _ n.kids i hil hi.2 h5
                rw [checkN_eq c dp n, if_neg h0, if_neg hb', if_neg h3, if_pos (by rw [hL]; exact h5), hL]
                first | done | exact Hand.go
              · skip
                have h5 : checkN (insideN (shapeOf c n.ty).kids).1 (dp + 1) n.kids[i] = 0 := by simpa using c5
                refine AWp.skip ?_
                refine hK12 _ ?_
                refine AWp.regionV ?_
                refine hK10 _ (i + 1) (⟨by omega, by rw [List.take_succ_eq_append_getElem hil, checkL_snoc, hi.2]; simpa using h5⟩) (by omega) ?_
                refine Le.m 2 ?_ ?_
                · first | with_reducible rfl | (simp only [push_cast, ↓reduceIte, Nat.reduceEqDiff, Nat.reduceLT, Nat.reduceAdd, Nat.reduceSub, Nat.reduceMul, Nat.reduceLeDiff, Nat.reducePow, Int.reduceLT, Int.reduceToNat, reduceCtorEq, Int.reduceNeg, Int.reduceEq, Nat.reduceBEq, Nat.reduceBNe, Int.reduceBEq, Int.reduceBNe, String.reduceEq]; first | done | rfl | (simp (disch := omega) only [w_nat, w_add, w_addl, w_addr, w_sub, w_subl, w_mul, w_mull, w_mulr, w_u32, w_u16, w_u8, w_u32a, N_zero]; first | done | rfl))
                · first | (simp only [push_cast, ↓reduceIte, Nat.reduceEqDiff, Nat.reduceLT, Nat.reduceAdd, Nat.reduceSub, Nat.reduceMul, Nat.reduceLeDiff, Nat.reducePow, Int.reduceLT, Int.reduceToNat, reduceCtorEq, Int.reduceNeg, Int.reduceEq, Nat.reduceBEq, Nat.reduceBNe, Int.reduceBEq, Int.reduceBNe, String.reduceEq]; first | done | rfl | (simp (disch := omega) only [w_nat, w_add, w_addl, w_addr, w_sub, w_subl, w_mul, w_mull, w_mulr, w_u32, w_u16, w_u8, w_u32a, N_zero]; first | done | rfl))
            · skip
              have hil : i = n.kids.length := by have := hi.1; simp at c4; omega
              have hL : checkL (insideN (shapeOf c n.ty).kids).1 (dp + 1) n.kids = 0 := by have := hi.2; rwa [hil, List.take_length] at this
              subst hil
              refine AWp.exit ?_
              try simp only [thenQ, blockQ, noGo, reduceIte, Nat.reduceEqDiff]
              refine hK9 _ ?_
              refine AWp.seqK fun K13 hK13 => ?_
              refine AWp.regionM fun K14 hK14 => ?_
              refine ARun2.callM (size08_c [n] hs) ?_
              refine ARun2.endm (hK14 _ ?_)
              refine AWp.condLM (fun c6 => ?_) (fun c6 => ?_)
              · skip
                have h6 : 65535 < nSize [n] := by simpa using c6
                refine AWp.regionW ?_
                refine AWp.ret ?_
                try simp only [thenQ, blockQ, noGo]
                refine bodyQ.m ?_
                clear hK14 K14 hK13 K13 hK11 K11 hK10 K10 hK9 K9 hK8 K8 hK7 K7 hK6 K6 hK5 K5 hK4 K4 hK3 K3 hK2 K2 hK1 K1
                rw [checkN_eq, if_neg h0, if_neg hb', if_neg h3, if_neg (by rw [hL]; simp), if_pos h6]
                first | done | exact Hand.go
              · skip
                have h6 : ¬ 65535 < nSize [n] := by simpa using c6
                refine AWp.skip ?_
                refine hK13 _ ?_
                refine AWp.regionW ?_
                refine AWp.ret ?_
                try simp only [thenQ, blockQ, noGo]
                refine bodyQ.m ?_
                clear hK14 K14 hK13 K13 hK11 K11 hK10 K10 hK9 K9 hK8 K8 hK7 K7 hK6 K6 hK5 K5 hK4 K4 hK3 K3 hK2 K2 hK1 K1
                rw [checkN_eq, if_neg h0, if_neg hb', if_neg h3, if_neg (by rw [hL]; simp), if_neg h6]
                first | done | exact Hand.go
theorem check08_w : ∀ (w c dp : Nat) (n : GNode), n.sz ≤ w → (c = 1 ∨ c = 2) → dp < 2 ^ 60 → nSize [n] ≤ 2 ^ 30 → PC Tryz.prog 81 [nat c, nodeA false n, nat dp] (nat (checkN c dp n)) := by
  intro w
  induction w with
  | zero => intro c dp n h; have := n.sz_eq; omega
  | succ w ih => exact fun c dp n hw hc hdp hs => check08_step c dp n hc hdp hs (fun c dp a ha hc hdp hs => ih c dp a (by have := szs_lt ha; omega) hc hdp hs)
theorem check08_c (c dp : Nat) (n : GNode) (hc : c = 1 ∨ c = 2) (hdp : dp < 2 ^ 60) (hs : nSize [n] ≤ 2 ^ 30) : PC Tryz.prog 81 [nat c, nodeA false n, nat dp] (nat (checkN c dp n)) := check08_w _ c dp n (Nat.le_refl _) hc hdp hs
end Go.Proofs.YtgcjmjfjeppmgaaGreatDoor.C
/- The reference: Count, Few, Value, Types. -/
set_option linter.unusedVariables false
set_option linter.unusedSimpArgs false
namespace Go.Proofs.YtgcjmjfjeppmgaaGreatDoor.C
open Go.Abs
/-- the loop of Count -/
def cntL (g : GNode → Nat) : List GNode → Nat → Nat
  | [], s => s
  | n :: l, s => if s < 1000 then cntL g l (s + 1 + n.data.length / 1000 + g n) else s
/-- how many nodes there are, up to a bound; f: how much deeper it may go -/
def countF : Nat → List GNode → Nat
  | 0, _ => 1000
  | f + 1, l => cntL (fun n => countF f n.kids) l 0
theorem cntL_le (g : GNode → Nat) (hg : ∀ n, g n ≤ 1000 + 2000 * szs n.kids) : ∀ (l : List GNode) (s : Nat), cntL g l s ≤ s + 2000 * szs l
  | [], s => by simp [cntL, szs]
  | n :: l, s => by
    have h1 := n.sz_eq
    have h2 := hg n
    have h3 := cntL_le g hg l (s + 1 + n.data.length / 1000 + g n)
    simp only [cntL, szs]
    split <;> omega
theorem countF_le : ∀ (f : Nat) (l : List GNode), countF f l ≤ 1000 + 2000 * szs l
  | 0, l => by simp [countF]
  | f + 1, l => by
    have := cntL_le (fun n => countF f n.kids) (fun n => countF_le f n.kids) l 0
    simp only [countF]; omega
theorem szs_take (l : List GNode) (i : Nat) (h : i < l.length) : szs (l.take (i + 1)) = szs (l.take i) + l[i].sz := by
  rw [List.take_succ_eq_append_getElem h]
  generalize l.take i = a
  induction a with
  | nil => simp [szs]
  | cons x a ih => simp only [List.cons_append, szs, ih]; omega
theorem count_step (f dp : Nat) (hf : f + dp = 21) (l : List GNode) (hs : szs l ≤ 2 ^ 30) (ih : ∀ a ∈ l, 0 < f → PC Tryz.prog 76 [.sl false 3 (nodesA false a.kids), nat (dp + 1)] (nat (countF (f - 1) a.kids))) :
    PC Tryz.prog 76 [.sl false 3 (nodesA false l), nat dp] (nat (countF f l)) := by
  have hlen := szs_len l
  refine PC.of_bodyW (by simp only [push_cast]) Tryz.func76 rfl (by rw [Tryz.ntmps76]; simp) ?_
  refine AWp.regionW ?_
  refine AWp.regionW ?_
  refine AWp.seqK fun K1 hK1 => ?_
  refine AWp.regionW ?_
  refine AWp.condLM (fun c0 => ?_) (fun c0 => ?_)
  · skip
    have h0 : f = 0 := by have := of_decide_eq_true c0; omega
    refine AWp.regionW ?_
    refine AWp.ret ?_
    try simp only [thenQ, blockQ, noGo]
    refine bodyQ.m ?_
    clear hK1 K1
    rw [h0, countF]
    first | done | exact Hand.go
  · skip
    obtain ⟨e, rfl⟩ : ∃ e, f = e + 1 := ⟨f - 1, by have : ¬ 20 < dp := of_decide_eq_false c0; omega⟩
    rw [Nat.add_sub_cancel] at ih
    have hq : countF (e + 1) l = cntL (fun n => countF e n.kids) l 0 := rfl
    refine AWp.skip ?_
    refine hK1 _ ?_
    refine AWp.seqK fun K2 hK2 => ?_
    refine AWp.regionW ?_
    refine AWp.block ?_
    refine AWp.loopK0 [0, 1] (fun (x : Nat × Nat) => [(6, nat x.1), (5, nat x.2)]) (fun x => x.1 ≤ l.length ∧ cntL (fun n => countF e n.kids) (l.drop x.1) x.2 = countF (e + 1) l ∧ x.2 ≤ 2000 * szs (l.take x.1)) (fun x => l.length - x.1) ((0, 0)) ?_ ⟨Nat.zero_le _, rfl, Nat.zero_le _⟩ ?_
    · skip
      refine Le.m 0 ?_ ?_
      · first | with_reducible rfl | (simp only [push_cast, ↓reduceIte, Nat.reduceEqDiff, Nat.reduceLT, Nat.reduceAdd, Nat.reduceSub, Nat.reduceMul, Nat.reduceLeDiff, Nat.reducePow, Int.reduceLT, Int.reduceToNat, reduceCtorEq, Int.reduceNeg, Int.reduceEq, Nat.reduceBEq, Nat.reduceBNe, Int.reduceBEq, Int.reduceBNe, String.reduceEq]; first | done | rfl | (simp (disch := omega) only [w_nat, w_add, w_addl, w_addr, w_sub, w_subl, w_mul, w_mull, w_mulr, w_u32, w_u16, w_u8, w_u32a, N_zero]; first | done | rfl))
      · first | (simp only [push_cast, ↓reduceIte, Nat.reduceEqDiff, Nat.reduceLT, Nat.reduceAdd, Nat.reduceSub, Nat.reduceMul, Nat.reduceLeDiff, Nat.reducePow, Int.reduceLT, Int.reduceToNat, reduceCtorEq, Int.reduceNeg, Int.reduceEq, Nat.reduceBEq, Nat.reduceBNe, Int.reduceBEq, Int.reduceBNe, String.reduceEq]; first | done | rfl | (simp (disch := omega) only [w_nat, w_add, w_addl, w_addr, w_sub, w_subl, w_mul, w_mull, w_mulr, w_u32, w_u16, w_u8, w_u32a, N_zero]; first | done | rfl))
    · intro x hx K3 hK3
      obtain ⟨i, s⟩ := x
      obtain ⟨hi, hc, hb⟩ := hx
      simp only at hi hc hb
      refine AWp.seqK fun K4 hK4 => ?_
      refine AWp.regionA fun K5 hK5 => ?_
      refine ARun.segm 5 fun KS hKS => ?_
      refine ARun2.endm (hKS _ ?_); clear hKS KS
      apply ARun.grpM 2 4 true 15 [0, 1, 5, 6, 13]
      · intro g4 KG hKG
        refine ARun2.gom ?_
        exact ARun2.endm (hKG _ Le.grpM)
      refine ARun2.gom ?_
      refine ARun2.endm (hK5 _ ?_)
      refine AWp.condLM (fun c1 => ?_) (fun c1 => ?_)
      · skip
        have h1 : i < l.length ∧ s < 1000 := by simpa using c1
        have hil := h1.1
        have hm := List.getElem_mem hil
        have hsm := szs_mem hm
        have hse := GNode.sz_eq l[i]
        have hcl := countF_le e l[i].kids
        have hst := szs_take l i hil
        have hd : l.drop i = l[i] :: l.drop (i + 1) := List.drop_eq_getElem_cons hil
        refine AWp.skip ?_
        refine hK4 _ ?_
        refine AWp.seqK fun K6 hK6 => ?_
        refine AWp.block ?_
        refine AWp.drE [[(5, none)], [(19, some 0)], [(0, none)], [(6, none)], [(21, some 2), (22, some 3)], [(23, some 4)], [(24, some 5)], [(25, some 6)], [(26, some 7)], [(20, some 1), (27, some 8)], [(0, none)], [(6, none)], [(29, some 10), (30, some 11)], [(31, some 12)], [(32, some 13)], [(1, none)], [(34, some 15)], [(33, some 14), (35, some 16)], [(28, some 9), (36, some 17)], [(37, some 18)]] fun G hG => ?_
        refine Dr.sim ?_
        try simp only [List.cons_append, List.nil_append]
        refine Dr.sim ?_
        try simp only [List.cons_append, List.nil_append]
        refine Dr.sim ?_
        try simp only [List.cons_append, List.nil_append]
        refine Dr.sim ?_
        try simp only [List.cons_append, List.nil_append]
        refine Dr.idx (i) (nodeA false l[i]) ?_ ?_
        · exact nodesA_at _ _ _ hil
        try simp only [List.cons_append, List.nil_append]
        refine Dr.sim ?_
        try simp only [List.cons_append, List.nil_append]
        refine Dr.sim ?_
        try simp only [List.cons_append, List.nil_append]
        refine Dr.sim ?_
        try simp only [List.cons_append, List.nil_append]
        refine Dr.sim ?_
        try simp only [List.cons_append, List.nil_append]
        refine Dr.sim ?_
        try simp only [List.cons_append, List.nil_append]
        refine Dr.sim ?_
        try simp only [List.cons_append, List.nil_append]
        refine Dr.sim ?_
        try simp only [List.cons_append, List.nil_append]
        refine Dr.idx (i) (nodeA false l[i]) ?_ ?_
        · exact nodesA_at _ _ _ hil
        try simp only [List.cons_append, List.nil_append]
        refine Dr.sim ?_
        try simp only [List.cons_append, List.nil_append]
        refine Dr.sim ?_
        try simp only [List.cons_append, List.nil_append]
        refine Dr.sim ?_
        try simp only [List.cons_append, List.nil_append]
        refine Dr.sim ?_
        try simp only [List.cons_append, List.nil_append]
        refine Dr.call (ih l[i] hm (by omega)) ?_
        try simp only [List.cons_append, List.nil_append]
        refine Dr.sim ?_
        try simp only [List.cons_append, List.nil_append]
        refine Dr.sim ?_
        try simp only [List.cons_append, List.nil_append]
        refine Dr.finN (n := 20) [(5, 19)] [0, 1, 6] hG YtgcjmjfjeppmgaaGreatDoor.Facts.mixed fun KD hKD => ?_
        refine ARun2.endm (hKD _ ?_); clear hKD KD hG G
        refine hK6 _ ?_
        refine AWp.regionV ?_
        refine hK3 _ ((i + 1, s + 1 + l[i].data.length / 1000 + countF e l[i].kids)) (⟨hil, by rw [← hc, hd, cntL, if_pos h1.2], by simp only; omega⟩) (by simp only; omega) ?_
        refine Le.m 0 ?_ ?_
        · first | with_reducible rfl | (simp only [push_cast, ↓reduceIte, Nat.reduceEqDiff, Nat.reduceLT, Nat.reduceAdd, Nat.reduceSub, Nat.reduceMul, Nat.reduceLeDiff, Nat.reducePow, Int.reduceLT, Int.reduceToNat, reduceCtorEq, Int.reduceNeg, Int.reduceEq, Nat.reduceBEq, Nat.reduceBNe, Int.reduceBEq, Int.reduceBNe, String.reduceEq]; first | done | rfl | (simp (disch := omega) only [w_nat, w_add, w_addl, w_addr, w_sub, w_subl, w_mul, w_mull, w_mulr, w_u32, w_u16, w_u8, w_u32a, N_zero]; first | done | rfl))
        · first | (simp only [push_cast, ↓reduceIte, Nat.reduceEqDiff, Nat.reduceLT, Nat.reduceAdd, Nat.reduceSub, Nat.reduceMul, Nat.reduceLeDiff, Nat.reducePow, Int.reduceLT, Int.reduceToNat, reduceCtorEq, Int.reduceNeg, Int.reduceEq, Nat.reduceBEq, Nat.reduceBNe, Int.reduceBEq, Int.reduceBNe, String.reduceEq]; first | done | rfl | (simp (disch := omega) only [w_nat, w_add, w_addl, w_addr, w_sub, w_subl, w_mul, w_mull, w_mulr, w_u32, w_u16, w_u8, w_u32a, N_zero]; first | done | rfl))
      · skip
        have h1 : ¬ (i < l.length ∧ s < 1000) := by intro h; simp [h.1, h.2] at c1
        have hr : countF (e + 1) l = s := by
          rw [← hc]
          rcases Nat.lt_or_ge i l.length with h | h
          · rw [List.drop_eq_getElem_cons h, cntL, if_neg (fun h2 => h1 ⟨h, h2⟩)]
          · rw [List.drop_of_length_le h, cntL]
        refine AWp.exit ?_
        try simp only [thenQ, blockQ, noGo, reduceIte, Nat.reduceEqDiff]
        refine hK2 _ ?_
        refine AWp.regionW ?_
        refine AWp.ret ?_
        try simp only [thenQ, blockQ, noGo]
        refine bodyQ.m ?_
        clear hK5 K5 hK4 K4 hK3 K3 hK2 K2 hK1 K1
        rw [hr]
        first | done | exact Hand.go
theorem count_w : ∀ (f dp : Nat) (l : List GNode), f + dp = 21 → szs l ≤ 2 ^ 30 → PC Tryz.prog 76 [.sl false 3 (nodesA false l), nat dp] (nat (countF f l)) := by
  intro f
  induction f with
  | zero => exact fun dp l h hs => count_step 0 dp h l hs (fun a _ h => by omega)
  | succ f ih => exact fun dp l h hs => count_step (f + 1) dp h l hs (fun a ha _ => ih (dp + 1) a.kids (by omega) (by have := szs_mem ha; rw [GNode.sz_eq] at this; omega))
/-- are there few nodes? -/
def fewN (l : List GNode) : Bool := decide (countF 21 l ≤ 200)
theorem few_c (l : List GNode) (hs : szs l ≤ 2 ^ 30) : PC Tryz.prog 24 [.sl false 3 (nodesA false l)] (bool (fewN l)) := by
  refine PC.of_bodyW (by simp only [push_cast]) Tryz.func24 rfl (by rw [Tryz.ntmps24]; simp) ?_
  refine AWp.regionW ?_
  refine AWp.regionM fun K1 hK1 => ?_
  refine ARun2.callM (count_w 21 0 l rfl hs) ?_
  refine ARun2.endm (hK1 _ ?_)
  refine AWp.ret ?_
  try simp only [thenQ, blockQ, noGo]
  refine bodyQ.m ?_
  clear hK1 K1
  rw [fewN]
  first | done | exact Hand.go
end Go.Proofs.YtgcjmjfjeppmgaaGreatDoor.C
/- The reference: Types; plain laws on values. -/
set_option linter.unusedVariables false
set_option linter.unusedSimpArgs false
namespace Go.Proofs.YtgcjmjfjeppmgaaGreatDoor.C
open Go.Abs
end Go.Proofs.YtgcjmjfjeppmgaaGreatDoor.C
/- What is made anew: Clone, right, Chunk, Message. -/
set_option linter.unusedVariables false
set_option linter.unusedSimpArgs false
namespace Go.Abs
@[push_cast] theorem bys_fresh (l : List UInt8) : AV.freshL (bys l) = true := by
  unfold bys
  induction l with
  | nil => rfl
  | cons x l ih => simp only [List.map_cons, AV.freshL, AV.fresh, ih]; rfl
@[push_cast] theorem bys_ones (l : List UInt8) : (bys l).all AV.one = true := by
  unfold bys
  rw [List.all_eq_true]; intro x hx; simp only [List.mem_map] at hx; obtain ⟨b, _, rfl⟩ := hx; rfl
mutual
theorem nodeA_fresh : ∀ n : GNode, (nodeA true n).fresh = true
  | .mk t d k => by simp only [nodeA, AV.fresh, AV.freshL, bys_fresh, nodesA_fresh k, Bool.and_true]
theorem nodesA_fresh : ∀ l : List GNode, AV.freshL (nodesA true l) = true
  | [] => by simp [nodesA, AV.freshL]
  | n :: l => by simp only [nodesA, AV.freshL, nodeA_fresh n, nodesA_fresh l, Bool.and_true]
end
attribute [push_cast] nodesA_fresh
end Go.Abs
namespace Go.Proofs.YtgcjmjfjeppmgaaGreatDoor.C
open Go.Abs
theorem nclone_fstep (n : GNode) (hs : n.sz ≤ 2 ^ 40) (ih : ∀ a : GNode, a.sz < n.sz → PC Tryz.prog 117 [nodeA false a] (nodeA true a)) : PC Tryz.prog 117 [nodeA false n] (nodeA true n) := by
  have hsz := n.sz_eq
  have hlen := szs_len n.kids
  refine PC.of_bodyK (by simp only [push_cast]) Tryz.func117 rfl (by rw [Tryz.ntmps117]; simp) ?_
  refine AWp.regionW ?_
  refine AWp.drS [[(1, none)], [(6, some 0)], [(1, none)], [(8, some 2)], [(9, some 3)], [(7, some 1), (10, some 4)], []] fun G hG => ?_
  refine Dr.sim ?_
  try simp only [List.cons_append, List.nil_append]
  refine Dr.sim ?_
  try simp only [List.cons_append, List.nil_append]
  refine Dr.sim ?_
  try simp only [List.cons_append, List.nil_append]
  refine Dr.sim ?_
  try simp only [List.cons_append, List.nil_append]
  refine Dr.call (clone_c n.data (by omega)) ?_
  try simp only [List.cons_append, List.nil_append]
  refine Dr.sim ?_
  try simp only [List.cons_append, List.nil_append]
  refine Dr.al ?_
  try simp only [List.cons_append, List.nil_append]
  refine Dr.finA (n := 7) 6 [(11, 5), (3, 6)] [1, 2] hG YtgcjmjfjeppmgaaGreatDoor.Facts.mixed fun KD hKD => ?_
  refine ARun2.endm (hKD _ ?_); clear hKD KD hG G
  refine AWp.seqK fun K1 hK1 => ?_
  refine AWp.regionW ?_
  refine AWp.block ?_
  refine AWp.nilBox 2 2 48 3 rfl rfl ?_
  simp only [push_cast, ↓reduceIte, Nat.reduceEqDiff, Nat.reduceLT, Nat.reduceAdd, Nat.reduceSub, Nat.reduceMul, Nat.reduceLeDiff, Nat.reducePow, Int.reduceLT, Int.reduceToNat, reduceCtorEq, Int.reduceNeg, Int.reduceEq, Nat.reduceBEq, Nat.reduceBNe, Int.reduceBEq, Int.reduceBNe, String.reduceEq]
  refine AWp.loopK [2, 3, 13, 14] (fun (i : Nat) => [(15, nat i)]) (fun i => [.box 48 [u16 n.ty, .sl false 1 (bys n.data), .sl false 3 (nodesA false n.kids)], .box 48 [.val (.int .u16 0), .val (.slice none 0 0), .val (.slice none 0 0)], .box 48 [u16 n.ty, .sl true 1 (bys n.data), .own 3], .row 48 3 (nodesA true (n.kids.take i))]) (fun i => i ≤ n.kids.length) (fun i => n.kids.length - i) (0) ?_ (Nat.zero_le _) ?_
  · skip
    refine Le.m 4 ?_ ?_
    · first | with_reducible rfl | (simp only [push_cast, ↓reduceIte, Nat.reduceEqDiff, Nat.reduceLT, Nat.reduceAdd, Nat.reduceSub, Nat.reduceMul, Nat.reduceLeDiff, Nat.reducePow, Int.reduceLT, Int.reduceToNat, reduceCtorEq, Int.reduceNeg, Int.reduceEq, Nat.reduceBEq, Nat.reduceBNe, Int.reduceBEq, Int.reduceBNe, String.reduceEq]; first | done | rfl | (simp (disch := omega) only [w_nat, w_add, w_addl, w_addr, w_sub, w_subl, w_mul, w_mull, w_mulr, w_u32, w_u16, w_u8, w_u32a, N_zero]; first | done | rfl))
    · first | (simp only [push_cast, ↓reduceIte, Nat.reduceEqDiff, Nat.reduceLT, Nat.reduceAdd, Nat.reduceSub, Nat.reduceMul, Nat.reduceLeDiff, Nat.reducePow, Int.reduceLT, Int.reduceToNat, reduceCtorEq, Int.reduceNeg, Int.reduceEq, Nat.reduceBEq, Nat.reduceBNe, Int.reduceBEq, Int.reduceBNe, String.reduceEq]; first | done | rfl | (simp (disch := omega) only [w_nat, w_add, w_addl, w_addr, w_sub, w_subl, w_mul, w_mull, w_mulr, w_u32, w_u16, w_u8, w_u32a, N_zero]; first | done | rfl))
  · intro i hi K2 hK2
    refine AWp.regionW ?_
    refine AWp.seqK fun K3 hK3 => ?_
    refine AWp.condLM (fun c0 => ?_) (fun c0 => ?_)
    · skip
      have hil : i < n.kids.length := by simpa using c0
      refine AWp.skip ?_
      refine hK3 _ ?_
      refine AWp.seqK fun K4 hK4 => ?_
      refine AWp.block ?_
      refine AWp.regionM fun K5 hK5 => ?_
      refine ARun2.indexM (i) (nodeA false n.kids[i]) ?_ ?_
      · exact nodesA_at _ _ _ hil
      refine ARun2.endm (hK5 _ ?_)
      refine AWp.drE [[(3, none)], [(19, some 0)], [(5, none)], [(21, some 2)], [(22, some 3)]] fun G hG => ?_
      refine Dr.sim ?_
      try simp only [List.cons_append, List.nil_append]
      refine Dr.sim ?_
      try simp only [List.cons_append, List.nil_append]
      refine Dr.sim ?_
      try simp only [List.cons_append, List.nil_append]
      refine Dr.call (ih n.kids[i] (szs_lt (List.getElem_mem hil))) ?_
      try simp only [List.cons_append, List.nil_append]
      refine Dr.build ?_
      try simp only [List.cons_append, List.nil_append]
      refine Dr.finN (n := 5) [(20, 1), (23, 4)] [2, 3, 13, 14, 15] hG YtgcjmjfjeppmgaaGreatDoor.Facts.mixed fun KD hKD => ?_
      refine ARun2.appendM ?_ ?_ ?_
      · rw [YtgcjmjfjeppmgaaGreatDoor.Facts.eb29, nodesA_len, List.length_take, List.length_cons, List.length_nil]; omega
      · rw [nodesA_len, List.length_take, List.length_cons, List.length_nil]; omega
      refine ARun2.endm (hKD _ ?_); clear hKD KD hG G
      refine hK4 _ ?_
      refine AWp.regionV ?_
      refine hK2 _ (i + 1) (by omega) (by omega) ?_
      refine Le.m 4 ?_ ?_
      · try simp only [push_cast, ↓reduceIte, Nat.reduceEqDiff, Nat.reduceLT, Nat.reduceAdd, Nat.reduceSub, Nat.reduceMul, Nat.reduceLeDiff, Nat.reducePow, Int.reduceLT, Int.reduceToNat, reduceCtorEq, Int.reduceNeg, Int.reduceEq, Nat.reduceBEq, Nat.reduceBNe, Int.reduceBEq, Int.reduceBNe, String.reduceEq]
        try simp (disch := omega) only [w_nat, w_add, w_addl, w_addr, w_sub, w_subl, w_mul, w_mull, w_mulr, w_u32, w_u16, w_u8, w_u32a, N_zero]
        first | done | skip
        rw [List.take_succ_eq_append_getElem hil, nodesA_snoc, nodeA_eq]
      · first | (simp only [push_cast, ↓reduceIte, Nat.reduceEqDiff, Nat.reduceLT, Nat.reduceAdd, Nat.reduceSub, Nat.reduceMul, Nat.reduceLeDiff, Nat.reducePow, Int.reduceLT, Int.reduceToNat, reduceCtorEq, Int.reduceNeg, Int.reduceEq, Nat.reduceBEq, Nat.reduceBNe, Int.reduceBEq, Int.reduceBNe, String.reduceEq]; first | done | rfl | (simp (disch := omega) only [w_nat, w_add, w_addl, w_addr, w_sub, w_subl, w_mul, w_mull, w_mulr, w_u32, w_u16, w_u8, w_u32a, N_zero]; first | done | rfl))
    · skip
      have hil : i = n.kids.length := by simp at c0; omega
      subst hil
      refine AWp.exit ?_
      try simp only [thenQ, blockQ, noGo, reduceIte, Nat.reduceEqDiff]
      refine hK1 _ ?_
      refine AWp.pubD 3 ?_
      refine AWp.regionW ?_
      refine AWp.ret ?_
      try simp only [thenQ, blockQ, noGo]
      refine bodyQ.m ?_
      clear hK3 K3 hK2 K2 hK1 K1
      rw [List.take_length]
      first | done | exact Wk.go
theorem nclone_fw : ∀ (w : Nat) (n : GNode), n.sz ≤ w → n.sz ≤ 2 ^ 40 → PC Tryz.prog 117 [nodeA false n] (nodeA true n) := by
  intro w
  induction w with
  | zero => intro n h; have := n.sz_eq; omega
  | succ w ih => exact fun n hw hs => nclone_fstep n hs (fun a h => ih a (by omega) (by omega))
theorem nclone_f (n : GNode) (hs : n.sz ≤ 2 ^ 40) : PC Tryz.prog 117 [nodeA false n] (nodeA true n) := nclone_fw _ n (Nat.le_refl _) hs
end Go.Proofs.YtgcjmjfjeppmgaaGreatDoor.C
/- chunk: Check, Clone, Params. -/
set_option linter.unusedVariables false
set_option linter.unusedSimpArgs false
namespace Go.Proofs.YtgcjmjfjeppmgaaGreatDoor.C
open Go.Abs
/-- the class of the nodes inside -/
def classOf (t : Nat) : Nat := (kinsideN (kindOf t).kids).1
/-- the first error of the chunk itself -/
def preE (c : GChunk) : Er := firstE [flagsE c (kindOf c.ty), dataE c (kindOf c.ty), kidsE c (kindOf c.ty), countE c, valueE c]
def startC (c : GChunk) : Nat := if kindHas c.ty = true then (preE c).codeOf.1 else if 0 < c.kids.length then 7 else 0
/-- the code of a chunk's error; 0: none -/
def checkC (c : GChunk) : Nat :=
  if startC c ≠ 0 then startC c else if checkL (classOf c.ty) 1 c.kids ≠ 0 then checkL (classOf c.ty) 1 c.kids
  else if 65535 < 4 + c.data.length + nSize c.kids then 4 else 0
/-- an error with a number -/
def Er.isN : Er → Bool
  | .ok => true
  | .code c => c != 0
  | .flt c _ => c != 0
theorem firstE_isN : ∀ l : List Er, (∀ e ∈ l, e.isN = true) → (firstE l).isN = true
  | [], _ => rfl
  | e :: l, h => by
    rw [firstE]
    split
    · exact firstE_isN l fun x hx => h x (by simp [hx])
    · exact h e (by simp)
theorem preE_isN (c : GChunk) : (preE c).isN = true := by
  refine firstE_isN _ fun e he => ?_
  simp only [List.mem_cons, List.not_mem_nil, or_false] at he
  rcases he with rfl | rfl | rfl | rfl | rfl
  · unfold flagsE; split <;> rfl
  · unfold dataE; split <;> rfl
  · unfold kidsE; split <;> rfl
  · unfold countE; split <;> rfl
  · unfold valueE; split <;> rfl
theorem isN_code {e : Er} (h : e.isN = true) : e.codeOf.2 = true ↔ e.codeOf.1 ≠ 0 := by
  cases e <;> simp [Er.codeOf, Er.isN] at * <;> exact h
theorem isN_ok {e : Er} (h : e.isN = true) : e.codeOf.1 = 0 ↔ e = .ok := by
  cases e <;> simp [Er.codeOf, Er.isN] at * <;> exact h
theorem errA_code {e : Nat} (h : e ≠ 0) : errA e = .ifc 98 (nat e) := by
  unfold errA; rw [show (e == 0) = false by simpa using h]; rfl
theorem data_ok {c : GChunk} (h : dataE c (kindOf c.ty) = .ok) : (c.ty = 3 → 12 ≤ c.data.length) ∧ (c.ty = 64 → 17 ≤ c.data.length) ∧ (c.ty = 194 → 4 ≤ c.data.length ∧ (c.data.length - 4) % 8 = 0) := by
  have hf : kfitsN (kindOf c.ty) c.data.length = true := by
    unfold dataE at h
    cases hk : kfitsN (kindOf c.ty) c.data.length with
    | true => rfl
    | false => rw [hk] at h; cases h
  unfold kfitsN at hf
  simp only [Bool.and_eq_true, decide_eq_true_eq, beq_iff_eq] at hf
  obtain ⟨⟨h1, h2⟩, h3⟩ := hf
  refine ⟨fun e => ?_, fun e => ?_, fun e => ?_⟩
  · rw [e] at h1; exact h1
  · rw [e] at h1; exact h1
  · rw [e] at h1 h3; exact ⟨h1, h3⟩
theorem firstE_pre {l : List Er} (h : firstE l = .ok) : ∀ e ∈ l, e = .ok := by
  induction l with
  | nil => simp
  | cons e l ih =>
    rw [firstE] at h
    split at h
    · rename_i he
      intro x hx
      rcases List.mem_cons.1 hx with rfl | hx
      · exact he
      · exact ih h x hx
    · rename_i he; exact absurd h he
theorem kclass (k : KForm) (l : List GNode) (h : kkidsOk k l = true) (hk : k.kids ≤ 6) (hl : 0 < l.length) : (kinsideN k.kids).1 = 1 ∨ (kinsideN k.kids).1 = 2 := by
  have hh : k.kids = 0 ∨ k.kids = 1 ∨ k.kids = 2 ∨ k.kids = 3 ∨ k.kids = 4 ∨ k.kids = 5 ∨ k.kids = 6 := by omega
  unfold kkidsOk at h
  rcases hh with e | e | e | e | e | e | e <;> rw [e] at h ⊢ <;> first | exact .inl rfl | exact .inr rfl | skip
  simp [kinsideN] at h
  rw [h] at hl; simp at hl
theorem pre_kids {c : GChunk} (h : preE c = .ok) : kkidsOk (kindOf c.ty) c.kids = true := by
  have := firstE_pre h (kidsE c (kindOf c.ty)) (by simp)
  unfold kidsE at this
  cases hk : kkidsOk (kindOf c.ty) c.kids with
  | true => rfl
  | false => rw [hk] at this; cases this
set_option maxRecDepth 100000 in
theorem firsts_c (c : GChunk) (hd : c.data.length ≤ 2 ^ 40) (hk : c.kids.length ≤ 2 ^ 40) (hh : kindHas c.ty = true) :
    PC Tryz.prog 58 [chunkA false c, kformA (kindOf c.ty), .sl false 1 [.fn (.func 59) [] [], .fn (.func 60) [] [], .fn (.func 61) [] [], .fn (.func 62) [] [], .fn (.func 63) [] []]] (erA (preE c)) := by
  have hb := kind_bd c.ty
  have hu := (hb.2.2.2.2.2.2.1 hh).1
  refine cfirst_c c (kindOf c.ty) [59, 60, 61, 62, 63] [flagsE c (kindOf c.ty), dataE c (kindOf c.ty), kidsE c (kindOf c.ty), countE c, valueE c] rfl (by decide) ?_ ?_
  · intro i hi
    match i, hi with
    | 0, _ => rfl
    | 1, _ => rfl
    | 2, _ => rfl
    | 3, _ => rfl
    | 4, _ => rfl
    | i + 5, h => simp at h; omega
  · intro i hi hok
    match i, hi with
    | 0, _ => exact cflags_c c _
    | 1, _ => exact cdata_c c _ hd (by omega) hu (by omega)
    | 2, _ => exact ckids_c c _ (by omega) hk
    | 3, _ => exact ccount_c c _ hd (data_ok (hok 1 (by omega))).1
    | 4, _ => exact cvalue_c c _ hd (data_ok (hok 1 (by omega))).2.1 (data_ok (hok 1 (by omega))).2.2
    | i + 5, h => simp at h; omega
theorem ccheck_c (c : GChunk) (ht : c.ty < 256) (hd : c.data.length ≤ 2 ^ 40) (hs : nSize c.kids ≤ 2 ^ 30) : PC Tryz.prog 18 [chunkA false c] (errA (checkC c)) := by
  have hkl := nSize_len c.kids
  have hb := kind_bd c.ty
  have hC : checkC c = checkC c := rfl
  conv at hC => rhs; unfold checkC
  generalize checkC c = C at hC
  have hst : startC c = startC c := rfl
  conv at hst => rhs; unfold startC
  have hki := kinside_c (kindOf c.ty).kids (by omega)
  have hcc : classOf c.ty = (kinsideN (kindOf c.ty).kids).1 := rfl
  generalize (kinsideN (kindOf c.ty).kids).2.1 = u1 at hki
  generalize (kinsideN (kindOf c.ty).kids).2.2 = u2 at hki
  rw [← hcc] at hki
  generalize hcl : classOf c.ty = cl at hki hC
  refine PC.of_bodyW (by simp only [push_cast]) Tryz.func18 rfl (by rw [Tryz.ntmps18]; simp) ?_
  refine AWp.regionW ?_
  refine AWp.regionM fun K1 hK1 => ?_
  refine ARun2.callM (kof_c c.ty ht) ?_
  refine ARun2.endm (hK1 _ ?_)
  refine AWp.regionM fun K2 hK2 => ?_
  refine ARun2.callM (hki) ?_
  refine ARun2.endm (hK2 _ ?_)
  refine AWp.regionW ?_
  refine AWp.seqK fun K3 hK3 => ?_
  refine AWp.block ?_
  refine AWp.regionW ?_
  refine AWp.condLM (fun c0 => ?_) (fun c0 => ?_)
  · skip
    have hh : kindHas c.ty = true := c0
    have hfs := firsts_c c hd (by omega) hh
    rw [if_pos hh] at hst
    have hN := preE_isN c
    refine AWp.regionN fun K4 hK4 => ?_
    refine ARun2.callM (hfs) ?_
    refine ARun2.endm (hK4 _ ?_)
    refine hK3 _ ?_
    refine AWp.seqK fun K5 hK5 => ?_
    refine AWp.regionM fun K6 hK6 => ?_
    refine ARun2.callM (code_c (preE c)) ?_
    refine ARun2.endm (hK6 _ ?_)
    refine AWp.regionW ?_
    refine AWp.condLM (fun c2 => ?_) (fun c2 => ?_)
    · skip
      have hne := (isN_code hN).1 c2
      rw [hst, if_pos hne] at hC
      refine AWp.regionW ?_
      refine AWp.ret ?_
      try simp only [thenQ, blockQ, noGo]
      refine bodyQ.m ?_
      clear hK6 K6 hK5 K5 hK4 K4 hK3 K3 hK2 K2 hK1 K1
      rw [hC, errA_code hne]
      first | done | exact Hand.go
    · skip
      have h0 : (preE c).codeOf.1 = 0 := by
        cases h : (preE c).codeOf.1 with
        | zero => rfl
        | succ n => have := (isN_code hN).2 (by rw [h]; simp); rw [c2] at this; cases this
      have hcls : 0 < c.kids.length → cl = 1 ∨ cl = 2 := fun h => hcl ▸ kclass _ _ (pre_kids ((isN_ok hN).1 h0)) (by omega) h
      rw [hst, h0, if_neg (by simp)] at hC
      refine AWp.skip ?_
      refine hK5 _ ?_
      refine AWp.seqK fun K7 hK7 => ?_
      refine AWp.regionW ?_
      refine AWp.block ?_
      refine AWp.loopK0 [1, 5, 48, 49] (fun (i : Nat) => [(50, nat i)]) (fun i => i ≤ c.kids.length ∧ checkL cl 1 (c.kids.take i) = 0) (fun i => c.kids.length - i) (0) ?_ ⟨Nat.zero_le _, rfl⟩ ?_
      · skip
        refine Le.m 2 ?_ ?_
        · first | with_reducible rfl | (simp only [push_cast, ↓reduceIte, Nat.reduceEqDiff, Nat.reduceLT, Nat.reduceAdd, Nat.reduceSub, Nat.reduceMul, Nat.reduceLeDiff, Nat.reducePow, Int.reduceLT, Int.reduceToNat, reduceCtorEq, Int.reduceNeg, Int.reduceEq, Nat.reduceBEq, Nat.reduceBNe, Int.reduceBEq, Int.reduceBNe, String.reduceEq]; first | done | rfl | (simp (disch := omega) only [w_nat, w_add, w_addl, w_addr, w_sub, w_subl, w_mul, w_mull, w_mulr, w_u32, w_u16, w_u8, w_u32a, N_zero]; first | done | rfl))
        · first | (simp only [push_cast, ↓reduceIte, Nat.reduceEqDiff, Nat.reduceLT, Nat.reduceAdd, Nat.reduceSub, Nat.reduceMul, Nat.reduceLeDiff, Nat.reducePow, Int.reduceLT, Int.reduceToNat, reduceCtorEq, Int.reduceNeg, Int.reduceEq, Nat.reduceBEq, Nat.reduceBNe, Int.reduceBEq, Int.reduceBNe, String.reduceEq]; first | done | rfl | (simp (disch := omega) only [w_nat, w_add, w_addl, w_addr, w_sub, w_subl, w_mul, w_mull, w_mulr, w_u32, w_u16, w_u8, w_u32a, N_zero]; first | done | rfl))
      · intro i hi K8 hK8
        refine AWp.regionW ?_
        refine AWp.seqK fun K9 hK9 => ?_
        refine AWp.condLM (fun c3 => ?_) (fun c3 => ?_)
        · skip
          have hil : i < c.kids.length := by simpa using c3
          have hm := List.getElem_mem hil
          have hcl2 := hcls (by omega)
          refine AWp.skip ?_
          refine hK9 _ ?_
          refine AWp.seqK fun K10 hK10 => ?_
          refine AWp.block ?_
          refine AWp.regionM fun K11 hK11 => ?_
          refine ARun2.indexM (i) (nodeA false c.kids[i]) ?_ ?_
          · exact nodesA_at _ _ _ hil
          refine ARun2.endm (hK11 _ ?_)
          refine AWp.regionM fun K12 hK12 => ?_
          refine ARun2.callM (check_c cl c.kids[i] hcl2 (by have := nSize_one hm; omega)) ?_
          refine ARun2.endm (hK12 _ ?_)
          refine AWp.regionW ?_
          refine AWp.condLM (fun c4 => ?_) (fun c4 => ?_)
          · skip
            have h5 : checkN cl 1 c.kids[i] ≠ 0 := by simpa using c4
            have hL := checkL_at _ _ c.kids i hil hi.2 h5
            rw [hL, if_pos h5] at hC
            refine AWp.regionW ?_
            refine AWp.ret ?_
            try simp only [thenQ, blockQ, noGo]
            refine bodyQ.m ?_
            clear hK12 K12 hK11 K11 hK10 K10 hK9 K9 hK8 K8 hK7 K7 hK6 K6 hK5 K5 hK4 K4 hK3 K3 hK2 K2 hK1 K1
            rw [hC]
            first | done | exact Hand.go
          · skip
            have h5 : checkN cl 1 c.kids[i] = 0 := by simpa using c4
            refine AWp.skip ?_
            refine hK10 _ ?_
            refine AWp.regionV ?_
            refine hK8 _ (i + 1) (⟨by omega, by rw [List.take_succ_eq_append_getElem hil, checkL_snoc, hi.2]; simpa using h5⟩) (by omega) ?_
            refine Le.m 2 ?_ ?_
            · first | with_reducible rfl | (simp only [push_cast, ↓reduceIte, Nat.reduceEqDiff, Nat.reduceLT, Nat.reduceAdd, Nat.reduceSub, Nat.reduceMul, Nat.reduceLeDiff, Nat.reducePow, Int.reduceLT, Int.reduceToNat, reduceCtorEq, Int.reduceNeg, Int.reduceEq, Nat.reduceBEq, Nat.reduceBNe, Int.reduceBEq, Int.reduceBNe, String.reduceEq]; first | done | rfl | (simp (disch := omega) only [w_nat, w_add, w_addl, w_addr, w_sub, w_subl, w_mul, w_mull, w_mulr, w_u32, w_u16, w_u8, w_u32a, N_zero]; first | done | rfl))
            · first | (simp only [push_cast, ↓reduceIte, Nat.reduceEqDiff, Nat.reduceLT, Nat.reduceAdd, Nat.reduceSub, Nat.reduceMul, Nat.reduceLeDiff, Nat.reducePow, Int.reduceLT, Int.reduceToNat, reduceCtorEq, Int.reduceNeg, Int.reduceEq, Nat.reduceBEq, Nat.reduceBNe, Int.reduceBEq, Int.reduceBNe, String.reduceEq]; first | done | rfl | (simp (disch := omega) only [w_nat, w_add, w_addl, w_addr, w_sub, w_subl, w_mul, w_mull, w_mulr, w_u32, w_u16, w_u8, w_u32a, N_zero]; first | done | rfl))
        · skip
          have hil : i = c.kids.length := by have := hi.1; simp at c3; omega
          have hL : checkL cl 1 c.kids = 0 := by have := hi.2; rwa [hil, List.take_length] at this
          subst hil
          rw [hL, if_neg (by simp)] at hC
          refine AWp.exit ?_
          try simp only [thenQ, blockQ, noGo, reduceIte, Nat.reduceEqDiff]
          refine hK7 _ ?_
          refine AWp.seqK fun K13 hK13 => ?_
          refine AWp.regionM fun K14 hK14 => ?_
          refine ARun2.callM (csize_c c hd hs) ?_
          refine ARun2.endm (hK14 _ ?_)
          refine AWp.condLM (fun c5 => ?_) (fun c5 => ?_)
          · skip
            rw [if_pos (by simpa using c5)] at hC
            refine AWp.regionW ?_
            refine AWp.ret ?_
            try simp only [thenQ, blockQ, noGo]
            refine bodyQ.m ?_
            clear hK14 K14 hK13 K13 hK9 K9 hK8 K8 hK7 K7 hK6 K6 hK5 K5 hK4 K4 hK3 K3 hK2 K2 hK1 K1
            rw [hC]
            first | done | exact Hand.go
          · skip
            rw [if_neg (by simpa using c5)] at hC
            refine AWp.skip ?_
            refine hK13 _ ?_
            refine AWp.regionW ?_
            refine AWp.ret ?_
            try simp only [thenQ, blockQ, noGo]
            refine bodyQ.m ?_
            clear hK14 K14 hK13 K13 hK9 K9 hK8 K8 hK7 K7 hK6 K6 hK5 K5 hK4 K4 hK3 K3 hK2 K2 hK1 K1
            rw [hC]
            first | done | exact Hand.go
  · skip
    have hh : ¬ kindHas c.ty = true := by rw [c0]; simp
    rw [if_neg hh] at hst
    refine AWp.regionW ?_
    refine AWp.condLM (fun c1 => ?_) (fun c1 => ?_)
    · skip
      have hp : 0 < c.kids.length := by simpa using c1
      rw [if_pos hp] at hst
      refine AWp.regionV ?_
      refine hK3 _ ?_
      refine AWp.seqK fun K15 hK15 => ?_
      refine AWp.regionM fun K16 hK16 => ?_
      refine ARun2.callM (code_c (.code 7)) ?_
      refine ARun2.endm (hK16 _ ?_)
      refine AWp.regionW ?_
      refine AWp.condT ?_ (by first | (simp only [push_cast, ↓reduceIte, Nat.reduceEqDiff, Nat.reduceLT, Nat.reduceAdd, Nat.reduceSub, Nat.reduceMul, Nat.reduceLeDiff, Nat.reducePow, Int.reduceLT, Int.reduceToNat, reduceCtorEq, Int.reduceNeg, Int.reduceEq, Nat.reduceBEq, Nat.reduceBNe, Int.reduceBEq, Int.reduceBNe, String.reduceEq]; done) | (simp only [push_cast, ↓reduceIte, Nat.reduceEqDiff, Nat.reduceLT, Nat.reduceAdd, Nat.reduceSub, Nat.reduceMul, Nat.reduceLeDiff, Nat.reducePow, Int.reduceLT, Int.reduceToNat, reduceCtorEq, Int.reduceNeg, Int.reduceEq, Nat.reduceBEq, Nat.reduceBNe, Int.reduceBEq, Int.reduceBNe, String.reduceEq]; rfl))
      refine AWp.regionW ?_
      refine AWp.ret ?_
      try simp only [thenQ, blockQ, noGo]
      refine bodyQ.m ?_
      clear hK16 K16 hK15 K15 hK3 K3 hK2 K2 hK1 K1
      rw [hC, hst, if_pos (by simp), errA_code (by simp)]; simp only [Er.codeOf]
      first | done | exact Hand.go
    · skip
      have hp : ¬ 0 < c.kids.length := by simpa using c1
      rw [if_neg hp] at hst
      refine AWp.skip ?_
      refine hK3 _ ?_
      refine AWp.seqK fun K17 hK17 => ?_
      refine AWp.regionM fun K18 hK18 => ?_
      refine ARun2.callM (code_c .ok) ?_
      refine ARun2.endm (hK18 _ ?_)
      refine AWp.regionW ?_
      refine AWp.condF ?_ (by first | (simp only [push_cast, ↓reduceIte, Nat.reduceEqDiff, Nat.reduceLT, Nat.reduceAdd, Nat.reduceSub, Nat.reduceMul, Nat.reduceLeDiff, Nat.reducePow, Int.reduceLT, Int.reduceToNat, reduceCtorEq, Int.reduceNeg, Int.reduceEq, Nat.reduceBEq, Nat.reduceBNe, Int.reduceBEq, Int.reduceBNe, String.reduceEq]; done) | (simp only [push_cast, ↓reduceIte, Nat.reduceEqDiff, Nat.reduceLT, Nat.reduceAdd, Nat.reduceSub, Nat.reduceMul, Nat.reduceLeDiff, Nat.reducePow, Int.reduceLT, Int.reduceToNat, reduceCtorEq, Int.reduceNeg, Int.reduceEq, Nat.reduceBEq, Nat.reduceBNe, Int.reduceBEq, Int.reduceBNe, String.reduceEq]; rfl))
      refine AWp.skip ?_
      refine hK17 _ ?_
      refine AWp.seqK fun K19 hK19 => ?_
      refine AWp.regionW ?_
      refine AWp.block ?_
      have hcls : 0 < c.kids.length → cl = 1 ∨ cl = 2 := fun h => absurd h hp
      rw [hst, if_neg (by simp)] at hC
      refine AWp.loopK0 [1, 5, 48, 49] (fun (i : Nat) => [(50, nat i)]) (fun i => i ≤ c.kids.length ∧ checkL cl 1 (c.kids.take i) = 0) (fun i => c.kids.length - i) (0) ?_ ⟨Nat.zero_le _, rfl⟩ ?_
      · skip
        refine Le.m 2 ?_ ?_
        · first | with_reducible rfl | (simp only [push_cast, ↓reduceIte, Nat.reduceEqDiff, Nat.reduceLT, Nat.reduceAdd, Nat.reduceSub, Nat.reduceMul, Nat.reduceLeDiff, Nat.reducePow, Int.reduceLT, Int.reduceToNat, reduceCtorEq, Int.reduceNeg, Int.reduceEq, Nat.reduceBEq, Nat.reduceBNe, Int.reduceBEq, Int.reduceBNe, String.reduceEq]; first | done | rfl | (simp (disch := omega) only [w_nat, w_add, w_addl, w_addr, w_sub, w_subl, w_mul, w_mull, w_mulr, w_u32, w_u16, w_u8, w_u32a, N_zero]; first | done | rfl))
        · first | (simp only [push_cast, ↓reduceIte, Nat.reduceEqDiff, Nat.reduceLT, Nat.reduceAdd, Nat.reduceSub, Nat.reduceMul, Nat.reduceLeDiff, Nat.reducePow, Int.reduceLT, Int.reduceToNat, reduceCtorEq, Int.reduceNeg, Int.reduceEq, Nat.reduceBEq, Nat.reduceBNe, Int.reduceBEq, Int.reduceBNe, String.reduceEq]; first | done | rfl | (simp (disch := omega) only [w_nat, w_add, w_addl, w_addr, w_sub, w_subl, w_mul, w_mull, w_mulr, w_u32, w_u16, w_u8, w_u32a, N_zero]; first | done | rfl))
      · intro i hi K20 hK20
        refine AWp.regionW ?_
        refine AWp.seqK fun K21 hK21 => ?_
        refine AWp.condLM (fun c3 => ?_) (fun c3 => ?_)
        · skip
          have hil : i < c.kids.length := by simpa using c3
          have hm := List.getElem_mem hil
          have hcl2 := hcls (by omega)
          exfalso; omega
        · skip
          have hil : i = c.kids.length := by have := hi.1; simp at c3; omega
          have hL : checkL cl 1 c.kids = 0 := by have := hi.2; rwa [hil, List.take_length] at this
          subst hil
          rw [hL, if_neg (by simp)] at hC
          refine AWp.exit ?_
          try simp only [thenQ, blockQ, noGo, reduceIte, Nat.reduceEqDiff]
          refine hK19 _ ?_
          refine AWp.seqK fun K22 hK22 => ?_
          refine AWp.regionM fun K23 hK23 => ?_
          refine ARun2.callM (csize_c c hd hs) ?_
          refine ARun2.endm (hK23 _ ?_)
          refine AWp.condLM (fun c5 => ?_) (fun c5 => ?_)
          · skip
            rw [if_pos (by simpa using c5)] at hC
            refine AWp.regionW ?_
            refine AWp.ret ?_
            try simp only [thenQ, blockQ, noGo]
            refine bodyQ.m ?_
            clear hK23 K23 hK22 K22 hK21 K21 hK20 K20 hK19 K19 hK18 K18 hK17 K17 hK3 K3 hK2 K2 hK1 K1
            rw [hC]
            first | done | exact Hand.go
          · skip
            rw [if_neg (by simpa using c5)] at hC
            refine AWp.skip ?_
            refine hK22 _ ?_
            refine AWp.regionW ?_
            refine AWp.ret ?_
            try simp only [thenQ, blockQ, noGo]
            refine bodyQ.m ?_
            clear hK23 K23 hK22 K22 hK21 K21 hK20 K20 hK19 K19 hK18 K18 hK17 K17 hK3 K3 hK2 K2 hK1 K1
            rw [hC]
            first | done | exact Hand.go
@[push_cast] theorem chunkA_hand (ids : List Nat) (b : Bool) (c : GChunk) : (chunkA b c).hand ids = chunkA false c := by
  simp only [chunkA, AV.hand, AV.handL, bys_hand, nodesA_hand]
theorem cclone_f (c : GChunk) (hd : c.data.length ≤ 2 ^ 40) (hs : szs c.kids ≤ 2 ^ 39) : PC Tryz.prog 83 [chunkA false c] (chunkA true c) := by
  refine PC.of_bodyK (by simp only [push_cast]) Tryz.func83 rfl (by rw [Tryz.ntmps83]; simp) ?_
  refine AWp.regionW ?_
  refine AWp.regionM fun K1 hK1 => ?_
  refine ARun2.callM (nclone_f (.mk 0 [] c.kids) (by simp only [GNode.sz]; simp; omega)) ?_
  refine ARun2.endm (hK1 _ ?_)
  refine AWp.drS [[(1, none)], [(9, some 0)], [(1, none)], [(11, some 2)], [(1, none)], [(13, some 4)], [(14, some 5)], [(3, none)], [(10, some 1), (12, some 3), (15, some 6), (16, some 7)]] fun G hG => ?_
  refine Dr.sim ?_
  try simp only [List.cons_append, List.nil_append]
  refine Dr.sim ?_
  try simp only [List.cons_append, List.nil_append]
  refine Dr.sim ?_
  try simp only [List.cons_append, List.nil_append]
  refine Dr.sim ?_
  try simp only [List.cons_append, List.nil_append]
  refine Dr.sim ?_
  try simp only [List.cons_append, List.nil_append]
  refine Dr.sim ?_
  try simp only [List.cons_append, List.nil_append]
  refine Dr.call (clone_c c.data hd) ?_
  try simp only [List.cons_append, List.nil_append]
  refine Dr.sim ?_
  try simp only [List.cons_append, List.nil_append]
  refine Dr.sim ?_
  try simp only [List.cons_append, List.nil_append]
  refine Dr.finM (n := 9) [(17, 8)] [2] hG YtgcjmjfjeppmgaaGreatDoor.Facts.mixed fun KD hKD => ?_
  refine ARun2.endm (hKD _ ?_); clear hKD KD hG G
  refine AWp.ret ?_
  try simp only [thenQ, blockQ, noGo]
  refine bodyQ.m ?_
  clear hK1 K1
  first | done | exact Wk.go
end Go.Proofs.YtgcjmjfjeppmgaaGreatDoor.C
/- The reference's chunks: wharfref11, wharfref12.Check. -/
set_option linter.unusedVariables false
set_option linter.unusedSimpArgs false
namespace Go.Proofs.YtgcjmjfjeppmgaaGreatDoor.C
open Go.Abs
set_option maxRecDepth 100000 in
set_option maxHeartbeats 1000000 in
theorem table11_c : PC Tryz.prog 105 [] (.sl false 7 (kformsA kindForms)) := by
  refine PC.of_bodyW (by simp only [push_cast]) Tryz.func105 rfl (by rw [Tryz.ntmps105]; simp) ?_
  refine AWp.regionW ?_
  refine AWp.regionW ?_
  refine AWp.regionW ?_
  refine AWp.ret ?_
  try simp only [thenQ, blockQ, noGo]
  refine bodyQ.m ?_
  simp only [kformsA, kindForms, List.map_cons, List.map_nil]
  first | done | exact Hand.go
theorem of11_c (t : Nat) : PC Tryz.prog 67 [u8 t] (.tup [kformA (kindOf t), bool (kindHas t)]) := by
  refine PC.of_bodyW (by simp only [push_cast]) Tryz.func67 rfl (by rw [Tryz.ntmps67]; simp) ?_
  refine AWp.regionW ?_
  refine AWp.regionM fun K1 hK1 => ?_
  refine ARun2.callM (table11_c) ?_
  refine ARun2.endm (hK1 _ ?_)
  refine AWp.seqK fun K2 hK2 => ?_
  refine AWp.regionW ?_
  refine AWp.block ?_
  refine AWp.loopK0 [0, 2, 4] (fun (i : Nat) => [(5, nat i)]) (fun i => i ≤ 23 ∧ ∀ m, m < i → (kf m).ty ≠ t) (fun i => 23 - i) (0) ?_ ⟨Nat.zero_le _, fun m h => by omega⟩ ?_
  · skip
    refine Le.m 1 ?_ ?_
    · first | with_reducible rfl | (simp only [push_cast, ↓reduceIte, Nat.reduceEqDiff, Nat.reduceLT, Nat.reduceAdd, Nat.reduceSub, Nat.reduceMul, Nat.reduceLeDiff, Nat.reducePow, Int.reduceLT, Int.reduceToNat, reduceCtorEq, Int.reduceNeg, Int.reduceEq, Nat.reduceBEq, Nat.reduceBNe, Int.reduceBEq, Int.reduceBNe, String.reduceEq]; first | done | rfl | (simp (disch := omega) only [w_nat, w_add, w_addl, w_addr, w_sub, w_subl, w_mul, w_mull, w_mulr, w_u32, w_u16, w_u8, w_u32a, N_zero]; first | done | rfl))
    · first | (simp only [push_cast, ↓reduceIte, Nat.reduceEqDiff, Nat.reduceLT, Nat.reduceAdd, Nat.reduceSub, Nat.reduceMul, Nat.reduceLeDiff, Nat.reducePow, Int.reduceLT, Int.reduceToNat, reduceCtorEq, Int.reduceNeg, Int.reduceEq, Nat.reduceBEq, Nat.reduceBNe, Int.reduceBEq, Int.reduceBNe, String.reduceEq]; first | done | rfl | (simp (disch := omega) only [w_nat, w_add, w_addl, w_addr, w_sub, w_subl, w_mul, w_mull, w_mulr, w_u32, w_u16, w_u8, w_u32a, N_zero]; first | done | rfl))
  · intro i hi K3 hK3
    refine AWp.seqK fun K4 hK4 => ?_
    refine AWp.regionW ?_
    refine AWp.condLM (fun c0 => ?_) (fun c0 => ?_)
    · skip
      have hil : i < 23 := by simpa using c0
      refine AWp.skip ?_
      refine hK4 _ ?_
      refine AWp.seqK fun K5 hK5 => ?_
      refine AWp.block ?_
      refine AWp.regionM fun K6 hK6 => ?_
      refine ARun2.indexM (i) (kformA (kf i)) ?_ ?_
      · exact kformsA_kf i hil
      refine ARun2.endm (hK6 _ ?_)
      refine AWp.condLM (fun c1 => ?_) (fun c1 => ?_)
      · skip
        have h1 : (kf i).ty = t := by simpa using c1
        obtain ⟨e1, e2⟩ := kind_at t i hil h1
        refine AWp.regionM fun K7 hK7 => ?_
        refine ARun2.indexM (i) (kformA (kf i)) ?_ ?_
        · exact kformsA_kf i hil
        refine ARun2.endm (hK7 _ ?_)
        refine AWp.ret ?_
        try simp only [thenQ, blockQ, noGo]
        refine bodyQ.m ?_
        clear hK7 K7 hK6 K6 hK5 K5 hK4 K4 hK3 K3 hK2 K2 hK1 K1
        rw [e1, e2]
        first | done | exact Hand.go
      · skip
        have h1 : (kf i).ty ≠ t := by simpa using c1
        refine AWp.skip ?_
        refine hK5 _ ?_
        refine AWp.regionV ?_
        refine hK3 _ (i + 1) (⟨hil, fun m hm => (Nat.lt_or_ge m i).elim (hi.2 m) (fun h => (show i = m by omega) ▸ h1)⟩) (by omega) ?_
        refine Le.m 1 ?_ ?_
        · first | with_reducible rfl | (simp only [push_cast, ↓reduceIte, Nat.reduceEqDiff, Nat.reduceLT, Nat.reduceAdd, Nat.reduceSub, Nat.reduceMul, Nat.reduceLeDiff, Nat.reducePow, Int.reduceLT, Int.reduceToNat, reduceCtorEq, Int.reduceNeg, Int.reduceEq, Nat.reduceBEq, Nat.reduceBNe, Int.reduceBEq, Int.reduceBNe, String.reduceEq]; first | done | rfl | (simp (disch := omega) only [w_nat, w_add, w_addl, w_addr, w_sub, w_subl, w_mul, w_mull, w_mulr, w_u32, w_u16, w_u8, w_u32a, N_zero]; first | done | rfl))
        · first | (simp only [push_cast, ↓reduceIte, Nat.reduceEqDiff, Nat.reduceLT, Nat.reduceAdd, Nat.reduceSub, Nat.reduceMul, Nat.reduceLeDiff, Nat.reducePow, Int.reduceLT, Int.reduceToNat, reduceCtorEq, Int.reduceNeg, Int.reduceEq, Nat.reduceBEq, Nat.reduceBNe, Int.reduceBEq, Int.reduceBNe, String.reduceEq]; first | done | rfl | (simp (disch := omega) only [w_nat, w_add, w_addl, w_addr, w_sub, w_subl, w_mul, w_mull, w_mulr, w_u32, w_u16, w_u8, w_u32a, N_zero]; first | done | rfl))
    · skip
      have hil : 23 ≤ i := by simpa using c0
      obtain ⟨e1, e2⟩ := kind_none t fun m hm => hi.2 m (by omega)
      refine AWp.exit ?_
      try simp only [thenQ, blockQ, noGo, reduceIte, Nat.reduceEqDiff]
      refine hK2 _ ?_
      refine AWp.regionW ?_
      refine AWp.ret ?_
      try simp only [thenQ, blockQ, noGo]
      refine bodyQ.m ?_
      clear hK4 K4 hK3 K3 hK2 K2 hK1 K1
      rw [e1, e2]; simp only [zeroK]
      first | done | exact Hand.go
theorem fits11_c (f : KForm) (n : Nat) (hn : n < 2 ^ 40) (hl : f.least < 2 ^ 40) (hm : f.most < 2 ^ 40) (hu : 0 < f.unit) (hu2 : f.unit < 2 ^ 40) : PC Tryz.prog 68 [kformA f, nat n] (bool (kfitsN f n)) := by
  refine PC.of_bodyW (by simp only [push_cast]) Tryz.func68 rfl (by rw [Tryz.ntmps68]; simp) ?_
  refine AWp.regionW ?_
  refine AWp.seqK fun K1 hK1 => ?_
  refine AWp.regionW ?_
  refine AWp.block ?_
  refine AWp.loopK [1, 2] (fun (i : Nat) => [(5, nat (f.least + i * f.unit))]) (fun i => [.box 102 [u8 f.ty, .val (.string f.name), u8 f.mask, nat f.least, nat f.most, nat f.unit, nat f.kids]]) (fun i => ∀ j, j < i → f.least + j * f.unit ≠ n) (fun i => f.most + 1 - (f.least + i * f.unit)) (0) ?_ (fun j h => by omega) ?_
  · skip
    refine Le.m 1 ?_ ?_
    · first | with_reducible rfl | (simp only [push_cast, ↓reduceIte, Nat.reduceEqDiff, Nat.reduceLT, Nat.reduceAdd, Nat.reduceSub, Nat.reduceMul, Nat.reduceLeDiff, Nat.reducePow, Int.reduceLT, Int.reduceToNat, reduceCtorEq, Int.reduceNeg, Int.reduceEq, Nat.reduceBEq, Nat.reduceBNe, Int.reduceBEq, Int.reduceBNe, String.reduceEq]; first | done | rfl | (simp (disch := omega) only [w_nat, w_add, w_addl, w_addr, w_sub, w_subl, w_mul, w_mull, w_mulr, w_u32, w_u16, w_u8, w_u32a, N_zero]; first | done | rfl))
    · simp only [push_cast, ↓reduceIte, Nat.reduceEqDiff, Nat.reduceLT, Nat.reduceAdd, Nat.reduceSub, Nat.reduceMul, Nat.reduceLeDiff, Nat.reducePow, Int.reduceLT, Int.reduceToNat, reduceCtorEq, Int.reduceNeg, Int.reduceEq, Nat.reduceBEq, Nat.reduceBNe, Int.reduceBEq, Int.reduceBNe, String.reduceEq]
      try simp (disch := omega) only [w_nat, w_add, w_addl, w_addr, w_sub, w_subl, w_mul, w_mull, w_mulr, w_u32, w_u16, w_u8, w_u32a, N_zero]
      simp only [Nat.zero_mul, Nat.add_zero]
  · intro i hi K2 hK2
    refine AWp.seqK fun K3 hK3 => ?_
    refine AWp.regionW ?_
    refine AWp.condLM (fun c0 => ?_) (fun c0 => ?_)
    · skip
      have h0 : f.least + i * f.unit ≤ f.most := by simpa using c0
      have hs : (i + 1) * f.unit = i * f.unit + f.unit := by rw [Nat.add_mul, Nat.one_mul]
      refine AWp.skip ?_
      refine hK3 _ ?_
      refine AWp.seqK fun K4 hK4 => ?_
      refine AWp.block ?_
      refine AWp.regionW ?_
      refine AWp.condLM (fun c1 => ?_) (fun c1 => ?_)
      · skip
        have h1 : f.least + i * f.unit = n := by simpa using c1
        have hf : kfitsN f n = true := by
          have e : n - f.least = i * f.unit := by omega
          unfold kfitsN
          rw [e, Nat.mul_mod_left]
          simp
          omega
        refine AWp.regionW ?_
        refine AWp.ret ?_
        try simp only [thenQ, blockQ, noGo]
        refine bodyQ.m ?_
        clear hK4 K4 hK3 K3 hK2 K2 hK1 K1
        rw [hf]
        first | done | exact Hand.go
      · skip
        have h1 : f.least + i * f.unit ≠ n := by simpa using c1
        refine AWp.skip ?_
        refine hK4 _ ?_
        refine AWp.regionV ?_
        refine hK2 _ (i + 1) ((fun j hj => (Nat.lt_or_ge j i).elim (fun h => hi j h) (fun h => (show j = i by omega) ▸ h1))) (by omega) ?_
        refine Le.m 1 ?_ ?_
        · first | with_reducible rfl | (simp only [push_cast, ↓reduceIte, Nat.reduceEqDiff, Nat.reduceLT, Nat.reduceAdd, Nat.reduceSub, Nat.reduceMul, Nat.reduceLeDiff, Nat.reducePow, Int.reduceLT, Int.reduceToNat, reduceCtorEq, Int.reduceNeg, Int.reduceEq, Nat.reduceBEq, Nat.reduceBNe, Int.reduceBEq, Int.reduceBNe, String.reduceEq]; first | done | rfl | (simp (disch := omega) only [w_nat, w_add, w_addl, w_addr, w_sub, w_subl, w_mul, w_mull, w_mulr, w_u32, w_u16, w_u8, w_u32a, N_zero]; first | done | rfl))
        · simp only [push_cast, ↓reduceIte, Nat.reduceEqDiff, Nat.reduceLT, Nat.reduceAdd, Nat.reduceSub, Nat.reduceMul, Nat.reduceLeDiff, Nat.reducePow, Int.reduceLT, Int.reduceToNat, reduceCtorEq, Int.reduceNeg, Int.reduceEq, Nat.reduceBEq, Nat.reduceBNe, Int.reduceBEq, Int.reduceBNe, String.reduceEq]
          try simp (disch := omega) only [w_nat, w_add, w_addl, w_addr, w_sub, w_subl, w_mul, w_mull, w_mulr, w_u32, w_u16, w_u8, w_u32a, N_zero]
          rw [hs, ← Nat.add_assoc]
    · skip
      have h0 : f.most < f.least + i * f.unit := by simpa using c0
      have hf : kfitsN f n = false := by
        unfold kfitsN
        by_cases h2 : f.least ≤ n ∧ n ≤ f.most
        · have h3 : (n - f.least) % f.unit ≠ 0 := by
            intro h3
            obtain ⟨j, hj⟩ := Nat.dvd_of_mod_eq_zero h3
            rw [Nat.mul_comm] at hj
            have hlt : j < i := by
              rcases Nat.lt_or_ge j i with h | h
              · exact h
              · have := Nat.mul_le_mul_right f.unit h
                omega
            exact hi j hlt (by omega)
          simp [h3]
        · rcases Nat.lt_or_ge n f.least with h4 | h4
          · simp; omega
          · simp; omega
      refine AWp.exit ?_
      try simp only [thenQ, blockQ, noGo, reduceIte, Nat.reduceEqDiff]
      refine hK1 _ ?_
      refine AWp.regionW ?_
      refine AWp.ret ?_
      try simp only [thenQ, blockQ, noGo]
      refine bodyQ.m ?_
      clear hK3 K3 hK2 K2 hK1 K1
      rw [hf]
      first | done | exact Hand.go
theorem class11_c (k : Nat) (hk : k ≤ 6) : PC Tryz.prog 73 [nat k] (nat (kinsideN k).1) := by
  have hq : (kinsideN k).1 = if k = 3 ∨ k = 4 then 2 else if 1 ≤ k then 1 else 0 := by
    have h : k = 0 ∨ k = 1 ∨ k = 2 ∨ k = 3 ∨ k = 4 ∨ k = 5 ∨ k = 6 := by omega
    rcases h with rfl | rfl | rfl | rfl | rfl | rfl | rfl <;> rfl
  refine PC.of_bodyW (by simp only [push_cast]) Tryz.func73 rfl (by rw [Tryz.ntmps73]; simp) ?_
  refine AWp.regionW ?_
  refine AWp.seqK fun K1 hK1 => ?_
  refine AWp.regionA fun K2 hK2 => ?_
  refine ARun.segm 3 fun KS hKS => ?_
  refine ARun2.endm (hKS _ ?_); clear hKS KS
  apply ARun.grpM 2 2 false 7 [0, 5]
  · intro g2 KG hKG
    refine ARun2.gom ?_
    exact ARun2.endm (hKG _ Le.grpM)
  refine ARun2.gom ?_
  refine ARun2.endm (hK2 _ ?_)
  refine AWp.condLM (fun c0 => ?_) (fun c0 => ?_)
  · skip
    refine AWp.regionW ?_
    refine AWp.ret ?_
    try simp only [thenQ, blockQ, noGo]
    refine bodyQ.m ?_
    clear hK2 K2 hK1 K1
    rw [hq, if_pos (by simpa using c0)]
    first | done | exact Hand.go
  · skip
    refine AWp.skip ?_
    refine hK1 _ ?_
    refine AWp.seqK fun K3 hK3 => ?_
    refine AWp.regionA fun K4 hK4 => ?_
    refine ARun.segm 3 fun KS hKS => ?_
    refine ARun2.endm (hKS _ ?_); clear hKS KS
    apply ARun.grpM 2 2 true 13 [11]
    · intro g2 KG hKG
      refine ARun2.gom ?_
      exact ARun2.endm (hKG _ Le.grpM)
    refine ARun2.gom ?_
    refine ARun2.endm (hK4 _ ?_)
    refine AWp.condLM (fun c1 => ?_) (fun c1 => ?_)
    · skip
      refine AWp.regionW ?_
      refine AWp.ret ?_
      try simp only [thenQ, blockQ, noGo]
      refine bodyQ.m ?_
      clear hK4 K4 hK3 K3 hK2 K2 hK1 K1
      rw [hq, if_neg (by simpa using c0), if_pos (by simp at c1; omega)]
      first | done | exact Hand.go
    · skip
      refine AWp.skip ?_
      refine hK3 _ ?_
      refine AWp.regionW ?_
      refine AWp.ret ?_
      try simp only [thenQ, blockQ, noGo]
      refine bodyQ.m ?_
      clear hK4 K4 hK3 K3 hK2 K2 hK1 K1
      rw [hq, if_neg (by simpa using c0), if_neg (by simp at c1; omega)]
      first | done | exact Hand.go
theorem kk_ref (q n y : Nat) (hq : q ≤ 6) : (decide ((kinsideN q).2.1 ≤ n) && decide (n ≤ (kinsideN q).2.2) && (q != 1 || y == 1) && (q != 6 || (y == 5 || y == 6))) =
    if q = 0 then n == 0 else if q = 1 then (n == 1 && y == 1) else if q = 4 then (decide (1 ≤ n) && decide (n ≤ 16384)) else if q = 5 then (n == 1 || n == 2) else if q = 6 then (decide (2 ≤ n) && decide (n ≤ 16384) && (y == 5 || y == 6)) else decide (n ≤ 16384) := by
  have h : q = 0 ∨ q = 1 ∨ q = 2 ∨ q = 3 ∨ q = 4 ∨ q = 5 ∨ q = 6 := by omega
  rcases h with rfl | rfl | rfl | rfl | rfl | rfl | rfl <;> rw [Bool.eq_iff_iff] <;> simp [kinsideN] <;> omega
theorem wanted12_c (k : KForm) (l : List GNode) (hk : k.kids ≤ 6) (hl : l.length ≤ 2 ^ 40) : PC Tryz.prog 69 [kformA k, .sl false 3 (nodesA false l)] (bool (kkidsOk k l)) := by
  have hq : kkidsOk k l = _ := kk_ref k.kids l.length (l.headD default).ty hk
  refine PC.of_bodyW (by simp only [push_cast]) Tryz.func69 rfl (by rw [Tryz.ntmps69]; simp) ?_
  refine AWp.regionW ?_
  refine AWp.regionW ?_
  refine AWp.seqK fun K1 hK1 => ?_
  refine AWp.regionW ?_
  refine AWp.block ?_
  refine AWp.regionW ?_
  refine AWp.condLM (fun c0 => ?_) (fun c0 => ?_)
  · skip
    have h0 : k.kids = 0 := by simpa using c0
    rw [if_pos h0] at hq
    refine AWp.regionW ?_
    refine AWp.ret ?_
    try simp only [thenQ, blockQ, noGo]
    refine bodyQ.m ?_
    clear hK1 K1
    rw [hq]
    first | done | exact Hand.go
  · skip
    have h0 : ¬ k.kids = 0 := by simpa using c0
    rw [if_neg h0] at hq
    refine AWp.regionW ?_
    refine AWp.condLM (fun c1 => ?_) (fun c1 => ?_)
    · skip
      rw [if_pos (by simpa using c1)] at hq
      refine AWp.regionA fun K2 hK2 => ?_
      refine ARun.segm 3 fun KS hKS => ?_
      refine ARun2.endm (hKS _ ?_); clear hKS KS
      apply ARun.grpM 5 2 true 23 [18]
      · intro g2 KG hKG
        have hn : 0 < l.length := by simp at g2; omega
        refine ARun2.gom ?_
        refine ARun2.indexM (0) (nodeA false (l.headD default)) ?_ ?_
        · exact nodesA_head false l hn
        exact ARun2.endm (hKG _ Le.grpM)
      refine ARun2.gom ?_
      refine ARun2.endm (hK2 _ ?_)
      refine AWp.ret ?_
      try simp only [thenQ, blockQ, noGo]
      refine bodyQ.m ?_
      clear hK2 K2 hK1 K1
      rw [hq]
      first | done | exact Hand.go
    · skip
      rw [if_neg (by simpa using c1)] at hq
      refine AWp.regionW ?_
      refine AWp.condLM (fun c2 => ?_) (fun c2 => ?_)
      · skip
        rw [if_pos (by simpa using c2)] at hq
        refine AWp.regionA fun K3 hK3 => ?_
        refine ARun.segm 3 fun KS hKS => ?_
        refine ARun2.endm (hKS _ ?_); clear hKS KS
        apply ARun.grpM 2 2 true 31 [29]
        · intro g2 KG hKG
          refine ARun2.gom ?_
          exact ARun2.endm (hKG _ Le.grpM)
        refine ARun2.gom ?_
        refine ARun2.endm (hK3 _ ?_)
        refine AWp.ret ?_
        try simp only [thenQ, blockQ, noGo]
        refine bodyQ.m ?_
        clear hK3 K3 hK1 K1
        rw [hq]
        first | done | exact Hand.go
      · skip
        rw [if_neg (by simpa using c2)] at hq
        refine AWp.regionW ?_
        refine AWp.condLM (fun c3 => ?_) (fun c3 => ?_)
        · skip
          rw [if_pos (by simpa using c3)] at hq
          refine AWp.regionA fun K4 hK4 => ?_
          refine ARun.segm 3 fun KS hKS => ?_
          refine ARun2.endm (hKS _ ?_); clear hKS KS
          apply ARun.grpM 2 2 false 39 [37]
          · intro g2 KG hKG
            refine ARun2.gom ?_
            exact ARun2.endm (hKG _ Le.grpM)
          refine ARun2.gom ?_
          refine ARun2.endm (hK4 _ ?_)
          refine AWp.ret ?_
          try simp only [thenQ, blockQ, noGo]
          refine bodyQ.m ?_
          clear hK4 K4 hK1 K1
          rw [hq]
          first | done | exact Hand.go
        · skip
          rw [if_neg (by simpa using c3)] at hq
          refine AWp.regionW ?_
          refine AWp.condLM (fun c4 => ?_) (fun c4 => ?_)
          · skip
            rw [if_pos (by simpa using c4)] at hq
            refine AWp.regionA fun K5 hK5 => ?_
            refine ARun.segm 3 fun KS hKS => ?_
            refine ARun2.endm (hKS _ ?_); clear hKS KS
            apply ARun.grpM 2 2 true 47 [1, 45]
            · intro g2 KG hKG
              refine ARun2.gom ?_
              exact ARun2.endm (hKG _ Le.grpM)
            refine ARun.segm 2 fun KS hKS => ?_
            refine ARun2.endm (hKS _ ?_); clear hKS KS
            apply ARun.grpM 12 6 true 61 [49]
            · intro g6 KG hKG
              have hn : 0 < l.length := by simp at g6; omega
              refine ARun.segm 6 fun KS hKS => ?_
              refine ARun2.indexM (0) (nodeA false (l.headD default)) ?_ ?_
              · exact nodesA_head false l hn
              refine ARun2.endm (hKS _ ?_); clear hKS KS
              apply ARun.grpM 5 12 false 60 [49, 55]
              · intro g12 KG hKG
                refine ARun2.gom ?_
                refine ARun2.indexM (0) (nodeA false (l.headD default)) ?_ ?_
                · exact nodesA_head false l hn
                exact ARun2.endm (hKG _ Le.grpM)
              refine ARun2.gom ?_
              exact ARun2.endm (hKG _ Le.grpM)
            refine ARun2.gom ?_
            refine ARun2.endm (hK5 _ ?_)
            refine AWp.ret ?_
            try simp only [thenQ, blockQ, noGo]
            refine bodyQ.m ?_
            clear hK5 K5 hK1 K1
            rw [hq]
            first | done | exact Hand.go
          · skip
            rw [if_neg (by simpa using c4)] at hq
            refine AWp.skip ?_
            refine hK1 _ ?_
            refine AWp.regionW ?_
            refine AWp.ret ?_
            try simp only [thenQ, blockQ, noGo]
            refine bodyQ.m ?_
            clear hK1 K1
            rw [hq]
            first | done | exact Hand.go
theorem number12_c (d : List UInt8) (i : Nat) (hd : d.length ≤ 2 ^ 40) (hi : i + 2 ≤ d.length) : PC Tryz.prog 106 [.sl false 1 (bys d), nat i] (nat (peekN 2 d i)) := by
  have hp := peek_bytes d i hi
  have h1 := (d[i]'(by omega)).toNat_lt
  have h2 := (d[i + 1]'(by omega)).toNat_lt
  refine PC.of_bodyW (by simp only [push_cast]) Tryz.func106 rfl (by rw [Tryz.ntmps106]; simp) ?_
  refine AWp.regionW ?_
  refine AWp.drS [[(0, none)], [(1, none)], [(5, some 0), (6, some 1)], [(7, some 2)], [(8, some 3)], [(9, some 4)], [(0, none)], [(1, none)], [(12, some 7)], [(11, some 6), (13, some 8)], [(14, some 9)], [(15, some 10)], [(10, some 5), (16, some 11)], [(17, some 12)]] fun G hG => ?_
  refine Dr.sim ?_
  try simp only [List.cons_append, List.nil_append]
  refine Dr.sim ?_
  try simp only [List.cons_append, List.nil_append]
  refine Dr.idx (i) (.val (.int .u8 (N (d[i]'(by omega)).toNat))) ?_ ?_
  · exact bys_at _ _ (by omega)
  try simp only [List.cons_append, List.nil_append]
  refine Dr.sim ?_
  try simp only [List.cons_append, List.nil_append]
  refine Dr.sim ?_
  try simp only [List.cons_append, List.nil_append]
  refine Dr.sim ?_
  try simp only [List.cons_append, List.nil_append]
  refine Dr.sim ?_
  try simp only [List.cons_append, List.nil_append]
  refine Dr.sim ?_
  try simp only [List.cons_append, List.nil_append]
  refine Dr.sim ?_
  try simp only [List.cons_append, List.nil_append]
  refine Dr.idx (i + 1) (.val (.int .u8 (N (d[i + 1]'(by omega)).toNat))) ?_ ?_
  · exact bys_at _ _ (by omega)
  try simp only [List.cons_append, List.nil_append]
  refine Dr.sim ?_
  try simp only [List.cons_append, List.nil_append]
  refine Dr.sim ?_
  try simp only [List.cons_append, List.nil_append]
  refine Dr.sim ?_
  try simp only [List.cons_append, List.nil_append]
  refine Dr.sim ?_
  try simp only [List.cons_append, List.nil_append]
  refine Dr.finM (n := 14) [(4, 13)] [] hG YtgcjmjfjeppmgaaGreatDoor.Facts.mixed fun KD hKD => ?_
  refine ARun2.endm (hKD _ ?_); clear hKD KD hG G
  refine AWp.ret ?_
  try simp only [thenQ, blockQ, noGo]
  refine bodyQ.m ?_
  rw [hp, Nat.mul_comm]
  first | done | exact Hand.go
theorem counted12_c (c : GChunk) (hd : c.data.length ≤ 2 ^ 40) (h : c.ty = 3 → 12 ≤ c.data.length ∧ (c.data.length - 12) % 4 = 0) : PC Tryz.prog 70 [u8 c.ty, .sl false 1 (bys c.data)] (bool (!sackBad c)) := by
  have p1 := peek2_lt c.data 8
  have p2 := peek2_lt c.data 10
  have hs : (c.ty != 3 || 4 * (peekN 2 c.data 8 + peekN 2 c.data 10) == c.data.length - 12) = !sackBad c := by
    unfold sackBad
    by_cases h3 : c.ty = 3
    · have := h h3
      rw [Bool.eq_iff_iff]; simp [h3]; omega
    · have e : (c.ty == 3) = false := by simpa using h3
      simp [bne, e]
  refine PC.of_bodyW (by simp only [push_cast]) Tryz.func70 rfl (by rw [Tryz.ntmps70]; simp) ?_
  refine AWp.regionW ?_
  refine AWp.regionA fun K1 hK1 => ?_
  refine ARun.segm 3 fun KS hKS => ?_
  refine ARun2.endm (hKS _ ?_); clear hKS KS
  apply ARun.grpM 10 2 false 17 [7]
  · intro g2 KG hKG
    have h3 : c.ty = 3 := by simpa using g2
    have hl := h h3
    refine ARun2.gom ?_
    refine ARun2.callM (number12_c c.data 8 hd (by omega)) ?_
    refine ARun2.callM (number12_c c.data 10 hd (by omega)) ?_
    exact ARun2.endm (hKG _ Le.grpM)
  refine ARun2.gom ?_
  refine ARun2.endm (hK1 _ ?_)
  refine AWp.ret ?_
  try simp only [thenQ, blockQ, noGo]
  refine bodyQ.m ?_
  clear hK1 K1
  rw [← hs]
  first | done | exact Hand.go
/-- the place of what is odd; -1: nowhere -/
def oddI (c : GChunk) : Int := match oddN c with
  | some i => N i
  | none => -1
theorem odd12_c (c : GChunk) (hd : c.data.length ≤ 2 ^ 40) (h64 : c.ty = 64 → 17 ≤ c.data.length) (h194 : c.ty = 194 → 4 ≤ c.data.length ∧ (c.data.length - 4) % 8 = 0) :
    PC Tryz.prog 71 [u8 c.ty, .sl false 1 (bys c.data)] (.val (.int .i64 (oddI c))) := by
  refine PC.of_bodyW (by simp only [push_cast]) Tryz.func71 rfl (by rw [Tryz.ntmps71]; simp) ?_
  refine AWp.regionW ?_
  refine AWp.seqK fun K1 hK1 => ?_
  refine AWp.regionA fun K2 hK2 => ?_
  refine ARun.segm 3 fun KS hKS => ?_
  refine ARun2.endm (hKS _ ?_); clear hKS KS
  apply ARun.grpM 3 2 true 11 [0, 1, 8]
  · intro g2 KG hKG
    have h3 : c.ty = 64 := by simpa using g2
    have hl := h64 h3
    refine ARun2.gom ?_
    refine ARun2.callM (number12_c c.data 6 hd (by omega)) ?_
    exact ARun2.endm (hKG _ Le.grpM)
  refine ARun2.gom ?_
  refine ARun2.endm (hK2 _ ?_)
  refine AWp.condLM (fun c0 => ?_) (fun c0 => ?_)
  · skip
    have hr : oddI c = 6 := by
      simp at c0
      unfold oddI oddN; rw [if_pos c0.1, if_pos c0.2]; rfl
    refine AWp.regionW ?_
    refine AWp.ret ?_
    try simp only [thenQ, blockQ, noGo]
    refine bodyQ.m ?_
    clear hK2 K2 hK1 K1
    rw [hr]
    first | done | exact Hand.go
  · skip
    have hq : oddN c = if c.ty = 194 then oddAt c.data c.data.length 4 else none := by
      unfold oddN
      by_cases h3 : c.ty = 64
      · have hp : peekN 2 c.data 6 = 0 := by simp [h3] at c0; exact c0
        rw [if_pos h3, if_neg (by rw [hp]; simp), if_neg (by omega)]
      · rw [if_neg h3]
    refine AWp.skip ?_
    refine hK1 _ ?_
    refine AWp.seqK fun K3 hK3 => ?_
    refine AWp.regionW ?_
    refine AWp.block ?_
    refine AWp.loopK0 [0, 1] (fun (g : Nat × Nat) => [(5, nat (g.2 + 2))]) (fun g => (c.ty = 194 → oddAt c.data c.data.length 4 = oddAt c.data g.1 g.2 ∧ g.2 ≤ c.data.length ∧ (c.data.length - g.2) % 8 = 0 ∧ c.data.length - g.2 ≤ g.1)) (fun g => c.data.length - g.2) ((c.data.length, 4)) ?_ (fun h => ⟨rfl, (h194 h).1, (h194 h).2, Nat.sub_le _ _⟩) ?_
    · skip
      refine Le.m 0 ?_ ?_
      · first | with_reducible rfl | (simp only [push_cast, ↓reduceIte, Nat.reduceEqDiff, Nat.reduceLT, Nat.reduceAdd, Nat.reduceSub, Nat.reduceMul, Nat.reduceLeDiff, Nat.reducePow, Int.reduceLT, Int.reduceToNat, reduceCtorEq, Int.reduceNeg, Int.reduceEq, Nat.reduceBEq, Nat.reduceBNe, Int.reduceBEq, Int.reduceBNe, String.reduceEq]; first | done | rfl | (simp (disch := omega) only [w_nat, w_add, w_addl, w_addr, w_sub, w_subl, w_mul, w_mull, w_mulr, w_u32, w_u16, w_u8, w_u32a, N_zero]; first | done | rfl))
      · first | (simp only [push_cast, ↓reduceIte, Nat.reduceEqDiff, Nat.reduceLT, Nat.reduceAdd, Nat.reduceSub, Nat.reduceMul, Nat.reduceLeDiff, Nat.reducePow, Int.reduceLT, Int.reduceToNat, reduceCtorEq, Int.reduceNeg, Int.reduceEq, Nat.reduceBEq, Nat.reduceBNe, Int.reduceBEq, Int.reduceBNe, String.reduceEq]; first | done | rfl | (simp (disch := omega) only [w_nat, w_add, w_addl, w_addr, w_sub, w_subl, w_mul, w_mull, w_mulr, w_u32, w_u16, w_u8, w_u32a, N_zero]; first | done | rfl))
    · intro g hg K4 hK4
      obtain ⟨q, i⟩ := g
      dsimp only at hg ⊢
      refine AWp.seqK fun K5 hK5 => ?_
      refine AWp.regionA fun K6 hK6 => ?_
      refine ARun.segm 3 fun KS hKS => ?_
      refine ARun2.endm (hKS _ ?_); clear hKS KS
      apply ARun.grpM 4 2 true 19 [0, 1, 5, 15]
      · intro g2 KG hKG
        have h4 : c.ty = 194 := by simpa using g2
        have hgg := hg h4
        refine ARun2.gom ?_
        exact ARun2.endm (hKG _ Le.grpM)
      refine ARun2.gom ?_
      refine ARun2.endm (hK6 _ ?_)
      refine AWp.condLM (fun c1 => ?_) (fun c1 => ?_)
      · skip
        have h4 : c.ty = 194 ∧ i + 2 < c.data.length := by simpa using c1
        obtain ⟨hg1, hg2, hg3, hg4⟩ := hg h4.1
        obtain ⟨q, rfl⟩ : ∃ q', q = q' + 1 := ⟨q - 1, by omega⟩
        rw [oddAt, if_pos (by omega)] at hg1
        refine AWp.skip ?_
        refine hK5 _ ?_
        refine AWp.seqK fun K7 hK7 => ?_
        refine AWp.block ?_
        refine AWp.regionM fun K8 hK8 => ?_
        refine ARun2.callM (number12_c c.data (i + 2) hd (by omega)) ?_
        refine ARun2.endm (hK8 _ ?_)
        refine AWp.condLM (fun c2 => ?_) (fun c2 => ?_)
        · skip
          have hp : 1 < peekN 2 c.data (i + 2) := by simpa using c2
          rw [if_pos hp] at hg1
          have hr : oddI c = N (i + 2) := by unfold oddI; rw [hq, if_pos h4.1, hg1]
          refine AWp.regionW ?_
          refine AWp.ret ?_
          try simp only [thenQ, blockQ, noGo]
          refine bodyQ.m ?_
          clear hK8 K8 hK7 K7 hK6 K6 hK5 K5 hK4 K4 hK3 K3 hK2 K2 hK1 K1
          rw [hr]
          first | done | exact Hand.go
        · skip
          have hp : ¬ 1 < peekN 2 c.data (i + 2) := by simpa using c2
          rw [if_neg hp] at hg1
          refine AWp.skip ?_
          refine hK7 _ ?_
          refine AWp.regionV ?_
          refine hK4 _ ((q, i + 8)) ((fun _ => ⟨hg1, by show i + 8 ≤ _; omega, by show (c.data.length - (i + 8)) % 8 = 0; omega, by show c.data.length - (i + 8) ≤ q; omega⟩)) (by show c.data.length - (i + 8) < c.data.length - i; omega) ?_
          refine Le.m 0 ?_ ?_
          · first | with_reducible rfl | (simp only [push_cast, ↓reduceIte, Nat.reduceEqDiff, Nat.reduceLT, Nat.reduceAdd, Nat.reduceSub, Nat.reduceMul, Nat.reduceLeDiff, Nat.reducePow, Int.reduceLT, Int.reduceToNat, reduceCtorEq, Int.reduceNeg, Int.reduceEq, Nat.reduceBEq, Nat.reduceBNe, Int.reduceBEq, Int.reduceBNe, String.reduceEq]; first | done | rfl | (simp (disch := omega) only [w_nat, w_add, w_addl, w_addr, w_sub, w_subl, w_mul, w_mull, w_mulr, w_u32, w_u16, w_u8, w_u32a, N_zero]; first | done | rfl))
          · first | (simp only [push_cast, ↓reduceIte, Nat.reduceEqDiff, Nat.reduceLT, Nat.reduceAdd, Nat.reduceSub, Nat.reduceMul, Nat.reduceLeDiff, Nat.reducePow, Int.reduceLT, Int.reduceToNat, reduceCtorEq, Int.reduceNeg, Int.reduceEq, Nat.reduceBEq, Nat.reduceBNe, Int.reduceBEq, Int.reduceBNe, String.reduceEq]; first | done | rfl | (simp (disch := omega) only [w_nat, w_add, w_addl, w_addr, w_sub, w_subl, w_mul, w_mull, w_mulr, w_u32, w_u16, w_u8, w_u32a, N_zero]; first | done | rfl))
      · skip
        have hr : oddI c = -1 := by
          unfold oddI; rw [hq]
          by_cases h4 : c.ty = 194
          · obtain ⟨hg1, hg2, hg3, hg4⟩ := hg h4
            simp [h4] at c1
            rw [if_pos h4, hg1]
            cases q with
            | zero => rfl
            | succ q => rw [oddAt, if_neg (by omega)]
          · rw [if_neg h4]
        refine AWp.exit ?_
        try simp only [thenQ, blockQ, noGo, reduceIte, Nat.reduceEqDiff]
        refine hK3 _ ?_
        refine AWp.regionW ?_
        refine AWp.ret ?_
        try simp only [thenQ, blockQ, noGo]
        refine bodyQ.m ?_
        clear hK6 K6 hK5 K5 hK4 K4 hK3 K3 hK2 K2 hK1 K1
        rw [hr]
        first | done | exact Hand.go
theorem refAll2_c (c : Nat) (l : List GNode) (hcl : 0 < l.length → c = 1 ∨ c = 2) (hs : nSize l ≤ 2 ^ 30) : PC Tryz.prog 72 [nat c, .sl false 3 (nodesA false l)] (nat (checkL c 1 l)) := by
  have hlen := nSize_len l
  refine PC.of_bodyW (by simp only [push_cast]) Tryz.func72 rfl (by rw [Tryz.ntmps72]; simp) ?_
  refine AWp.regionW ?_
  refine AWp.seqK fun K1 hK1 => ?_
  refine AWp.regionW ?_
  refine AWp.block ?_
  refine AWp.loopK0 [0, 1] (fun (i : Nat) => [(5, nat i)]) (fun i => i ≤ l.length ∧ checkL c 1 (l.take i) = 0) (fun i => l.length - i) (0) ?_ ⟨Nat.zero_le _, rfl⟩ ?_
  · skip
    refine Le.m 0 ?_ ?_
    · first | with_reducible rfl | (simp only [push_cast, ↓reduceIte, Nat.reduceEqDiff, Nat.reduceLT, Nat.reduceAdd, Nat.reduceSub, Nat.reduceMul, Nat.reduceLeDiff, Nat.reducePow, Int.reduceLT, Int.reduceToNat, reduceCtorEq, Int.reduceNeg, Int.reduceEq, Nat.reduceBEq, Nat.reduceBNe, Int.reduceBEq, Int.reduceBNe, String.reduceEq]; first | done | rfl | (simp (disch := omega) only [w_nat, w_add, w_addl, w_addr, w_sub, w_subl, w_mul, w_mull, w_mulr, w_u32, w_u16, w_u8, w_u32a, N_zero]; first | done | rfl))
    · first | (simp only [push_cast, ↓reduceIte, Nat.reduceEqDiff, Nat.reduceLT, Nat.reduceAdd, Nat.reduceSub, Nat.reduceMul, Nat.reduceLeDiff, Nat.reducePow, Int.reduceLT, Int.reduceToNat, reduceCtorEq, Int.reduceNeg, Int.reduceEq, Nat.reduceBEq, Nat.reduceBNe, Int.reduceBEq, Int.reduceBNe, String.reduceEq]; first | done | rfl | (simp (disch := omega) only [w_nat, w_add, w_addl, w_addr, w_sub, w_subl, w_mul, w_mull, w_mulr, w_u32, w_u16, w_u8, w_u32a, N_zero]; first | done | rfl))
  · intro i hi K2 hK2
    refine AWp.seqK fun K3 hK3 => ?_
    refine AWp.regionW ?_
    refine AWp.condLM (fun c0 => ?_) (fun c0 => ?_)
    · skip
      have hil : i < l.length := by simpa using c0
      have hc := hcl (by omega)
      have hm := List.getElem_mem hil
      have hn1 := nSize_one hm
      refine AWp.skip ?_
      refine hK3 _ ?_
      refine AWp.seqK fun K4 hK4 => ?_
      refine AWp.block ?_
      refine AWp.regionM fun K5 hK5 => ?_
      refine ARun2.indexM (i) (nodeA false l[i]) ?_ ?_
      · exact nodesA_at _ _ _ hil
      refine ARun2.callM (check08_c c 1 l[i] hc (by omega) (by omega)) ?_
      refine ARun2.endm (hK5 _ ?_)
      refine AWp.regionW ?_
      refine AWp.condLM (fun c1 => ?_) (fun c1 => ?_)
      · skip
        have hne : checkN c 1 l[i] ≠ 0 := by simpa using c1
        have hr := checkL_at c 1 l i hil hi.2 hne
        refine AWp.regionW ?_
        refine AWp.ret ?_
        try simp only [thenQ, blockQ, noGo]
        refine bodyQ.m ?_
        clear hK5 K5 hK4 K4 hK3 K3 hK2 K2 hK1 K1
        rw [hr]
        first | done | exact Hand.go
      · skip
        have heq : checkN c 1 l[i] = 0 := by simpa using c1
        refine AWp.skip ?_
        refine hK4 _ ?_
        refine AWp.regionV ?_
        refine hK2 _ (i + 1) (⟨hil, by rw [List.take_succ_eq_append_getElem hil, checkL_snoc, hi.2]; simpa using heq⟩) (by omega) ?_
        refine Le.m 0 ?_ ?_
        · first | with_reducible rfl | (simp only [push_cast, ↓reduceIte, Nat.reduceEqDiff, Nat.reduceLT, Nat.reduceAdd, Nat.reduceSub, Nat.reduceMul, Nat.reduceLeDiff, Nat.reducePow, Int.reduceLT, Int.reduceToNat, reduceCtorEq, Int.reduceNeg, Int.reduceEq, Nat.reduceBEq, Nat.reduceBNe, Int.reduceBEq, Int.reduceBNe, String.reduceEq]; first | done | rfl | (simp (disch := omega) only [w_nat, w_add, w_addl, w_addr, w_sub, w_subl, w_mul, w_mull, w_mulr, w_u32, w_u16, w_u8, w_u32a, N_zero]; first | done | rfl))
        · first | (simp only [push_cast, ↓reduceIte, Nat.reduceEqDiff, Nat.reduceLT, Nat.reduceAdd, Nat.reduceSub, Nat.reduceMul, Nat.reduceLeDiff, Nat.reducePow, Int.reduceLT, Int.reduceToNat, reduceCtorEq, Int.reduceNeg, Int.reduceEq, Nat.reduceBEq, Nat.reduceBNe, Int.reduceBEq, Int.reduceBNe, String.reduceEq]; first | done | rfl | (simp (disch := omega) only [w_nat, w_add, w_addl, w_addr, w_sub, w_subl, w_mul, w_mull, w_mulr, w_u32, w_u16, w_u8, w_u32a, N_zero]; first | done | rfl))
    · skip
      have hil : i = l.length := by have := hi.1; simp at c0; omega
      subst hil
      have hr : checkL c 1 l = 0 := by have := hi.2; rwa [List.take_length] at this
      refine AWp.exit ?_
      try simp only [thenQ, blockQ, noGo, reduceIte, Nat.reduceEqDiff]
      refine hK1 _ ?_
      refine AWp.regionW ?_
      refine AWp.ret ?_
      try simp only [thenQ, blockQ, noGo]
      refine bodyQ.m ?_
      clear hK3 K3 hK2 K2 hK1 K1
      rw [hr]
      first | done | exact Hand.go
theorem size12_c (c : GChunk) (hd : c.data.length ≤ 2 ^ 40) (hs : nSize c.kids ≤ 2 ^ 30) : PC Tryz.prog 74 [chunkA false c] (nat (4 + c.data.length + nSize c.kids)) := by
  refine PC.of_bodyW (by simp only [push_cast]) Tryz.func74 rfl (by rw [Tryz.ntmps74]; simp) ?_
  refine AWp.regionW ?_
  refine AWp.drS [[(1, none)], [(3, some 0)], [(4, some 1)], [(5, some 2)], [(1, none)], [(7, some 4)], [(8, some 5)], [(6, some 3), (9, some 6)], [(10, some 7)]] fun G hG => ?_
  refine Dr.sim ?_
  try simp only [List.cons_append, List.nil_append]
  refine Dr.sim ?_
  try simp only [List.cons_append, List.nil_append]
  refine Dr.sim ?_
  try simp only [List.cons_append, List.nil_append]
  refine Dr.sim ?_
  try simp only [List.cons_append, List.nil_append]
  refine Dr.sim ?_
  try simp only [List.cons_append, List.nil_append]
  refine Dr.sim ?_
  try simp only [List.cons_append, List.nil_append]
  refine Dr.call (size08_c c.kids hs) ?_
  try simp only [List.cons_append, List.nil_append]
  refine Dr.sim ?_
  try simp only [List.cons_append, List.nil_append]
  refine Dr.sim ?_
  try simp only [List.cons_append, List.nil_append]
  refine Dr.finM (n := 9) [(2, 8)] [] hG YtgcjmjfjeppmgaaGreatDoor.Facts.mixed fun KD hKD => ?_
  refine ARun2.endm (hKD _ ?_); clear hKD KD hG G
  refine AWp.ret ?_
  try simp only [thenQ, blockQ, noGo]
  refine bodyQ.m ?_
  first | done | exact Hand.go
set_option maxRecDepth 100000 in
theorem mask_ref : ((List.range 256).all fun f => [0, 1, 15].all fun m => (bitsV .and .i64 (N f) (N (255 - m)) != 0) == maskBad f m) = true := by kernel_rfl
theorem mask_eq (f m : Nat) (hf : f < 256) (hm : m = 0 ∨ m = 1 ∨ m = 15) : (bitsV .and .i64 (N f) (N (255 - m)) != 0) = maskBad f m := by
  have h := List.all_eq_true.1 mask_ref f (by simpa using hf)
  have h2 := List.all_eq_true.1 h m (by simpa using hm)
  simpa using h2
theorem value_odd (c : GChunk) : (valueE c).codeOf.1 = if 0 ≤ oddI c then 11 else 0 := by
  unfold valueE oddI
  cases oddN c <;> simp [Er.codeOf, N]
theorem code_if (e : Er) : (if e = .ok then Er.ok else e).codeOf = e.codeOf := by
  split
  · rename_i h; rw [h]
  · rfl
theorem preE_eq (c : GChunk) : (preE c).codeOf.1 =
    if maskBad c.flags (kindOf c.ty).mask = true then 6 else if kfitsN (kindOf c.ty) c.data.length = false then 7 else if kkidsOk (kindOf c.ty) c.kids = false then 7 else if sackBad c = true then 8 else if 0 ≤ oddI c then 11 else 0 := by
  unfold preE
  simp only [firstE, flagsE, dataE, kidsE, countE]
  by_cases h1 : maskBad c.flags (kindOf c.ty).mask = true
  · simp [h1, Er.codeOf]
  · by_cases h2 : kfitsN (kindOf c.ty) c.data.length = false
    · simp [h1, h2, Er.codeOf]
    · by_cases h3 : kkidsOk (kindOf c.ty) c.kids = false
      · simp [h1, h2, h3, Er.codeOf]
      · by_cases h4 : sackBad c = true
        · simp [h1, h2, h3, h4, Er.codeOf]
        · simp [h1, h2, h3, h4, code_if, value_odd]
theorem fits_facts {c : GChunk} (h : kfitsN (kindOf c.ty) c.data.length = true) : (c.ty = 3 → 12 ≤ c.data.length ∧ (c.data.length - 12) % 4 = 0) ∧ (c.ty = 64 → 17 ≤ c.data.length) ∧ (c.ty = 194 → 4 ≤ c.data.length ∧ (c.data.length - 4) % 8 = 0) := by
  unfold kfitsN at h
  simp only [Bool.and_eq_true, decide_eq_true_eq, beq_iff_eq] at h
  obtain ⟨⟨h1, h2⟩, h3⟩ := h
  refine ⟨fun e => ?_, fun e => ?_, fun e => ?_⟩
  · rw [e] at h1 h3; exact ⟨h1, h3⟩
  · rw [e] at h1; exact h1
  · rw [e] at h1 h3; exact ⟨h1, h3⟩
theorem check12_c (c : GChunk) (hfl : c.flags < 256) (hd : c.data.length ≤ 2 ^ 39) (hs : nSize c.kids ≤ 2 ^ 30) : PC Tryz.prog 20 [chunkA false c] (nat (checkC c)) := by
  have hkl := nSize_len c.kids
  have hb := kind_bd c.ty
  have hof := of11_c c.ty
  have hm := mask_eq c.flags (kindOf c.ty).mask hfl hb.2.2.2.2.2.1
  obtain ⟨C, hC0⟩ : ∃ C, C = checkC c := ⟨_, rfl⟩
  obtain ⟨S, hS0⟩ : ∃ S, S = startC c := ⟨_, rfl⟩
  have hC : C = if S ≠ 0 then S else if checkL (classOf c.ty) 1 c.kids ≠ 0 then checkL (classOf c.ty) 1 c.kids else if 65535 < 4 + c.data.length + nSize c.kids then 4 else 0 := by rw [hC0, hS0]; rfl
  have hst : S = if kindHas c.ty = true then (if maskBad c.flags (kindOf c.ty).mask = true then 6 else if kfitsN (kindOf c.ty) c.data.length = false then 7 else if kkidsOk (kindOf c.ty) c.kids = false then 7 else if sackBad c = true then 8 else if 0 ≤ oddI c then 11 else 0) else if 0 < c.kids.length then 7 else 0 := by
    rw [hS0, ← preE_eq]; rfl
  rw [← hC0]
  have e255 : IntKind.i64.wrap (255 - N (kindOf c.ty).mask) = N (255 - (kindOf c.ty).mask) := by rw [IntKind.wrap_i64]; unfold N; omega
  have hcl : (kinsideN (kindOf c.ty).kids).1 = classOf c.ty := rfl
  have hcx := class11_c (kindOf c.ty).kids (by omega)
  rw [hcl] at hcx
  refine PC.of_bodyW (by simp only [push_cast]) Tryz.func20 rfl (by rw [Tryz.ntmps20]; simp) ?_
  refine AWp.regionW ?_
  refine AWp.regionM fun K1 hK1 => ?_
  refine ARun2.callM (hof) ?_
  refine ARun2.endm (hK1 _ ?_)
  refine AWp.seqK fun K2 hK2 => ?_
  refine AWp.regionA fun K3 hK3 => ?_
  refine ARun.segm 2 fun KS hKS => ?_
  refine ARun2.endm (hKS _ ?_); clear hKS KS
  apply ARun.grpM 9 1 true 22 [1, 3, 4, 13]
  · intro g1 KG hKG
    refine ARun2.gom ?_
    exact ARun2.endm (hKG _ Le.grpM)
  refine ARun2.gom ?_
  refine ARun2.endm (hK3 _ ?_)
  refine AWp.condLM (fun c0 => ?_) (fun c0 => ?_)
  · skip
    rw [e255, hm] at c0
    simp at c0
    rw [if_pos c0.1, if_pos c0.2] at hst
    rw [hst, if_pos (by simp)] at hC
    refine AWp.regionW ?_
    refine AWp.ret ?_
    try simp only [thenQ, blockQ, noGo]
    refine bodyQ.m ?_
    clear hK3 K3 hK2 K2 hK1 K1
    rw [hC]
    first | done | exact Hand.go
  · skip
    rw [e255, hm] at c0
    refine AWp.skip ?_
    refine hK2 _ ?_
    refine AWp.seqK fun K4 hK4 => ?_
    refine AWp.regionA fun K5 hK5 => ?_
    refine ARun.segm 3 fun KS hKS => ?_
    refine ARun2.endm (hKS _ ?_); clear hKS KS
    apply ARun.grpM 4 2 true 30 [1, 3, 4, 26]
    · intro g2 KG hKG
      refine ARun2.gom ?_
      exact ARun2.endm (hKG _ Le.grpM)
    refine ARun.segm 2 fun KS hKS => ?_
    refine ARun2.endm (hKS _ ?_); clear hKS KS
    apply ARun.grpM 16 8 false 48 [1, 3, 4, 32]
    · intro g8 KG hKG
      refine ARun.segm 2 fun KS hKS => ?_
      refine ARun2.endm (hKS _ ?_); clear hKS KS
      apply ARun.grpM 13 10 true 47 [1, 3, 4, 32, 34]
      · intro g10 KG hKG
        have hh : kindHas c.ty = true := g10
        obtain ⟨u1, u2⟩ := hb.2.2.2.2.2.2.1 hh
        refine ARun.segm 7 fun KS hKS => ?_
        refine ARun2.callM (fits11_c (kindOf c.ty) c.data.length (by omega) (by omega) (by omega) u1 (by omega)) ?_
        refine ARun2.endm (hKS _ ?_); clear hKS KS
        apply ARun.grpM 5 17 false 46 [1, 3, 4, 32, 34, 41]
        · intro g17 KG hKG
          refine ARun2.gom ?_
          refine ARun2.callM (wanted12_c (kindOf c.ty) c.kids (by omega) (by omega)) ?_
          exact ARun2.endm (hKG _ Le.grpM)
        refine ARun2.gom ?_
        exact ARun2.endm (hKG _ Le.grpM)
      refine ARun2.gom ?_
      exact ARun2.endm (hKG _ Le.grpM)
    refine ARun2.gom ?_
    refine ARun2.endm (hK5 _ ?_)
    refine AWp.condLM (fun c1 => ?_) (fun c1 => ?_)
    · skip
      have h7 : S = 7 := by
        rw [hst]; revert c0 c1
        cases kindHas c.ty <;> cases maskBad c.flags (kindOf c.ty).mask <;> cases kfitsN (kindOf c.ty) c.data.length <;> cases kkidsOk (kindOf c.ty) c.kids <;> by_cases hk0 : 0 < c.kids.length <;> simp [hk0]
      rw [h7, if_pos (by simp)] at hC
      refine AWp.regionW ?_
      refine AWp.ret ?_
      try simp only [thenQ, blockQ, noGo]
      refine bodyQ.m ?_
      clear hK5 K5 hK4 K4 hK3 K3 hK2 K2 hK1 K1
      rw [hC]
      first | done | exact Hand.go
    · skip
      have hx : (kindHas c.ty = true → maskBad c.flags (kindOf c.ty).mask = false ∧ kfitsN (kindOf c.ty) c.data.length = true ∧ kkidsOk (kindOf c.ty) c.kids = true) ∧ (kindHas c.ty = false → ¬ 0 < c.kids.length) := by
        revert c0 c1
        cases kindHas c.ty <;> cases maskBad c.flags (kindOf c.ty).mask <;> cases kfitsN (kindOf c.ty) c.data.length <;> cases kkidsOk (kindOf c.ty) c.kids <;> by_cases hk0 : 0 < c.kids.length <;> simp [hk0]
      have hst2 : S = if kindHas c.ty = true then (if sackBad c = true then 8 else if 0 ≤ oddI c then 11 else 0) else 0 := by
        rw [hst]
        cases hk : kindHas c.ty with
        | true => obtain ⟨x1, x2, x3⟩ := hx.1 hk; simp [x1, x2, x3]
        | false => simp [hx.2 hk]
      have hff : kindHas c.ty = true → _ := fun hk => fits_facts (hx.1 hk).2.1
      have hcls : 0 < c.kids.length → classOf c.ty = 1 ∨ classOf c.ty = 2 := fun hl => by
        cases hk : kindHas c.ty with
        | true => exact kclass _ _ (hx.1 hk).2.2 (by omega) hl
        | false => exact absurd hl (hx.2 hk)
      refine AWp.skip ?_
      refine hK4 _ ?_
      refine AWp.seqK fun K6 hK6 => ?_
      refine AWp.regionA fun K7 hK7 => ?_
      refine ARun.segm 2 fun KS hKS => ?_
      refine ARun2.endm (hKS _ ?_); clear hKS KS
      apply ARun.grpM 6 1 true 57 [1, 3, 4, 51]
      · intro g1 KG hKG
        have hh : kindHas c.ty = true := g1
        refine ARun2.gom ?_
        refine ARun2.callM (counted12_c c (by omega) (hff hh).1) ?_
        exact ARun2.endm (hKG _ Le.grpM)
      refine ARun2.gom ?_
      refine ARun2.endm (hK7 _ ?_)
      refine AWp.condLM (fun c2 => ?_) (fun c2 => ?_)
      · skip
        have h8 : S = 8 := by
          rw [hst2]; revert c2
          cases kindHas c.ty <;> cases sackBad c <;> simp
        rw [h8, if_pos (by simp)] at hC
        refine AWp.regionW ?_
        refine AWp.ret ?_
        try simp only [thenQ, blockQ, noGo]
        refine bodyQ.m ?_
        clear hK7 K7 hK6 K6 hK5 K5 hK4 K4 hK3 K3 hK2 K2 hK1 K1
        rw [hC]
        first | done | exact Hand.go
      · skip
        refine AWp.skip ?_
        refine hK6 _ ?_
        refine AWp.seqK fun K8 hK8 => ?_
        refine AWp.regionA fun K9 hK9 => ?_
        refine ARun.segm 2 fun KS hKS => ?_
        refine ARun2.endm (hKS _ ?_); clear hKS KS
        apply ARun.grpM 6 1 true 66 [1, 3, 60]
        · intro g1 KG hKG
          have hh : kindHas c.ty = true := g1
          refine ARun2.gom ?_
          refine ARun2.callM (odd12_c c (by omega) (hff hh).2.1 (hff hh).2.2) ?_
          exact ARun2.endm (hKG _ Le.grpM)
        refine ARun2.gom ?_
        refine ARun2.endm (hK9 _ ?_)
        refine AWp.condLM (fun c3 => ?_) (fun c3 => ?_)
        · skip
          have h11 : S = 11 := by
            rw [hst2]; revert c2 c3
            cases kindHas c.ty <;> cases sackBad c <;> by_cases ho : 0 ≤ oddI c <;> simp [ho]
          rw [h11, if_pos (by simp)] at hC
          refine AWp.regionW ?_
          refine AWp.ret ?_
          try simp only [thenQ, blockQ, noGo]
          refine bodyQ.m ?_
          clear hK9 K9 hK8 K8 hK7 K7 hK6 K6 hK5 K5 hK4 K4 hK3 K3 hK2 K2 hK1 K1
          rw [hC]
          first | done | exact Hand.go
        · skip
          have h0 : S = 0 := by
            rw [hst2]; revert c2 c3
            cases kindHas c.ty <;> cases sackBad c <;> by_cases ho : 0 ≤ oddI c <;> simp [ho]
          rw [h0, if_neg (by simp)] at hC
          refine AWp.skip ?_
          refine hK8 _ ?_
          refine AWp.drS [[(3, none)], [(68, some 0)], [(69, some 1)], [(1, none)], [(71, some 3)], [(70, some 2), (72, some 4)], [(73, some 5)]] fun G hG => ?_
          refine Dr.sim ?_
          try simp only [List.cons_append, List.nil_append]
          refine Dr.sim ?_
          try simp only [List.cons_append, List.nil_append]
          refine Dr.call (hcx) ?_
          try simp only [List.cons_append, List.nil_append]
          refine Dr.sim ?_
          try simp only [List.cons_append, List.nil_append]
          refine Dr.sim ?_
          try simp only [List.cons_append, List.nil_append]
          refine Dr.call (refAll2_c (classOf c.ty) c.kids hcls hs) ?_
          try simp only [List.cons_append, List.nil_append]
          refine Dr.sim ?_
          try simp only [List.cons_append, List.nil_append]
          refine Dr.finM (n := 7) [(5, 6)] [1] hG YtgcjmjfjeppmgaaGreatDoor.Facts.mixed fun KD hKD => ?_
          refine ARun2.endm (hKD _ ?_); clear hKD KD hG G
          refine AWp.seqK fun K10 hK10 => ?_
          refine AWp.regionW ?_
          refine AWp.condLM (fun c4 => ?_) (fun c4 => ?_)
          · skip
            rw [if_pos (by simpa using c4)] at hC
            refine AWp.regionW ?_
            refine AWp.ret ?_
            try simp only [thenQ, blockQ, noGo]
            refine bodyQ.m ?_
            clear hK10 K10 hK9 K9 hK8 K8 hK7 K7 hK6 K6 hK5 K5 hK4 K4 hK3 K3 hK2 K2 hK1 K1
            rw [hC]
            first | done | exact Hand.go
          · skip
            rw [if_neg (by simpa using c4)] at hC
            refine AWp.skip ?_
            refine hK10 _ ?_
            refine AWp.seqK fun K11 hK11 => ?_
            refine AWp.regionM fun K12 hK12 => ?_
            refine ARun2.callM (size12_c c (by omega) hs) ?_
            refine ARun2.endm (hK12 _ ?_)
            refine AWp.condLM (fun c5 => ?_) (fun c5 => ?_)
            · skip
              rw [if_pos (by simpa using c5)] at hC
              refine AWp.regionW ?_
              refine AWp.ret ?_
              try simp only [thenQ, blockQ, noGo]
              refine bodyQ.m ?_
              clear hK12 K12 hK11 K11 hK10 K10 hK9 K9 hK8 K8 hK7 K7 hK6 K6 hK5 K5 hK4 K4 hK3 K3 hK2 K2 hK1 K1
              rw [hC]
              first | done | exact Hand.go
            · skip
              rw [if_neg (by simpa using c5)] at hC
              refine AWp.skip ?_
              refine hK11 _ ?_
              refine AWp.regionW ?_
              refine AWp.ret ?_
              try simp only [thenQ, blockQ, noGo]
              refine bodyQ.m ?_
              clear hK12 K12 hK11 K11 hK10 K10 hK9 K9 hK8 K8 hK7 K7 hK6 K6 hK5 K5 hK4 K4 hK3 K3 hK2 K2 hK1 K1
              rw [hC]
              first | done | exact Hand.go
end Go.Proofs.YtgcjmjfjeppmgaaGreatDoor.C
/- Bytes counted up, one after the other. -/
set_option linter.unusedVariables false
set_option linter.unusedSimpArgs false
namespace Go.Proofs.YtgcjmjfjeppmgaaGreatDoor.C
open Go.Abs
@[push_cast] theorem bstr_size (d : List UInt8) : (bstr d).size = d.length := by simp [bstr, ByteArray.size]
end Go.Proofs.YtgcjmjfjeppmgaaGreatDoor.C
/- Entries of map literals. No condition. -/
namespace Go.Abs
set_option linter.unusedVariables false
set_option linter.unusedSectionVars false
set_option linter.unusedSimpArgs false
section
variable {P : Program} {ops : Array Oper} {E : Env} {s s' : AS} {ρ σ : List Value} {B : Nat → Prop} {a : Act} {w w' : World} {o : Oper} {rest : List Oper} {Q : AS → Prop} {R : Exit → AS → Prop}
variable {nds : List (List (Nat × Option Nat))} {vals : List AV} {G : Prop}
end
end Go.Abs
/- control: right, is, Number, Plain, Heartbeat, Abort, Report, Value, Info; and the reference's. -/
set_option linter.unusedVariables false
set_option linter.unusedSimpArgs false
namespace Go.Proofs.YtgcjmjfjeppmgaaGreatDoor.C
open Go.Abs
theorem nSize_szs2 (l : List GNode) : nSize l ≤ 8 * szs l + 8 := by
  have h := nSize_sz (.mk 0 [] l)
  have e := vlen_eq (.mk 0 [] l)
  have e1 : nSize [GNode.mk 0 [] l] = 4 + vlen (.mk 0 [] l) := by simp [nSize, nLens, tlvSize, sumUp, upN, gapN]
  simp only [GNode.data, GNode.kids, List.length_nil] at e
  rw [e1, e, GNode.sz, List.length_nil] at h
  omega
structure Small (c : GChunk) : Prop where
  ty : c.ty < 256
  flags : c.flags < 256
  data : c.data.length ≤ 2 ^ 26
  kids : szs c.kids ≤ 2 ^ 26
theorem Small.check {c : GChunk} (h : Small c) : PC Tryz.prog 18 [chunkA false c] (errA (checkC c)) :=
  ccheck_c c h.ty (Nat.le_trans h.data (by decide)) (by have := nSize_szs2 c.kids; have := h.kids; omega)
theorem Small.check12 {c : GChunk} (h : Small c) : PC Tryz.prog 20 [chunkA false c] (nat (checkC c)) :=
  check12_c c h.flags (Nat.le_trans h.data (by decide)) (by have := nSize_szs2 c.kids; have := h.kids; omega)
theorem Small.clone {c : GChunk} (h : Small c) : PC Tryz.prog 83 [chunkA false c] (chunkA true c) :=
  cclone_f c (Nat.le_trans h.data (by decide)) (Nat.le_trans h.kids (by decide))
theorem small_zero : Small .zero := ⟨by decide, by decide, by decide, by decide⟩
def sameC (a b : GChunk) : Bool := a.ty == b.ty && a.flags == b.flags && decide (a.data = b.data) && sameL a.kids b.kids
theorem sameC_self (a : GChunk) : sameC a a = true := by
  unfold sameC; rw [(sameL_iff _ _).2 rfl]; simp
theorem same12_c (a b : GChunk) (hd : a.data.length ≤ 2 ^ 40) (hs : szs a.kids ≤ 2 ^ 40) : PC Tryz.prog 15 [chunkA false a, chunkA false b] (bool (sameC a b)) := by
  refine PC.of_bodyW (by simp only [push_cast]) Tryz.func15 rfl (by rw [Tryz.ntmps15]; simp) ?_
  refine AWp.regionW ?_
  refine AWp.regionA fun K1 hK1 => ?_
  refine ARun.segm 6 fun KS hKS => ?_
  refine ARun2.endm (hKS _ ?_); clear hKS KS
  apply ARun.grpM 5 5 true 15 [2, 3, 10]
  · intro g5 KG hKG
    refine ARun2.gom ?_
    exact ARun2.endm (hKG _ Le.grpM)
  refine ARun.segm 2 fun KS hKS => ?_
  refine ARun2.endm (hKS _ ?_); clear hKS KS
  apply ARun.grpM 5 12 true 22 [2, 3, 17]
  · intro g12 KG hKG
    refine ARun2.gom ?_
    refine ARun2.callM (same01_c a.data b.data hd) ?_
    exact ARun2.endm (hKG _ Le.grpM)
  refine ARun.segm 2 fun KS hKS => ?_
  refine ARun2.endm (hKS _ ?_); clear hKS KS
  apply ARun.grpM 5 19 true 29 [24]
  · intro g19 KG hKG
    refine ARun2.gom ?_
    refine ARun2.callM (same08_c a.kids b.kids hs) ?_
    exact ARun2.endm (hKG _ Le.grpM)
  refine ARun2.gom ?_
  refine ARun2.endm (hK1 _ ?_)
  refine AWp.ret ?_
  try simp only [thenQ, blockQ, noGo]
  refine bodyQ.m ?_
  clear hK1 K1
  simp only [sameC]
  first | done | exact Hand.go
theorem Small.same {a b : GChunk} (h : Small a) : PC Tryz.prog 15 [chunkA false a, chunkA false b] (bool (sameC a b)) :=
  same12_c a b (Nat.le_trans h.data (by decide)) (Nat.le_trans h.kids (by decide))
def fewC (c : GChunk) : Bool := decide (c.data.length ≤ 70000) && fewN c.kids
theorem few12_c (c : GChunk) (h : Small c) : PC Tryz.prog 19 [chunkA false c] (bool (fewC c)) := by
  refine PC.of_bodyW (by simp only [push_cast]) Tryz.func19 rfl (by rw [Tryz.ntmps19]; simp) ?_
  refine AWp.regionW ?_
  refine AWp.regionA fun K1 hK1 => ?_
  refine ARun.segm 5 fun KS hKS => ?_
  refine ARun2.endm (hKS _ ?_); clear hKS KS
  apply ARun.grpM 3 4 true 10 [7]
  · intro g4 KG hKG
    refine ARun2.gom ?_
    refine ARun2.callM (few_c c.kids (Nat.le_trans h.kids (by decide))) ?_
    exact ARun2.endm (hKG _ Le.grpM)
  refine ARun2.gom ?_
  refine ARun2.endm (hK1 _ ?_)
  refine AWp.ret ?_
  try simp only [thenQ, blockQ, noGo]
  refine bodyQ.m ?_
  clear hK1 K1
  simp only [fewC]
  first | done | exact Hand.go
@[push_cast] theorem errA_nil (e : Nat) : nilIs .ifc (errA e) = some (e == 0) := nilIs_err e
end Go.Proofs.YtgcjmjfjeppmgaaGreatDoor.C
/- control: Value, Info, Answer; the reference's Value, Info, Answer. -/
set_option linter.unusedVariables false
set_option linter.unusedSimpArgs false
namespace Go.Proofs.YtgcjmjfjeppmgaaGreatDoor.C
open Go.Abs
/-- what is known of a chunk that is right -/
theorem check_zero {c : GChunk} (h : checkC c = 0) (hh : kindHas c.ty = true) : maskBad c.flags (kindOf c.ty).mask = false ∧ kfitsN (kindOf c.ty) c.data.length = true ∧ kkidsOk (kindOf c.ty) c.kids = true ∧ checkL (classOf c.ty) 1 c.kids = 0 := by
  have hs : startC c = 0 := by
    unfold checkC at h
    split at h
    · rename_i h1; exact absurd h h1
    · rename_i h1; simpa using h1
  have hl : checkL (classOf c.ty) 1 c.kids = 0 := by
    unfold checkC at h
    rw [hs, if_neg (by simp)] at h
    split at h
    · rename_i h1; exact absurd h h1
    · rename_i h1; simpa using h1
  unfold startC at hs
  rw [if_pos hh, preE_eq] at hs
  cases h1 : maskBad c.flags (kindOf c.ty).mask with
  | true => rw [h1] at hs; simp at hs
  | false =>
    cases h2 : kfitsN (kindOf c.ty) c.data.length with
    | false => rw [h1, h2] at hs; simp at hs
    | true =>
      cases h3 : kkidsOk (kindOf c.ty) c.kids with
      | false => rw [h1, h2, h3] at hs; simp at hs
      | true => exact ⟨rfl, rfl, rfl, hl⟩
end Go.Proofs.YtgcjmjfjeppmgaaGreatDoor.C
/- Structs of numbers compared. No condition. -/
namespace Go.Abs
set_option linter.unusedVariables false
set_option linter.unusedSectionVars false
set_option linter.unusedSimpArgs false
@[push_cast] def eqAll : List (IntKind × Int × Int) → Bool
  | [] => true
  | p :: r => (p.2.1 == p.2.2) && eqAll r
section
variable {P : Program} {ops : Array Oper} {E : Env} {s s' : AS} {ρ : List Value} {B : Nat → Prop} {a : Act} {w w' : World} {o : Oper} {rest : List Oper} {Q : AS → Prop} {R : Exit → AS → Prop} {nds : List (List (Nat × Option Nat))} {vals : List AV} {G : Prop}
/-- a literal in a drawn head, its elements told -/
theorem Dr.buildV {T : TypeId} {len sz : Nat} {parts : Array (Nat × Operand)} {xs : List AV} (k : Dr P ops s nds (vals ++ [.sl true sz xs]) G) (hn : ndsB nds = true := by first | rfl | decide) (hol : ops[vals.length]? = some o := by exact Go.Abs.evT)
    (ho : o.op = .buildSlice T len parts := by rfl) (hg : gd ops { s with fr := needFr s.fr vals (nds.getD vals.length []) } o = some true := by exact Go.Abs.evT) (hz : elSz P T = some sz := by exact Go.Abs.evT)
    (hp : parts.toList.map (·.1) = List.range len := by rfl) (hl : decide (len * sz ≤ 2 ^ 24) = true := by first | rfl | decide)
    (hxs : (parts.toList.map fun p => AS.ev { s with fr := needFr s.fr vals (nds.getD vals.length []) } p.2) = xs := by
      simp only [List.map_cons, List.map_nil]
      exact Go.Abs.evT)
    (hx : ∀ x ∈ xs, x.flat = true ∧ x.cells.length = sz := by exact Go.Abs.evT) : Dr P ops s nds vals G :=
  Dr.step hn hol (by
    have h := NSpec.buildSlice hg ho hz ⟨hp, fun p hpm => hx _ (by rw [← hxs]; exact List.mem_map.2 ⟨p, hpm, rfl⟩), of_decide_eq_true hl⟩
    rw [← hxs]; exact h) k
/-! ### a function's value with bound arguments is called -/
end
end Go.Abs
/- initial: is, Of, all, Cookie, Has, Echo, Streams. -/
set_option linter.unusedVariables false
set_option linter.unusedSimpArgs false
namespace Go.Proofs.YtgcjmjfjeppmgaaGreatDoor.C
open Go.Abs
structure Vals where
  tag : Nat
  window : Nat
  out : Nat
  inn : Nat
  tsn : Nat
@[push_cast] def valsA (v : Vals) : AV := .agg [u32 v.tag, u32 v.window, u16 v.out, u16 v.inn, u32 v.tsn]
structure Vals.Ok (v : Vals) : Prop where
  tag : v.tag < 2 ^ 32
  window : v.window < 2 ^ 32
  out : v.out < 2 ^ 16
  inn : v.inn < 2 ^ 16
  tsn : v.tsn < 2 ^ 32
def Vals.zero : Vals := ⟨0, 0, 0, 0, 0⟩
def valsOf (d : List UInt8) : Vals := ⟨peekN 4 d 0, peekN 4 d 4, peekN 2 d 8, peekN 2 d 10, peekN 4 d 12⟩
end Go.Proofs.YtgcjmjfjeppmgaaGreatDoor.C
/- initial: all, Cookie, Has, Echo, Extensions, Streams, Make; the reference's Make. -/
set_option linter.unusedVariables false
set_option linter.unusedSimpArgs false
namespace Go.Proofs.YtgcjmjfjeppmgaaGreatDoor.C
open Go.Abs
end Go.Proofs.YtgcjmjfjeppmgaaGreatDoor.C
/- initial.Make; wharfref01.Put, Numbers; wharfref15: Make, Of, Cookie, Has, Extensions. -/
set_option linter.unusedVariables false
set_option linter.unusedSimpArgs false
namespace Go.Proofs.YtgcjmjfjeppmgaaGreatDoor.C
open Go.Abs
end Go.Proofs.YtgcjmjfjeppmgaaGreatDoor.C
/- Frames written: tlv.All (the iterator itself), tlv.Put, tlv.Join; nodes written: frames, Encode. -/
set_option linter.unusedVariables false
set_option linter.unusedSimpArgs false
namespace Go.Proofs.YtgcjmjfjeppmgaaGreatDoor.C
open Go.Abs
end Go.Proofs.YtgcjmjfjeppmgaaGreatDoor.C
/- Nodes read: one, parse, Parse. -/
set_option linter.unusedVariables false
set_option linter.unusedSimpArgs false
namespace Go.Proofs.YtgcjmjfjeppmgaaGreatDoor.C
open Go.Abs
end Go.Proofs.YtgcjmjfjeppmgaaGreatDoor.C
/- Nodes written: frames, Encode. -/
set_option linter.unusedVariables false
set_option linter.unusedSimpArgs false
namespace Go.Proofs.YtgcjmjfjeppmgaaGreatDoor.C
open Go.Abs
@[push_cast] theorem errA_zero : errA 0 = .val .nilIface := rfl
end Go.Proofs.YtgcjmjfjeppmgaaGreatDoor.C
/- wharflaw08: coded, told, node.Walk (the iterator itself), awake. -/
set_option linter.unusedVariables false
set_option linter.unusedSimpArgs false
namespace Go.Proofs.YtgcjmjfjeppmgaaGreatDoor.C
open Go.Abs
end Go.Proofs.YtgcjmjfjeppmgaaGreatDoor.C
/- The reference's bytes of nodes: wharfref03.Bytes, wharfref08.Bytes. -/
set_option linter.unusedVariables false
set_option linter.unusedSimpArgs false
namespace Go.Proofs.YtgcjmjfjeppmgaaGreatDoor.C
open Go.Abs
end Go.Proofs.YtgcjmjfjeppmgaaGreatDoor.C
/- wharflaw08: NodeDepths. -/
set_option linter.unusedVariables false
set_option linter.unusedSimpArgs false
namespace Go.Proofs.YtgcjmjfjeppmgaaGreatDoor.C
open Go.Abs
end Go.Proofs.YtgcjmjfjeppmgaaGreatDoor.C
/- Nodes written and read again: the plain law. -/
set_option linter.unusedVariables false
set_option linter.unusedSimpArgs false
namespace Go.Proofs.YtgcjmjfjeppmgaaGreatDoor.C
open Go.Abs
/-! ### frames, one after the other -/
theorem checkN_zero {c dp : Nat} {n : GNode} (h : checkN c dp n = 0) : dp ≤ 4 ∧ badN c n.ty n.data.length n.kids = false ∧ countedN c n.ty n.data = false ∧ checkL (insideN (shapeOf c n.ty).kids).1 (dp + 1) n.kids = 0 ∧ nSize [n] ≤ 65535 := by
  rw [checkN_eq] at h
  split at h
  · cases h
  · rename_i h1
    split at h
    · cases h
    · rename_i h2
      split at h
      · cases h
      · rename_i h3
        split at h
        · rename_i h4; exact absurd h h4
        · rename_i h4
          split at h
          · cases h
          · rename_i h5
            exact ⟨by omega, by simpa using h2, by simpa using h3, by simpa using h4, by omega⟩
end Go.Proofs.YtgcjmjfjeppmgaaGreatDoor.C
/- wharflaw20: made, awake; ControlMatchesReference, ControlReads, ControlCauses. -/
set_option linter.unusedVariables false
set_option linter.unusedSimpArgs false
namespace Go.Proofs.YtgcjmjfjeppmgaaGreatDoor.C
open Go.Abs
theorem u8_shx (x k : Nat) (hk : k ≤ 32) : IntKind.u8.wrap ((N x).fdiv (2 ^ min k IntKind.u32.bits)) = N (UInt8.ofNat (x / 2 ^ k)).toNat := by
  have h2 : IntKind.u32.bits = 32 := rfl
  rw [h2, Nat.min_eq_left hk, ← u8_low]
  congr 1
  have h3 : (2 : Int) ^ k = ((2 ^ k : Nat) : Int) := by simp
  rw [h3]
  show (x : Int).fdiv ((2 ^ k : Nat) : Int) = ((x / 2 ^ k : Nat) : Int)
  rw [Int.fdiv_eq_ediv_of_nonneg _ (Int.natCast_nonneg _)]; rfl
@[push_cast] theorem u8_shr24 (x : Nat) : IntKind.u8.wrap ((N x).fdiv (2 ^ min 24 IntKind.u32.bits)) = N (UInt8.ofNat (x / 256 ^ 3)).toNat := u8_shx x 24 (by decide)
@[push_cast] theorem u8_shr16 (x : Nat) : IntKind.u8.wrap ((N x).fdiv (2 ^ min 16 IntKind.u32.bits)) = N (UInt8.ofNat (x / 256 ^ 2)).toNat := u8_shx x 16 (by decide)
@[push_cast] theorem u8_shr8 (x : Nat) : IntKind.u8.wrap ((N x).fdiv (2 ^ min 8 IntKind.u32.bits)) = N (UInt8.ofNat (x / 256 ^ 1)).toNat := u8_shx x 8 (by decide)
theorem u8_shr0 (x : Nat) : IntKind.u8.wrap (N x) = N (UInt8.ofNat (x / 256 ^ 0)).toNat := by rw [Nat.pow_zero, Nat.div_one, IntKind.wrap_u8]; simp [N, UInt8.toNat_ofNat']
end Go.Proofs.YtgcjmjfjeppmgaaGreatDoor.C
/- wharfref01.Put, Numbers; wharfref15.Make, Of, Has, Extensions. -/
set_option linter.unusedVariables false
set_option linter.unusedSimpArgs false
namespace Go.Proofs.YtgcjmjfjeppmgaaGreatDoor.C
open Go.Abs
theorem lits4b (a b c d : UInt8) : [AV.val (.int .u8 (N a.toNat)), AV.val (.int .u8 (N b.toNat)), AV.val (.int .u8 (N c.toNat)), AV.val (.int .u8 (N d.toNat))] = bys [a, b, c, d] := rfl
theorem putB4_lit (x : Nat) : [UInt8.ofNat (x / 256 ^ 3), UInt8.ofNat (x / 256 ^ 2), UInt8.ofNat (x / 256 ^ 1), UInt8.ofNat (x / 256 ^ 0)] = putB 4 x := rfl
theorem putB4_drop (k x : Nat) (hk : k = 1 ∨ k = 2 ∨ k = 4) : (putB 4 x).drop (4 - k) = putB k x := by rcases hk with rfl | rfl | rfl <;> rfl
theorem sub4_w (k : Nat) (hk : k ≤ 4) : IntKind.i64.wrap (4 - N k) = N (4 - k) := by rw [IntKind.wrap_i64]; unfold N; omega
theorem flat_bd (k : Nat) (l : List Nat) (i : Nat) (hk : k = 1 ∨ k = 2 ∨ k = 4) (hn : l.length ≤ 2 ^ 30) : ((l.take i).flatMap (putB k)).length ≤ 2 ^ 32 := by
  rw [flat_len2, List.length_take]
  have : min i l.length * k ≤ 2 ^ 30 * 4 := Nat.mul_le_mul (by omega) (by omega)
  omega
end Go.Proofs.YtgcjmjfjeppmgaaGreatDoor.C
/- Parameters that are right: rightP; what checkN says of known types; wharflaw's same; IndexFunc over nodes. -/
set_option linter.unusedVariables false
set_option linter.unusedSimpArgs false
namespace Go.Proofs.YtgcjmjfjeppmgaaGreatDoor.C
open Go.Abs
@[push_cast] theorem u32s_drop (l : List Nat) (k : Nat) : (u32s l).drop k = u32s (l.drop k) := by simp [u32s]
/-- a right parameter, or none -/
def rightP (n : GNode) : GNode × Bool := bif checkN 1 1 n == 0 then (n, true) else (.zero, false)
theorem rightP_yes {n : GNode} (h : checkN 1 1 n = 0) : rightP n = (n, true) := by unfold rightP; rw [h]; rfl
theorem rightP_no {n : GNode} (h : ¬ checkN 1 1 n = 0) : rightP n = (.zero, false) := by
  have : (checkN 1 1 n == 0) = false := by simpa using h
  unfold rightP; rw [this]; rfl
/-- what is known of a right node of a known type -/
theorem node_zero {c dp : Nat} {n : GNode} (h : checkN c dp n = 0) (hh : shapeHas c n.ty = true) : fitsN (shapeOf c n.ty) n.data.length = true ∧ kidsOk (shapeOf c n.ty) n.kids = true := by
  have h1 := (checkN_zero h).2.1
  unfold badN at h1
  rw [hh] at h1
  simpa using h1
/-- the first place where p holds -/
def fIdx (p : GNode → Bool) (l : List GNode) : Int := match l.findIdx? p with
  | some i => N i
  | none => -1
theorem fIdx_hit {p : GNode → Bool} {l : List GNode} {i : Nat} (h : i < l.length) (h0 : ∀ j (hj : j < i), p (l[j]'(by omega)) = false) (hi : p l[i] = true) : fIdx p l = N i := by
  unfold fIdx
  rw [show l.findIdx? p = some i from List.findIdx?_eq_some_iff_getElem.2 ⟨h, hi, fun j hj => by simpa using h0 j hj⟩]
theorem fIdx_none {p : GNode → Bool} {l : List GNode} (h0 : ∀ j (hj : j < l.length), p l[j] = false) : fIdx p l = -1 := by
  unfold fIdx
  rw [show l.findIdx? p = none from List.findIdx?_eq_none_iff.2 fun x hx => by
    obtain ⟨j, hj, rfl⟩ := List.getElem_of_mem hx
    exact h0 j hj]
theorem fIdx_any (p : GNode → Bool) (l : List GNode) : decide (0 ≤ fIdx p l) = l.any p := by
  unfold fIdx
  cases h : l.findIdx? p with
  | some i =>
    obtain ⟨h1, h2, _⟩ := List.findIdx?_eq_some_iff_getElem.1 h
    have : l.any p = true := List.any_eq_true.2 ⟨l[i], List.getElem_mem h1, h2⟩
    rw [this]; simp [N]
  | none =>
    have h1 := List.findIdx?_eq_none_iff.1 h
    have : l.any p = false := by rw [List.any_eq_false]; intro x hx; rw [h1 x hx]; simp
    rw [this]; decide
theorem nindexF_c (f : FuncId) (hcall : callable Tryz.prog f = true) (p : GNode → Bool) (l : List GNode) (hl : l.length ≤ 2 ^ 40) (hp : ∀ x ∈ l, PC Tryz.prog f [nodeA false x] (bool (p x))) :
    PC Tryz.prog 137 [.sl false 3 (nodesA false l), .fn (.func f) [] []] (.val (.int .i64 (fIdx p l))) := by
  refine PC.of_bodyW (by simp only [push_cast]) Tryz.func137 rfl (by rw [Tryz.ntmps137]; simp) ?_
  refine AWp.regionW ?_
  refine AWp.seqK fun K1 hK1 => ?_
  refine AWp.regionW ?_
  refine AWp.block ?_
  refine AWp.loopK0 [0, 1, 7] (fun (i : Nat) => [(8, nat i)]) (fun i => i ≤ l.length ∧ ∀ j (hj : j < l.length), j < i → p l[j] = false) (fun i => l.length - i) (0) ?_ ⟨Nat.zero_le _, fun j _ hj => by omega⟩ ?_
  · skip
    refine Le.m 0 ?_ ?_
    · first | with_reducible rfl | (simp only [push_cast, ↓reduceIte, Nat.reduceEqDiff, Nat.reduceLT, Nat.reduceAdd, Nat.reduceSub, Nat.reduceMul, Nat.reduceLeDiff, Nat.reducePow, Int.reduceLT, Int.reduceToNat, reduceCtorEq, Int.reduceNeg, Int.reduceEq, Nat.reduceBEq, Nat.reduceBNe, Int.reduceBEq, Int.reduceBNe, String.reduceEq]; first | done | rfl | (simp (disch := omega) only [w_nat, w_add, w_addl, w_addr, w_sub, w_subl, w_mul, w_mull, w_mulr, w_u32, w_u16, w_u8, w_u32a, N_zero]; first | done | rfl))
    · first | (simp only [push_cast, ↓reduceIte, Nat.reduceEqDiff, Nat.reduceLT, Nat.reduceAdd, Nat.reduceSub, Nat.reduceMul, Nat.reduceLeDiff, Nat.reducePow, Int.reduceLT, Int.reduceToNat, reduceCtorEq, Int.reduceNeg, Int.reduceEq, Nat.reduceBEq, Nat.reduceBNe, Int.reduceBEq, Int.reduceBNe, String.reduceEq]; first | done | rfl | (simp (disch := omega) only [w_nat, w_add, w_addl, w_addr, w_sub, w_subl, w_mul, w_mull, w_mulr, w_u32, w_u16, w_u8, w_u32a, N_zero]; first | done | rfl))
  · intro i hi K2 hK2
    refine AWp.regionW ?_
    refine AWp.seqK fun K3 hK3 => ?_
    refine AWp.condLM (fun c0 => ?_) (fun c0 => ?_)
    · skip
      have hil : i < l.length := by simpa using c0
      have hpi := hp l[i] (List.getElem_mem hil)
      have hci := hcall
      refine AWp.skip ?_
      refine hK3 _ ?_
      refine AWp.seqK fun K4 hK4 => ?_
      refine AWp.block ?_
      refine AWp.regionW ?_
      refine AWp.regionM fun K5 hK5 => ?_
      refine ARun2.indexM (i) (nodeA false l[i]) ?_ ?_
      · exact nodesA_at _ _ _ hil
      refine ARun2.callVM (hpi) ?_
      refine ARun2.endm (hK5 _ ?_)
      refine AWp.condLM (fun c1 => ?_) (fun c1 => ?_)
      · skip
        have hne : p l[i] = true := by simpa using c1
        have hz := fIdx_hit hil (fun j hj => hi.2 j (by omega) hj) hne
        refine AWp.regionW ?_
        refine AWp.ret ?_
        try simp only [thenQ, blockQ, noGo]
        refine bodyQ.m ?_
        clear hK5 K5 hK4 K4 hK3 K3 hK2 K2 hK1 K1
        rw [hz]
        first | done | exact Hand.go
      · skip
        have heq : p l[i] = false := by simpa using c1
        refine AWp.skip ?_
        refine hK4 _ ?_
        refine AWp.regionV ?_
        refine hK2 _ (i + 1) (⟨hil, fun j hj hji => (Nat.lt_or_ge j i).elim (fun h => hi.2 j hj h) (fun h => by have e : j = i := (by omega); subst e; exact heq)⟩) (by omega) ?_
        refine Le.m 0 ?_ ?_
        · first | with_reducible rfl | (simp only [push_cast, ↓reduceIte, Nat.reduceEqDiff, Nat.reduceLT, Nat.reduceAdd, Nat.reduceSub, Nat.reduceMul, Nat.reduceLeDiff, Nat.reducePow, Int.reduceLT, Int.reduceToNat, reduceCtorEq, Int.reduceNeg, Int.reduceEq, Nat.reduceBEq, Nat.reduceBNe, Int.reduceBEq, Int.reduceBNe, String.reduceEq]; first | done | rfl | (simp (disch := omega) only [w_nat, w_add, w_addl, w_addr, w_sub, w_subl, w_mul, w_mull, w_mulr, w_u32, w_u16, w_u8, w_u32a, N_zero]; first | done | rfl))
        · first | (simp only [push_cast, ↓reduceIte, Nat.reduceEqDiff, Nat.reduceLT, Nat.reduceAdd, Nat.reduceSub, Nat.reduceMul, Nat.reduceLeDiff, Nat.reducePow, Int.reduceLT, Int.reduceToNat, reduceCtorEq, Int.reduceNeg, Int.reduceEq, Nat.reduceBEq, Nat.reduceBNe, Int.reduceBEq, Int.reduceBNe, String.reduceEq]; first | done | rfl | (simp (disch := omega) only [w_nat, w_add, w_addl, w_addr, w_sub, w_subl, w_mul, w_mull, w_mulr, w_u32, w_u16, w_u8, w_u32a, N_zero]; first | done | rfl))
    · skip
      have hil : i = l.length := by have := hi.1; simp at c0; omega
      have hz := fIdx_none (p := p) (l := l) fun j hj => hi.2 j hj (by omega)
      refine AWp.exit ?_
      try simp only [thenQ, blockQ, noGo, reduceIte, Nat.reduceEqDiff]
      refine hK1 _ ?_
      refine AWp.regionW ?_
      refine AWp.ret ?_
      try simp only [thenQ, blockQ, noGo]
      refine bodyQ.m ?_
      clear hK3 K3 hK2 K2 hK1 K1
      rw [hz]
      first | done | exact Hand.go
theorem ncontF_c (f : FuncId) (hcall : callable Tryz.prog f = true) (p : GNode → Bool) (l : List GNode) (hl : l.length ≤ 2 ^ 40) (hp : ∀ x ∈ l, PC Tryz.prog f [nodeA false x] (bool (p x))) :
    PC Tryz.prog 109 [.sl false 3 (nodesA false l), .fn (.func f) [] []] (bool (l.any p)) := by
  have h := nindexF_c f hcall p l hl hp
  have ha := fIdx_any p l
  generalize fIdx p l = z at h ha
  refine PC.of_bodyW (by simp only [push_cast]) Tryz.func109 rfl (by rw [Tryz.ntmps109]; simp) ?_
  refine AWp.regionW ?_
  refine AWp.regionM fun K1 hK1 => ?_
  refine ARun2.callM (h) ?_
  refine ARun2.endm (hK1 _ ?_)
  refine AWp.ret ?_
  try simp only [thenQ, blockQ, noGo]
  refine bodyQ.m ?_
  clear hK1 K1
  rw [ha]
  first | done | exact Hand.go
end Go.Proofs.YtgcjmjfjeppmgaaGreatDoor.C
/- Bytes read as nodes are the bytes of these nodes, which are right: the plain law. -/
set_option linter.unusedVariables false
set_option linter.unusedSimpArgs false
namespace Go.Proofs.YtgcjmjfjeppmgaaGreatDoor.C
open Go.Abs
end Go.Proofs.YtgcjmjfjeppmgaaGreatDoor.C
/- Chunks written and read again: the plain law. -/
set_option linter.unusedVariables false
set_option linter.unusedSimpArgs false
namespace Go.Proofs.YtgcjmjfjeppmgaaGreatDoor.C
open Go.Abs
theorem fit_len {k : KForm} {n : Nat} (h : kfitsN k n = true) : k.least ≤ n ∧ n ≤ k.most := by
  unfold kfitsN at h; simp only [Bool.and_eq_true, decide_eq_true_eq] at h; exact h.1
end Go.Proofs.YtgcjmjfjeppmgaaGreatDoor.C
/- chunk: Encode; the reference's Bytes. -/
set_option linter.unusedVariables false
set_option linter.unusedSimpArgs false
namespace Go.Proofs.YtgcjmjfjeppmgaaGreatDoor.C
open Go.Abs
end Go.Proofs.YtgcjmjfjeppmgaaGreatDoor.C
/- wharflaw15: awake; InitialParams, InitialChunks. -/
set_option linter.unusedVariables false
set_option linter.unusedSimpArgs false
namespace Go.Proofs.YtgcjmjfjeppmgaaGreatDoor.C
open Go.Abs
end Go.Proofs.YtgcjmjfjeppmgaaGreatDoor.C
/- wharfref08.Clone. -/
set_option linter.unusedVariables false
set_option linter.unusedSimpArgs false
namespace Go.Proofs.YtgcjmjfjeppmgaaGreatDoor.C
open Go.Abs
end Go.Proofs.YtgcjmjfjeppmgaaGreatDoor.C
/- Drawn regions that make a variable in their head and of whose head one operation may come up late. No condition. -/
namespace Go.Abs
set_option linter.unusedVariables false
set_option linter.unusedSectionVars false
set_option linter.unusedSimpArgs false
section
variable {P : Program} {ops : Array Oper} {E : Env} {s s' : AS} {ρ : List Value} {B : Nat → Prop} {a : Act} {w w' : World} {o : Oper} {rest : List Oper} {Q : AS → Prop} {R : Exit → AS → Prop} {nds : List (List (Nat × Option Nat))} {vals : List AV} {G : Prop}
/-- the tail waits for all of the head but q -/
def tailF (ops : Array Oper) (n q : Nat) : Bool :=
  decide (n < ops.size) && ((List.range n).all fun i => decide (i = q) || Region.waitsFor .any ops n i || (List.range n).any fun j => decide (i < j) && decide (j ≠ q) && Region.waitsFor .any ops j i) &&
  ((List.range ops.size).all fun j => decide (j ≤ n) || (List.range j).any fun i => decide (n ≤ i) && Region.waitsFor .any ops j i)
theorem tailF.tail {n q : Nat} (h : tailF ops n q = true) {listed : Array Bool} (inv : HeadInv .any ops n listed) : ∀ (d i : Nat), n - i = d → i < n → i ≠ q → listed.getD i true = false → ∀ t, n ≤ t → t ∉ Region.ready .any ops listed := by
  simp only [tailF, Bool.and_eq_true, decide_eq_true_eq] at h
  obtain ⟨⟨hn, hs⟩, hc⟩ := h
  intro d
  induction d using Nat.strongRecOn with
  | _ d ih =>
    intro i hd hi hiq hun t ht hr
    obtain ⟨_, ot, hot, hall⟩ := mem_ready.1 hr
    have htlt : t < ops.size := (Array.getElem?_eq_some_iff.1 hot).1
    by_cases htn : t = n
    · subst htn
      have h1 := List.all_eq_true.1 hs i (List.mem_range.2 hi)
      simp only [Bool.or_eq_true, decide_eq_true_eq] at h1
      rcases h1 with (h1 | h1) | h1
      · exact hiq h1
      · obtain ⟨oj, hoj, e, he, hb, hon⟩ := Region.waitsFor_spec h1
        have : oj = ot := Option.some.inj (hoj.symm.trans hot)
        subst this
        have h2 := hall e he hb
        rw [hon, getD_both hun] at h2
        cases h2
      · obtain ⟨j, hj, hj2⟩ := List.any_eq_true.1 h1
        simp only [Bool.and_eq_true, decide_eq_true_eq] at hj2
        obtain ⟨oj, hoj, e, he, hb, hon⟩ := Region.waitsFor_spec hj2.2
        have hjlt := List.mem_range.1 hj
        cases hl : listed.getD j false with
        | true =>
          have h2 := inv.closed j oj hoj hl e he hb
          rw [hon, getD_both hun] at h2
          cases h2
        | false =>
          have hjs : j < listed.size := by rw [inv.size]; omega
          exact ih (t - j) (by omega) j rfl (by omega) hj2.1.2 (getD_in hjs hl) t (Nat.le_refl _) hr
    · have h1 := List.all_eq_true.1 hc t (List.mem_range.2 htlt)
      simp only [Bool.or_eq_true, decide_eq_true_eq] at h1
      rcases h1 with h1 | h1
      · omega
      · obtain ⟨i', hi', h1⟩ := List.any_eq_true.1 h1
        simp only [Bool.and_eq_true, decide_eq_true_eq] at h1
        obtain ⟨o', ho', e, he, hb, hon⟩ := Region.waitsFor_spec h1.2
        have : o' = ot := Option.some.inj (ho'.symm.trans hot)
        subst this
        have h2 := hall e he hb
        have := List.mem_range.1 hi'
        rw [hon, getD_both (inv.tail i' h1.1 (by omega))] at h2
        cases h2
section fin
variable {id n : Nat} {y : Code} {T : TypeId} {z : List Value}
end fin
end
end Go.Abs
/- wharflaw15: InitialMatchesReference. -/
set_option linter.unusedVariables false
set_option linter.unusedSimpArgs false
namespace Go.Proofs.YtgcjmjfjeppmgaaGreatDoor.C
open Go.Abs
theorem beN_put4b (n : Nat) (h : n < 2 ^ 32) : beN (putB 4 n) = n := by
  simp [putB, beN, List.range_succ, UInt8.toNat_ofNat']; omega
theorem peek_put (k x i : Nat) (p q : List UInt8) (hp : p.length = i) (hb : beN (putB k x) = x) : peekN k (p ++ (putB k x ++ q)) i = x := by
  have hl := putB_len k x
  unfold peekN
  rw [if_pos (by simp only [List.length_append]; omega), List.drop_append_of_le_length (by omega), List.drop_of_length_le (by omega), List.nil_append, List.take_append_of_le_length (by omega), List.take_of_length_le (by omega), hb]
end Go.Proofs.YtgcjmjfjeppmgaaGreatDoor.C
/- Maps of the call's own: an entry is written, whether its key is there or not; looked up without asking whether it is there. No condition. -/
namespace Go.Abs
set_option linter.unusedVariables false
set_option linter.unusedSectionVars false
set_option linter.unusedSimpArgs false
section
variable {P : Program} {ops : Array Oper} {E : Env} {s s' : AS} {ρ σ : List Value} {B : Nat → Prop} {a : Act} {w w' : World} {o : Oper} {rest : List Oper} {Q : AS → Prop} {R : Exit → AS → Prop}
/-- the entry of key n is v from now on -/
def mpPut (kk : IntKind) (n : Int) (v : Value) : List (Value × Value) → List (Value × Value)
  | [] => [(.int kk n, v)]
  | (.int k m, u) :: r => if k = kk ∧ m = n then (.int k m, v) :: r else (.int k m, u) :: mpPut kk n v r
  | e :: r => e :: mpPut kk n v r
/-- all keys are whole numbers of this kind -/
def mpInt (kk : IntKind) : List (Value × Value) → Bool
  | [] => true
  | (.int k _, _) :: r => decide (k = kk) && mpInt kk r
  | _ => false
theorem mpInt_put {kk : IntKind} {n : Int} {v : Value} : ∀ {es : List (Value × Value)}, mpInt kk es = true → mpInt kk (mpPut kk n v es) = true
  | [], _ => by simp [mpPut, mpInt]
  | (.int k m, u) :: r, h => by
    simp only [mpInt, Bool.and_eq_true, decide_eq_true_eq] at h
    simp only [mpPut]
    split
    · simp only [mpInt, Bool.and_eq_true, decide_eq_true_eq]; exact h
    · simp only [mpInt, Bool.and_eq_true, decide_eq_true_eq]; exact ⟨h.1, mpInt_put h.2⟩
theorem mpFind_put {kk : IntKind} {n m : Int} {v : Value} : ∀ {es : List (Value × Value)}, mpInt kk es = true → mpFind kk m (mpPut kk n v es) = if m = n then some (some v) else mpFind kk m es
  | [], _ => by
    simp only [mpPut, mpFind, if_true]
    by_cases h : n = m
    · rw [if_pos h, if_pos h.symm]
    · rw [if_neg h, if_neg (Ne.symm h)]
  | (.int k x, u) :: r, h => by
    simp only [mpInt, Bool.and_eq_true, decide_eq_true_eq] at h
    obtain ⟨rfl, h2⟩ := h
    simp only [mpPut, true_and]
    by_cases hx : x = n
    · subst hx
      rw [if_pos rfl]
      simp only [mpFind, if_true]
      by_cases hm : x = m
      · subst hm; simp
      · rw [if_neg hm, if_neg (Ne.symm hm), if_neg hm]
    · rw [if_neg hx]
      simp only [mpFind, if_true]
      by_cases hm : x = m
      · subst hm; rw [if_pos rfl, if_neg hx, if_pos rfl]
      · rw [if_neg hm, if_neg hm]; exact mpFind_put h2
theorem findNow_put {kk : IntKind} {n : Int} {v : Value} : ∀ (es : List MapEntry) (i : Nat), mpInt kk (es.map fun e => (e.key, e.val)) = true →
    (Instr.findNow (.int kk) (.int kk n) es i = some none ∧ mpPut kk n v (es.map fun e => (e.key, e.val)) = es.map (fun e => (e.key, e.val)) ++ [(.int kk n, v)]) ∨
    ∃ j u, Instr.findNow (.int kk) (.int kk n) es i = some (some (i + j, u)) ∧ (es[j]?).map (·.key) = some (.int kk n) ∧
      mpPut kk n v (es.map fun e => (e.key, e.val)) = (es.modify j fun e => { e with key := .int kk n, val := v }).map fun e => (e.key, e.val)
  | [], i, _ => .inl ⟨rfl, rfl⟩
  | e :: es, i, h => by
    obtain ⟨key, val, born⟩ := e
    cases key with
    | int k m =>
      simp only [List.map_cons, mpInt, Bool.and_eq_true, decide_eq_true_eq] at h
      obtain ⟨rfl, h2⟩ := h
      by_cases hm : m = n
      · subst hm
        refine .inr ⟨0, val, ?_, rfl, ?_⟩
        · simp [Instr.findNow, Instr.sameNow]
        · simp [mpPut, List.modify]
      · have hne : (n == m) = false := by simpa using Ne.symm hm
        rcases findNow_put (v := v) es (i + 1) h2 with ⟨h3, h4⟩ | ⟨j, u, h3, h4, h5⟩
        · refine .inl ⟨?_, ?_⟩
          · simp only [Instr.findNow, Instr.sameNow, if_true, hne]; exact h3
          · simp only [List.map_cons, mpPut, true_and, if_neg hm, h4, List.cons_append]
        · refine .inr ⟨j + 1, u, ?_, ?_, ?_⟩
          · simp only [Instr.findNow, Instr.sameNow, if_true, hne]; rw [h3]; congr 3; omega
          · simpa using h4
          · simp only [List.map_cons, mpPut, true_and, if_neg hm, h5]; rfl
    | _ => simp [mpInt] at h
theorem AOp.mapSet {T : TypeId} {m k x : Operand} {j : Nat} {es : List (Value × Value)} {kk : IntKind} {et : TypeId} {n : Int} {v : Value} (ho : o.op = .mapUpdate T m k x) (hm : s.ev m = .own j) (hj : s.ob[j]? = some (.mp es)) (hk : s.ev k = .val (.int kk n))
    (hx : toV (s.ev x) = some v) (hT : mpKey P T = some (kk, et)) (hf : mpInt kk es = true) (K : ARun P ops rest (({ s with ob := s.ob.set j (.mp (mpPut kk n v es)) } : AS).put o.dst .any) Q) : AOp P ops o rest s Q := by
  refine AOp.unit (s' := { s with ob := s.ob.set j (.mp (mpPut kk n v es)) }) (fun E ρ B a w hs => ?_) (by rw [ho]; intro c h; cases h) K
  obtain ⟨kt, hu, hku⟩ := mpKey_spec hT
  obtain ⟨b, ms, c, r1, r2, r3⟩ := hs.rw_.obs j _ hj
  have hmr := hs.ev m
  rw [hm] at hmr
  have hkr := hs.ev k
  rw [hk] at hkr
  have hkv := hkr.val_eq
  have hxv := toV_rel hx (hs.ev x)
  have hlt : b < w.heap.size := heap_lt r2
  have hmv : a.eval m = .map (some b) := by
    generalize a.eval m = u at hmr
    cases hmr with
    | own h1 _ => rw [r1] at h1; exact (Option.some.inj h1).symm
  rcases findNow_put (n := n) (v := v) ms.toList 0 (by rw [r3]; exact hf) with ⟨hfn, hp⟩ | ⟨i, u, hfn, hkey, hp⟩
  · refine ⟨setBlk w b (.map (ms.push { key := .int kk n, val := v, born := c }) (c + 1)), ρ, B, ?_, ?_⟩
    · simp only [execOp, ho, hmv, hkv, hxv]
      have hrun : (Instr.mapUpdate T (.map (some b)) (.int kk n) v).run P w = .ok () (setBlk w b (.map (ms.push { key := .int kk n, val := v, born := c }) (c + 1))) := by
        unfold Instr.mapUpdate
        simp only [Sem.run_bind, run_underlying hu, Result.andThen_ok, getObj, Sem.run, r2, run_checkKey hku, Instr.findKey, run_underlying hku, hfn]
        simp [setObj, Sem.run, r2, setBlk]
      simp [hrun]
    · refine hs.write (b := b) hj rfl r1 rfl ⟨b, _, c + 1, r1, by rw [setBlk_get _ _ _ _ hlt, if_pos rfl], ?_⟩
      rw [r3] at hp
      simp [r3, hp]
  · refine ⟨setBlk w b (.map (ms.modify i fun e => { e with key := .int kk n, val := v }) c), ρ, B, ?_, ?_⟩
    · simp only [execOp, ho, hmv, hkv, hxv]
      have hrun : (Instr.mapUpdate T (.map (some b)) (.int kk n) v).run P w = .ok () (setBlk w b (.map (ms.modify i fun e => { e with key := .int kk n, val := v }) c)) := by
        rw [Nat.zero_add] at hfn
        have hk2 : (ms[i]?).map (fun e => e.key) = some (.int kk n) := by
          rw [← Array.getElem?_toList]; exact hkey
        have hkeep : (Instr.keyThatStays (.int kk n) (.int kk n)).run P w = .ok (.int kk n) w := by
          unfold Instr.keyThatStays
          rw [if_pos (by simp [Instr.sameBits])]
          rfl
        unfold Instr.mapUpdate
        simp only [Sem.run_bind, run_underlying hu, Result.andThen_ok, getObj, Sem.run, r2, run_checkKey hku, Instr.findKey, run_underlying hku, hfn]
        simp only [Sem.run_pure, Result.andThen_ok, Sem.run_bind]
        erw [hk2]
        simp only [Option.getD_some, hkeep, Result.andThen_ok]
        simp [setObj, Sem.run, r2, setBlk]
      simp [hrun]
    · refine hs.write (b := b) hj rfl r1 rfl ⟨b, _, c, r1, by rw [setBlk_get _ _ _ _ hlt, if_pos rfl], ?_⟩
      rw [r3] at hp
      rw [hp, Array.toList_modify]
theorem ARun2.mapSetM {T : TypeId} {m k x : Operand} {j : Nat} {es : List (Value × Value)} {kk : IntKind} {et : TypeId} {n : Int} {v : Value} {p : List Oper × AS} (hf : mpInt kk es = true) (K : ARun2 P ops p Q)
    (ho : o.op = .mapUpdate T m k x := by rfl) (hg : gd ops s o = some true := by exact Go.Abs.evT) (hm : s.ev m = .own j := by exact Go.Abs.evT) (hj : s.ob[j]? = some (.mp es) := by exact Go.Abs.evT) (hk : s.ev k = .val (.int kk n) := by exact Go.Abs.evT)
    (hx : toV (s.ev x) = some v := by
        exact Go.Abs.evE) (hT : mpKey P T = some (kk, et) := by exact Go.Abs.evT)
    (h : srun P ops rest (({ s with ob := s.ob.set j (.mp (mpPut kk n v es)) } : AS).put o.dst .any) = p := by
        exact Go.Abs.evE) : ARun2 P ops (o :: rest, s) Q := ARun.exec hg (AOp.mapSet ho hm hj hk hx hT hf (ARun.srun (h ▸ K)))
theorem AOp.lookup0 {T : TypeId} {x i : Operand} {j : Nat} {es : List (Value × Value)} {kk : IntKind} {et : TypeId} {n : Int} {z : Value} {r : Option Value} (ho : o.op = .lookup T x i false) (hx : s.ev x = .own j) (hj : s.ob[j]? = some (.mp es)) (hi : s.ev i = .val (.int kk n))
    (hT : mpKey P T = some (kk, et)) (hz : mpZero P et = some z) (hf : mpFind kk n es = some r) (K : ARun P ops rest (s.put o.dst (ofV (r.getD z))) Q) : AOp P ops o rest s Q := by
  refine AOp.pure1 (fun E ρ B a w hs => ?_) K
  obtain ⟨kt, hu, hku⟩ := mpKey_spec hT
  obtain ⟨b, ms, c, r1, r2, r3⟩ := hs.rw_.obs j _ hj
  have hmr := hs.ev x
  rw [hx] at hmr
  have hkr := hs.ev i
  rw [hi] at hkr
  have hkv := hkr.val_eq
  have hmv : a.eval x = .map (some b) := by
    generalize a.eval x = u at hmr
    cases hmr with
    | own h1 _ => rw [r1] at h1; exact (Option.some.inj h1).symm
  refine ⟨r.getD z, ?_, rel_ofV _⟩
  simp only [execOp, ho, hmv, hkv]
  refine val_run ?_
  obtain ⟨jj, hfn⟩ := findNow_find ms.toList 0 (r := r) (by rw [r3]; exact hf)
  unfold mpZero at hz
  have hzr : (zeroValue et).run P w = .ok z w := by
    cases hinf : P.info? et with
    | none => simp [hinf] at hz
    | some inf => simp [hinf] at hz; simp [zeroValue, typeInfo, hinf, hz]
  unfold Instr.lookup
  simp only [Sem.run_bind, run_underlying hu, Result.andThen_ok, getObj, Sem.run, r2, Sem.run_pure, run_checkKey hku, Instr.findKey, run_underlying hku, hfn]
  cases r with
  | none => simp [hzr]
  | some v => simp
theorem ARun2.lookup0M {T : TypeId} {x i : Operand} {j : Nat} {es : List (Value × Value)} {kk : IntKind} {et : TypeId} {n : Int} {z : Value} {p : List Oper × AS} (r : Option Value) (y : AV) (hf : mpFind kk n es = some r) (hy : ofV (r.getD z) = y) (K : ARun2 P ops p Q)
    (ho : o.op = .lookup T x i false := by rfl) (hg : gd ops s o = some true := by exact Go.Abs.evT) (hx : s.ev x = .own j := by exact Go.Abs.evT) (hj : s.ob[j]? = some (.mp es) := by exact Go.Abs.evT) (hi : s.ev i = .val (.int kk n) := by exact Go.Abs.evT)
    (hT : mpKey P T = some (kk, et) := by exact Go.Abs.evT) (hz : mpZero P et = some z := by exact Go.Abs.evT) (h : srun P ops rest (s.put o.dst y) = p := by
        exact Go.Abs.evE) : ARun2 P ops (o :: rest, s) Q :=
  ARun.exec hg (AOp.lookup0 ho hx hj hi hT hz hf (by rw [hy]; exact ARun.srun (h ▸ K)))
/-! ### a literal with elements that begins a chain in a drawn head -/
theorem ASpec.ownB {T e : TypeId} {len sz : Nat} {parts : Array (Nat × Operand)} (hg : gd ops s o = some true) (ho : o.op = .buildSlice T len parts) (hz : elSz P T = some sz) (he : elT P T = some e)
    (hp : parts.toList.map (·.1) = List.range len) (hx : ∀ p ∈ parts.toList, (s.ev p.2).flat = true ∧ (s.ev p.2).cells.length = sz) (hle : len * sz ≤ 2 ^ 24) : ASpec P ops o s (.own s.ob.length) (.row e sz (parts.toList.map fun p => s.ev p.2)) := by
  intro E ρ B a w hs K Q' hK
  rw [if_pos (gd_wanted hg hs)]
  obtain ⟨e', vs, hu, hr, hrel, h1, hvl⟩ := run_buildSlice hz hp hx hle hs
  have hee : e' = e := by
    have := elT_spec he
    rw [hu] at this
    simpa using this
  subst hee
  have hn0 : parts.toList.length = len := by have := congrArg List.length hp; simpa using this
  have hl : (List.map (fun p => s.ev p.2) parts.toList).length = len := by simpa using hn0
  have hsame := same_alloc w (.cells (List.toArray vs) e')
  have hBw : ∀ b, B b → (w.alloc (.cells (List.toArray vs) e')).heap[b]? = w.heap[b]? := fun b hb => hsame.block b (hs.rw_.blt b hb)
  have hn : RS E { s with ob := s.ob ++ [.row e' sz (parts.toList.map fun p => s.ev p.2)] } (ρ ++ [.slice (some ⟨w.heap.size, 0, none⟩) len len]) B a (w.alloc (.cells (List.toArray vs) e')) := by
    refine hs.new hsame ⟨?_, .inr ⟨w.heap.size, len, vs, [], (0, 0), ?_, ?_, ?_, ?_, .inl (Nat.le_refl _), ?_⟩⟩ ?_
    · intro x hx'
      simp only [List.mem_map] at hx'
      obtain ⟨p, hpm, rfl⟩ := hx'
      refine ⟨(hx p hpm).2, fun c hc => h1 c ?_⟩
      simp only [List.mem_flatMap, List.mem_map]
      exact ⟨_, ⟨p, hpm, rfl⟩, hc⟩
    · rw [hl, ← hs.rw_.len, List.getElem?_append_right (Nat.le_refl _), Nat.sub_self]; rfl
    · rw [List.append_nil]; exact alloc_get _ _
    · rw [List.append_nil]; exact hvl
    · rw [hl]; exact Nat.le_refl _
    · exact hrel.mono (fun _ h => h) hBw (Nat.le_refl _) (fun _ _ h => get_append_some h)
    · intro b hb
      simp only [blk, Option.some.injEq] at hb
      subst hb
      exact ⟨Nat.le_refl _, by simp⟩
  have hrun : (execOp a.eval o).run P w = .ok (.value (.slice (some ⟨w.heap.size, 0, none⟩) len len)) (w.alloc (.cells (List.toArray vs) e')) := by
    simp only [execOp, ho]; exact val_run hr
  refine owp_value hrun (hK _ _ _ hn.rj hBw (.own ?_ rfl))
  rw [← hs.rw_.len, List.getElem?_append_right (Nat.le_refl _), Nat.sub_self]; rfl
theorem CSpec.ownB {T e : TypeId} {len sz : Nat} {parts : Array (Nat × Operand)} (hg : gd ops s o = some true) (ho : o.op = .buildSlice T len parts) (hz : elSz P T = some sz) (he : elT P T = some e)
    (hp : parts.toList.map (·.1) = List.range len) (hx : ∀ p ∈ parts.toList, (s.ev p.2).flat = true ∧ (s.ev p.2).cells.length = sz) (hle : len * sz ≤ 2 ^ 24) : CSpec P ops o s [] [.row e sz (parts.toList.map fun p => s.ev p.2)] (.own s.ob.length) := by
  intro E hE ρ B a w hs K Q' hK
  have hs' : RS E s ρ B a w := by simpa using hs
  refine ASpec.ownB hg ho hz he hp hx hle E ρ B a w hs' K Q' fun v w' u h1 h2 h3 => ?_
  exact hK v w' _ B h1 (fun _ h => h) h2 (fun j u _ h => get_append_some h) h3
variable {nds : List (List (Nat × Option Nat))} {vals : List AV} {G : Prop} {nds1 : List (List (Nat × Option Nat))} {X XL : List Ob} {i : Nat} {r : List Nat}
theorem CL.ownB {T e : TypeId} {len sz : Nat} {parts : Array (Nat × Operand)} {xs : List AV} (k : CL P ops s nds1 vals r [.row e sz xs] XL) (hol : ops[i]? = some o := by exact Go.Abs.evT) (ho : o.op = .buildSlice T len parts := by rfl)
    (hg : gd ops { s with fr := needFr s.fr vals (nds1.getD i []) } o = some true := by exact Go.Abs.evT)
    (hz : elSz P T = some sz := by exact Go.Abs.evT) (he : elT P T = some e := by exact Go.Abs.evT) (hp : parts.toList.map (·.1) = List.range len := by rfl)
    (hx : ∀ p ∈ parts.toList, (AS.ev { s with fr := needFr s.fr vals (nds1.getD i []) } p.2).flat = true ∧ (AS.ev { s with fr := needFr s.fr vals (nds1.getD i []) } p.2).cells.length = sz := by exact Go.Abs.evT)
    (hxs : (parts.toList.map fun p => AS.ev { s with fr := needFr s.fr vals (nds1.getD i []) } p.2) = xs := by exact Go.Abs.evT) (hle : decide (len * sz ≤ 2 ^ 24) = true := by first | rfl | decide) (hv : vals.getD i .any = .own s.ob.length := by rfl) : CL P ops s nds1 vals (i :: r) [] XL :=
  ⟨_, fun o' ho' => by
    have : o' = o := Option.some.inj (ho'.symm.trans hol)
    subst this
    rw [hv]
    exact CSpec.ownB (s := { s with fr := needFr s.fr vals (nds1.getD i []) }) hg ho hz he hp hx (of_decide_eq_true hle), hxs ▸ k⟩
end
end Go.Abs
/- bytealg.IndexByte, as the model answers it. No condition. -/
namespace Go.Abs
set_option linter.unusedVariables false
set_option linter.unusedSectionVars false
set_option linter.unusedSimpArgs false
section
variable {P : Program} {ops : Array Oper} {E : Env} {s s' : AS} {ρ σ : List Value} {B : Nat → Prop} {a : Act} {w w' : World} {o : Oper} {rest : List Oper} {Q : AS → Prop} {R : Exit → AS → Prop}
end
end Go.Abs
namespace Go.Abs
section
variable {P : Program} {ops : Array Oper} {E : Env} {s s' : AS} {ρ σ : List Value} {B : Nat → Prop} {a : Act} {w w' : World} {o : Oper} {rest : List Oper} {Q : AS → Prop} {R : Exit → AS → Prop}
theorem obInval_nil (o : Ob) : Ob.invalL [] o = o := by
  cases o with
  | box T cs =>
    simp only [Ob.invalL]
    have : cs.map (AV.invalL []) = cs := by
      conv => rhs; rw [← List.map_id cs]
      exact List.map_congr_left fun x _ => by simp [AV.invalL]
    rw [this]
  | _ => simp [Ob.invalL]
/-- a call in a drawn head that makes a row of the call's own -/
theorem CSpec.callO {f : FuncId} {args : Array Operand} {ts : Array TypeId} {ys xs : List AV} {e : TypeId} {sz : Nat} (hp : OC P f ys [] (.own 0) [.row e sz xs]) (hx : AV.idsOkL (fun _ => false) xs = true) (hg : gd ops s o = some true)
    (ho : o.op = .call { callee := .value (.func f), args := args, argTypes := ts }) (hc : callable P f = true) (hsub : HandL [] (args.toList.map s.ev) ys) : CSpec P ops o s [] [.row e sz xs] (.own s.ob.length) := by
  intro E hE ρ B a w hs K Q' hK
  have hs' : RS E s ρ B a w := by simpa using hs
  rw [if_pos (gd_wanted hg hs')]
  unfold callable at hc
  split at hc <;> (try (simp at hc; done))
  rename_i fn hf
  simp only [Bool.and_eq_true, Bool.not_eq_true'] at hc
  have hr := run_call_func (P := P) (w := w) (args := args) (ts := ts) (ty := o.type) (ρe := a.eval) hf hc.1 hc.2 rfl
  have he : (execOp a.eval o).run P w = .ok (.enter f (args.map a.eval)) w := by
    simp only [execOp, ho]; exact hr
  have hrel : RelL w B E.bs ρ (args.toList.map s.ev) (args.toList.map a.eval) := RelL.map_ev hs' _
  have hsub' : SubXL [] (args.toList.map s.ev) ys := hsub
  refine owp_enter he ?_
  have hargs : args.map a.eval = (args.toList.map a.eval).toArray := by apply Array.ext'; simp
  rw [hargs]
  refine hp E.bs w [] B _ (hE.glb.call hs'.rw_ (fun _ h => h) (by intro v hv; simp at hv)) hs'.rw_.callee (hsub'.rel (Nat.le_refl _) (by intro i k hik; simp at hik) hrel) _ ?_
  rintro r' v τ' σ' B' w' ⟨rfl, rfl⟩ hw hv
  have haft := hs'.after (ids := []) (τ := []) List.nodup_nil trivial (by simpa [pick] using hw) (Nat.zero_le _)
  have e1 : obAfter s.ob [] [] [Ob.row e sz xs] = s.ob ++ [Ob.row e sz xs] := by
    unfold obAfter
    have h1 : s.ob.map (Ob.invalL (rowIds [] [])) = s.ob := by
      conv => rhs; rw [← List.map_id s.ob]
      exact List.map_congr_left fun x _ => obInval_nil x
    rw [h1]
    simp only [setAll, List.length_nil, List.drop_zero, List.map_cons, List.map_nil, Ob.ren, AV.renL_closed _ _ hx]
  have e2 : setAll ρ [] σ' ++ σ'.drop ([] : List Nat).length = ρ ++ σ' := by simp [setAll]
  rw [e1, e2] at haft
  have hl := hs'.rw_.len
  refine ⟨v, rfl, hK v w' (ρ ++ σ') B' ⟨haft.rw_, haft.jj⟩ hw.bsub (fun b hb => hw.block b (hs'.rw_.blt b hb) ⟨by rintro ⟨v, hv, _⟩; simp at hv, by simp⟩) (fun j u hj h => by rw [List.getElem?_append_left (by omega)]; exact h) ?_⟩
  cases hv with
  | own hq h1 => exact .own (by rw [← hl, List.getElem?_append_right (Nat.le_refl _), Nat.sub_self]; exact hq) h1
variable {nds : List (List (Nat × Option Nat))} {vals : List AV} {G : Prop} {nds1 : List (List (Nat × Option Nat))} {X XL : List Ob} {i : Nat} {r : List Nat}
theorem CL.callO {f : FuncId} {args : Array Operand} {ts : Array TypeId} {ys xs : List AV} {e : TypeId} {sz : Nat} (hp : OC P f ys [] (.own 0) [.row e sz xs]) (k : CL P ops s nds1 vals r [.row e sz xs] XL) (hx : AV.idsOkL (fun _ => false) xs = true := by simp only [push_cast]) (hol : ops[i]? = some o := by exact Go.Abs.evT)
    (ho : o.op = .call { callee := .value (.func f), args := args, argTypes := ts } := by rfl) (hg : gd ops { s with fr := needFr s.fr vals (nds1.getD i []) } o = some true := by exact Go.Abs.evT) (hc : callable P f = true := by exact Go.Abs.evT)
    (hsub : HandL [] (args.toList.map (AS.ev { s with fr := needFr s.fr vals (nds1.getD i []) })) ys := by
      exact Go.Abs.evH)
    (hv : vals.getD i .any = .own s.ob.length := by rfl) : CL P ops s nds1 vals (i :: r) [] XL :=
  ⟨_, fun o' ho' => by
    have : o' = o := Option.some.inj (ho'.symm.trans hol)
    subst this
    rw [hv]
    exact CSpec.callO (s := { s with fr := needFr s.fr vals (nds1.getD i []) }) hp hx hg ho hc hsub, k⟩
end
end Go.Abs
/- Rows of the call's own: zeros behind them; cleared. No condition. -/
namespace Go.Abs
set_option linter.unusedVariables false
set_option linter.unusedSectionVars false
set_option linter.unusedSimpArgs false
section
variable {P : Program} {ops : Array Oper} {E : Env} {s s' : AS} {ρ σ : List Value} {B : Nat → Prop} {a : Act} {w w' : World} {o : Oper} {rest : List Oper} {Q : AS → Prop} {R : Exit → AS → Prop}
/-! ### zeros behind a row -/
end
end Go.Abs
/- Lists of chunks, as abstract values. -/
set_option linter.unusedVariables false
set_option linter.unusedSimpArgs false
namespace Go.Proofs.YtgcjmjfjeppmgaaGreatDoor.C
open Go.Abs
end Go.Proofs.YtgcjmjfjeppmgaaGreatDoor.C
/- auth: Make, Of, Blank, Input, Needs, Pad. -/
set_option linter.unusedVariables false
set_option linter.unusedSimpArgs false
namespace Go.Proofs.YtgcjmjfjeppmgaaGreatDoor.C
open Go.Abs
/-- is it an auth chunk? -/
def isAuth (c : GChunk) : Bool := c.ty == 15 && (checkC c == 0)
def codeOf (c : GChunk) : List UInt8 := if isAuth c = true then c.data.drop 4 else []
theorem bclone_nil : OC Tryz.prog 146 [.sl false 1 []] [] (.own 0) [.row 5 1 []] := by
  refine OC.of_body [0] (by intro k hk; simp at hk) Tryz.func146 rfl (by rw [Tryz.ntmps146]; simp) ?_
  refine AWp.regionW ?_
  refine AWp.seqK fun K1 hK1 => ?_
  refine AWp.regionM fun K2 hK2 => ?_
  refine ARun2.nilSl rfl rfl (.inl rfl) rfl YtgcjmjfjeppmgaaGreatDoor.Facts.nk24 (by rw [YtgcjmjfjeppmgaaGreatDoor.Facts.nk24]; rfl) (fun b hb => ?_)
  refine ARun2.gom ?_
  refine ARun2.endm (hK2 _ ?_)
  refine AWp.condLM (fun c0 => ?_) (fun c0 => ?_)
  · skip
    refine AWp.regionW ?_
    refine AWp.nilOwn 2 5 1 (by simp only [push_cast, ↓reduceIte, Nat.reduceEqDiff, Nat.reduceLT, Nat.reduceAdd, Nat.reduceSub, Nat.reduceMul, Nat.reduceLeDiff, Nat.reducePow, Int.reduceLT, Int.reduceToNat, reduceCtorEq, Int.reduceNeg, Int.reduceEq, Nat.reduceBEq, Nat.reduceBNe, Int.reduceBEq, Int.reduceBNe, String.reduceEq]) ?_
    simp only [push_cast, ↓reduceIte, Nat.reduceEqDiff, Nat.reduceLT, Nat.reduceAdd, Nat.reduceSub, Nat.reduceMul, Nat.reduceLeDiff, Nat.reducePow, Int.reduceLT, Int.reduceToNat, reduceCtorEq, Int.reduceNeg, Int.reduceEq, Nat.reduceBEq, Nat.reduceBNe, Int.reduceBEq, Int.reduceBNe, String.reduceEq]
    refine AWp.ret ?_
    try simp only [thenQ, blockQ, noGo]
    refine bodyQ.m ?_
    clear hK2 K2 hK1 K1
    refine endO.m ?_ ?_
    · rfl
    · skip
      first | done | exact Hand.go
  · skip
    refine AWp.skip ?_
    refine hK1 _ ?_
    refine AWp.regionM fun K3 hK3 => ?_
    refine ARun2.buildOwnM ?_
    refine ARun2.appendM ?_ ?_ ?_
    · rw [YtgcjmjfjeppmgaaGreatDoor.Facts.eb24]; simp
    · simp
    refine ARun2.endm (hK3 _ ?_)
    refine AWp.ret ?_
    try simp only [thenQ, blockQ, noGo]
    refine bodyQ.m ?_
    clear hK3 K3 hK2 K2 hK1 K1
    refine endO.m ?_ ?_
    · rfl
    · skip
      first | done | exact Hand.go
theorem bclone_cons (x : UInt8) (l : List UInt8) (hl : l.length + 1 ≤ 2 ^ 40) : OC Tryz.prog 146 [.sl false 1 (.val (.int .u8 (N x.toNat)) :: bys l)] [] (.own 0) [.row 5 1 (.val (.int .u8 (N x.toNat)) :: bys l)] := by
  refine OC.of_body [0] (by intro k hk; simp at hk) Tryz.func146 rfl (by rw [Tryz.ntmps146]; simp) ?_
  refine AWp.regionW ?_
  refine AWp.seqK fun K1 hK1 => ?_
  refine AWp.regionW ?_
  refine AWp.condF ?_
  refine AWp.skip ?_
  refine hK1 _ ?_
  refine AWp.regionM fun K2 hK2 => ?_
  refine ARun2.buildOwnM ?_
  refine ARun2.appendM ?_ ?_ ?_
  · rw [YtgcjmjfjeppmgaaGreatDoor.Facts.eb24]; simp only [List.length_cons, List.length_nil, bys_len]; omega
  · simp only [List.length_cons, List.length_nil, bys_len]; omega
  refine ARun2.endm (hK2 _ ?_)
  refine AWp.ret ?_
  try simp only [thenQ, blockQ, noGo]
  refine bodyQ.m ?_
  clear hK2 K2 hK1 K1
  refine endO.m ?_ ?_
  · rfl
  · skip
    first | done | exact Hand.go
theorem bclone_o (l : List UInt8) (hl : l.length ≤ 2 ^ 40) : OC Tryz.prog 146 [.sl false 1 (bys l)] [] (.own 0) [.row 5 1 (bys l)] := by
  cases l with
  | nil => exact bclone_nil
  | cons x l => exact bclone_cons x l (by simpa using hl)
theorem bclone_c (l : List UInt8) (hl : l.length ≤ 2 ^ 40) : PC Tryz.prog 146 [.sl false 1 (bys l)] (.sl true 1 (bys l)) := PC.of_own (bclone_o l hl)
end Go.Proofs.YtgcjmjfjeppmgaaGreatDoor.C
/- A call in a drawn head that reads a row of the call's own. No condition. -/
namespace Go.Abs
set_option linter.unusedVariables false
set_option linter.unusedSectionVars false
set_option linter.unusedSimpArgs false
section
variable {P : Program} {ops : Array Oper} {E : Env} {s s' : AS} {ρ σ : List Value} {B : Nat → Prop} {a : Act} {w w' : World} {o : Oper} {rest : List Oper} {Q : AS → Prop} {R : Exit → AS → Prop} {nds : List (List (Nat × Option Nat))} {vals : List AV} {G : Prop}
end
end Go.Abs
/- A drawn head that makes a variable (at any time) and a row of the call's own. No condition. -/
namespace Go.Abs
set_option linter.unusedVariables false
set_option linter.unusedSectionVars false
set_option linter.unusedSimpArgs false
set_option linter.unnecessarySimpa false
section
variable {P : Program} {ops : Array Oper} {E : Env} {s s' : AS} {ρ ρ' : List Value} {B B' : Nat → Prop} {a a' : Act} {w w' : World} {o : Oper} {rest : List Oper} {Q : AS → Prop} {R : Exit → AS → Prop} {nds : List (List (Nat × Option Nat))} {vals : List AV} {G : Prop}
def slotO (T : TypeId) (z : List Value) (b : Bool) : Ob := match b with | true => .box T (z.map AV.val) | false => .gone
theorem getD_set_self' {l : Array Bool} {i : Nat} (h : i < l.size) : (l.setIfInBounds i true).getD i false = true := by simp [h]
theorem Ob.inval_ids {k : Nat} {o : Ob} (h : obIds (· != k) o = true) : Ob.inval k o = o := by
  cases o with
  | box T cs =>
    simp only [Ob.inval, Ob.box.injEq, true_and]
    simp only [obIds] at h
    refine (List.map_congr_left (g := id) fun x hx => ?_).trans (List.map_id _)
    unfold AV.inval
    rw [if_pos ((AV.idsOkL_iff _ _).1 h x hx)]; rfl
  | row T sz xs =>
    simp only [obIds] at h
    simp only [Ob.inval]
    rw [if_pos h]
  | mp es => rfl
  | gone => rfl
theorem RJ.gone (h : RJ E s s.ob ρ B w) : RJ E s (s.ob ++ [.gone]) (ρ ++ [undef]) B w := by
  have h1 : RW E (s.ob ++ [.gone]) (ρ ++ [undef]) B w := h.1.new (same_refl w) trivial (by intro b hb; cases hb)
  exact ⟨h1, h.2.chg ⟨rfl, rfl, rfl, Nat.le_refl _, fun _ _ _ => rfl, Dof.new h.1.len (n := w.heap.size) (by intro b hb; cases hb), fun _ h => h, fun _ h => .inl h⟩ h1.bd⟩
theorem alloc_run {T : TypeId} {z : List Value} (ho : o.op = .alloc T) (hz : zc P T = some z) : (execOp a.eval o).run P w = .ok (.value (.pointer (some ⟨w.heap.size, 0, none⟩))) (w.alloc (.cells z.toArray T)) ∧ True ∧ ∀ x ∈ z.map AV.val, x.one = true := by
  unfold zc at hz
  cases hi : P.info? T with
  | none => simp [hi] at hz
  | some i =>
    cases hzz : i.zero with
    | none => simp [hi, hzz] at hz
    | some zv =>
      simp only [hi, hzz, Option.bind_some] at hz
      split at hz <;> simp only [Option.some.injEq, reduceCtorEq] at hz
      rename_i hall
      subst hz
      refine ⟨?_, trivial, ?_⟩
      · simp only [execOp, ho]
        exact val_run (by simp [Instr.alloc, zeroValue, typeInfo, hi, hzz, newVar, newRow])
      · intro c hc
        simp only [List.mem_map] at hc
        obtain ⟨v, hv, rfl⟩ := hc
        exact List.all_eq_true.1 hall v hv
theorem RJ.fill {T : TypeId} {z : List Value} {ob X : List Ob} {k : Nat} (h : RJ E s (ob ++ [slotO T z false] ++ X) ρ B w) (hk : ob.length = k) (hm : E.ρ0.length ≤ k ∧ E.pp.length ≤ k) (hone : ∀ x ∈ z.map AV.val, x.one = true) (hob : ob.all (obIds (· != k)) = true) (hX : X.all (obIds (· != k)) = true) :
    RJ E s (ob ++ [slotO T z true] ++ X) (ρ.set k (.pointer (some ⟨w.heap.size, 0, none⟩))) B (w.alloc (.cells z.toArray T)) := by
  obtain ⟨h, hj⟩ := h
  subst hk
  have hs := same_alloc w (.cells z.toArray T)
  have hBw : ∀ b, B b → (w.alloc (.cells z.toArray T)).heap[b]? = w.heap[b]? := fun b hb => hs.block b (h.blt b hb)
  have hsz : (w.alloc (.cells z.toArray T)).heap.size = w.heap.size + 1 := by simp
  have hlen := h.len
  have hkl : ob.length < ρ.length := by rw [hlen]; simp
  have tk : ∀ {i : Nat} {o : Ob}, (ob ++ [slotO T z true] ++ X)[i]? = some o → (i = ob.length ∧ o = slotO T z true) ∨ (i ≠ ob.length ∧ (ob ++ [slotO T z false] ++ X)[i]? = some o ∧ obIds (· != ob.length) o = true) := by
    intro i o hi
    rw [List.append_assoc] at hi
    rw [List.append_assoc]
    rcases Nat.lt_trichotomy i ob.length with hlt | rfl | hgt
    · rw [List.getElem?_append_left hlt] at hi
      refine .inr ⟨Nat.ne_of_lt hlt, by rw [List.getElem?_append_left hlt]; exact hi, ?_⟩
      exact List.all_eq_true.1 hob o (List.mem_of_getElem? hi)
    · rw [List.getElem?_append_right (Nat.le_refl _), Nat.sub_self] at hi
      exact .inl ⟨rfl, (by simpa using hi.symm)⟩
    · rw [List.getElem?_append_right (Nat.le_of_lt hgt)] at hi
      have e : i - ob.length = (i - ob.length - 1) + 1 := by omega
      rw [e] at hi
      refine .inr ⟨Nat.ne_of_gt hgt, ?_, ?_⟩
      · rw [List.getElem?_append_right (Nat.le_of_lt hgt), e]; simpa using hi
      · have hi' : X[i - ob.length - 1]? = some o := by simpa using hi
        exact List.all_eq_true.1 hX o (List.mem_of_getElem? hi')
  have hne : ∀ {i : Nat} {v u : Value}, i ≠ ob.length → (ρ.set ob.length v)[i]? = some u → ρ[i]? = some u := fun hi h => by rw [List.getElem?_set_ne (Ne.symm hi)] at h; exact h
  have hself : ∀ {v u : Value}, (ρ.set ob.length v)[ob.length]? = some u → u = v := fun h => by rw [List.getElem?_set_self hkl] at h; exact (Option.some.inj h).symm
  have hrw : RW E (ob ++ [slotO T z true] ++ X) (ρ.set ob.length (.pointer (some ⟨w.heap.size, 0, none⟩))) B (w.alloc (.cells z.toArray T)) := by
    refine { ep := h.ep, os := hs.os.trans h.os, tape := hs.tape.trans h.tape, output := hs.output.trans h.output, size := Nat.le_trans h.size hs.size,
             block := fun k h1 h2 => (hs.block k (Nat.lt_of_lt_of_le h1 h.size)).trans (h.block k h1 h2), pre := ?_, bsub := h.bsub, bnew := h.bnew,
             blt := fun b hb => Nat.lt_of_lt_of_le (h.blt b hb) hs.size, len := by simpa using hlen, obs := ?_, dis := ?_, prv := ?_ }
    · intro j v h1 h2
      have hj : j < ob.length := by
        rcases h1 with h1 | h1
        · have := get_lt h1; omega
        · have := get_lt h1; omega
      rw [List.getElem?_set_ne (by omega)]; exact h.pre j v h1 h2
    · intro i o hi
      rcases tk hi with ⟨rfl, rfl⟩ | ⟨h1, h2, h3⟩
      · refine ⟨w.heap.size, z, (0, 0), List.getElem?_set_self hkl, alloc_get _ _, .inl (by simp), RelL.vals z, fun c hc => AV.oc_of (hone c hc)⟩
      · have := RO.inval (k := ob.length) (v' := .pointer (some ⟨w.heap.size, 0, none⟩)) hBw h1 (fun u b hl hu hbu => hs.block b (h.prv i o u b h2 hl hu hbu).2.1) (h.obs i o h2)
        rw [Ob.inval_ids h3] at this
        exact this
    · intro i j o1 o2 u1 u2 b hij h1 l1 h2 l2 r1 r2 b1 b2
      rcases tk h1 with ⟨rfl, rfl⟩ | ⟨p1, p2, p3⟩ <;> rcases tk h2 with ⟨rfl, rfl⟩ | ⟨q1, q2, q3⟩
      · exact hij rfl
      · have e1 := hself r1
        subst e1
        have := (h.prv j o2 u2 b q2 l2 (hne q1 r2) b2).2.1
        simp only [blk, Option.some.injEq] at b1
        omega
      · have e1 := hself r2
        subst e1
        have := (h.prv i o1 u1 b p2 l1 (hne p1 r1) b1).2.1
        simp only [blk, Option.some.injEq] at b2
        omega
      · exact h.dis i j o1 o2 u1 u2 b hij p2 l1 q2 l2 (hne p1 r1) (hne q1 r2) b1 b2
    · intro i o u b hi hl hu hbu
      rcases tk hi with ⟨rfl, rfl⟩ | ⟨p1, p2, p3⟩
      · have e1 := hself hu
        subst e1
        simp only [blk, Option.some.injEq] at hbu
        subst hbu
        exact ⟨fun hB => by have := h.blt _ hB; omega, by omega, .inl h.size⟩
      · obtain ⟨a1, a2, a3⟩ := h.prv i o u b p2 hl (hne p1 hu) hbu
        exact ⟨a1, Nat.lt_of_lt_of_le a2 hs.size, a3⟩
  refine ⟨hrw, hj.chg ⟨hs.os, hs.tape, hs.output, hs.size, fun b hb _ => hs.block b hb, ?_, fun _ h => h, fun _ h => .inl h⟩ hrw.bd⟩
  rintro b ⟨i, o, u, h1, h2, h3, h4⟩
  rcases tk h1 with ⟨rfl, rfl⟩ | ⟨p1, p2, p3⟩
  · have e1 := hself h3
    subst e1
    simp only [blk, Option.some.injEq] at h4
    exact .inr (Nat.le_of_eq h4)
  · exact .inl ⟨i, o, u, p2, h2, hne p1 h3, h4⟩
structure CInvA (i0 : Nat) (slot : Bool → Ob) (E : Env) (s : AS) (ops : Array Oper) (n : Nat) (vals : List AV) (ci : List Nat) (obs : Nat → List Ob) (ρ0 ρ : List Value) (B : Nat → Prop) (listed : Array Bool) (k : Nat) (a : Act) (w : World) : Prop where
  rj : RJ E s (s.ob ++ [slot (listed.getD i0 false)] ++ obs k) ρ B w
  pre : ∀ (j : Nat) (u : Value), ρ0[j]? = some u → ρ[j]? = some u
  m : E.ρ0.length ≤ s.m ∧ E.pp.length ≤ s.m ∧ E.yl = s.yl
  sz : a.tmps.size = s.n
  df : a.defers = s.df.map mark
  kle : k ≤ ci.length
  pos : ∀ l, l < ci.length → (listed.getD (ci.getD l 0) false = true ↔ l < k)
  new0 : ∀ d : Nat, listed.getD i0 false = true → dstOf ops i0 = some d → Rel w B E.bs ρ (.ptr s.ob.length 0) (a.tmps.getD d undef)
  new1 : ∀ (i d : Nat), i < n → i ∉ ci → i ≠ i0 → listed.getD i false = true → dstOf ops i = some d → Rel w B E.bs ρ0 (vals.getD i .any) (a.tmps.getD d undef)
  new2 : ∀ (d : Nat), 0 < k → dstOf ops (ci.getD (k - 1) 0) = some d → Rel w B E.bs ρ (vals.getD (ci.getD (k - 1) 0) .any) (a.tmps.getD d undef)
  old : ∀ t, (∀ i, i < n → listed.getD i false = true → dstOf ops i ≠ some t) → Rel w B E.bs ρ0 (lk s.fr t) (a.tmps.getD t undef)
theorem AWp.drawnCA {o0 : Oper} {T : TypeId} {z : List Value} {id : Nat} {R : Exit → AS → Prop} (n i0 : Nat) (nds : List (List (Nat × Option Nat))) (vals : List AV) (ci : List Nat) (obs : Nat → List Ob) (fr1 : List (Nat × AV)) (hm : P.follows .mixedOrders = true) (hn : n ≤ ops.size) (h0 : obs 0 = []) (hi0 : i0 < n) (hi0c : i0 ∉ ci) (h0op : ops[i0]? = some o0) (ho0 : o0.op = .alloc T) (hg0 : o0.guard = none) (hz : zc P T = some z) (hv0 : vals.getD i0 .any = .ptr s.ob.length 0) (hneed0 : ∀ i, i < n → ∀ p ∈ nds.getD i [], p.2 ≠ some i0)
    (hidc : ∀ i, i ∈ ci → (vals.getD i .any).idsOk (· != s.ob.length) = true) (hob : s.ob.all (obIds (· != s.ob.length)) = true) (hobs : ∀ k, (obs k).all (obIds (· != s.ob.length)) = true) (hm0 : s.m ≤ s.ob.length) (hB : drawnCB ops n s.n ci nds = true)
    (hT : ∀ listed, HeadInv .any ops n listed → (∃ i, i < n ∧ listed.getD i true = false) → ∀ j, n ≤ j → j ∉ Region.ready .any ops listed)
    (specs : ∀ i o, i < n → ops[i]? = some o → i ∉ ci → i ≠ i0 → NSpec P ops o { s with fr := needFr s.fr vals (nds.getD i []) } (vals.getD i .any))
    (hid : ∀ i, i < n → i ∉ ci → i ≠ i0 → (vals.getD i .any).idsOk (fun j => decide (j < s.ob.length)) = true)
    (cspec : ∀ bb l o, l < ci.length → ops[ci.getD l 0]? = some o → CSpec P ops o { s with fr := needFr s.fr vals (nds.getD (ci.getD l 0) []), ob := s.ob ++ [slotO T z bb] } (obs l) (obs (l + 1)) (vals.getD (ci.getD l 0) .any))
    (hfr : ∀ t x, (t, x) ∈ fr1 → t < s.n ∧ ((∃ i, i < n ∧ dstOf ops i = some t ∧ x = vals.getD i .any ∧ (i ∉ ci ∨ (0 < ci.length ∧ ci.getD (ci.length - 1) 0 = i))) ∨ ((∀ i, i < n → dstOf ops i ≠ some t) ∧ x = lk s.fr t)))
    (K : AAny P ops (ops.size - n) (listed0 n ops.size) (R .normal) { s with fr := fr1, ob := s.ob ++ [.box T (z.map AV.val)] ++ obs ci.length }) : AWp P (.region id ops true) s R := by
  intro E hE ρ0 B0 a0 w0 hs0 Q' hQ
  refine wpIn_region_any hm ?_
  simp only [drawnCB, Bool.and_eq_true, decide_eq_true_eq] at hB
  obtain ⟨⟨⟨⟨hhead, hnd⟩, hcn⟩, hcw⟩, hcneed⟩ := hB
  simp only [drawnH] at hhead
  have head : ∀ i, i < n → ∃ o, ops[i]? = some o ∧ (∀ e ∈ o.after, Region.binds .any e = true → e.on < i) ∧ (∀ d, o.dst = some d → d < s.n ∧ ∀ j, j < n → dstOf ops j = some d → j = i) ∧
      (∀ p ∈ nds.getD i [], match p.2 with
        | some j => j < n ∧ dstOf ops j = some p.1 ∧ Region.waitsFor .any ops i j = true
        | none => p.1 < s.n ∧ ∀ j, j < n → dstOf ops j = some p.1 → (j ≠ i ∧ Region.waitsFor .any ops j i = true) ∨ j = i) := by
    intro i hi
    have h := List.all_eq_true.1 hhead i (List.mem_range.2 hi)
    cases ho : ops[i]? with
    | none => simp [ho] at h
    | some o =>
      simp only [ho, Bool.and_eq_true] at h
      obtain ⟨⟨h1, h2⟩, h3⟩ := h
      refine ⟨o, rfl, ?_, ?_, ?_⟩
      · intro e he hb
        have := Array.all_eq_true_iff_forall_mem.1 h1 e he
        simpa [hb] using this
      · intro d hd
        simp only [hd, Bool.and_eq_true, decide_eq_true_eq] at h2
        refine ⟨h2.1, fun j hj hdj => ?_⟩
        have := List.all_eq_true.1 h2.2 j (List.mem_range.2 hj)
        simp only [Bool.or_eq_true, decide_eq_true_eq] at this
        rcases this with this | this
        · exact this
        · exact absurd hdj this
      · intro p hp
        have := List.all_eq_true.1 h3 p hp
        cases hp2 : p.2 with
        | some j =>
          simp only [hp2, Bool.and_eq_true, decide_eq_true_eq] at this
          exact ⟨this.1.1, this.1.2, this.2⟩
        | none =>
          simp only [hp2, Bool.and_eq_true, decide_eq_true_eq] at this
          refine ⟨this.1, ?_⟩
          intro j hj hdj
          have := List.all_eq_true.1 this.2 j (List.mem_range.2 hj)
          simp only [Bool.or_eq_true, decide_eq_true_eq, Bool.and_eq_true] at this
          rcases this with (this | this) | this
          · exact absurd hdj this
          · exact .inl this
          · exact .inr this
  have hlen0 : ρ0.length = s.ob.length := hs0.rw_.len
  have hs0' : RS E s ρ0 B0 a0 { w0 with drawn := w0.drawn + 1 } := hs0.same ⟨rfl, rfl, rfl, Nat.le_refl _, fun _ _ => rfl⟩
  have main : ∀ (u : Nat) (listed : Array Bool) (ρ : List Value) (B : Nat → Prop) (k : Nat) (a : Act) (w : World), left n listed = u → HeadInv .any ops n listed → CInvA i0 (slotO T z) E s ops n vals ci obs ρ0 ρ B listed k a w → wpAnyIn (FR E.rnd) 0 P .any ops Q' (u + (ops.size - n)) listed a w := by
    intro u
    induction u with
    | zero =>
      intro listed ρ B k a w hu inv hi
      have hall := left_zero hu
      have hlisted : listed = listed0 n ops.size := by
        apply Array.ext
        · simp [inv.size, listed0]
        · intro i h1 h2
          have hi' : i < ops.size := by rw [← inv.size]; exact h1
          have hg : listed.getD i false = listed[i] := by simp [h1]
          have : listed[i] = decide (i < n) := by
            by_cases hin : i < n
            · rw [← hg, hall i hin]; simp [hin]
            · have h3 := getD_both (inv.tail i (by omega) hi')
              rw [← hg, h3]; simp [hin]
          rw [this]; simp [listed0]
      have hk : k = ci.length := by
        rcases Nat.lt_or_ge k ci.length with h | h
        · have := (hi.pos k h).1 (hall _ (by have := List.all_eq_true.1 hcn _ (getD_mem h); simpa using this))
          omega
        · exact Nat.le_antisymm hi.kle h
      subst hk
      rw [Nat.zero_add, hlisted]
      have hl0 : listed.getD i0 false = true := hall i0 hi0
      have hrj := hi.rj
      rw [hl0] at hrj
      refine K E hE ρ B a w ⟨hrj.1, hi.m, hi.sz, hi.df, hrj.2, ?_⟩ Q' (fun s' ρ' B' a' w' q hs' => hQ _ _ _ _ _ _ q hs')
      intro t x hmem
      obtain ⟨hlt, h⟩ := hfr t x hmem
      refine ⟨by rw [hi.sz]; exact hlt, ?_⟩
      rcases h with ⟨i, h1, h2, rfl, h3⟩ | ⟨h1, rfl⟩
      · rcases h3 with h3 | ⟨h3, rfl⟩
        · by_cases hii : i = i0
          · subst hii; rw [hv0]; exact hi.new0 t hl0 h2
          exact (hi.new1 i t h1 h3 hii (hall i h1) h2).mono (fun _ h => h) (fun _ _ => rfl) (Nat.le_refl _) hi.pre
        · exact hi.new2 t h3 h2
      · exact (hi.old t (fun i hi' _ => h1 i hi')).mono (fun _ h => h) (fun _ _ => rfl) (Nat.le_refl _) hi.pre
    | succ u ih =>
      intro listed ρ B k a w hu inv hi
      have hex : ∃ i, i < n ∧ listed.getD i false = false := by
        apply Classical.byContradiction
        intro hne
        have hz : left n listed = 0 := by
          unfold left
          rw [List.countP_eq_zero]
          intro i hi'
          have := List.mem_range.1 hi'
          have h2 : ¬ listed.getD i false = false := fun e => hne ⟨i, this, e⟩
          simpa using h2
        omega
      have hnr : ∀ j ∈ Region.ready .any ops listed, j < n := by
        intro j hj
        rcases Nat.lt_or_ge j n with h | h
        · exact h
        · exfalso
          obtain ⟨i, hin, hil⟩ := hex
          exact hT listed inv ⟨i, hin, getD_in (by rw [inv.size]; omega) hil⟩ j h hj
      rw [show u + 1 + (ops.size - n) = (u + (ops.size - n)) + 1 by omega]
      refine ⟨?_, ?_⟩
      · intro hempty
        exfalso
        obtain ⟨i, ⟨hin, hil⟩, hmin⟩ := exists_least (p := fun i => i < n ∧ listed.getD i false = false) hex
        obtain ⟨o, ho, hedge, _, _⟩ := head i hin
        have hready : i ∈ Region.ready .any ops listed := by
          rw [mem_ready]
          refine ⟨getD_in (by rw [inv.size]; omega) hil, o, ho, ?_⟩
          intro e he hb
          have hlt := hedge e he hb
          cases hl : listed.getD e.on false with
          | true => rfl
          | false =>
            have := hmin e.on ⟨by omega, hl⟩
            omega
        rw [hempty] at hready
        cases hready
      · intro i hr
        have hin := hnr i hr
        obtain ⟨hun, o', ho', hwait⟩ := mem_ready.1 hr
        obtain ⟨o, ho, hedge, hdst, hneed⟩ := head i hin
        have : o' = o := Option.some.inj (ho'.symm.trans ho)
        subst this
        have hil : listed.getD i false = false := getD_both hun
        have hsz : i < listed.size := by rw [inv.size]; omega
        have hleft := left_set hin hsz hil
        have inv' := inv.set hr hin
        have waits : ∀ j, Region.waitsFor .any ops i j = true → listed.getD j false = true := by
          intro j hj
          obtain ⟨o2, h2, e, he, hb, rfl⟩ := Region.waitsFor_spec hj
          have : o2 = o' := Option.some.inj (h2.symm.trans ho)
          subst this
          exact hwait e he hb
        have notyet : ∀ j, Region.waitsFor .any ops j i = true → listed.getD j false = false := by
          intro j hj
          obtain ⟨o2, h2, e, he, hb, hon⟩ := Region.waitsFor_spec hj
          cases hl : listed.getD j false with
          | false => rfl
          | true =>
            have := inv.closed j o2 h2 hl e he hb
            rw [hon, hil] at this
            cases this
        -- where a chain's operation comes up, the chain stands in front of it
        have stage : ∀ l, l < ci.length → ci.getD l 0 = i → l = k := by
          intro l hl hli
          have h1 : ¬ l < k := fun h => by
            have := (hi.pos l hl).2 h
            rw [hli, hil] at this
            cases this
          rcases Nat.lt_or_ge k l with h2 | h2
          · exfalso
            have hw := List.all_eq_true.1 hcw l (List.mem_range.2 hl)
            simp only [Bool.or_eq_true, decide_eq_true_eq] at hw
            rcases hw with hw | hw
            · omega
            · rw [hli] at hw
              have := (hi.pos (l - 1) (by omega)).1 (waits _ hw)
              omega
          · omega
        have hneedv : ∀ (t j : Nat), (t, some j) ∈ nds.getD i [] → Rel w B E.bs ρ (vals.getD j .any) (a.tmps.getD t undef) := by
          intro t j hmem
          have h := hneed _ hmem
          simp only at h
          obtain ⟨hj, hdj, hw⟩ := h
          have hcc := List.all_eq_true.1 (List.all_eq_true.1 hcneed i (List.mem_range.2 hin)) _ hmem
          simp only [Bool.or_eq_true, Bool.not_eq_true', List.contains_eq_mem, decide_eq_false_iff_not] at hcc
          rcases hcc with (hcc | hcc) | hcc
          · exact (hi.new1 j t hj hcc (fun e => hneed0 i hin _ hmem (by rw [e])) (waits j hw) hdj).mono (fun _ h => h) (fun _ _ => rfl) (Nat.le_refl _) hi.pre
          · obtain ⟨l, hl, hcc⟩ := List.any_eq_true.1 hcc
            simp only [Bool.and_eq_true, decide_eq_true_eq] at hcc
            obtain ⟨⟨q1, q2⟩, q3⟩ := hcc
            have hlk := stage l (List.mem_range.1 hl) q3
            subst hlk
            subst q2
            exact hi.new2 t q1 hdj
          · simp only [Bool.and_eq_true, decide_eq_true_eq] at hcc
            obtain ⟨q1, q2⟩ := hcc
            have hk : k = ci.length := by
              have h1 := (hi.pos (ci.length - 1) (by omega)).1 (by rw [q2]; exact waits j hw)
              have := hi.kle; omega
            subst hk
            subst q2
            exact hi.new2 t q1 hdj
        have hrs : ∀ ob, ob = s.ob ++ [slotO T z (listed.getD i0 false)] ++ obs k → RS E { s with fr := needFr s.fr vals (nds.getD i []), ob := ob } ρ B a w := by
          rintro ob rfl
          refine ⟨hi.rj.1, hi.m, hi.sz, hi.df, hi.rj.2, ?_⟩
          intro t x hmem
          rcases needFr_mem hmem with ⟨j, h1, rfl⟩ | ⟨h1, rfl⟩
          · have h := hneed _ h1
            simp only at h
            obtain ⟨hj, hdj, hw⟩ := h
            refine ⟨?_, hneedv t j h1⟩
            obtain ⟨oj, hoj, _, hdj', _⟩ := head j hj
            have : oj.dst = some t := by simpa [dstOf, hoj] using hdj
            rw [hi.sz]; exact (hdj' t this).1
          · have h := hneed _ h1
            simp only at h
            refine ⟨by rw [hi.sz]; exact h.1, (hi.old t ?_).mono (fun _ h => h) (fun _ _ => rfl) (Nat.le_refl _) hi.pre⟩
            intro j hj hl hdj
            rcases h.2 j hj hdj with ⟨_, h⟩ | h
            · rw [notyet j h] at hl; cases hl
            · subst h; rw [hil] at hl; cases hl
        -- what stays when operation i has come up
        have tmpsEq : ∀ (v : Value) (d : Nat), o'.dst ≠ some d → (a.put o'.dst v).tmps.getD d undef = a.tmps.getD d undef := by
          intro v d hd
          cases hd' : o'.dst with
          | none => rfl
          | some d' =>
            have hne : d' ≠ d := by rintro rfl; exact hd hd'
            simp [Act.put, Array.getD_eq_getD_getElem?, Array.getElem?_setIfInBounds_ne hne]
        have tmpsNew : ∀ (v : Value) (d : Nat), o'.dst = some d → (a.put o'.dst v).tmps.getD d undef = v := by
          intro v d hd
          have := (hdst d hd).1
          rw [hd]; simp [Act.put, Array.getD_eq_getD_getElem?, hi.sz, this]
        have step : ∀ (v : Value) (w' : World) (ρ' : List Value) (B' : Nat → Prop) (k' : Nat), RJ E s (s.ob ++ [slotO T z ((listed.setIfInBounds i true).getD i0 false)] ++ obs k') ρ' B' w' → (∀ b, B b → B' b) → (∀ b, B b → w'.heap[b]? = w.heap[b]?) → (∀ (j : Nat) (u : Value), ρ0[j]? = some u → ρ'[j]? = some u) →
            k' ≤ ci.length → (∀ l, l < ci.length → ((listed.setIfInBounds i true).getD (ci.getD l 0) false = true ↔ l < k')) → (listed.getD i0 false = true ∨ i = i0 → ∀ d, dstOf ops i0 = some d → Rel w' B' E.bs ρ' (.ptr s.ob.length 0) ((a.put o'.dst v).tmps.getD d undef)) → (i ∉ ci → i ≠ i0 → Rel w' B' E.bs ρ0 (vals.getD i .any) v) →
            (∀ d, 0 < k' → dstOf ops (ci.getD (k' - 1) 0) = some d → Rel w' B' E.bs ρ' (vals.getD (ci.getD (k' - 1) 0) .any) ((a.put o'.dst v).tmps.getD d undef)) →
            wpAnyIn (FR E.rnd) 0 P .any ops Q' (u + (ops.size - n)) (listed.setIfInBounds i true) (a.put o'.dst v) w' := by
          intro v w' ρ' B' k' h1 h2 h3 h4 h5 h6 h60 h7 h8
          refine ih _ ρ' B' k' _ _ (by omega) inv' ⟨h1, h4, hi.m, ?_, ?_, h5, h6, ?_, ?_, h8, ?_⟩
          · cases o'.dst <;> simp [Act.put, hi.sz]
          · cases o'.dst <;> simp [Act.put, hi.df]
          · intro d hl hdj
            refine h60 ?_ d hdj
            by_cases hji : i0 = i
            · exact .inr hji.symm
            · rw [getD_set_ne false (Ne.symm hji)] at hl; exact .inl hl
          · intro j d hj hjc hj0 hl hdj
            by_cases hji : j = i
            · subst hji
              have hd : o'.dst = some d := by simpa [dstOf, ho] using hdj
              rw [tmpsNew v d hd]; exact h7 hjc hj0
            · rw [getD_set_ne false (Ne.symm hji)] at hl
              have hold := (hi.new1 j d hj hjc hj0 hl hdj).mono h2 h3 (Nat.le_refl _) (fun _ _ h => h)
              rw [tmpsEq v d (fun hd => hji ((hdst d hd).2 j hj hdj))]; exact hold
          · intro t ht
            have hold := (hi.old t (fun j hj hl => ht j hj (by
              by_cases hji : j = i
              · subst hji; rw [hil] at hl; cases hl
              · rw [getD_set_ne false (Ne.symm hji)]; exact hl))).mono h2 h3 (Nat.le_refl _) (fun _ _ h => h)
            rw [tmpsEq v t (fun hd => ht i hin (by simp [hsz]) (by simp [dstOf, ho, hd]))]; exact hold
        unfold wpOpIn
        simp only [ho]
        have fin : ∀ {K' : Act → World → Prop}, (if Region.wanted o' (yielded ops a.tmps) then owp E.rnd P o' a w K' Q' else K' (a.put o'.dst undef) w) → (if Region.wanted o' (yielded ops a.tmps) then o'.wpIn (FR E.rnd) 0 P a w K' Q' else (∀ f, o'.about P w a.eval = some f → (FR E.rnd).fn f) ∧ K' (a.put o'.dst undef) w) := by
          intro K' h
          split at h
          · rename_i hw; rw [if_pos hw]; exact h
          · rename_i hw; rw [if_neg hw]; exact ⟨fun _ _ => trivial, h⟩
        refine fin ?_
        by_cases hic : i ∈ ci
        · obtain ⟨l, hl, hli⟩ := mem_getD hic
          have hlk := stage l hl hli
          subst hlk
          have hii : i ≠ i0 := fun e => hi0c (e ▸ hic)
          have hl0 : (listed.setIfInBounds i true).getD i0 false = listed.getD i0 false := getD_set_ne false hii
          have hcs := cspec (listed.getD i0 false) l o' hl (by rw [hli]; exact ho)
          rw [hli] at hcs
          refine hcs E hE ρ B a w (hrs _ rfl) _ Q' ?_
          intro v w' ρ' B' h1 h2 h3 h4 h5
          have hpre : ∀ (j : Nat) (u : Value), ρ0[j]? = some u → ρ'[j]? = some u := fun j u hj => h4 j u (by have := get_lt hj; show j < (s.ob ++ [_]).length; simp; omega) (hi.pre j u hj)
          refine step v w' ρ' B' (l + 1) (by rw [hl0]; exact h1) h2 h3 hpre hl ?_ ?_ (fun h => absurd hic h) ?_
          · intro l' hl'
            by_cases hll : l' = l
            · subst hll; rw [hli]; simp [hsz]
            · have hne : i ≠ ci.getD l' 0 := by rw [← hli]; exact fun e => hll (getD_inj hnd hl' hl e.symm)
              rw [getD_set_ne false hne, hi.pos l' hl']; omega
          · intro hh d hd
            have hh := hh.resolve_right hii
            have hold := hi.new0 d hh hd
            rw [tmpsEq v d (fun hd' => hii ((hdst d hd').2 i0 hi0 hd).symm)]
            generalize a.tmps.getD d undef = u at hold ⊢
            cases hold with
            | ptr hq => exact .ptr (h4 _ _ (by show s.ob.length < (s.ob ++ [_]).length; simp) hq)
          · intro d _ hd
            rw [Nat.add_sub_cancel, hli] at hd ⊢
            rw [tmpsNew v d (by simpa [dstOf, ho] using hd)]; exact h5
        · by_cases hii : i = i0
          · subst hii
            have : o' = o0 := Option.some.inj (ho.symm.trans h0op)
            subst this
            have hrj := hi.rj
            rw [hil] at hrj
            obtain ⟨q1, q2, q3⟩ := alloc_run (P := P) (a := a) (w := w) ho0 hz
            have hg : gd ops s o' = some true := by simp only [gd, hg0]
            have hs1 : RS E { s with fr := [], ob := s.ob ++ [slotO T z false] ++ obs k } ρ B a w := ⟨hrj.1, hi.m, hi.sz, hi.df, hrj.2, fun t x h => by cases h⟩
            rw [if_pos (by simp [Region.wanted, hg0])]
            have hlen : ρ.length = (s.ob ++ [slotO T z false] ++ obs k).length := hrj.1.len
            have hfill := hrj.fill (T := T) (z := z) rfl ⟨Nat.le_trans hi.m.1 hm0, Nat.le_trans hi.m.2.1 hm0⟩ q3 hob (hobs k)
            refine owp_value q1 (step _ _ (ρ.set s.ob.length (.pointer (some ⟨w.heap.size, 0, none⟩))) B k ?_ (fun _ h => h) (fun b hb => (same_alloc w _).block b (hrj.1.blt b hb)) ?_ hi.kle ?_ ?_ (fun _ h => absurd rfl h) ?_)
            · rw [getD_set_self' hsz]; exact hfill
            · intro j u hj
              rw [List.getElem?_set_ne (by have := get_lt hj; show s.ob.length ≠ j; omega)]; exact hi.pre j u hj
            · intro l hl
              have hne : i ≠ ci.getD l 0 := fun e => hic (e ▸ getD_mem hl)
              rw [getD_set_ne false hne]; exact hi.pos l hl
            · intro _ d hd
              rw [tmpsNew _ d (by simpa [dstOf, ho] using hd)]
              exact .ptr (by rw [List.getElem?_set_self (by rw [hlen]; simp)])
            · intro d hk hd
              have hne : ci.getD (k - 1) 0 ≠ i := fun e => hic (e ▸ getD_mem (by have := hi.kle; omega))
              have hcl : ci.getD (k - 1) 0 < n := by have := List.all_eq_true.1 hcn _ (getD_mem (l := ci) (i := k - 1) (by have := hi.kle; omega)); simpa using this
              rw [tmpsEq _ d (fun hd' => hne ((hdst d hd').2 _ hcl hd))]
              have hold := (hi.new2 d hk hd).mono (B' := B) (w' := w.alloc (.cells z.toArray T)) (bs' := E.bs) (ρ' := ρ) (fun _ h => h) (fun b hb => (same_alloc w _).block b (hrj.1.blt b hb)) (Nat.le_refl _) (fun _ _ h => h)
              refine hold.ids (p := (· != s.ob.length)) ?_ (hidc _ (getD_mem (by have := hi.kle; omega)))
              intro j u hj hu
              rw [List.getElem?_set_ne (by have : j ≠ s.ob.length := by simpa using hj
                                           exact this.symm)]; exact hu
          have hl0 : (listed.setIfInBounds i true).getD i0 false = listed.getD i0 false := getD_set_ne false hii
          refine specs i o' hin ho hic hii E hE ρ B a w ([slotO T z (listed.getD i0 false)] ++ obs k) (hrs _ (by simp)) _ Q' ?_
          intro v w' B' h1 h2 h3 h4
          refine step v w' ρ B' k (by rw [hl0, List.append_assoc]; exact h1) h2 h3 hi.pre hi.kle ?_ ?_ (fun _ _ => ?_) ?_
          · intro l hl
            have hne : i ≠ ci.getD l 0 := fun e => hic (e ▸ getD_mem hl)
            rw [getD_set_ne false hne]; exact hi.pos l hl
          · intro hh d hd
            have hh := hh.resolve_right hii
            have hold := (hi.new0 d hh hd).mono h2 h3 (Nat.le_refl _) (fun _ _ h => h)
            rw [tmpsEq v d (fun hd' => hii ((hdst d hd').2 i0 hi0 hd).symm)]; exact hold
          · refine h4.ids (p := fun j => decide (j < s.ob.length)) ?_ (hid i hin hic hii)
            intro j u hj hu
            simp only [decide_eq_true_eq] at hj
            have hlt : j < ρ0.length := by omega
            have := hi.pre j _ (List.getElem?_eq_getElem hlt)
            rw [hu] at this
            rw [List.getElem?_eq_getElem hlt, ← this]
          · intro d hk hd
            have hold := (hi.new2 d hk hd).mono h2 h3 (Nat.le_refl _) (fun _ _ h => h)
            have hne : ci.getD (k - 1) 0 ≠ i := fun e => hic (e ▸ getD_mem (by have := hi.kle; omega))
            have hcl : ci.getD (k - 1) 0 < n := by have := List.all_eq_true.1 hcn _ (getD_mem (l := ci) (i := k - 1) (by have := hi.kle; omega)); simpa using this
            rw [tmpsEq v d (fun hd' => hne ((hdst d hd').2 _ hcl hd))]; exact hold
  have inv0 : HeadInv .any ops n (Array.replicate ops.size false) :=
    ⟨by simp, fun j oj _ hl => (by rw [getD_replicate_false] at hl; cases hl), fun t _ ht => getD_in (by simpa using ht) (getD_replicate_false _ _)⟩
  have hc0 : CInvA i0 (slotO T z) E s ops n vals ci obs ρ0 (ρ0 ++ [undef]) B0 (Array.replicate ops.size false) 0 a0 { w0 with drawn := w0.drawn + 1 } := by
    refine ⟨?_, fun _ _ h => get_append_some h, hs0'.m, hs0'.n, hs0'.df, Nat.zero_le _, fun l _ => (by rw [getD_replicate_false]; simp), fun d hl => (by rw [getD_replicate_false] at hl; cases hl), fun i d _ _ _ hl => (by rw [getD_replicate_false] at hl; cases hl), fun d h => absurd h (Nat.lt_irrefl _), fun t _ => hs0'.get t⟩
    rw [h0, List.append_nil, getD_replicate_false]; exact hs0'.rj.gone
  have hl0 : left n (Array.replicate ops.size false) = n := by
    unfold left
    rw [List.countP_eq_length.2 (by intro i _; rw [getD_replicate_false]; rfl)]
    simp
  have := main n _ (ρ0 ++ [undef]) B0 0 a0 _ hl0 inv0 hc0
  rwa [show n + (ops.size - n) = ops.size by omega] at this
/-! ### in the walk -/
theorem slot_ids (T : TypeId) (z : List Value) (p : Nat → Bool) (bb : Bool) : obIds p (slotO T z bb) = true := by
  cases bb
  · rfl
  · show AV.idsOkL p (z.map AV.val) = true
    rw [AV.idsOkL_iff]
    intro x hx
    obtain ⟨v, _, rfl⟩ := List.mem_map.1 hx
    rfl
theorem obIds_mono {p q : Nat → Bool} (h : ∀ k, p k = true → q k = true) (o : Ob) (ho : obIds p o = true) : obIds q o = true := by
  cases o with
  | box T cs => exact idsOkL_mono h cs ho
  | row T sz xs => exact idsOkL_mono h xs ho
  | mp es => rfl
  | gone => rfl
theorem AS.ev_ob (s : AS) (X : List Ob) : AS.ev { s with ob := X } = AS.ev s := by
  funext y
  cases y with
  | const v => cases v <;> rfl
  | _ => rfl
/-- the chain's operations beside a variable that may be made at any time -/
def CLA (P : Program) (ops : Array Oper) (s : AS) (T : TypeId) (z : List Value) (nds1 : List (List (Nat × Option Nat))) (vals : List AV) : List Nat → List Ob → List Ob → Prop
  | [], X, XL => X = XL
  | i :: r, X, XL => ∃ X', X'.all (obIds (· != s.ob.length)) = true ∧ (∀ bb o, ops[i]? = some o → CSpec P ops o { s with fr := needFr s.fr vals (nds1.getD i []), ob := s.ob ++ [slotO T z bb] } X X' (vals.getD i .any)) ∧ CLA P ops s T z nds1 vals r X' XL
theorem CLA.obs {T : TypeId} {z : List Value} {nds1 : List (List (Nat × Option Nat))} : ∀ {ci : List Nat} {X XL : List Ob}, X.all (obIds (· != s.ob.length)) = true → CLA P ops s T z nds1 vals ci X XL → ∃ obs : Nat → List Ob, obs 0 = X ∧ obs ci.length = XL ∧ (∀ k, (obs k).all (obIds (· != s.ob.length)) = true) ∧
    ∀ bb l o, l < ci.length → ops[ci.getD l 0]? = some o → CSpec P ops o { s with fr := needFr s.fr vals (nds1.getD (ci.getD l 0) []), ob := s.ob ++ [slotO T z bb] } (obs l) (obs (l + 1)) (vals.getD (ci.getD l 0) .any)
  | [], X, XL, hX, h => ⟨fun _ => X, rfl, h, fun _ => hX, fun bb l o hl => by simp at hl⟩
  | i :: r, X, XL, hX, ⟨X', h0, h1, h2⟩ => by
    obtain ⟨obs, a1, a2, a4, a3⟩ := CLA.obs h0 h2
    refine ⟨fun l => match l with | 0 => X | l + 1 => obs l, rfl, a2, fun k => ?_, fun bb l o hl ho => ?_⟩
    · cases k with
      | zero => exact hX
      | succ k => exact a4 k
    · cases l with
      | zero =>
        have := h1 bb o (by simpa using ho)
        simp only [List.getD_cons_zero]
        rw [a1]; exact this
      | succ l =>
        simp only [List.getD_cons_succ] at ho ⊢
        exact a3 bb l o (by simpa using hl) ho
section cl
variable {T : TypeId} {z : List Value} {nds1 : List (List (Nat × Option Nat))} {X XL : List Ob} {i : Nat} {r : List Nat}
theorem CLA.nil : CLA P ops s T z nds1 vals [] X X := rfl
theorem CLA.ownB {T' e : TypeId} {len sz : Nat} {parts : Array (Nat × Operand)} {xs : List AV} (k : CLA P ops s T z nds1 vals r [.row e sz xs] XL) (hol : ops[i]? = some o := by exact Go.Abs.evT) (ho : o.op = .buildSlice T' len parts := by rfl)
    (hg : gd ops { s with fr := needFr s.fr vals (nds1.getD i []) } o = some true := by exact Go.Abs.evT)
    (hz : elSz P T' = some sz := by exact Go.Abs.evT) (he : elT P T' = some e := by exact Go.Abs.evT) (hp : parts.toList.map (·.1) = List.range len := by rfl)
    (hx : ∀ p ∈ parts.toList, (AS.ev { s with fr := needFr s.fr vals (nds1.getD i []) } p.2).flat = true ∧ (AS.ev { s with fr := needFr s.fr vals (nds1.getD i []) } p.2).cells.length = sz := by exact Go.Abs.evT)
    (hxs : (parts.toList.map fun p => AS.ev { s with fr := needFr s.fr vals (nds1.getD i []) } p.2) = xs := by exact Go.Abs.evT) (hle : decide (len * sz ≤ 2 ^ 24) = true := by first | rfl | decide) (hv : vals.getD i .any = .own (s.ob.length + 1) := by rfl)
    (hX : AV.idsOkL (· != s.ob.length) xs = true := by exact Go.Abs.evT) : CLA P ops s T z nds1 vals (i :: r) [] XL := by
  refine ⟨[.row e sz xs], by simp only [List.all_cons, List.all_nil, obIds, hX, Bool.and_true], fun bb o' ho' => ?_, k⟩
  have : o' = o := Option.some.inj (ho'.symm.trans hol)
  subst this
  have hev := AS.ev_ob { s with fr := needFr s.fr vals (nds1.getD i []) } (s.ob ++ [slotO T z bb])
  have h := CSpec.ownB (P := P) (ops := ops) (s := { s with fr := needFr s.fr vals (nds1.getD i []), ob := s.ob ++ [slotO T z bb] }) (o := o') (T := T') (e := e) (len := len) (sz := sz) (parts := parts) hg ho hz he hp (by rw [hev]; exact hx) (of_decide_eq_true hle)
  rw [hev, hxs, show ({ s with fr := needFr s.fr vals (nds1.getD i []), ob := s.ob ++ [slotO T z bb] } : AS).ob.length = s.ob.length + 1 by simp] at h
  rw [hv]; exact h
theorem CLA.appP {T' T2 e : TypeId} {x y : Operand} {sz : Nat} {xs ys zs : List AV} (k : CLA P ops s T z nds1 vals r [.gone] XL) (hol : ops[i]? = some o := by exact Go.Abs.evT) (ho : o.op = .call { callee := .builtin .append, args := #[x, y], argTypes := #[T', T2] } := by rfl)
    (hg : gd ops { s with fr := needFr s.fr vals (nds1.getD i []) } o = some true := by exact Go.Abs.evT) (hx : AS.ev { s with fr := needFr s.fr vals (nds1.getD i []) } x = .own (s.ob.length + 1) := by exact Go.Abs.evT) (hz : elSz P T' = some sz := by exact Go.Abs.evT) (he : elT P T' = some e := by exact Go.Abs.evT) (h2 : (isSlc P T2 || isStr P T2) = true := by exact Go.Abs.evT)
    (hsrc : srcOf { s with fr := needFr s.fr vals (nds1.getD i []) } sz (AS.ev { s with fr := needFr s.fr vals (nds1.getD i []) } y) = some ys := by exact Go.Abs.evT) (hzs : xs ++ ys = zs := by
        exact Go.Abs.evE)
    (hid : AV.idsOkL (· != s.ob.length + 1) xs = true := by exact Go.Abs.evT) (hid2 : AV.idsOkL (· != s.ob.length + 1) ys = true := by exact Go.Abs.evT) (hob : s.ob.all (obIds (fun j => decide (j < s.ob.length))) = true := by exact Go.Abs.evT) (hv : vals.getD i .any = .sl true sz zs := by rfl)
    (hm : decide (s.m ≤ s.ob.length) = true := by exact Go.Abs.evT) (hb : 2 * (xs.length + ys.length) * elB P T' ≤ 2 ^ 48) (hsm : xs.length + ys.length ≤ 2 ^ 60) : CLA P ops s T z nds1 vals (i :: r) [.row e sz xs] XL := by
  refine ⟨[.gone], rfl, fun bb o' ho' => ?_, k⟩
  have : o' = o := Option.some.inj (ho'.symm.trans hol)
  subst this
  have hev := AS.ev_ob { s with fr := needFr s.fr vals (nds1.getD i []) } (s.ob ++ [slotO T z bb])
  have hl : ({ s with fr := needFr s.fr vals (nds1.getD i []), ob := s.ob ++ [slotO T z bb] } : AS).ob.length = s.ob.length + 1 := by simp
  have hobb : (s.ob ++ [slotO T z bb]).all (obIds (fun j => decide (j < (s.ob ++ [slotO T z bb]).length))) = true := by
    rw [List.all_append, Bool.and_eq_true]
    refine ⟨List.all_eq_true.2 fun q hq => obIds_mono (fun j hj => ?_) q (List.all_eq_true.1 hob q hq), by simp only [List.all_cons, List.all_nil, slot_ids, Bool.and_true]⟩
    simp only [decide_eq_true_eq] at hj ⊢
    simp; omega
  have h := CSpec.append (P := P) (ops := ops) (s := { s with fr := needFr s.fr vals (nds1.getD i []), ob := s.ob ++ [slotO T z bb] }) (o := o') (T := T') (T2 := T2) (x := x) (y := y) (sz := sz) (e := e) (xs := xs) (ys := ys) hg ho
    (by rw [hev, hl]; exact hx) hz he (by simpa using h2) (by rw [hev]; exact srcOf_new hsrc) hb hsm (by rw [hl]; exact hid) (by rw [hl]; exact hid2) hobb
  have h' := CSpec.pub h (by have := of_decide_eq_true hm; rw [hl]; exact Nat.le_succ_of_le this)
  rw [hzs] at h'
  rw [hv]; exact h'
end cl
theorem Dr.ownS1 (k : Dr P ops s nds (vals ++ [.own (s.ob.length + 1)]) G) (hn : ndsB nds = true := by first | rfl | decide) (hv : (nds.getD vals.length [] == [(s.n, none)]) = true := by first | rfl | decide) (hol : ops[vals.length]? = some o := by exact Go.Abs.evT) : Dr P ops s nds vals G := by
  refine Dr.step' hn hol (fun _ => ?_) k
  intro E hE ρ B a w ob hs K Q' hK
  have hv' : nds.getD vals.length [] = [(s.n, none)] := by simpa using hv
  exfalso
  have h := (hs.rf s.n (lk s.fr s.n) (by simp only [hv', needFr]; exact List.mem_singleton.2 rfl)).1
  rw [hs.n] at h
  exact Nat.lt_irrefl _ h
/-- the chain's values do not name the slot -/
def chIds (p : Nat → Bool) (ci : List Nat) : Nat → List AV → Bool
  | _, [] => true
  | i, x :: r => (bif ciB ci i then x.idsOk p else true) && chIds p ci (i + 1) r
theorem chIds_get {p : Nat → Bool} {ci : List Nat} : ∀ {l : List AV} {k : Nat}, chIds p ci k l = true → ∀ i, k + i ∈ ci → (l.getD i .any).idsOk p = true
  | [], k, h, i, hi => by simp [AV.idsOk]
  | x :: r, k, h, i, hi => by
    simp only [chIds, Bool.and_eq_true] at h
    cases i with
    | zero =>
      have hc := ciB_iff.2 hi
      rw [Nat.add_zero] at hc
      have h1 := h.1
      rw [hc] at h1
      simpa using h1
    | succ i =>
      simp only [List.getD_cons_succ]
      exact chIds_get h.2 i (by rw [show k + 1 + i = k + (i + 1) by omega]; exact hi)
attribute [push_cast] chIds slotO cond_true cond_false
def drCAB (ops : Array Oper) (n sn i0 : Nat) (ci : List Nat) (nds nds1 : List (List (Nat × Option Nat))) (new : List (Nat × Nat)) : Bool :=
  tailB ops n && drawnCB ops n sn ci nds1 && noAl ops n (some i0) && ((List.range n).all fun i => ci.contains i || decide (nds.getD i [] = nds1.getD i [])) &&
  (new.all fun p => !ci.contains p.2 || (decide (0 < ci.length) && decide (ci.getD (ci.length - 1) 0 = p.2))) && decide (i0 < n) && !ci.contains i0 && ((List.range n).all fun i => (nds1.getD i []).all fun p => decide (p.2 ≠ some i0))
theorem AWp.drCA {id : Nat} {n : Nat} (i0 : Nat) {o0 : Oper} {T : TypeId} {z : List Value} (ci : List Nat) {XL : List Ob} (nds nds1 : List (List (Nat × Option Nat))) (new : List (Nat × Nat)) (old : List Nat) (vals : List AV) (hc : CLA P ops s T z nds1 vals ci [] XL) (hm : P.follows .mixedOrders = true) (hB : drCAB ops n s.n i0 ci nds nds1 new = true)
    (hk : drB ops n s.n s.fr new old = true) (hl : vals.length = n) (hp : PSpec P ops s nds vals) (h0 : ops[i0]? = some o0) (ho : o0.op = .alloc T) (hg : o0.guard = none) (hz : zc P T = some z) (hv : vals.getD i0 .any = .ptr s.ob.length 0) (hob : s.ob.all (obIds (· != s.ob.length)) = true) (hm0 : s.m ≤ s.ob.length)
    (hid : valIds (fun j => decide (j < s.ob.length)) (i0 :: ci) 0 vals = true) (hidc : chIds (· != s.ob.length) ci 0 vals = true)
    (k : AAny P ops (ops.size - n) (listed0 n ops.size) (R .normal) { s with fr := (new.map fun p => (p.1, vals.getD p.2 .any)) ++ keepFr s.fr old, ob := s.ob ++ [.box T (z.map AV.val)] ++ XL }) : AWp P (.region id ops true) s R := by
  subst hl
  obtain ⟨obs, o1, o2, o4, o3⟩ := hc.obs (by rfl)
  simp only [drCAB, Bool.and_eq_true] at hB
  obtain ⟨⟨⟨⟨⟨⟨⟨ht, hd⟩, hna⟩, hnn⟩, hnew⟩, hi0⟩, hi0c⟩, hn0⟩ := hB
  have hi0 := of_decide_eq_true hi0
  have hi0c : i0 ∉ ci := by simpa using hi0c
  have hle : vals.length ≤ ops.size := by simp only [tailB, Bool.and_eq_true, decide_eq_true_eq] at ht; exact ht.1
  refine AWp.drawnCA vals.length i0 nds1 vals ci obs _ hm hle o1 hi0 hi0c h0 ho hg hz hv (fun i h1 p h2 => ?_) (fun i h1 => chIds_get hidc i (by rw [Nat.zero_add]; exact h1)) hob o4 hm0 hd (fun listed inv hex => tailB.tail ht inv hex) (fun i o h1 h2 h3 h4 => ?_)
    (fun i _ h3 h4 => valIds_get hid i (by rw [Nat.zero_add]; simp only [List.mem_cons, not_or]; exact ⟨h4, h3⟩)) o3 (fun t x hmem => ?_) (by rw [o2]; exact k)
  · have := List.all_eq_true.1 (List.all_eq_true.1 hn0 i (List.mem_range.2 h1)) p h2
    simpa using this
  · have h := List.all_eq_true.1 hnn i (List.mem_range.2 h1)
    simp only [Bool.or_eq_true, decide_eq_true_eq, List.contains_eq_mem] at h
    rcases h with h | h
    · exact absurd h h3
    · rw [← h]
      refine hp i o h1 h2 ?_
      have := List.all_eq_true.1 hna i (List.mem_range.2 h1)
      simp only [h2, Bool.or_eq_true, decide_eq_true_eq, Bool.not_eq_true'] at this
      rcases this with h | h
      · cases h; exact absurd rfl h4
      · exact h
  · simp only [drB, Bool.and_eq_true] at hk
    rcases List.mem_append.1 hmem with h | h
    · simp only [List.mem_map] at h
      obtain ⟨p, hp', e⟩ := h
      have e1 : p.1 = t := congrArg Prod.fst e
      have e2 : vals.getD p.2 .any = x := congrArg Prod.snd e
      have := List.all_eq_true.1 hk.1 p hp'
      simp only [Bool.and_eq_true, decide_eq_true_eq] at this
      have h2 := List.all_eq_true.1 hnew p hp'
      simp only [Bool.or_eq_true, Bool.not_eq_true', Bool.and_eq_true, decide_eq_true_eq, List.contains_eq_mem, decide_eq_false_iff_not] at h2
      subst e1; subst e2
      exact ⟨this.1.1, .inl ⟨p.2, this.1.2, this.2, rfl, h2⟩⟩
    · obtain ⟨h1, rfl⟩ := keepFr_mem h
      have := List.all_eq_true.1 hk.2 t h1
      simp only [Bool.and_eq_true, decide_eq_true_eq] at this
      exact ⟨this.1, .inr ⟨fun i hi => by simpa using List.all_eq_true.1 this.2 i (List.mem_range.2 hi), rfl⟩⟩
theorem Dr.finCAM {id : Nat} {n : Nat} {y : Code} (i0 : Nat) {o0 : Oper} {T : TypeId} {z : List Value} (ci : List Nat) {XL : List Ob} (f : Nat) (nds1 : List (List (Nat × Option Nat))) (new : List (Nat × Nat)) (old : List Nat) (hc : CLA P ops s T z nds1 vals ci [] XL) (hG : ∀ vals, PSpec P ops s nds vals → AWp P (.region id ops true) s (thenQ (fun s' => AWp P y s' R) R) → G) (hm : P.follows .mixedOrders = true)
    (k : ∀ K : AS → Prop, (∀ s', AWp P y s' R → K s') → AAny P ops f (listed0 n (n + f)) K { s with fr := (new.map fun p => (p.1, vals.getD p.2 .any)) ++ keepFr s.fr old, ob := s.ob ++ [.box T (z.map AV.val)] ++ XL })
    (hl : vals.length = n := by rfl) (hf : ops.size = n + f := by kernel_rfl) (hB : drCAB ops n s.n i0 ci nds nds1 new = true := by kernel_rfl) (hk : drB ops n s.n s.fr new old = true := by kernel_rfl)
    (h0 : ops[i0]? = some o0 := by exact Go.Abs.evT) (ho : o0.op = .alloc T := by rfl) (hg : o0.guard = none := by rfl) (hz : zc P T = some z := by exact Go.Abs.evT) (hv : vals.getD i0 .any = .ptr s.ob.length 0 := by rfl) (hob : s.ob.all (obIds (· != s.ob.length)) = true := by exact Go.Abs.evT) (hm0 : decide (s.m ≤ s.ob.length) = true := by exact Go.Abs.evT)
    (hid : valIds (fun j => decide (j < s.ob.length)) (i0 :: ci) 0 vals = true := by exact Go.Abs.evT) (hidc : chIds (· != s.ob.length) ci 0 vals = true := by exact Go.Abs.evT) : Dr P ops s nds vals G := by
  intro hp
  refine hG vals hp (AWp.drCA i0 ci nds nds1 new old vals hc hm hB hk hl hp h0 ho hg hz hv hob (of_decide_eq_true hm0) hid hidc ?_)
  rw [hf, Nat.add_sub_cancel_left]
  exact k _ fun _ h => h
end
end Go.Abs
/- asconf: addresses, changes, results, requests, answers. -/
set_option linter.unusedVariables false
set_option linter.unusedSimpArgs false
namespace Go.Proofs.YtgcjmjfjeppmgaaGreatDoor.C
open Go.Abs
@[push_cast] theorem nodesA_drop' (b : Bool) (l : List GNode) (k : Nat) : (nodesA b l).drop k = nodesA b (l.drop k) := by
  induction l generalizing k with
  | nil => simp [nodesA]
  | cons n l ih => cases k <;> simp [nodesA, ih]
theorem hp_put4 (id : Nat) (h : id < 2 ^ 32) : PC Tryz.prog 47 [nat 4, .sl false 1 [u32 id]] (.sl true 1 (bys (putB 4 id))) := by
  have := wire_put 4 [id] (by omega) (by intro x hx; simp at hx; omega) (by simp)
  simpa [u32s, List.flatMap_cons, List.flatMap_nil] using this
/-- the address with some bytes -/
def addrOf (b : List UInt8) : GNode × Bool := if b.length = 4 then (.mk 5 b [], true) else if b.length = 16 then (.mk 6 b [], true) else (.zero, false)
theorem addrOf_sz (b : List UInt8) : (addrOf b).1.sz ≤ 1 + b.length := by
  unfold addrOf
  split
  · simp [GNode.sz, szs]; omega
  · split
    · simp [GNode.sz, szs]; omega
    · simp [GNode.zero, GNode.sz, szs]
theorem adof_c (b : List UInt8) (hb : b.length ≤ 2 ^ 40) : PC Tryz.prog 135 [.sl false 1 (bys b)] (.tup [nodeA true (addrOf b).1, bool (addrOf b).2]) := by
  refine PC.of_bodyK (by simp only [push_cast]) Tryz.func135 rfl (by rw [Tryz.ntmps135]; simp) ?_
  refine AWp.regionW ?_
  refine AWp.seqK fun K1 hK1 => ?_
  refine AWp.regionW ?_
  refine AWp.block ?_
  refine AWp.regionW ?_
  refine AWp.condLM (fun c0 => ?_) (fun c0 => ?_)
  · skip
    have h4 : b.length = 4 := by simpa using c0
    have hr : addrOf b = (.mk 5 b [], true) := if_pos h4
    refine AWp.regionM fun K2 hK2 => ?_
    refine ARun2.callM (bclone_c b hb) ?_
    refine ARun2.endm (hK2 _ ?_)
    refine AWp.ret ?_
    try simp only [thenQ, blockQ, noGo]
    refine bodyQ.m ?_
    clear hK2 K2 hK1 K1
    rw [hr]
    first | done | exact Wk.go
  · skip
    have h4 : ¬ b.length = 4 := by simpa using c0
    refine AWp.regionW ?_
    refine AWp.condLM (fun c1 => ?_) (fun c1 => ?_)
    · skip
      have h16 : b.length = 16 := by simpa using c1
      have hr : addrOf b = (.mk 6 b [], true) := by unfold addrOf; rw [if_neg h4, if_pos h16]
      refine AWp.regionM fun K3 hK3 => ?_
      refine ARun2.callM (bclone_c b hb) ?_
      refine ARun2.endm (hK3 _ ?_)
      refine AWp.ret ?_
      try simp only [thenQ, blockQ, noGo]
      refine bodyQ.m ?_
      clear hK3 K3 hK1 K1
      rw [hr]
      first | done | exact Wk.go
    · skip
      have h16 : ¬ b.length = 16 := by simpa using c1
      have hr : addrOf b = (.zero, false) := by unfold addrOf; rw [if_neg h4, if_neg h16]
      refine AWp.skip ?_
      refine hK1 _ ?_
      refine AWp.regionW ?_
      refine AWp.ret ?_
      try simp only [thenQ, blockQ, noGo]
      refine bodyQ.m ?_
      clear hK1 K1
      rw [hr]
      first | done | exact Wk.go
/-- is it an address? -/
def isAddr (n : GNode) : Bool := (n.kids.length == 0) && ((n.ty == 5) && (n.data.length == 4) || (n.ty == 6) && (n.data.length == 16))
theorem addr_same (n : GNode) : ((addrOf n.data).2 && sameN (addrOf n.data).1 n) = isAddr n := by
  obtain ⟨t, d, k⟩ := n
  rw [Bool.eq_iff_iff]
  simp only [Bool.and_eq_true, sameN_iff, isAddr, GNode.ty, GNode.data, GNode.kids, Bool.or_eq_true, beq_iff_eq]
  unfold addrOf
  by_cases h4 : d.length = 4
  · rw [if_pos h4]
    simp [h4, eq_comm, and_comm]
  · rw [if_neg h4]
    by_cases h16 : d.length = 16
    · rw [if_pos h16]; simp [h16, eq_comm, and_comm]
    · rw [if_neg h16]; simp [h4, h16]
theorem addr_eq {n : GNode} (h : isAddr n = true) : (addrOf n.data).1 = n := by
  rw [← addr_same] at h
  simp only [Bool.and_eq_true, sameN_iff] at h
  exact h.2
theorem abytes_c (n : GNode) (hs : n.sz ≤ 2 ^ 26) : PC Tryz.prog 108 [nodeA false n] (.tup [.sl true 1 (bys (if isAddr n = true then n.data else [])), bool (isAddr n)]) := by
  have hsz := n.sz_eq
  have k1 := adof_c n.data (by omega)
  have hz := addrOf_sz n.data
  have k2 := same_c (addrOf n.data).1 n (by omega)
  have h1 := addr_same n
  have h2 := addr_eq (n := n)
  generalize (addrOf n.data).1 = a at k1 k2 h1 h2
  generalize (addrOf n.data).2 = ok at k1 h1
  refine PC.of_bodyK (by simp only [push_cast]) Tryz.func108 rfl (by rw [Tryz.ntmps108]; simp) ?_
  refine AWp.regionW ?_
  refine AWp.regionM fun K1 hK1 => ?_
  refine ARun2.callM (k1) ?_
  refine ARun2.endm (hK1 _ ?_)
  refine AWp.seqK fun K2 hK2 => ?_
  refine AWp.regionA fun K3 hK3 => ?_
  refine ARun.segm 3 fun KS hKS => ?_
  refine ARun2.endm (hKS _ ?_); clear hKS KS
  apply ARun.grpM 4 2 false 18 [4, 14]
  · intro g2 KG hKG
    refine ARun2.gom ?_
    refine ARun2.callM (k2) ?_
    exact ARun2.endm (hKG _ Le.grpM)
  refine ARun2.gom ?_
  refine ARun2.endm (hK3 _ ?_)
  refine AWp.condLM (fun c0 => ?_) (fun c0 => ?_)
  · skip
    have hi : isAddr n = false := by rw [← h1]; revert c0; cases ok <;> cases sameN a n <;> simp
    have hr : (if isAddr n = true then n.data else []) = [] := if_neg (by rw [hi]; decide)
    refine AWp.regionW ?_
    refine AWp.ret ?_
    try simp only [thenQ, blockQ, noGo]
    refine bodyQ.m ?_
    clear hK3 K3 hK2 K2 hK1 K1
    rw [hr, hi]
    try simp only [bys, List.map_nil]
    first | done | exact Wk.go
  · skip
    have hi : isAddr n = true := by rw [← h1]; revert c0; cases ok <;> cases sameN a n <;> simp
    have hr : (if isAddr n = true then n.data else []) = a.data := by rw [if_pos hi, h2 hi]
    refine AWp.skip ?_
    refine hK2 _ ?_
    refine AWp.regionW ?_
    refine AWp.ret ?_
    try simp only [thenQ, blockQ, noGo]
    refine bodyQ.m ?_
    clear hK3 K3 hK2 K2 hK1 K1
    rw [hr, hi]
    try simp only [bys, List.map_nil]
    first | done | exact Wk.go
theorem ris09_c (n : GNode) : PC Tryz.prog 82 [nodeA false n] (bool (isAddr n)) := by
  refine PC.of_bodyW (by simp only [push_cast]) Tryz.func82 rfl (by rw [Tryz.ntmps82]; simp) ?_
  refine AWp.regionW ?_
  refine AWp.regionA fun K1 hK1 => ?_
  refine ARun.segm 5 fun KS hKS => ?_
  refine ARun2.endm (hKS _ ?_); clear hKS KS
  apply ARun.grpM 20 4 true 27 [7]
  · intro g4 KG hKG
    refine ARun.segm 4 fun KS hKS => ?_
    refine ARun2.endm (hKS _ ?_); clear hKS KS
    apply ARun.grpM 4 8 true 15 [1, 7, 11]
    · intro g8 KG hKG
      refine ARun2.gom ?_
      exact ARun2.endm (hKG _ Le.grpM)
    refine ARun.segm 2 fun KS hKS => ?_
    refine ARun2.endm (hKS _ ?_); clear hKS KS
    apply ARun.grpM 9 14 false 26 [7, 17]
    · intro g14 KG hKG
      refine ARun.segm 4 fun KS hKS => ?_
      refine ARun2.endm (hKS _ ?_); clear hKS KS
      apply ARun.grpM 4 18 true 25 [7, 17, 21]
      · intro g18 KG hKG
        refine ARun2.gom ?_
        exact ARun2.endm (hKG _ Le.grpM)
      refine ARun2.gom ?_
      exact ARun2.endm (hKG _ Le.grpM)
    refine ARun2.gom ?_
    exact ARun2.endm (hKG _ Le.grpM)
  refine ARun2.gom ?_
  refine ARun2.endm (hK1 _ ?_)
  refine AWp.ret ?_
  try simp only [thenQ, blockQ, noGo]
  refine bodyQ.m ?_
  clear hK1 K1
  simp only [isAddr]
  first | done | exact Hand.go
theorem asright_c (n : GNode) (hs : n.sz ≤ 2 ^ 26) : PC Tryz.prog 86 [nodeA false n] (.tup [nodeA true (rightP n).1, bool (rightP n).2]) := by
  have hz := nSize_sz n
  have hk := check_c 1 n (by omega) (by omega)
  refine PC.of_bodyK (by simp only [push_cast]) Tryz.func86 rfl (by rw [Tryz.ntmps86]; simp) ?_
  refine AWp.regionW ?_
  refine AWp.seqK fun K1 hK1 => ?_
  refine AWp.regionM fun K2 hK2 => ?_
  refine ARun2.callM (hk) ?_
  refine ARun2.endm (hK2 _ ?_)
  refine AWp.condLM (fun c0 => ?_) (fun c0 => ?_)
  · skip
    have hr := rightP_no (n := n) (by simpa using c0)
    refine AWp.regionW ?_
    refine AWp.ret ?_
    try simp only [thenQ, blockQ, noGo]
    refine bodyQ.m ?_
    clear hK2 K2 hK1 K1
    rw [hr]
    first | done | exact Wk.go
  · skip
    have hr := rightP_yes (n := n) (by simpa using c0)
    refine AWp.skip ?_
    refine hK1 _ ?_
    refine AWp.regionM fun K3 hK3 => ?_
    refine ARun2.callM (nclone_f n (by omega)) ?_
    refine ARun2.endm (hK3 _ ?_)
    refine AWp.ret ?_
    try simp only [thenQ, blockQ, noGo]
    refine bodyQ.m ?_
    clear hK3 K3 hK2 K2 hK1 K1
    rw [hr]
    first | done | exact Wk.go
def isCh (n : GNode) : Bool := ((n.ty == 49153) || (n.ty == 49154) || (n.ty == 49156)) && (checkN 1 1 n == 0)
def isRe (n : GNode) : Bool := ((n.ty == 49157) || (n.ty == 49155)) && (checkN 1 1 n == 0)
theorem aisch_c (n : GNode) (hs : n.sz ≤ 2 ^ 26) : PC Tryz.prog 77 [nodeA false n] (bool (isCh n)) := by
  have hz := nSize_sz n
  refine PC.of_bodyW (by simp only [push_cast]) Tryz.func77 rfl (by rw [Tryz.ntmps77]; simp) ?_
  refine AWp.regionW ?_
  refine AWp.regionA fun K1 hK1 => ?_
  refine ARun.segm 4 fun KS hKS => ?_
  refine ARun2.endm (hKS _ ?_); clear hKS KS
  apply ARun.grpM 3 3 false 9 [1, 6]
  · intro g3 KG hKG
    refine ARun2.gom ?_
    exact ARun2.endm (hKG _ Le.grpM)
  refine ARun.segm 2 fun KS hKS => ?_
  refine ARun2.endm (hKS _ ?_); clear hKS KS
  apply ARun.grpM 3 8 false 14 [1, 11]
  · intro g8 KG hKG
    refine ARun2.gom ?_
    exact ARun2.endm (hKG _ Le.grpM)
  refine ARun.segm 2 fun KS hKS => ?_
  refine ARun2.endm (hKS _ ?_); clear hKS KS
  apply ARun.grpM 3 13 true 19 [16]
  · intro g13 KG hKG
    refine ARun2.gom ?_
    refine ARun2.callM (check_c 1 n (by omega) (by omega)) ?_
    exact ARun2.endm (hKG _ Le.grpM)
  refine ARun2.gom ?_
  refine ARun2.endm (hK1 _ ?_)
  refine AWp.ret ?_
  try simp only [thenQ, blockQ, noGo]
  refine bodyQ.m ?_
  clear hK1 K1
  simp only [isCh]
  first | done | exact Hand.go
theorem aisre_c (n : GNode) (hs : n.sz ≤ 2 ^ 26) : PC Tryz.prog 78 [nodeA false n] (bool (isRe n)) := by
  have hz := nSize_sz n
  refine PC.of_bodyW (by simp only [push_cast]) Tryz.func78 rfl (by rw [Tryz.ntmps78]; simp) ?_
  refine AWp.regionW ?_
  refine AWp.regionA fun K1 hK1 => ?_
  refine ARun.segm 4 fun KS hKS => ?_
  refine ARun2.endm (hKS _ ?_); clear hKS KS
  apply ARun.grpM 3 3 false 9 [1, 6]
  · intro g3 KG hKG
    refine ARun2.gom ?_
    exact ARun2.endm (hKG _ Le.grpM)
  refine ARun.segm 2 fun KS hKS => ?_
  refine ARun2.endm (hKS _ ?_); clear hKS KS
  apply ARun.grpM 3 8 true 14 [11]
  · intro g8 KG hKG
    refine ARun2.gom ?_
    refine ARun2.callM (check_c 1 n (by omega) (by omega)) ?_
    exact ARun2.endm (hKG _ Le.grpM)
  refine ARun2.gom ?_
  refine ARun2.endm (hK1 _ ?_)
  refine AWp.ret ?_
  try simp only [thenQ, blockQ, noGo]
  refine bodyQ.m ?_
  clear hK1 K1
  simp only [isRe]
  first | done | exact Hand.go
theorem risch_c (n : GNode) (hs : n.sz ≤ 2 ^ 26) : PC Tryz.prog 27 [nodeA false n] (bool (isCh n)) := by
  have hz := nSize_sz n
  refine PC.of_bodyW (by simp only [push_cast]) Tryz.func27 rfl (by rw [Tryz.ntmps27]; simp) ?_
  refine AWp.regionW ?_
  refine AWp.regionA fun K1 hK1 => ?_
  refine ARun.segm 4 fun KS hKS => ?_
  refine ARun2.endm (hKS _ ?_); clear hKS KS
  apply ARun.grpM 3 3 false 9 [1, 6]
  · intro g3 KG hKG
    refine ARun2.gom ?_
    exact ARun2.endm (hKG _ Le.grpM)
  refine ARun.segm 2 fun KS hKS => ?_
  refine ARun2.endm (hKS _ ?_); clear hKS KS
  apply ARun.grpM 3 8 false 14 [1, 11]
  · intro g8 KG hKG
    refine ARun2.gom ?_
    exact ARun2.endm (hKG _ Le.grpM)
  refine ARun.segm 2 fun KS hKS => ?_
  refine ARun2.endm (hKS _ ?_); clear hKS KS
  apply ARun.grpM 3 13 true 19 [16]
  · intro g13 KG hKG
    refine ARun2.gom ?_
    refine ARun2.callM (check08_c 1 1 n (by decide) (by decide) (by omega)) ?_
    exact ARun2.endm (hKG _ Le.grpM)
  refine ARun2.gom ?_
  refine ARun2.endm (hK1 _ ?_)
  refine AWp.ret ?_
  try simp only [thenQ, blockQ, noGo]
  refine bodyQ.m ?_
  clear hK1 K1
  simp only [isCh]
  first | done | exact Hand.go
theorem risre_c (n : GNode) (hs : n.sz ≤ 2 ^ 26) : PC Tryz.prog 28 [nodeA false n] (bool (isRe n)) := by
  have hz := nSize_sz n
  have e : isRe n = (((n.ty == 49155) || (n.ty == 49157)) && (checkN 1 1 n == 0)) := by unfold isRe; rw [Bool.or_comm]
  refine PC.of_bodyW (by simp only [push_cast]) Tryz.func28 rfl (by rw [Tryz.ntmps28]; simp) ?_
  refine AWp.regionW ?_
  refine AWp.regionA fun K1 hK1 => ?_
  refine ARun.segm 4 fun KS hKS => ?_
  refine ARun2.endm (hKS _ ?_); clear hKS KS
  apply ARun.grpM 3 3 false 9 [1, 6]
  · intro g3 KG hKG
    refine ARun2.gom ?_
    exact ARun2.endm (hKG _ Le.grpM)
  refine ARun.segm 2 fun KS hKS => ?_
  refine ARun2.endm (hKS _ ?_); clear hKS KS
  apply ARun.grpM 3 8 true 14 [11]
  · intro g8 KG hKG
    refine ARun2.gom ?_
    refine ARun2.callM (check08_c 1 1 n (by decide) (by decide) (by omega)) ?_
    exact ARun2.endm (hKG _ Le.grpM)
  refine ARun2.gom ?_
  refine ARun2.endm (hK1 _ ?_)
  refine AWp.ret ?_
  try simp only [thenQ, blockQ, noGo]
  refine bodyQ.m ?_
  clear hK1 K1
  simp only [e]
  first | done | exact Hand.go
theorem isCh_len {n : GNode} (h : isCh n = true) : 4 ≤ n.data.length := by
  unfold isCh at h
  simp only [Bool.and_eq_true, Bool.or_eq_true, beq_iff_eq] at h
  obtain ⟨ht, h3⟩ := h
  have hh : shapeHas 1 n.ty = true := by rcases ht with (e | e) | e <;> rw [e] <;> rfl
  have hf := (node_zero h3 hh).1
  rcases ht with (e | e) | e <;> rw [e] at hf <;> (unfold fitsN at hf; simp [shapeOf, formsN, paramForms] at hf; omega)
theorem isRe_len {n : GNode} (h : isRe n = true) : 4 ≤ n.data.length := by
  unfold isRe at h
  simp only [Bool.and_eq_true, Bool.or_eq_true, beq_iff_eq] at h
  obtain ⟨ht, h3⟩ := h
  have hh : shapeHas 1 n.ty = true := by rcases ht with e | e <;> rw [e] <;> rfl
  have hf := (node_zero h3 hh).1
  rcases ht with e | e <;> rw [e] at hf <;> (unfold fitsN at hf; simp [shapeOf, formsN, paramForms] at hf; omega)
/-- a change -/
def chN (t id : Nat) (a : GNode) : GNode := .mk t (putB 4 id) [a]
def changeN (t id : Nat) (a : GNode) : GNode × Bool := if isCh (chN t id a) = true then (chN t id a, true) else (.zero, false)
theorem isCh_right {n : GNode} (h : isCh n = true) : rightP n = (n, true) := rightP_yes (by unfold isCh at h; simp only [Bool.and_eq_true, beq_iff_eq] at h; exact h.2)
theorem achange_c (t id : Nat) (a : GNode) (hid : id < 2 ^ 32) (hs : a.sz ≤ 2 ^ 25) : PC Tryz.prog 38 [u16 t, u32 id, nodeA false a] (.tup [nodeA true (changeN t id a).1, bool (changeN t id a).2]) := by
  have hp := hp_put4 id hid
  have hsz : (chN t id a).sz ≤ 2 ^ 26 := by simp only [chN, GNode.sz, szs, putB_len]; omega
  have k1 := aisch_c (chN t id a) hsz
  have k2 := asright_c (chN t id a) hsz
  have k1' : PC Tryz.prog 77 [.agg [u16 t, .sl false 1 (bys (putB 4 id)), .sl false 3 [nodeA false a]]] (bool (isCh (chN t id a))) := k1
  have k2' : PC Tryz.prog 86 [.agg [u16 t, .sl false 1 (bys (putB 4 id)), .sl false 3 [nodeA false a]]] (.tup [nodeA true (rightP (chN t id a)).1, bool (rightP (chN t id a)).2]) := k2
  refine PC.of_bodyK (by simp only [push_cast]) Tryz.func38 rfl (by rw [Tryz.ntmps38]; simp) ?_
  refine AWp.regionW ?_
  refine AWp.drS [[(0, none)], [(1, none)], [(10, some 1)], [(11, some 2)], [(5, none)], [(13, some 4)], [(9, some 0), (12, some 3), (14, some 5)], []] fun G hG => ?_
  refine Dr.sim ?_
  try simp only [List.cons_append, List.nil_append]
  refine Dr.sim ?_
  try simp only [List.cons_append, List.nil_append]
  refine Dr.build ?_
  try simp only [List.cons_append, List.nil_append]
  refine Dr.call (hp) ?_
  try simp only [List.cons_append, List.nil_append]
  refine Dr.sim ?_
  try simp only [List.cons_append, List.nil_append]
  refine Dr.build ?_
  try simp only [List.cons_append, List.nil_append]
  refine Dr.sim ?_
  try simp only [List.cons_append, List.nil_append]
  refine Dr.al ?_
  try simp only [List.cons_append, List.nil_append]
  refine Dr.finA (n := 8) 7 [(15, 6), (8, 7)] [6] hG YtgcjmjfjeppmgaaGreatDoor.Facts.mixed fun KD hKD => ?_
  refine ARun2.endm (hKD _ ?_); clear hKD KD hG G
  refine AWp.seqK fun K1 hK1 => ?_
  refine AWp.regionM fun K2 hK2 => ?_
  refine ARun2.callM (k1') ?_
  refine ARun2.endm (hK2 _ ?_)
  refine AWp.condLM (fun c0 => ?_) (fun c0 => ?_)
  · skip
    have hr : changeN t id a = (.zero, false) := if_neg (by simpa using c0)
    refine AWp.regionW ?_
    refine AWp.ret ?_
    try simp only [thenQ, blockQ, noGo]
    refine bodyQ.m ?_
    clear hK2 K2 hK1 K1
    rw [hr]
    first | done | exact Wk.go
  · skip
    have hi : isCh (chN t id a) = true := by simpa using c0
    have hr : changeN t id a = (chN t id a, true) := if_pos hi
    rw [isCh_right hi] at k2'
    refine AWp.skip ?_
    refine hK1 _ ?_
    refine AWp.regionM fun K3 hK3 => ?_
    refine ARun2.callM (k2') ?_
    refine ARun2.endm (hK3 _ ?_)
    refine AWp.ret ?_
    try simp only [thenQ, blockQ, noGo]
    refine bodyQ.m ?_
    clear hK3 K3 hK2 K2 hK1 K1
    rw [hr]
    first | done | exact Wk.go
theorem asuccess_c (id : Nat) (hid : id < 2 ^ 32) : PC Tryz.prog 41 [u32 id] (nodeA true (.mk 49157 (putB 4 id) [])) := by
  have hp := hp_put4 id hid
  refine PC.of_bodyK (by simp only [push_cast]) Tryz.func41 rfl (by rw [Tryz.ntmps41]; simp) ?_
  refine AWp.regionW ?_
  refine AWp.regionM fun K1 hK1 => ?_
  refine ARun2.callM (hp) ?_
  refine ARun2.endm (hK1 _ ?_)
  refine AWp.ret ?_
  try simp only [thenQ, blockQ, noGo]
  refine bodyQ.m ?_
  clear hK1 K1
  first | done | exact Wk.go
theorem afailure_c (id : Nat) (l : List GNode) (hid : id < 2 ^ 32) (hs : szs l ≤ 2 ^ 25) : PC Tryz.prog 39 [u32 id, .sl false 3 (nodesA false l)] (.tup [nodeA true (rightP (.mk 49155 (putB 4 id) l)).1, bool (rightP (.mk 49155 (putB 4 id) l)).2]) := by
  have hp := hp_put4 id hid
  have hsz : (GNode.mk 49155 (putB 4 id) l).sz ≤ 2 ^ 26 := by simp only [GNode.sz, putB_len]; omega
  have k2 := asright_c (.mk 49155 (putB 4 id) l) hsz
  generalize rightP (.mk 49155 (putB 4 id) l) = r at k2
  refine PC.of_bodyK (by simp only [push_cast]) Tryz.func39 rfl (by rw [Tryz.ntmps39]; simp) ?_
  refine AWp.regionW ?_
  refine AWp.regionM fun K1 hK1 => ?_
  refine ARun2.callM (hp) ?_
  refine ARun2.callM (k2) ?_
  refine ARun2.endm (hK1 _ ?_)
  refine AWp.ret ?_
  try simp only [thenQ, blockQ, noGo]
  refine bodyQ.m ?_
  clear hK1 K1
  first | done | exact Wk.go
/-- the identifier of a change or a result -/
def idN (n : GNode) : Nat × Bool := if (isCh n || isRe n) = true then (peekN 4 n.data 0, true) else (0, false)
theorem aid_c (n : GNode) (hs : n.sz ≤ 2 ^ 26) : PC Tryz.prog 25 [nodeA false n] (.tup [u32 (idN n).1, bool (idN n).2]) := by
  have hsz := n.sz_eq
  refine PC.of_bodyW (by simp only [push_cast]) Tryz.func25 rfl (by rw [Tryz.ntmps25]; simp) ?_
  refine AWp.regionW ?_
  refine AWp.seqK fun K1 hK1 => ?_
  refine AWp.regionA fun K2 hK2 => ?_
  refine ARun.segm 4 fun KS hKS => ?_
  refine ARun2.callM (aisch_c n hs) ?_
  refine ARun2.endm (hKS _ ?_); clear hKS KS
  apply ARun.grpM 3 3 true 10 [1, 7]
  · intro g3 KG hKG
    refine ARun2.gom ?_
    refine ARun2.callM (aisre_c n hs) ?_
    exact ARun2.endm (hKG _ Le.grpM)
  refine ARun2.gom ?_
  refine ARun2.endm (hK2 _ ?_)
  refine AWp.condLM (fun c0 => ?_) (fun c0 => ?_)
  · skip
    have hr : idN n = (0, false) := if_neg (by revert c0; cases isCh n <;> cases isRe n <;> simp)
    refine AWp.regionW ?_
    refine AWp.ret ?_
    try simp only [thenQ, blockQ, noGo]
    refine bodyQ.m ?_
    clear hK2 K2 hK1 K1
    rw [hr]
    first | done | exact Hand.go
  · skip
    have hi : (isCh n || isRe n) = true := by revert c0; cases isCh n <;> cases isRe n <;> simp
    have hr : idN n = (peekN 4 n.data 0, true) := if_pos hi
    have hf : 4 ≤ n.data.length := by rcases Bool.or_eq_true _ _ ▸ hi with h | h; exact isCh_len h; exact isRe_len h
    refine AWp.skip ?_
    refine hK1 _ ?_
    refine AWp.regionM fun K3 hK3 => ?_
    refine ARun2.callOM [] (new_c n.data (by omega)) ?_
    refine ARun2.callOM [1] (num_hit 4 n.data 0 (by decide) (by omega) (by omega)) ?_
    refine ARun2.endm (hK3 _ ?_)
    refine AWp.ret ?_
    try simp only [thenQ, blockQ, noGo]
    refine bodyQ.m ?_
    clear hK3 K3 hK2 K2 hK1 K1
    rw [hr]
    first | done | exact Hand.go
end Go.Proofs.YtgcjmjfjeppmgaaGreatDoor.C
/- asconf: requests and answers. -/
set_option linter.unusedVariables false
set_option linter.unusedSimpArgs false
namespace Go.Proofs.YtgcjmjfjeppmgaaGreatDoor.C
open Go.Abs
theorem any_not {p : GNode → Bool} (l : List GNode) : (l.any fun n => !p n) = !(l.all p) := by
  induction l with
  | nil => rfl
  | cons n l ih => simp [ih]
theorem areq1_c (n : GNode) (hs : n.sz ≤ 2 ^ 26) : PC Tryz.prog 110 [nodeA false n] (bool (!isCh n)) := by
  refine PC.of_bodyW (by simp only [push_cast]) Tryz.func110 rfl (by rw [Tryz.ntmps110]; simp) ?_
  refine AWp.regionW ?_
  refine AWp.regionM fun K1 hK1 => ?_
  refine ARun2.callM (aisch_c n hs) ?_
  refine ARun2.endm (hK1 _ ?_)
  refine AWp.ret ?_
  try simp only [thenQ, blockQ, noGo]
  refine bodyQ.m ?_
  clear hK1 K1
  first | done | exact Hand.go
theorem aans1_c (n : GNode) (hs : n.sz ≤ 2 ^ 26) : PC Tryz.prog 111 [nodeA false n] (bool (!isRe n)) := by
  refine PC.of_bodyW (by simp only [push_cast]) Tryz.func111 rfl (by rw [Tryz.ntmps111]; simp) ?_
  refine AWp.regionW ?_
  refine AWp.regionM fun K1 hK1 => ?_
  refine ARun2.callM (aisre_c n hs) ?_
  refine ARun2.endm (hK1 _ ?_)
  refine AWp.ret ?_
  try simp only [thenQ, blockQ, noGo]
  refine bodyQ.m ?_
  clear hK1 K1
  first | done | exact Hand.go
/-- is it a request? -/
def isReq (c : GChunk) : Bool := (c.ty == 193) && (checkC c == 0) && isAddr (c.kids.headD .zero) && (c.kids.drop 1).all isCh
def isAns (c : GChunk) : Bool := (c.ty == 128) && (checkC c == 0) && c.kids.all isRe
theorem req_kids {c : GChunk} (ht : c.ty = 193) (h : checkC c = 0) : ∃ k0 ks, c.kids = k0 :: ks := by
  obtain ⟨h1, h2, h3, h4⟩ := check_zero h (by rw [ht]; rfl)
  rw [ht] at h3
  cases hk : c.kids with
  | nil => rw [hk] at h3; simp [kkidsOk, kindOf, kindForms, kinsideN] at h3
  | cons k0 ks => exact ⟨k0, ks, rfl⟩
theorem req_data {c : GChunk} (ht : c.ty = 193 ∨ c.ty = 128) (h : checkC c = 0) : c.data.length = 4 := by
  obtain ⟨h1, h2, h3, h4⟩ := check_zero h (by rcases ht with e | e <;> rw [e] <;> rfl)
  obtain ⟨f1, f2⟩ := fit_len h2
  have e4 : (kindOf c.ty).least = 4 ∧ (kindOf c.ty).most = 4 := by rcases ht with e | e <;> rw [e] <;> exact ⟨rfl, rfl⟩
  omega
theorem aisreq_no1 (c : GChunk) (h : Small c) (ht : ¬ c.ty = 193) : PC Tryz.prog 79 [chunkA false c] (bool false) := by
  refine PC.of_bodyW (by simp only [push_cast]) Tryz.func79 rfl (by rw [Tryz.ntmps79]; simp) ?_
  refine AWp.regionW ?_
  refine AWp.seqK fun K1 hK1 => ?_
  refine AWp.regionA fun K2 hK2 => ?_
  refine ARun.segm 4 fun KS hKS => ?_
  refine ARun2.endm (hKS _ ?_); clear hKS KS
  apply ARun.grpM 3 3 false 11 [1, 8]
  · intro g3 KG hKG
    refine ARun2.gom ?_
    refine ARun2.callM (h.check) ?_
    exact ARun2.endm (hKG _ Le.grpM)
  refine ARun2.gom ?_
  refine ARun2.endm (hK2 _ ?_)
  refine AWp.condLM (fun c0 => ?_) (fun c0 => ?_)
  · skip
    refine AWp.regionW ?_
    refine AWp.ret ?_
    try simp only [thenQ, blockQ, noGo]
    refine bodyQ.m ?_
    clear hK2 K2 hK1 K1
    first | done | exact Hand.go
  · skip
    exfalso; simp [ht] at c0
theorem aisreq_no2 (c : GChunk) (h : Small c) (ht : c.ty = 193) (hc : ¬ checkC c = 0) : PC Tryz.prog 79 [chunkA false c] (bool false) := by
  refine PC.of_bodyW (by simp only [push_cast]) Tryz.func79 rfl (by rw [Tryz.ntmps79]; simp) ?_
  refine AWp.regionW ?_
  refine AWp.seqK fun K1 hK1 => ?_
  refine AWp.regionA fun K2 hK2 => ?_
  refine ARun.segm 4 fun KS hKS => ?_
  refine ARun2.endm (hKS _ ?_); clear hKS KS
  apply ARun.grpM 3 3 false 11 [1, 8]
  · intro g3 KG hKG
    refine ARun2.gom ?_
    refine ARun2.callM (h.check) ?_
    exact ARun2.endm (hKG _ Le.grpM)
  refine ARun2.gom ?_
  refine ARun2.endm (hK2 _ ?_)
  refine AWp.condLM (fun c0 => ?_) (fun c0 => ?_)
  · skip
    refine AWp.regionW ?_
    refine AWp.ret ?_
    try simp only [thenQ, blockQ, noGo]
    refine bodyQ.m ?_
    clear hK2 K2 hK1 K1
    first | done | exact Hand.go
  · skip
    exfalso; simp [ht, hc] at c0
theorem aisreq_no (c : GChunk) (h : Small c) (hn : (c.ty == 193 && (checkC c == 0)) = false) : PC Tryz.prog 79 [chunkA false c] (bool false) := by
  by_cases ht : c.ty = 193
  · have hc : ¬ checkC c = 0 := by rw [ht] at hn; simpa using hn
    exact aisreq_no2 c h ht hc
  · exact aisreq_no1 c h ht
theorem aisreq_yes (c : GChunk) (h : Small c) (k0 : GNode) (ks : List GNode) (hk : c.kids = k0 :: ks) (ht : c.ty = 193) (hc : checkC c = 0) : PC Tryz.prog 79 [chunkA false c] (bool (isAddr k0 && ks.all isCh)) := by
  have hs := h.kids
  rw [hk, szs] at hs
  have hlen := szs_len ks
  have h0 := h.check
  rw [hc] at h0
  have h1 := abytes_c k0 (by omega)
  have h2 := ncontF_c 110 (by kernel_rfl) (fun n => !isCh n) ks (by omega) (fun x hx => areq1_c x (by have := szs_mem hx; omega))
  rw [any_not] at h2
  obtain ⟨t, f, d, k⟩ := c
  simp only at hk ht
  subst hk; subst ht
  refine PC.of_bodyW (by simp only [push_cast]) Tryz.func79 rfl (by rw [Tryz.ntmps79]; simp) ?_
  refine AWp.regionW ?_
  refine AWp.seqK fun K1 hK1 => ?_
  refine AWp.regionM fun K2 hK2 => ?_
  refine ARun2.callM (h0) ?_
  refine ARun2.endm (hK2 _ ?_)
  refine AWp.condF ?_
  refine AWp.skip ?_
  refine hK1 _ ?_
  refine AWp.regionM fun K3 hK3 => ?_
  refine ARun2.indexM (0) (nodeA false k0) ?_ ?_
  · cases k0; rfl
  refine ARun2.callM (h1) ?_
  refine ARun2.endm (hK3 _ ?_)
  refine AWp.regionA fun K4 hK4 => ?_
  refine ARun.segm 2 fun KS hKS => ?_
  refine ARun2.endm (hKS _ ?_); clear hKS KS
  apply ARun.grpM 5 1 true 27 [22]
  · intro g1 KG hKG
    refine ARun2.gom ?_
    refine ARun2.sliceLoM (1) ?_ ?_
    · simp [nodesA]
    refine ARun2.callM (h2) ?_
    exact ARun2.endm (hKG _ Le.grpM)
  refine ARun2.gom ?_
  refine ARun2.endm (hK4 _ ?_)
  refine AWp.ret ?_
  try simp only [thenQ, blockQ, noGo]
  refine bodyQ.m ?_
  clear hK4 K4 hK3 K3 hK2 K2 hK1 K1
  first | done | exact Hand.go
theorem aisreq_c (c : GChunk) (h : Small c) : PC Tryz.prog 79 [chunkA false c] (bool (isReq c)) := by
  cases hn : (c.ty == 193 && (checkC c == 0)) with
  | false => have e : isReq c = false := by unfold isReq; rw [hn]; rfl
             rw [e]; exact aisreq_no c h hn
  | true =>
    simp only [Bool.and_eq_true, beq_iff_eq] at hn
    obtain ⟨k0, ks, hk⟩ := req_kids hn.1 hn.2
    have e : isReq c = (isAddr k0 && ks.all isCh) := by unfold isReq; rw [hn.1, hn.2, hk]; rfl
    rw [e]; exact aisreq_yes c h k0 ks hk hn.1 hn.2
theorem aisans_c (c : GChunk) (h : Small c) : PC Tryz.prog 80 [chunkA false c] (bool (isAns c)) := by
  have hs := h.kids
  have hlen := szs_len c.kids
  have h2 := ncontF_c 111 (by kernel_rfl) (fun n => !isRe n) c.kids (by omega) (fun x hx => aans1_c x (by have := szs_mem hx; omega))
  rw [any_not] at h2
  refine PC.of_bodyW (by simp only [push_cast]) Tryz.func80 rfl (by rw [Tryz.ntmps80]; simp) ?_
  refine AWp.regionW ?_
  refine AWp.regionA fun K1 hK1 => ?_
  refine ARun.segm 4 fun KS hKS => ?_
  refine ARun2.endm (hKS _ ?_); clear hKS KS
  apply ARun.grpM 3 3 true 9 [1, 6]
  · intro g3 KG hKG
    refine ARun2.gom ?_
    refine ARun2.callM (h.check) ?_
    exact ARun2.endm (hKG _ Le.grpM)
  refine ARun.segm 2 fun KS hKS => ?_
  refine ARun2.endm (hKS _ ?_); clear hKS KS
  apply ARun.grpM 4 8 true 15 [11]
  · intro g8 KG hKG
    refine ARun2.gom ?_
    refine ARun2.callM (h2) ?_
    exact ARun2.endm (hKG _ Le.grpM)
  refine ARun2.gom ?_
  refine ARun2.endm (hK1 _ ?_)
  refine AWp.ret ?_
  try simp only [thenQ, blockQ, noGo]
  refine bodyQ.m ?_
  clear hK1 K1
  simp only [isAns, Bool.not_not]
  first | done | exact Hand.go
/-- a request -/
def reqC (s : Nat) (a : GNode) (l : List GNode) : GChunk := ⟨193, 0, putB 4 s, a :: l⟩
theorem small_req (s : Nat) {a : GNode} {l : List GNode} (ha : a.sz ≤ 2 ^ 25) (hl : szs l ≤ 2 ^ 25) : Small (reqC s a l) := ⟨by show 193 < 256; decide, by show 0 < 256; decide, by simp only [reqC, putB_len]; decide, by simp only [reqC, szs]; omega⟩
def requestC (s : Nat) (a : GNode) (l : List GNode) : GChunk × Bool := if isReq (reqC s a l) = true then (reqC s a l, true) else (.zero, false)
theorem arequest_c (s : Nat) (a : GNode) (l : List GNode) (hid : s < 2 ^ 32) (ha : a.sz ≤ 2 ^ 25) (hl : szs l ≤ 2 ^ 25) : PC Tryz.prog 32 [u32 s, nodeA false a, .sl false 3 (nodesA false l)] (.tup [chunkA true (requestC s a l).1, bool (requestC s a l).2]) := by
  have hp := hp_put4 s hid
  have hlen := szs_len l
  have hsm := small_req s ha hl
  have k1 := aisreq_c _ hsm
  have k2 := hsm.clone
  have k1' : PC Tryz.prog 79 [.agg [u8 193, u8 0, .sl false 1 (bys (putB 4 s)), .sl false 3 (nodeA false a :: nodesA false l)]] (bool (isReq (reqC s a l))) := k1
  have k2' : PC Tryz.prog 83 [.agg [u8 193, u8 0, .sl false 1 (bys (putB 4 s)), .sl false 3 (nodeA false a :: nodesA false l)]] (chunkA true (reqC s a l)) := k2
  refine PC.of_bodyK (by simp only [push_cast]) Tryz.func32 rfl (by rw [Tryz.ntmps32]; simp) ?_
  refine AWp.regionW ?_
  refine AWp.drS [[(0, none)], [(9, some 0)], [(10, some 1)], [(4, none)], [(23, none)], [(2, none)], [(23, none)], [(11, some 2), (15, some 6)], []] fun G hG => ?_
  refine Dr.sim ?_
  try simp only [List.cons_append, List.nil_append]
  refine Dr.build ?_
  try simp only [List.cons_append, List.nil_append]
  refine Dr.call (hp) ?_
  try simp only [List.cons_append, List.nil_append]
  refine Dr.sim ?_
  try simp only [List.cons_append, List.nil_append]
  refine Dr.ownS1 ?_
  try simp only [List.cons_append, List.nil_append]
  refine Dr.sim ?_
  try simp only [List.cons_append, List.nil_append]
  refine Dr.pubS (3) ((.agg [u16 a.ty, .sl false 1 (bys a.data), .sl false 3 (nodesA false a.kids)] :: nodesA false l)) ?_
  try simp only [List.cons_append, List.nil_append]
  refine Dr.sim ?_
  try simp only [List.cons_append, List.nil_append]
  refine Dr.al ?_
  try simp only [List.cons_append, List.nil_append]
  refine Dr.finCAM (n := 9) 8 [4, 6] 1 [[(0, none)], [(9, some 0)], [(10, some 1)], [(4, none)], [(12, some 3)], [(2, none)], [(13, some 4), (14, some 5)], [(11, some 2), (15, some 6)], []] [(16, 7), (8, 8)] [6] (CLA.ownB (CLA.appP (xs := [nodeA false a]) CLA.nil (hb := by rw [YtgcjmjfjeppmgaaGreatDoor.Facts.eb29, nodesA_len]; simp; omega) (hsm := by rw [nodesA_len]; simp; omega))) hG YtgcjmjfjeppmgaaGreatDoor.Facts.mixed fun KD hKD => ?_
  clear hG G
  refine AAny.one 9 ?_
  refine ARun.opM ?_
  refine ARun2.endm ?_
  refine AAny.fin (hKD _ ?_); clear hKD KD
  refine AWp.seqK fun K1 hK1 => ?_
  refine AWp.regionM fun K2 hK2 => ?_
  refine ARun2.callM (k1') ?_
  refine ARun2.endm (hK2 _ ?_)
  refine AWp.condLM (fun c0 => ?_) (fun c0 => ?_)
  · skip
    have hr : requestC s a l = (.zero, false) := if_neg (by simpa using c0)
    refine AWp.regionW ?_
    refine AWp.ret ?_
    try simp only [thenQ, blockQ, noGo]
    refine bodyQ.m ?_
    clear hK2 K2 hK1 K1
    rw [hr]
    try simp only [GChunk.zero]
    first | done | exact Wk.go
  · skip
    have hi : isReq (reqC s a l) = true := by simpa using c0
    have hr : requestC s a l = (reqC s a l, true) := if_pos hi
    refine AWp.skip ?_
    refine hK1 _ ?_
    refine AWp.regionM fun K3 hK3 => ?_
    refine ARun2.callM (k2') ?_
    refine ARun2.endm (hK3 _ ?_)
    refine AWp.ret ?_
    try simp only [thenQ, blockQ, noGo]
    refine bodyQ.m ?_
    clear hK3 K3 hK2 K2 hK1 K1
    rw [hr]
    try simp only [GChunk.zero]
    first | done | exact Wk.go
/-- an answer -/
def ansG (s : Nat) (l : List GNode) : GChunk := ⟨128, 0, putB 4 s, l⟩
theorem small_ansG (s : Nat) {l : List GNode} (hl : szs l ≤ 2 ^ 25) : Small (ansG s l) := ⟨by show 128 < 256; decide, by show 0 < 256; decide, by simp only [ansG, putB_len]; decide, by simp only [ansG]; omega⟩
def answerG (s : Nat) (l : List GNode) : GChunk × Bool := if isAns (ansG s l) = true then (ansG s l, true) else (.zero, false)
theorem aanswer_c (s : Nat) (l : List GNode) (hid : s < 2 ^ 32) (hl : szs l ≤ 2 ^ 25) : PC Tryz.prog 34 [u32 s, .sl false 3 (nodesA false l)] (.tup [chunkA true (answerG s l).1, bool (answerG s l).2]) := by
  have hp := hp_put4 s hid
  have hsm := small_ansG s hl
  have k1 := aisans_c _ hsm
  have k2 := hsm.clone
  have k1' : PC Tryz.prog 80 [.agg [u8 128, u8 0, .sl false 1 (bys (putB 4 s)), .sl false 3 (nodesA false l)]] (bool (isAns (ansG s l))) := k1
  have k2' : PC Tryz.prog 83 [.agg [u8 128, u8 0, .sl false 1 (bys (putB 4 s)), .sl false 3 (nodesA false l)]] (chunkA true (ansG s l)) := k2
  refine PC.of_bodyK (by simp only [push_cast]) Tryz.func34 rfl (by rw [Tryz.ntmps34]; simp) ?_
  refine AWp.regionW ?_
  refine AWp.regionM fun K1 hK1 => ?_
  refine ARun2.callM (hp) ?_
  refine ARun2.endm (hK1 _ ?_)
  refine AWp.seqK fun K2 hK2 => ?_
  refine AWp.regionM fun K3 hK3 => ?_
  refine ARun2.callM (k1') ?_
  refine ARun2.endm (hK3 _ ?_)
  refine AWp.condLM (fun c0 => ?_) (fun c0 => ?_)
  · skip
    have hr : answerG s l = (.zero, false) := if_neg (by simpa using c0)
    refine AWp.regionW ?_
    refine AWp.ret ?_
    try simp only [thenQ, blockQ, noGo]
    refine bodyQ.m ?_
    clear hK3 K3 hK2 K2 hK1 K1
    rw [hr]
    try simp only [GChunk.zero]
    first | done | exact Wk.go
  · skip
    have hi : isAns (ansG s l) = true := by simpa using c0
    have hr : answerG s l = (ansG s l, true) := if_pos hi
    refine AWp.skip ?_
    refine hK2 _ ?_
    refine AWp.regionM fun K4 hK4 => ?_
    refine ARun2.callM (k2') ?_
    refine ARun2.endm (hK4 _ ?_)
    refine AWp.ret ?_
    try simp only [thenQ, blockQ, noGo]
    refine bodyQ.m ?_
    clear hK4 K4 hK3 K3 hK2 K2 hK1 K1
    rw [hr]
    try simp only [GChunk.zero]
    first | done | exact Wk.go
/-- the serial number of a request or an answer -/
def serC (c : GChunk) : Nat × Bool := if (isReq c || isAns c) = true then (peekN 4 c.data 0, true) else (0, false)
theorem ser_len {c : GChunk} (h : (isReq c || isAns c) = true) : c.data.length = 4 := by
  rcases Bool.or_eq_true _ _ ▸ h with h | h
  · unfold isReq at h; simp only [Bool.and_eq_true, beq_iff_eq] at h; exact req_data (.inl h.1.1.1) h.1.1.2
  · unfold isAns at h; simp only [Bool.and_eq_true, beq_iff_eq] at h; exact req_data (.inr h.1.1) h.1.2
theorem aserial_c (c : GChunk) (h : Small c) : PC Tryz.prog 26 [chunkA false c] (.tup [u32 (serC c).1, bool (serC c).2]) := by
  refine PC.of_bodyW (by simp only [push_cast]) Tryz.func26 rfl (by rw [Tryz.ntmps26]; simp) ?_
  refine AWp.regionW ?_
  refine AWp.seqK fun K1 hK1 => ?_
  refine AWp.regionA fun K2 hK2 => ?_
  refine ARun.segm 4 fun KS hKS => ?_
  refine ARun2.callM (aisreq_c c h) ?_
  refine ARun2.endm (hKS _ ?_); clear hKS KS
  apply ARun.grpM 3 3 true 10 [1, 7]
  · intro g3 KG hKG
    refine ARun2.gom ?_
    refine ARun2.callM (aisans_c c h) ?_
    exact ARun2.endm (hKG _ Le.grpM)
  refine ARun2.gom ?_
  refine ARun2.endm (hK2 _ ?_)
  refine AWp.condLM (fun c0 => ?_) (fun c0 => ?_)
  · skip
    have hr : serC c = (0, false) := if_neg (by revert c0; cases isReq c <;> cases isAns c <;> simp)
    refine AWp.regionW ?_
    refine AWp.ret ?_
    try simp only [thenQ, blockQ, noGo]
    refine bodyQ.m ?_
    clear hK2 K2 hK1 K1
    rw [hr]
    first | done | exact Hand.go
  · skip
    have hi : (isReq c || isAns c) = true := by revert c0; cases isReq c <;> cases isAns c <;> simp
    have hr : serC c = (peekN 4 c.data 0, true) := if_pos hi
    have hf := ser_len hi
    refine AWp.skip ?_
    refine hK1 _ ?_
    refine AWp.regionM fun K3 hK3 => ?_
    refine ARun2.callOM [] (new_c c.data (by omega)) ?_
    refine ARun2.callOM [1] (num_hit 4 c.data 0 (by decide) (by omega) (by omega)) ?_
    refine ARun2.endm (hK3 _ ?_)
    refine AWp.ret ?_
    try simp only [thenQ, blockQ, noGo]
    refine bodyQ.m ?_
    clear hK3 K3 hK2 K2 hK1 K1
    rw [hr]
    first | done | exact Hand.go
theorem rnum18_c (d : List UInt8) (hd : d.length ≤ 2 ^ 40) : PC Tryz.prog 31 [.sl false 1 (bys d)] (u32 (peekN 4 d 0)) := by
  refine PC.of_bodyW (by simp only [push_cast]) Tryz.func31 rfl (by rw [Tryz.ntmps31]; simp) ?_
  refine AWp.regionW ?_
  refine AWp.regionM fun K1 hK1 => ?_
  refine ARun2.callM (number01_c 4 d 0 (by decide) hd (by decide)) ?_
  refine ARun2.endm (hK1 _ ?_)
  refine AWp.regionW ?_
  refine AWp.ret ?_
  try simp only [thenQ, blockQ, noGo]
  refine bodyQ.m ?_
  clear hK1 K1
  first | done | exact Hand.go
theorem risreq_no1 (c : GChunk) (h : Small c) (ht : ¬ c.ty = 193) : PC Tryz.prog 29 [chunkA false c] (bool false) := by
  refine PC.of_bodyW (by simp only [push_cast]) Tryz.func29 rfl (by rw [Tryz.ntmps29]; simp) ?_
  refine AWp.regionW ?_
  refine AWp.seqK fun K1 hK1 => ?_
  refine AWp.regionA fun K2 hK2 => ?_
  refine ARun.segm 4 fun KS hKS => ?_
  refine ARun2.endm (hKS _ ?_); clear hKS KS
  apply ARun.grpM 3 3 false 10 [1, 7]
  · intro g3 KG hKG
    refine ARun2.gom ?_
    refine ARun2.callM (h.check12) ?_
    exact ARun2.endm (hKG _ Le.grpM)
  refine ARun.segm 2 fun KS hKS => ?_
  refine ARun2.endm (hKS _ ?_); clear hKS KS
  apply ARun.grpM 6 8 false 18 [1, 12]
  · intro g8 KG hKG
    have hF : False := by simp [ht] at g8
    refine ARun2.gom ?_
    refine ARun2.indexM (0) (nodeA false .zero) ?_ ?_
    · exact hF.elim
    refine ARun2.callM (ris09_c .zero) ?_
    exact ARun2.endm (hKG _ Le.grpM)
  refine ARun2.gom ?_
  refine ARun2.endm (hK2 _ ?_)
  refine AWp.condLM (fun c0 => ?_) (fun c0 => ?_)
  · skip
    refine AWp.regionW ?_
    refine AWp.ret ?_
    try simp only [thenQ, blockQ, noGo]
    refine bodyQ.m ?_
    clear hK2 K2 hK1 K1
    first | done | exact Hand.go
  · skip
    exfalso; simp [ht] at c0
theorem risreq_no2 (c : GChunk) (h : Small c) (ht : c.ty = 193) (hc : ¬ checkC c = 0) : PC Tryz.prog 29 [chunkA false c] (bool false) := by
  refine PC.of_bodyW (by simp only [push_cast]) Tryz.func29 rfl (by rw [Tryz.ntmps29]; simp) ?_
  refine AWp.regionW ?_
  refine AWp.seqK fun K1 hK1 => ?_
  refine AWp.regionA fun K2 hK2 => ?_
  refine ARun.segm 4 fun KS hKS => ?_
  refine ARun2.endm (hKS _ ?_); clear hKS KS
  apply ARun.grpM 3 3 false 10 [1, 7]
  · intro g3 KG hKG
    refine ARun2.gom ?_
    refine ARun2.callM (h.check12) ?_
    exact ARun2.endm (hKG _ Le.grpM)
  refine ARun.segm 2 fun KS hKS => ?_
  refine ARun2.endm (hKS _ ?_); clear hKS KS
  apply ARun.grpM 6 8 false 18 [1, 12]
  · intro g8 KG hKG
    have hF : False := by simp [ht, hc] at g8
    refine ARun2.gom ?_
    refine ARun2.indexM (0) (nodeA false .zero) ?_ ?_
    · exact hF.elim
    refine ARun2.callM (ris09_c .zero) ?_
    exact ARun2.endm (hKG _ Le.grpM)
  refine ARun2.gom ?_
  refine ARun2.endm (hK2 _ ?_)
  refine AWp.condLM (fun c0 => ?_) (fun c0 => ?_)
  · skip
    refine AWp.regionW ?_
    refine AWp.ret ?_
    try simp only [thenQ, blockQ, noGo]
    refine bodyQ.m ?_
    clear hK2 K2 hK1 K1
    first | done | exact Hand.go
  · skip
    exfalso; simp [ht, hc] at c0
theorem risreq_no (c : GChunk) (h : Small c) (hn : (c.ty == 193 && (checkC c == 0)) = false) : PC Tryz.prog 29 [chunkA false c] (bool false) := by
  by_cases ht : c.ty = 193
  · have hc : ¬ checkC c = 0 := by rw [ht] at hn; simpa using hn
    exact risreq_no2 c h ht hc
  · exact risreq_no1 c h ht
theorem risreq_yes (c : GChunk) (h : Small c) (k0 : GNode) (ks : List GNode) (hk : c.kids = k0 :: ks) (ht : c.ty = 193) (hc : checkC c = 0) : PC Tryz.prog 29 [chunkA false c] (bool (isAddr k0 && ks.all isCh)) := by
  have hs := h.kids
  have hlen := szs_len c.kids
  have h0 := h.check12
  rw [hc] at h0
  have h1 := ris09_c k0
  have hall : ks.all isCh = true ↔ ∀ j (hj : j < c.kids.length), 1 ≤ j → isCh c.kids[j] = true := by
    rw [List.all_eq_true]
    constructor
    · intro hx j hj h1
      obtain ⟨j, rfl⟩ : ∃ m, j = m + 1 := ⟨j - 1, by omega⟩
      simp only [hk, List.getElem_cons_succ]
      exact hx _ (List.getElem_mem _)
    · intro hx n hn
      obtain ⟨j, hj, rfl⟩ := List.mem_iff_getElem.1 hn
      have := hx (j + 1) (by rw [hk]; simp; omega) (by omega)
      simpa only [hk, List.getElem_cons_succ] using this
  have hat : (nodesA false c.kids)[0]? = some (nodeA false k0) := by rw [hk]; rfl
  have hpos : 0 < c.kids.length := by rw [hk]; simp
  refine PC.of_bodyW (by simp only [push_cast]) Tryz.func29 rfl (by rw [Tryz.ntmps29]; simp) ?_
  refine AWp.regionW ?_
  refine AWp.seqK fun K1 hK1 => ?_
  refine AWp.regionA fun K2 hK2 => ?_
  refine ARun.segm 4 fun KS hKS => ?_
  refine ARun2.endm (hKS _ ?_); clear hKS KS
  apply ARun.grpM 3 3 false 10 [1, 7]
  · intro g3 KG hKG
    refine ARun2.gom ?_
    refine ARun2.callM (h0) ?_
    exact ARun2.endm (hKG _ Le.grpM)
  refine ARun.segm 2 fun KS hKS => ?_
  refine ARun2.endm (hKS _ ?_); clear hKS KS
  apply ARun.grpM 6 8 false 18 [1, 12]
  · intro g8 KG hKG
    refine ARun2.gom ?_
    refine ARun2.indexM (0) (nodeA false k0) ?_ ?_
    · exact hat
    refine ARun2.callM (h1) ?_
    exact ARun2.endm (hKG _ Le.grpM)
  refine ARun2.gom ?_
  refine ARun2.endm (hK2 _ ?_)
  refine AWp.condLM (fun c0 => ?_) (fun c0 => ?_)
  · skip
    have hr : (isAddr k0 && ks.all isCh) = false := by have : isAddr k0 = false := (by revert c0; rw [ht]; cases isAddr k0 <;> simp); rw [this]; rfl
    refine AWp.regionW ?_
    refine AWp.ret ?_
    try simp only [thenQ, blockQ, noGo]
    refine bodyQ.m ?_
    clear hK2 K2 hK1 K1
    rw [hr]
    first | done | exact Hand.go
  · skip
    have hr0 : isAddr k0 = true := by revert c0; rw [ht]; cases isAddr k0 <;> simp
    refine AWp.skip ?_
    refine hK1 _ ?_
    refine AWp.seqK fun K3 hK3 => ?_
    refine AWp.regionW ?_
    refine AWp.block ?_
    refine AWp.loopK [1] (fun (i : Nat) => [(3, nat (i + 1))]) (fun i => [.box 31 [u8 c.ty, u8 c.flags, .sl false 1 (bys c.data), .sl false 3 (nodesA false c.kids)]]) (fun i => i < c.kids.length ∧ ∀ j (hj : j < c.kids.length), 1 ≤ j → j < i + 1 → isCh c.kids[j] = true) (fun i => c.kids.length - i) (0) ?_ ⟨hpos, fun j hj h1 h2 => by omega⟩ ?_
    · skip
      refine Le.m 1 ?_ ?_
      · first | with_reducible rfl | (simp only [push_cast, ↓reduceIte, Nat.reduceEqDiff, Nat.reduceLT, Nat.reduceAdd, Nat.reduceSub, Nat.reduceMul, Nat.reduceLeDiff, Nat.reducePow, Int.reduceLT, Int.reduceToNat, reduceCtorEq, Int.reduceNeg, Int.reduceEq, Nat.reduceBEq, Nat.reduceBNe, Int.reduceBEq, Int.reduceBNe, String.reduceEq]; first | done | rfl | (simp (disch := omega) only [w_nat, w_add, w_addl, w_addr, w_sub, w_subl, w_mul, w_mull, w_mulr, w_u32, w_u16, w_u8, w_u32a, N_zero]; first | done | rfl))
      · first | (simp only [push_cast, ↓reduceIte, Nat.reduceEqDiff, Nat.reduceLT, Nat.reduceAdd, Nat.reduceSub, Nat.reduceMul, Nat.reduceLeDiff, Nat.reducePow, Int.reduceLT, Int.reduceToNat, reduceCtorEq, Int.reduceNeg, Int.reduceEq, Nat.reduceBEq, Nat.reduceBNe, Int.reduceBEq, Int.reduceBNe, String.reduceEq]; first | done | rfl | (simp (disch := omega) only [w_nat, w_add, w_addl, w_addr, w_sub, w_subl, w_mul, w_mull, w_mulr, w_u32, w_u16, w_u8, w_u32a, N_zero]; first | done | rfl))
    · intro i hi K4 hK4
      refine AWp.seqK fun K5 hK5 => ?_
      refine AWp.regionW ?_
      refine AWp.condLM (fun c1 => ?_) (fun c1 => ?_)
      · skip
        have hil : i + 1 < c.kids.length := by simpa using c1
        have hm := szs_mem (List.getElem_mem hil)
        refine AWp.skip ?_
        refine hK5 _ ?_
        refine AWp.seqK fun K6 hK6 => ?_
        refine AWp.block ?_
        refine AWp.regionM fun K7 hK7 => ?_
        refine ARun2.indexM (i + 1) (nodeA false c.kids[i + 1]) ?_ ?_
        · exact nodesA_at _ _ _ hil
        refine ARun2.callM (risch_c c.kids[i + 1] (by omega)) ?_
        refine ARun2.endm (hK7 _ ?_)
        refine AWp.condLM (fun c2 => ?_) (fun c2 => ?_)
        · skip
          have hne : isCh c.kids[i + 1] = false := by simpa using c2
          have hr : (isAddr k0 && ks.all isCh) = false := by
            have : ks.all isCh = false := by
              cases hh : ks.all isCh with
              | false => rfl
              | true => have := hall.1 hh (i + 1) hil (by omega); rw [hne] at this; cases this
            rw [this, Bool.and_false]
          refine AWp.regionW ?_
          refine AWp.ret ?_
          try simp only [thenQ, blockQ, noGo]
          refine bodyQ.m ?_
          clear hK7 K7 hK6 K6 hK5 K5 hK4 K4 hK3 K3 hK2 K2 hK1 K1
          rw [hr]
          first | done | exact Hand.go
        · skip
          have heq : isCh c.kids[i + 1] = true := by simpa using c2
          refine AWp.skip ?_
          refine hK6 _ ?_
          refine AWp.regionV ?_
          refine hK4 _ (i + 1) (⟨hil, fun j hj h1 h2 => (Nat.lt_or_ge j (i + 1)).elim (fun h => hi.2 j hj h1 h) (fun h => by have e : j = i + 1 := (by omega); subst e; exact heq)⟩) (by omega) ?_
          refine Le.m 1 ?_ ?_
          · first | with_reducible rfl | (simp only [push_cast, ↓reduceIte, Nat.reduceEqDiff, Nat.reduceLT, Nat.reduceAdd, Nat.reduceSub, Nat.reduceMul, Nat.reduceLeDiff, Nat.reducePow, Int.reduceLT, Int.reduceToNat, reduceCtorEq, Int.reduceNeg, Int.reduceEq, Nat.reduceBEq, Nat.reduceBNe, Int.reduceBEq, Int.reduceBNe, String.reduceEq]; first | done | rfl | (simp (disch := omega) only [w_nat, w_add, w_addl, w_addr, w_sub, w_subl, w_mul, w_mull, w_mulr, w_u32, w_u16, w_u8, w_u32a, N_zero]; first | done | rfl))
          · first | (simp only [push_cast, ↓reduceIte, Nat.reduceEqDiff, Nat.reduceLT, Nat.reduceAdd, Nat.reduceSub, Nat.reduceMul, Nat.reduceLeDiff, Nat.reducePow, Int.reduceLT, Int.reduceToNat, reduceCtorEq, Int.reduceNeg, Int.reduceEq, Nat.reduceBEq, Nat.reduceBNe, Int.reduceBEq, Int.reduceBNe, String.reduceEq]; first | done | rfl | (simp (disch := omega) only [w_nat, w_add, w_addl, w_addr, w_sub, w_subl, w_mul, w_mull, w_mulr, w_u32, w_u16, w_u8, w_u32a, N_zero]; first | done | rfl))
      · skip
        have hil : i + 1 = c.kids.length := by have := hi.1; simp at c1; omega
        have hr : (isAddr k0 && ks.all isCh) = true := by rw [hr0, hall.2 (fun j hj h1 => hi.2 j hj h1 (by omega))]; rfl
        refine AWp.exit ?_
        try simp only [thenQ, blockQ, noGo, reduceIte, Nat.reduceEqDiff]
        refine hK3 _ ?_
        refine AWp.regionW ?_
        refine AWp.ret ?_
        try simp only [thenQ, blockQ, noGo]
        refine bodyQ.m ?_
        clear hK5 K5 hK4 K4 hK3 K3 hK2 K2 hK1 K1
        rw [hr]
        first | done | exact Hand.go
theorem risreq_c (c : GChunk) (h : Small c) : PC Tryz.prog 29 [chunkA false c] (bool (isReq c)) := by
  cases hn : (c.ty == 193 && (checkC c == 0)) with
  | false => have e : isReq c = false := by unfold isReq; rw [hn]; rfl
             rw [e]; exact risreq_no c h hn
  | true =>
    simp only [Bool.and_eq_true, beq_iff_eq] at hn
    obtain ⟨k0, ks, hk⟩ := req_kids hn.1 hn.2
    have e : isReq c = (isAddr k0 && ks.all isCh) := by unfold isReq; rw [hn.1, hn.2, hk]; rfl
    rw [e]; exact risreq_yes c h k0 ks hk hn.1 hn.2
theorem risans_c (c : GChunk) (h : Small c) : PC Tryz.prog 30 [chunkA false c] (bool (isAns c)) := by
  have hs := h.kids
  have hlen := szs_len c.kids
  have hall : c.kids.all isRe = true ↔ ∀ j (hj : j < c.kids.length), isRe c.kids[j] = true := by
    rw [List.all_eq_true]
    constructor
    · intro hx j hj; exact hx _ (List.getElem_mem _)
    · intro hx n hn
      obtain ⟨j, hj, rfl⟩ := List.mem_iff_getElem.1 hn
      exact hx j hj
  refine PC.of_bodyW (by simp only [push_cast]) Tryz.func30 rfl (by rw [Tryz.ntmps30]; simp) ?_
  refine AWp.regionW ?_
  refine AWp.seqK fun K1 hK1 => ?_
  refine AWp.regionW ?_
  refine AWp.block ?_
  refine AWp.loopK [1] (fun (i : Nat) => [(3, nat i)]) (fun i => [.box 31 [u8 c.ty, u8 c.flags, .sl false 1 (bys c.data), .sl false 3 (nodesA false c.kids)]]) (fun i => i ≤ c.kids.length ∧ ∀ j (hj : j < c.kids.length), j < i → isRe c.kids[j] = true) (fun i => c.kids.length - i) (0) ?_ ⟨Nat.zero_le _, fun j hj h2 => by omega⟩ ?_
  · skip
    refine Le.m 1 ?_ ?_
    · first | with_reducible rfl | (simp only [push_cast, ↓reduceIte, Nat.reduceEqDiff, Nat.reduceLT, Nat.reduceAdd, Nat.reduceSub, Nat.reduceMul, Nat.reduceLeDiff, Nat.reducePow, Int.reduceLT, Int.reduceToNat, reduceCtorEq, Int.reduceNeg, Int.reduceEq, Nat.reduceBEq, Nat.reduceBNe, Int.reduceBEq, Int.reduceBNe, String.reduceEq]; first | done | rfl | (simp (disch := omega) only [w_nat, w_add, w_addl, w_addr, w_sub, w_subl, w_mul, w_mull, w_mulr, w_u32, w_u16, w_u8, w_u32a, N_zero]; first | done | rfl))
    · first | (simp only [push_cast, ↓reduceIte, Nat.reduceEqDiff, Nat.reduceLT, Nat.reduceAdd, Nat.reduceSub, Nat.reduceMul, Nat.reduceLeDiff, Nat.reducePow, Int.reduceLT, Int.reduceToNat, reduceCtorEq, Int.reduceNeg, Int.reduceEq, Nat.reduceBEq, Nat.reduceBNe, Int.reduceBEq, Int.reduceBNe, String.reduceEq]; first | done | rfl | (simp (disch := omega) only [w_nat, w_add, w_addl, w_addr, w_sub, w_subl, w_mul, w_mull, w_mulr, w_u32, w_u16, w_u8, w_u32a, N_zero]; first | done | rfl))
  · intro i hi K2 hK2
    refine AWp.seqK fun K3 hK3 => ?_
    refine AWp.regionW ?_
    refine AWp.condLM (fun c0 => ?_) (fun c0 => ?_)
    · skip
      have hil : i < c.kids.length := by simpa using c0
      have hm := szs_mem (List.getElem_mem hil)
      refine AWp.skip ?_
      refine hK3 _ ?_
      refine AWp.seqK fun K4 hK4 => ?_
      refine AWp.block ?_
      refine AWp.regionM fun K5 hK5 => ?_
      refine ARun2.indexM (i) (nodeA false c.kids[i]) ?_ ?_
      · exact nodesA_at _ _ _ hil
      refine ARun2.callM (risre_c c.kids[i] (by omega)) ?_
      refine ARun2.endm (hK5 _ ?_)
      refine AWp.condLM (fun c1 => ?_) (fun c1 => ?_)
      · skip
        have hne : isRe c.kids[i] = false := by simpa using c1
        have hr : isAns c = false := by
          have : c.kids.all isRe = false := by
            cases hh : c.kids.all isRe with
            | false => rfl
            | true => have := hall.1 hh i hil; rw [hne] at this; cases this
          unfold isAns; rw [this, Bool.and_false]
        refine AWp.regionW ?_
        refine AWp.ret ?_
        try simp only [thenQ, blockQ, noGo]
        refine bodyQ.m ?_
        clear hK5 K5 hK4 K4 hK3 K3 hK2 K2 hK1 K1
        rw [hr]
        first | done | exact Hand.go
      · skip
        have heq : isRe c.kids[i] = true := by simpa using c1
        refine AWp.skip ?_
        refine hK4 _ ?_
        refine AWp.regionV ?_
        refine hK2 _ (i + 1) (⟨hil, fun j hj h2 => (Nat.lt_or_ge j i).elim (fun h => hi.2 j hj h) (fun h => by have e : j = i := (by omega); subst e; exact heq)⟩) (by omega) ?_
        refine Le.m 1 ?_ ?_
        · first | with_reducible rfl | (simp only [push_cast, ↓reduceIte, Nat.reduceEqDiff, Nat.reduceLT, Nat.reduceAdd, Nat.reduceSub, Nat.reduceMul, Nat.reduceLeDiff, Nat.reducePow, Int.reduceLT, Int.reduceToNat, reduceCtorEq, Int.reduceNeg, Int.reduceEq, Nat.reduceBEq, Nat.reduceBNe, Int.reduceBEq, Int.reduceBNe, String.reduceEq]; first | done | rfl | (simp (disch := omega) only [w_nat, w_add, w_addl, w_addr, w_sub, w_subl, w_mul, w_mull, w_mulr, w_u32, w_u16, w_u8, w_u32a, N_zero]; first | done | rfl))
        · first | (simp only [push_cast, ↓reduceIte, Nat.reduceEqDiff, Nat.reduceLT, Nat.reduceAdd, Nat.reduceSub, Nat.reduceMul, Nat.reduceLeDiff, Nat.reducePow, Int.reduceLT, Int.reduceToNat, reduceCtorEq, Int.reduceNeg, Int.reduceEq, Nat.reduceBEq, Nat.reduceBNe, Int.reduceBEq, Int.reduceBNe, String.reduceEq]; first | done | rfl | (simp (disch := omega) only [w_nat, w_add, w_addl, w_addr, w_sub, w_subl, w_mul, w_mull, w_mulr, w_u32, w_u16, w_u8, w_u32a, N_zero]; first | done | rfl))
    · skip
      have hil : i = c.kids.length := by have := hi.1; simp at c0; omega
      have hr : isAns c = ((c.ty == 128) && (checkC c == 0)) := by unfold isAns; rw [hall.2 (fun j hj => hi.2 j hj (by omega)), Bool.and_true]
      refine AWp.exit ?_
      try simp only [thenQ, blockQ, noGo, reduceIte, Nat.reduceEqDiff]
      refine hK1 _ ?_
      refine AWp.regionA fun K6 hK6 => ?_
      refine ARun.segm 4 fun KS hKS => ?_
      refine ARun2.endm (hKS _ ?_); clear hKS KS
      apply ARun.grpM 3 3 true 24 [21]
      · intro g3 KG hKG
        refine ARun2.gom ?_
        refine ARun2.callM (h.check12) ?_
        exact ARun2.endm (hKG _ Le.grpM)
      refine ARun2.gom ?_
      refine ARun2.endm (hK6 _ ?_)
      refine AWp.ret ?_
      try simp only [thenQ, blockQ, noGo]
      refine bodyQ.m ?_
      clear hK6 K6 hK3 K3 hK2 K2 hK1 K1
      rw [hr]
      first | done | exact Hand.go
end Go.Proofs.YtgcjmjfjeppmgaaGreatDoor.C
/- asconf.Results, slices.Backward over nodes, wharfref18.Results. -/
set_option linter.unusedVariables false
set_option linter.unusedSimpArgs false
namespace Go.Proofs.YtgcjmjfjeppmgaaGreatDoor.C
open Go.Abs
def backY (l : List GNode) (i : Nat) : List AV := [nat (l.length - 1 - i), nodeA false (l.getD (l.length - 1 - i) .zero)]
def backYs (l : List GNode) : List (List AV) := (List.range l.length).map (backY l)
theorem backYs_len (l : List GNode) : (backYs l).length = l.length := by simp [backYs]
theorem backYs_get {l : List GNode} {i : Nat} (h : i < l.length) : (backYs l)[i]? = some (backY l i) := by simp [backYs, h]
theorem backYs_split {l : List GNode} {i : Nat} (h : i < l.length) : backYs l = (backYs l).take i ++ backY l i :: (backYs l).drop (i + 1) := by
  obtain ⟨h1, h2⟩ := List.getElem?_eq_some_iff.1 (backYs_get h)
  rw [← h2, ← List.drop_eq_getElem_cons h1, List.take_append_drop]
theorem backY_at {l : List GNode} {i k : Nat} (hk : k = l.length - 1 - i) (h : k < l.length) : backY l i = [nat k, nodeA false l[k]] := by
  unfold backY; rw [← hk, List.getD_eq_getElem?_getD, List.getElem?_eq_getElem h]; rfl
theorem nback_iter (l : List GNode) (hl : l.length ≤ 2 ^ 40) : IterC Tryz.prog 118 [.ref false (.agg [.sl false 3 (nodesA false l)])] (backYs l) := by
  refine IterC.of_body Tryz.func118 rfl (by rw [Tryz.ntmps118]; simp) fun lb => ?_
  refine AWp.regionW ?_
  refine AWp.block ?_
  refine AWp.loopKT [0, 1] (fun (g : Nat × Int) => [(3, .val (.int .i64 g.2))]) (fun g => []) (fun g => (backYs l).take g.1) (fun g => g.1 ≤ l.length ∧ g.2 = (l.length : Int) - 1 - g.1) (fun g => l.length - g.1) ((0, IntKind.i64.wrap (N l.length - 1))) ?_ ⟨Nat.zero_le _, by show IntKind.i64.wrap (N l.length - 1) = (l.length : Int) - 1 - (0 : Nat); rw [IntKind.wrap_i64]; unfold N; omega⟩ ?_
  · skip
    refine Le.m 0 ?_ ?_ ?_
    · first | with_reducible rfl | (simp only [push_cast, ↓reduceIte, Nat.reduceEqDiff, Nat.reduceLT, Nat.reduceAdd, Nat.reduceSub, Nat.reduceMul, Nat.reduceLeDiff, Nat.reducePow, Int.reduceLT, Int.reduceToNat, reduceCtorEq, Int.reduceNeg, Int.reduceEq, Nat.reduceBEq, Nat.reduceBNe, Int.reduceBEq, Int.reduceBNe, String.reduceEq]; first | done | rfl | (simp (disch := omega) only [w_nat, w_add, w_addl, w_addr, w_sub, w_subl, w_mul, w_mull, w_mulr, w_u32, w_u16, w_u8, w_u32a, N_zero]; first | done | rfl))
    · first | (simp only [push_cast, ↓reduceIte, Nat.reduceEqDiff, Nat.reduceLT, Nat.reduceAdd, Nat.reduceSub, Nat.reduceMul, Nat.reduceLeDiff, Nat.reducePow, Int.reduceLT, Int.reduceToNat, reduceCtorEq, Int.reduceNeg, Int.reduceEq, Nat.reduceBEq, Nat.reduceBNe, Int.reduceBEq, Int.reduceBNe, String.reduceEq]; first | done | rfl | (simp (disch := omega) only [w_nat, w_add, w_addl, w_addr, w_sub, w_subl, w_mul, w_mull, w_mulr, w_u32, w_u16, w_u8, w_u32a, N_zero]; first | done | rfl))
    · exact ⟨rfl, rfl, rfl, rfl, rfl, rfl⟩
  · intro g hg K1 hK1
    obtain ⟨i, z⟩ := g
    dsimp only at hg ⊢
    refine AWp.seqK fun K2 hK2 => ?_
    refine AWp.regionW ?_
    refine AWp.condLM (fun c0 => ?_) (fun c0 => ?_)
    · skip
      have hz : 0 ≤ z := by simpa using c0
      have hil : i < l.length := by have := hg.2; omega
      obtain ⟨k, rfl⟩ : ∃ k : Nat, z = N k := ⟨l.length - 1 - i, by have := hg.2; unfold N; omega⟩
      have hk : k = l.length - 1 - i := by have := hg.2; unfold N at this; omega
      have hkl : k < l.length := by omega
      have hsp : backYs l = (backYs l).take i ++ [nat k, nodeA false l[k]] :: (backYs l).drop (i + 1) := by rw [← backY_at hk hkl]; exact backYs_split hil
      refine AWp.skip ?_
      refine hK2 _ ?_
      refine AWp.seqK fun K3 hK3 => ?_
      refine AWp.block ?_
      refine AWp.regionM fun K4 hK4 => ?_
      refine ARun2.indexM (k) (nodeA false l[k]) ?_ ?_
      · exact nodesA_at _ _ _ hkl
      refine ARun2.yieldM (x := [nat k, nodeA false l[k]]) ((backYs l).drop (i + 1)) (hsp) fun b => ?_
      refine ARun2.endm (hK4 _ ?_)
      refine AWp.condLM (fun c1 => ?_) (fun c1 => ?_)
      · skip
        have hb : b = false := by simpa using c1
        subst hb
        refine AWp.ret ?_
        try simp only [thenQ, blockQ, noGo]
        refine bodyQ.m ?_
        clear hK4 K4 hK3 K3 hK2 K2 hK1 K1
        exact ⟨fun h => (by cases h), fun _ => ⟨(backYs l).drop (i + 1), hsp.trans (by simp [AS.lit, nodeA_eq])⟩⟩
      · skip
        have hb : b = true := by simpa using c1
        subst hb
        refine AWp.skip ?_
        refine hK3 _ ?_
        refine AWp.regionV ?_
        refine hK1 _ ((i + 1, IntKind.i64.wrap (N k - 1))) (⟨hil, by show IntKind.i64.wrap (N k - 1) = (l.length : Int) - 1 - ((i + 1 : Nat) : Int); rw [IntKind.wrap_i64]; unfold N; omega⟩) (by show l.length - (i + 1) < l.length - i; omega) ?_
        refine Le.m 0 ?_ ?_ ?_
        · first | with_reducible rfl | (simp only [push_cast, ↓reduceIte, Nat.reduceEqDiff, Nat.reduceLT, Nat.reduceAdd, Nat.reduceSub, Nat.reduceMul, Nat.reduceLeDiff, Nat.reducePow, Int.reduceLT, Int.reduceToNat, reduceCtorEq, Int.reduceNeg, Int.reduceEq, Nat.reduceBEq, Nat.reduceBNe, Int.reduceBEq, Int.reduceBNe, String.reduceEq]; first | done | rfl | (simp (disch := omega) only [w_nat, w_add, w_addl, w_addr, w_sub, w_subl, w_mul, w_mull, w_mulr, w_u32, w_u16, w_u8, w_u32a, N_zero]; first | done | rfl))
        · first | (simp only [push_cast, ↓reduceIte, Nat.reduceEqDiff, Nat.reduceLT, Nat.reduceAdd, Nat.reduceSub, Nat.reduceMul, Nat.reduceLeDiff, Nat.reducePow, Int.reduceLT, Int.reduceToNat, reduceCtorEq, Int.reduceNeg, Int.reduceEq, Nat.reduceBEq, Nat.reduceBNe, Int.reduceBEq, Int.reduceBNe, String.reduceEq]; first | done | rfl | (simp (disch := omega) only [w_nat, w_add, w_addl, w_addr, w_sub, w_subl, w_mul, w_mull, w_mulr, w_u32, w_u16, w_u8, w_u32a, N_zero]; first | done | rfl))
        · refine ⟨rfl, rfl, rfl, rfl, ?_, rfl⟩
          show (backYs l).take (i + 1) = (backYs l).take i ++ [_]
          obtain ⟨h1, h2⟩ := List.getElem?_eq_some_iff.1 (backYs_get hil)
          rw [List.take_succ_eq_append_getElem h1, h2, backY_at hk hkl, nodeA_eq]
    · skip
      have hil : i = l.length := by have h1 : ¬ 0 ≤ z := (by simpa using c0); have := hg.2; have := hg.1; omega
      subst hil
      refine AWp.exit ?_
      try simp only [thenQ, blockQ, noGo, reduceIte, Nat.reduceEqDiff]
      try simp only [thenQ, blockQ, noGo]
      refine bodyQ.n ?_
      clear hK2 K2 hK1 K1
      exact ⟨fun _ => List.take_of_length_le (by rw [backYs_len]; exact Nat.le_refl _), fun h => (by cases h)⟩
theorem nback_c (l : List GNode) : PC Tryz.prog 85 [.sl false 3 (nodesA false l)] (.fn (.func 118) [] [.ref true (.agg [.sl false 3 (nodesA false l)])]) := by
  refine PC.of_body (by simp only [push_cast]) Tryz.func85 rfl (by rw [Tryz.ntmps85]; simp) ?_
  refine AWp.regionW ?_
  refine AWp.regionW ?_
  refine AWp.pubBox 0 rfl (Nat.le_refl _) rfl (by simp) ?_
  simp only [push_cast, ↓reduceIte, Nat.reduceEqDiff, Nat.reduceLT, Nat.reduceAdd, Nat.reduceSub, Nat.reduceMul, Nat.reduceLeDiff, Nat.reducePow, Int.reduceLT, Int.reduceToNat, reduceCtorEq, Int.reduceNeg, Int.reduceEq, Nat.reduceBEq, Nat.reduceBNe, Int.reduceBEq, Int.reduceBNe, String.reduceEq]
  refine AWp.ret ?_
  try simp only [thenQ, blockQ, noGo]
  refine bodyQ.m ?_
  rfl
/-! numbers of type int -/
def intsL (l : List Nat) : List AV := l.map nat
@[push_cast] theorem intsL_hand (ids : List Nat) (l : List Nat) : AV.handL ids (intsL l) = intsL l := by
  rw [AV.handL_map]; simp [intsL, AV.hand]
@[push_cast] theorem intsL_len (l : List Nat) : (intsL l).length = l.length := by simp [intsL]
theorem intsL_at (l : List Nat) (i : Nat) (h : i < l.length) : (intsL l)[i]? = some (nat l[i]) := by simp [intsL, h]
theorem intsL_snoc (l : List Nat) (n : Nat) : intsL (l ++ [n]) = intsL l ++ [nat n] := by simp [intsL]
@[push_cast] theorem intsL_nil : intsL [] = [] := rfl
@[push_cast] theorem intsL_pl (l : List Nat) : AV.plL (intsL l) = true := by
  rw [AV.plL_iff]; intro x hx; simp only [intsL, List.mem_map] at hx; obtain ⟨b, _, rfl⟩ := hx; rfl
@[push_cast] theorem intsL_ids (p : Nat → Bool) (l : List Nat) : AV.idsOkL p (intsL l) = true := by
  rw [AV.idsOkL_iff]; intro x hx; simp only [intsL, List.mem_map] at hx; obtain ⟨b, _, rfl⟩ := hx; rfl
theorem equalI_c (l m : List Nat) (hl : l.length ≤ 2 ^ 40) : PC Tryz.prog 36 [.sl false 1 (intsL l), .sl false 1 (intsL m)] (bool (decide (l = m))) := by
  refine PC.of_bodyW (by simp only [push_cast]) Tryz.func36 rfl (by rw [Tryz.ntmps36]; simp) ?_
  refine AWp.regionW ?_
  refine AWp.seqK fun K1 hK1 => ?_
  refine AWp.regionW ?_
  refine AWp.condLM (fun c0 => ?_) (fun c0 => ?_)
  · skip
    have hne : decide (l = m) = false := decide_eq_false (by rintro rfl; simp at c0)
    refine AWp.regionW ?_
    refine AWp.ret ?_
    try simp only [thenQ, blockQ, noGo]
    refine bodyQ.m ?_
    clear hK1 K1
    rw [hne]
    first | done | exact Hand.go
  · skip
    have he : l.length = m.length := by simpa using c0
    refine AWp.skip ?_
    refine hK1 _ ?_
    refine AWp.seqK fun K2 hK2 => ?_
    refine AWp.regionW ?_
    refine AWp.block ?_
    refine AWp.loopK0 [0, 1, 12] (fun (i : Nat) => [(13, nat i)]) (fun i => i ≤ l.length ∧ l.take i = m.take i) (fun i => l.length - i) (0) ?_ ⟨Nat.zero_le _, rfl⟩ ?_
    · skip
      refine Le.m 0 ?_ ?_
      · first | with_reducible rfl | (simp only [push_cast, ↓reduceIte, Nat.reduceEqDiff, Nat.reduceLT, Nat.reduceAdd, Nat.reduceSub, Nat.reduceMul, Nat.reduceLeDiff, Nat.reducePow, Int.reduceLT, Int.reduceToNat, reduceCtorEq, Int.reduceNeg, Int.reduceEq, Nat.reduceBEq, Nat.reduceBNe, Int.reduceBEq, Int.reduceBNe, String.reduceEq]; first | done | rfl | (simp (disch := omega) only [w_nat, w_add, w_addl, w_addr, w_sub, w_subl, w_mul, w_mull, w_mulr, w_u32, w_u16, w_u8, w_u32a, N_zero]; first | done | rfl))
      · first | (simp only [push_cast, ↓reduceIte, Nat.reduceEqDiff, Nat.reduceLT, Nat.reduceAdd, Nat.reduceSub, Nat.reduceMul, Nat.reduceLeDiff, Nat.reducePow, Int.reduceLT, Int.reduceToNat, reduceCtorEq, Int.reduceNeg, Int.reduceEq, Nat.reduceBEq, Nat.reduceBNe, Int.reduceBEq, Int.reduceBNe, String.reduceEq]; first | done | rfl | (simp (disch := omega) only [w_nat, w_add, w_addl, w_addr, w_sub, w_subl, w_mul, w_mull, w_mulr, w_u32, w_u16, w_u8, w_u32a, N_zero]; first | done | rfl))
    · intro i hi K3 hK3
      refine AWp.regionW ?_
      refine AWp.seqK fun K4 hK4 => ?_
      refine AWp.condLM (fun c1 => ?_) (fun c1 => ?_)
      · skip
        have hil : i < l.length := by simpa using c1
        have hir : i < m.length := by omega
        refine AWp.skip ?_
        refine hK4 _ ?_
        refine AWp.seqK fun K5 hK5 => ?_
        refine AWp.block ?_
        refine AWp.regionW ?_
        refine AWp.drS [[(0, none)], [(5, none)], [(16, some 0), (17, some 1)], [(18, some 2)], [(1, none)], [(5, none)], [(20, some 4), (21, some 5)], [(22, some 6)], [(19, some 3), (23, some 7)]] fun G hG => ?_
        refine Dr.sim ?_
        try simp only [List.cons_append, List.nil_append]
        refine Dr.sim ?_
        try simp only [List.cons_append, List.nil_append]
        refine Dr.idx (i) (nat l[i]) ?_ ?_
        · exact intsL_at _ _ hil
        try simp only [List.cons_append, List.nil_append]
        refine Dr.sim ?_
        try simp only [List.cons_append, List.nil_append]
        refine Dr.sim ?_
        try simp only [List.cons_append, List.nil_append]
        refine Dr.sim ?_
        try simp only [List.cons_append, List.nil_append]
        refine Dr.idx (i) (nat m[i]) ?_ ?_
        · exact intsL_at _ _ hir
        try simp only [List.cons_append, List.nil_append]
        refine Dr.sim ?_
        try simp only [List.cons_append, List.nil_append]
        refine Dr.sim ?_
        try simp only [List.cons_append, List.nil_append]
        refine Dr.finM (n := 9) [(24, 8)] [0, 1, 12, 13] hG YtgcjmjfjeppmgaaGreatDoor.Facts.mixed fun KD hKD => ?_
        refine ARun2.endm (hKD _ ?_); clear hKD KD hG G
        refine AWp.condLM (fun c2 => ?_) (fun c2 => ?_)
        · skip
          have hne : decide (l = m) = false := decide_eq_false (ne_at hil hir (by intro e; rw [e] at c2; simp at c2))
          refine AWp.regionW ?_
          refine AWp.ret ?_
          try simp only [thenQ, blockQ, noGo]
          refine bodyQ.m ?_
          clear hK5 K5 hK4 K4 hK3 K3 hK2 K2 hK1 K1
          rw [hne]
          first | done | exact Hand.go
        · skip
          have hx : l[i] = m[i] := by simpa using c2
          refine AWp.skip ?_
          refine hK5 _ ?_
          refine AWp.regionV ?_
          refine hK3 _ (i + 1) (⟨by omega, take_step hil hir hi.2 hx⟩) (by omega) ?_
          refine Le.m 0 ?_ ?_
          · first | with_reducible rfl | (simp only [push_cast, ↓reduceIte, Nat.reduceEqDiff, Nat.reduceLT, Nat.reduceAdd, Nat.reduceSub, Nat.reduceMul, Nat.reduceLeDiff, Nat.reducePow, Int.reduceLT, Int.reduceToNat, reduceCtorEq, Int.reduceNeg, Int.reduceEq, Nat.reduceBEq, Nat.reduceBNe, Int.reduceBEq, Int.reduceBNe, String.reduceEq]; first | done | rfl | (simp (disch := omega) only [w_nat, w_add, w_addl, w_addr, w_sub, w_subl, w_mul, w_mull, w_mulr, w_u32, w_u16, w_u8, w_u32a, N_zero]; first | done | rfl))
          · first | (simp only [push_cast, ↓reduceIte, Nat.reduceEqDiff, Nat.reduceLT, Nat.reduceAdd, Nat.reduceSub, Nat.reduceMul, Nat.reduceLeDiff, Nat.reducePow, Int.reduceLT, Int.reduceToNat, reduceCtorEq, Int.reduceNeg, Int.reduceEq, Nat.reduceBEq, Nat.reduceBNe, Int.reduceBEq, Int.reduceBNe, String.reduceEq]; first | done | rfl | (simp (disch := omega) only [w_nat, w_add, w_addl, w_addr, w_sub, w_subl, w_mul, w_mull, w_mulr, w_u32, w_u16, w_u8, w_u32a, N_zero]; first | done | rfl))
      · skip
        have hil : i = l.length := by have := hi.1; simp at c1; omega
        have hq : decide (l = m) = true := decide_eq_true (by have := hi.2; rwa [hil, List.take_length, he, List.take_length] at this)
        refine AWp.exit ?_
        try simp only [thenQ, blockQ, noGo, reduceIte, Nat.reduceEqDiff]
        refine hK2 _ ?_
        refine AWp.regionW ?_
        refine AWp.ret ?_
        try simp only [thenQ, blockQ, noGo]
        refine bodyQ.m ?_
        clear hK4 K4 hK3 K3 hK2 K2 hK1 K1
        rw [hq]
        first | done | exact Hand.go
/-! what the results are -/
def numN (n : GNode) : Nat := peekN 4 n.data 0
def resV (n : GNode) : Nat := if n.ty = 49155 then 2 else 1
def resOf (l : List GNode) (x : Nat) : Nat := match l.find? (fun n => numN n == x) with
  | none => 0
  | some n => resV n
theorem resOf_snoc (l : List GNode) (n : GNode) (x : Nat) : resOf (l ++ [n]) x = if resOf l x = 0 ∧ numN n = x then resV n else resOf l x := by
  unfold resOf
  rw [List.find?_append]
  cases h : l.find? (fun n => numN n == x) with
  | some m =>
    have : ¬ resV m = 0 := by unfold resV; split <;> decide
    simp [this]
  | none =>
    by_cases he : numN n = x
    · simp [he]
    · simp [he]
def fE : List GNode → List (Value × Value)
  | [] => []
  | n :: l => if n.ty = 49155 then mpPut .u32 (N (numN n)) (.int .i64 2) (mpPut .u32 (N (numN n)) (.int .i64 1) (fE l)) else mpPut .u32 (N (numN n)) (.int .i64 1) (fE l)
theorem fE_int : ∀ l : List GNode, mpInt .u32 (fE l) = true
  | [] => rfl
  | n :: l => by
    unfold fE
    split
    · exact mpInt_put (mpInt_put (fE_int l))
    · exact mpInt_put (fE_int l)
theorem N_inj' {a b : Nat} : N a = N b ↔ a = b := by unfold N; omega
theorem fE_find (x : Nat) : ∀ l : List GNode, mpFind .u32 (N x) (fE l) = some ((l.find? fun n => numN n == x).map fun n => Value.int .i64 (N (resV n)))
  | [] => rfl
  | n :: l => by
    have ih := fE_find x l
    have hi := fE_int l
    unfold fE
    by_cases hx : numN n = x
    · rw [List.find?_cons_of_pos (by simpa using hx)]
      split
      · rename_i ht
        rw [mpFind_put (mpInt_put hi), if_pos (by rw [hx])]
        simp only [Option.map_some, resV, if_pos ht]; rfl
      · rename_i ht
        rw [mpFind_put hi, if_pos (by rw [hx])]
        simp only [Option.map_some, resV, if_neg ht]; rfl
    · have hne : ¬ N x = N (numN n) := fun e => hx (N_inj'.1 e).symm
      rw [List.find?_cons_of_neg (by simpa using hx)]
      split
      · rw [mpFind_put (mpInt_put hi), if_neg hne, mpFind_put hi, if_neg hne, ih]
      · rw [mpFind_put hi, if_neg hne, ih]
def resL (q a : GChunk) : List Nat := (q.kids.drop 1).map fun n => resOf a.kids (numN n)
theorem idN_ch {n : GNode} (h : isCh n = true) : idN n = (numN n, true) := if_pos (by rw [h]; rfl)
theorem idN_re {n : GNode} (h : isRe n = true) : idN n = (numN n, true) := if_pos (by rw [h, Bool.or_true])
theorem aresults_no (q a : GChunk) (hq : Small q) (ha : Small a) (h : ¬ (isReq q = true ∧ isAns a = true ∧ (serC q).1 = (serC a).1)) : PC Tryz.prog 35 [chunkA false q, chunkA false a] (.tup [.sl true 1 [], bool false]) := by
  refine PC.of_bodyW (by simp only [push_cast]) Tryz.func35 rfl (by rw [Tryz.ntmps35]; simp) ?_
  refine AWp.regionW ?_
  refine AWp.regionM fun K1 hK1 => ?_
  refine ARun2.callM (aserial_c q hq) ?_
  refine ARun2.endm (hK1 _ ?_)
  refine AWp.regionM fun K2 hK2 => ?_
  refine ARun2.callM (aserial_c a ha) ?_
  refine ARun2.endm (hK2 _ ?_)
  refine AWp.seqK fun K3 hK3 => ?_
  refine AWp.regionA fun K4 hK4 => ?_
  refine ARun.segm 4 fun KS hKS => ?_
  refine ARun2.callM (aisreq_c q hq) ?_
  refine ARun2.endm (hKS _ ?_); clear hKS KS
  apply ARun.grpM 3 3 false 36 [2, 3, 6, 8, 33]
  · intro g3 KG hKG
    refine ARun2.gom ?_
    refine ARun2.callM (aisans_c a ha) ?_
    exact ARun2.endm (hKG _ Le.grpM)
  refine ARun.segm 2 fun KS hKS => ?_
  refine ARun2.endm (hKS _ ?_); clear hKS KS
  apply ARun.grpM 3 8 false 41 [2, 3, 38]
  · intro g8 KG hKG
    refine ARun2.gom ?_
    exact ARun2.endm (hKG _ Le.grpM)
  refine ARun2.gom ?_
  refine ARun2.endm (hK4 _ ?_)
  refine AWp.condLM (fun c0 => ?_) (fun c0 => ?_)
  · skip
    refine AWp.regionW ?_
    refine AWp.ret ?_
    try simp only [thenQ, blockQ, noGo]
    refine bodyQ.m ?_
    clear hK4 K4 hK3 K3 hK2 K2 hK1 K1
    first | done | exact Hand.go
  · skip
    exfalso; apply h; revert c0; cases isReq q <;> cases isAns a <;> simp
theorem aresults_yes (q a : GChunk) (hq : Small q) (ha : Small a) (h1 : isReq q = true) (h2 : isAns a = true) (h3 : (serC q).1 = (serC a).1) :
    PC Tryz.prog 35 [chunkA false q, chunkA false a] (.tup [.sl true 1 (intsL (resL q a)), bool true]) := by
  have sq := hq.kids
  have sa := ha.kids
  have hla := szs_len a.kids
  have hlq := szs_len q.kids
  have k1 := aserial_c q hq
  have k2 := aserial_c a ha
  have k3 := aisreq_c q hq
  have k4 := aisans_c a ha
  rw [h1] at k3
  rw [h2] at k4
  rw [← h3] at k2
  generalize (serC q).1 = ser at k1 k2
  have hlen1 : 1 ≤ q.kids.length := by
    unfold isReq at h1; simp only [Bool.and_eq_true, beq_iff_eq] at h1
    obtain ⟨k0, ks, hk⟩ := req_kids h1.1.1.1 h1.1.1.2
    rw [hk]; simp
  have hch : ∀ n ∈ q.kids.drop 1, isCh n = true := by
    unfold isReq at h1; simp only [Bool.and_eq_true] at h1
    exact List.all_eq_true.1 h1.2
  have hre : ∀ n ∈ a.kids, isRe n = true := by
    unfold isAns at h2; simp only [Bool.and_eq_true] at h2
    exact List.all_eq_true.1 h2.2
  have kq : ∀ n ∈ q.kids.drop 1, PC Tryz.prog 25 [nodeA false n] (.tup [u32 (numN n), bool true]) := by
    intro n hn
    have := aid_c n (by have := szs_mem (List.mem_of_mem_drop hn); omega)
    rw [idN_ch (hch n hn)] at this; exact this
  have ka : ∀ n ∈ a.kids, PC Tryz.prog 25 [nodeA false n] (.tup [u32 (numN n), bool true]) := by
    intro n hn
    have := aid_c n (by have := szs_mem hn; omega)
    rw [idN_re (hre n hn)] at this; exact this
  have hrl : resL q a = (q.kids.drop 1).map fun n => resOf a.kids (numN n) := rfl
  have hdl : (q.kids.drop 1).length ≤ q.kids.length := by rw [List.length_drop]; omega
  have hrlen : (resL q a).length = (q.kids.drop 1).length := by rw [hrl, List.length_map]
  generalize resL q a = rs at hrl hrlen
  clear h1 h2 h3 hch hre
  refine PC.of_bodyK (by simp only [push_cast]) Tryz.func35 rfl (by rw [Tryz.ntmps35]; simp) ?_
  refine AWp.regionW ?_
  refine AWp.regionM fun K1 hK1 => ?_
  refine ARun2.callM (k1) ?_
  refine ARun2.endm (hK1 _ ?_)
  refine AWp.regionM fun K2 hK2 => ?_
  refine ARun2.callM (k2) ?_
  refine ARun2.endm (hK2 _ ?_)
  refine AWp.seqK fun K3 hK3 => ?_
  refine AWp.regionM fun K4 hK4 => ?_
  refine ARun2.callM (k3) ?_
  refine ARun2.callM (k4) ?_
  refine ARun2.endm (hK4 _ ?_)
  refine AWp.condF ?_
  refine AWp.skip ?_
  refine hK3 _ ?_
  refine AWp.regionM fun K5 hK5 => ?_
  refine ARun2.makeMapM ?_
  refine ARun2.endm (hK5 _ ?_)
  refine AWp.seqK fun K6 hK6 => ?_
  refine AWp.regionM fun K7 hK7 => ?_
  refine ARun2.callM (nback_c a.kids) ?_
  refine ARun2.endm (hK7 _ ?_)
  refine AWp.block ?_
  refine AWp.rangeFuncM (nback_iter a.kids (by omega)) [2, 10] (fun pre ob tr go => pre.length ≤ a.kids.length ∧ ob = [.box 31 [u8 q.ty, u8 q.flags, .sl false 1 (bys q.data), .sl false 3 (nodesA false q.kids)], .box 31 [u8 a.ty, u8 a.flags, .sl false 1 (bys a.data), .sl false 3 (nodesA false a.kids)], .mp (fE (a.kids.drop (a.kids.length - pre.length))), .box 117 [.own 2]]) (fun _ _ _ _ => False) ?_ ?_ ?_ ?_ ?_
  · intro x hx
    simp only [backYs, List.mem_map] at hx
    obtain ⟨i, _, rfl⟩ := hx
    rfl
  · exact ⟨Nat.zero_le _, by simp only [List.length_nil, Nat.sub_zero, List.drop_length]; rfl⟩
  · rintro pre x post ob tr go hxs ⟨hk1, rfl⟩
    have hpl : pre.length < a.kids.length := by rw [← backYs_len a.kids, hxs]; simp
    have hx : (backYs a.kids)[pre.length]? = some x := by rw [hxs]; simp
    rw [backYs_get hpl] at hx
    obtain ⟨k, hk⟩ : ∃ k, k = a.kids.length - 1 - pre.length := ⟨_, rfl⟩
    have hkl : k < a.kids.length := by omega
    rw [backY_at hk hkl] at hx
    simp only [Option.some.injEq] at hx
    subst hx
    have kn := ka a.kids[k] (List.getElem_mem hkl)
    have hd0 : a.kids.length - pre.length = k + 1 := by omega
    rw [hd0]
    have hfi := fE_int (a.kids.drop (k + 1))
    have hfs : fE (a.kids.drop k) = fE (a.kids[k] :: a.kids.drop (k + 1)) := by rw [← List.drop_eq_getElem_cons hkl]
    have hfc : fE (a.kids[k] :: a.kids.drop (k + 1)) = if a.kids[k].ty = 49155 then mpPut .u32 (N (numN a.kids[k])) (.int .i64 2) (mpPut .u32 (N (numN a.kids[k])) (.int .i64 1) (fE (a.kids.drop (k + 1)))) else mpPut .u32 (N (numN a.kids[k])) (.int .i64 1) (fE (a.kids.drop (k + 1))) := by rw [fE]
    rw [hfc] at hfs
    generalize fE (a.kids.drop (k + 1)) = es at hfi hfs
    refine AWp.regionV ?_
    change AWp _ _ _ _
    refine AWp.block ?_
    refine AWp.regionM fun K8 hK8 => ?_
    refine ARun2.callM (kn) ?_
    refine ARun2.endm (hK8 _ ?_)
    refine AWp.regionM fun K9 hK9 => ?_
    refine ARun2.mapSetM hfi ?_
    refine ARun2.endm (hK9 _ ?_)
    refine AWp.regionW ?_
    refine AWp.condLM (fun c1 => ?_) (fun c1 => ?_)
    · skip
      have hes : mpPut .u32 (N (numN a.kids[k])) (.int .i64 2) (mpPut .u32 (N (numN a.kids[k])) (.int .i64 1) es) = fE (a.kids.drop k) := by
        rw [hfs, if_pos (by simpa using c1)]
      refine AWp.regionN fun K10 hK10 => ?_
      refine ARun2.mapSetM (mpInt_put hfi) ?_
      refine ARun2.endm (hK10 _ ?_)
      refine ⟨_, (Le.keep (fr' := []) trivial).trans (Le.cut 4 (by first | exact Nat.le_refl _ | decide) rfl (by simp only [push_cast, ↓reduceIte, Nat.reduceEqDiff, Nat.reduceLT, Nat.reduceAdd, Nat.reduceSub, Nat.reduceMul, Nat.reduceLeDiff, Nat.reducePow, Int.reduceLT, Int.reduceToNat, reduceCtorEq, Int.reduceNeg, Int.reduceEq, Nat.reduceBEq, Nat.reduceBNe, Int.reduceBEq, Int.reduceBNe, String.reduceEq])), ?_⟩
      have hd1 : a.kids.length - (pre ++ [[nat k, nodeA false a.kids[k]]]).length = k := by rw [List.length_append, List.length_cons, List.length_nil]; omega
      refine ⟨by rw [List.length_append, List.length_cons, List.length_nil]; omega, ?_⟩
      rw [hd1, ← hes]
      rfl
    · skip
      have hes : mpPut .u32 (N (numN a.kids[k])) (.int .i64 1) es = fE (a.kids.drop k) := by
        rw [hfs, if_neg (by simpa using c1)]
      refine AWp.skip ?_
      refine ⟨_, (Le.keep (fr' := []) trivial).trans (Le.cut 4 (by first | exact Nat.le_refl _ | decide) rfl (by simp only [push_cast, ↓reduceIte, Nat.reduceEqDiff, Nat.reduceLT, Nat.reduceAdd, Nat.reduceSub, Nat.reduceMul, Nat.reduceLeDiff, Nat.reducePow, Int.reduceLT, Int.reduceToNat, reduceCtorEq, Int.reduceNeg, Int.reduceEq, Nat.reduceBEq, Nat.reduceBNe, Int.reduceBEq, Int.reduceBNe, String.reduceEq])), ?_⟩
      have hd1 : a.kids.length - (pre ++ [[nat k, nodeA false a.kids[k]]]).length = k := by rw [List.length_append, List.length_cons, List.length_nil]; omega
      refine ⟨by rw [List.length_append, List.length_cons, List.length_nil]; omega, ?_⟩
      rw [hd1, ← hes]
      rfl
  · rintro ob tr go df ⟨hk1, rfl⟩
    rw [backYs_len, Nat.sub_self, List.drop_zero]
    refine hK6 _ ?_
    refine AWp.regionW ?_
    refine AWp.seqK fun K11 hK11 => ?_
    refine AWp.regionM fun K12 hK12 => ?_
    refine ARun2.sliceLoM (1) ?_ ?_
    · rw [nodesA_len]; omega
    refine ARun2.endm (hK12 _ ?_)
    refine AWp.block ?_
    -- SLOTS THAT TURN AND ARE NOT TOLD: [15]
    refine AWp.nilOwn 15 3 1 (by simp only [push_cast, ↓reduceIte, Nat.reduceEqDiff, Nat.reduceLT, Nat.reduceAdd, Nat.reduceSub, Nat.reduceMul, Nat.reduceLeDiff, Nat.reducePow, Int.reduceLT, Int.reduceToNat, reduceCtorEq, Int.reduceNeg, Int.reduceEq, Nat.reduceBEq, Nat.reduceBNe, Int.reduceBEq, Int.reduceBNe, String.reduceEq]) ?_
    simp only [push_cast, ↓reduceIte, Nat.reduceEqDiff, Nat.reduceLT, Nat.reduceAdd, Nat.reduceSub, Nat.reduceMul, Nat.reduceLeDiff, Nat.reducePow, Int.reduceLT, Int.reduceToNat, reduceCtorEq, Int.reduceNeg, Int.reduceEq, Nat.reduceBEq, Nat.reduceBNe, Int.reduceBEq, Int.reduceBNe, String.reduceEq]
    refine AWp.loopK [10, 15, 63, 64] (fun (i : Nat) => [(65, nat i)]) (fun i => [.box 31 [u8 q.ty, u8 q.flags, .sl false 1 (bys q.data), .sl false 3 (nodesA false q.kids)], .box 31 [u8 a.ty, u8 a.flags, .sl false 1 (bys a.data), .sl false 3 (nodesA false a.kids)], .mp (fE a.kids), .box 117 [.own 2], .row 3 1 (intsL (rs.take i))]) (fun i => i ≤ (q.kids.drop 1).length) (fun i => (q.kids.drop 1).length - i) (0) ?_ (Nat.zero_le _) ?_
    · skip
      refine Le.m 5 ?_ ?_
      · first | with_reducible rfl | (simp only [push_cast, ↓reduceIte, Nat.reduceEqDiff, Nat.reduceLT, Nat.reduceAdd, Nat.reduceSub, Nat.reduceMul, Nat.reduceLeDiff, Nat.reducePow, Int.reduceLT, Int.reduceToNat, reduceCtorEq, Int.reduceNeg, Int.reduceEq, Nat.reduceBEq, Nat.reduceBNe, Int.reduceBEq, Int.reduceBNe, String.reduceEq]; first | done | rfl | (simp (disch := omega) only [w_nat, w_add, w_addl, w_addr, w_sub, w_subl, w_mul, w_mull, w_mulr, w_u32, w_u16, w_u8, w_u32a, N_zero]; first | done | rfl))
      · first | (simp only [push_cast, ↓reduceIte, Nat.reduceEqDiff, Nat.reduceLT, Nat.reduceAdd, Nat.reduceSub, Nat.reduceMul, Nat.reduceLeDiff, Nat.reducePow, Int.reduceLT, Int.reduceToNat, reduceCtorEq, Int.reduceNeg, Int.reduceEq, Nat.reduceBEq, Nat.reduceBNe, Int.reduceBEq, Int.reduceBNe, String.reduceEq]; first | done | rfl | (simp (disch := omega) only [w_nat, w_add, w_addl, w_addr, w_sub, w_subl, w_mul, w_mull, w_mulr, w_u32, w_u16, w_u8, w_u32a, N_zero]; first | done | rfl))
    · intro i hi K13 hK13
      refine AWp.regionW ?_
      refine AWp.seqK fun K14 hK14 => ?_
      refine AWp.condLM (fun c2 => ?_) (fun c2 => ?_)
      · skip
        have hil : i < (q.kids.drop 1).length := by simpa using c2
        have kn := kq (q.kids.drop 1)[i] (List.getElem_mem hil)
        have hri : rs[i]'(by omega) = resOf a.kids (numN (q.kids.drop 1)[i]) := by subst hrl; simp
        refine AWp.skip ?_
        refine hK14 _ ?_
        refine AWp.seqK fun K15 hK15 => ?_
        refine AWp.block ?_
        refine AWp.regionM fun K16 hK16 => ?_
        refine ARun2.indexM (i) (nodeA false (q.kids.drop 1)[i]) ?_ ?_
        · exact nodesA_at _ _ _ hil
        refine ARun2.endm (hK16 _ ?_)
        refine AWp.regionM fun K17 hK17 => ?_
        refine ARun2.callM (kn) ?_
        refine ARun2.endm (hK17 _ ?_)
        refine AWp.regionN fun K18 hK18 => ?_
        refine ARun2.lookup0M (z := .int .i64 0) ((a.kids.find? fun n => numN n == numN (q.kids.drop 1)[i]).map fun n => Value.int .i64 (N (resV n))) (nat (resOf a.kids (numN (q.kids.drop 1)[i]))) (fE_find _ _) (by unfold resOf; cases a.kids.find? (fun n => numN n == numN (q.kids.drop 1)[i]) <;> rfl) ?_
        refine ARun2.appendM ?_ ?_ ?_
        · rw [YtgcjmjfjeppmgaaGreatDoor.Facts.eb62, intsL_len, List.length_take, List.length_cons, List.length_nil]; omega
        · rw [intsL_len, List.length_take, List.length_cons, List.length_nil]; omega
        refine ARun2.endm (hK18 _ ?_)
        refine hK15 _ ?_
        refine AWp.regionV ?_
        refine hK13 _ (i + 1) (by omega) (by omega) ?_
        refine Le.m 5 ?_ ?_
        · try simp only [push_cast, ↓reduceIte, Nat.reduceEqDiff, Nat.reduceLT, Nat.reduceAdd, Nat.reduceSub, Nat.reduceMul, Nat.reduceLeDiff, Nat.reducePow, Int.reduceLT, Int.reduceToNat, reduceCtorEq, Int.reduceNeg, Int.reduceEq, Nat.reduceBEq, Nat.reduceBNe, Int.reduceBEq, Int.reduceBNe, String.reduceEq]
          try simp (disch := omega) only [w_nat, w_add, w_addl, w_addr, w_sub, w_subl, w_mul, w_mull, w_mulr, w_u32, w_u16, w_u8, w_u32a, N_zero]
          first | done | skip
          rw [List.take_succ_eq_append_getElem (by omega), intsL_snoc, hri]
        · first | (simp only [push_cast, ↓reduceIte, Nat.reduceEqDiff, Nat.reduceLT, Nat.reduceAdd, Nat.reduceSub, Nat.reduceMul, Nat.reduceLeDiff, Nat.reducePow, Int.reduceLT, Int.reduceToNat, reduceCtorEq, Int.reduceNeg, Int.reduceEq, Nat.reduceBEq, Nat.reduceBNe, Int.reduceBEq, Int.reduceBNe, String.reduceEq]; first | done | rfl | (simp (disch := omega) only [w_nat, w_add, w_addl, w_addr, w_sub, w_subl, w_mul, w_mull, w_mulr, w_u32, w_u16, w_u8, w_u32a, N_zero]; first | done | rfl))
      · skip
        have hil : i = rs.length := by have h0 : ¬ i < (q.kids.drop 1).length := (by simpa using c2); omega
        subst hil
        refine AWp.exit ?_
        try simp only [thenQ, blockQ, noGo, reduceIte, Nat.reduceEqDiff]
        refine hK11 _ ?_
        refine AWp.pubD 4 ?_
        rw [List.take_length]
        refine AWp.regionW ?_
        refine AWp.ret ?_
        try simp only [thenQ, blockQ, noGo]
        refine bodyQ.m ?_
        clear hK14 K14 hK13 K13 hK12 K12 hK11 K11 hK7 K7 hK6 K6 hK5 K5 hK4 K4 hK3 K3 hK2 K2 hK1 K1
        first | done | exact Wk.go
  · rintro e ob tr go df h
    exact h.elim
end Go.Proofs.YtgcjmjfjeppmgaaGreatDoor.C
/- stream: right, list, Outgoing, Incoming, Reset, Response, More, is, Seq, Streams, Answers, Make. -/
set_option linter.unusedVariables false
set_option linter.unusedSimpArgs false
namespace Go.Proofs.YtgcjmjfjeppmgaaGreatDoor.C
open Go.Abs
def isS (n : GNode) (a b : Nat) : Bool := decide (a ≤ n.ty) && decide (n.ty ≤ b) && (checkN 1 1 n == 0)
end Go.Proofs.YtgcjmjfjeppmgaaGreatDoor.C
