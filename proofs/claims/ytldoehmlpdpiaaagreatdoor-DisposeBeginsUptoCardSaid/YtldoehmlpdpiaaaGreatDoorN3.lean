/- node: check. -/
import Derived.Test.YtldoehmlpdpiaaaGreatDoorN2
import Derived.Lib.ConvBytes
import Derived.Lib.AppendZerosOnto
import Derived.Laws.Append
import Derived.Laws.Externs
import GoSem.Extern.ReflectliteValue
import Derived.KernelRfl
import Derived.Stop.Asserts
set_option linter.unusedVariables false
set_option linter.unusedSimpArgs false
namespace Go.Proofs.YtldoehmlpdpiaaaGreatDoor.C
open Go.Abs
def errA (e : Nat) : AV := bif e == 0 then .val .nilIface else .ifc 123 (.val (.int .i64 (N e)))
@[push_cast] theorem nilIs_err (e : Nat) : nilIs .ifc (errA e) = some (e == 0) := by
  unfold errA; cases e == 0 <;> rfl
@[push_cast] theorem err_ids (p : Nat → Bool) (e : Nat) : (errA e).idsOk p = true := by unfold errA; cases e == 0 <;> rfl
@[push_cast] theorem err_hand (ids : List Nat) (e : Nat) : (errA e).hand ids = errA e := by unfold errA; cases e == 0 <;> rfl
@[push_cast] theorem err_one (e : Nat) : (errA e).one = true := by unfold errA; cases e == 0 <;> rfl
@[push_cast] theorem err_flat (e : Nat) : (errA e).flat = true := by unfold errA; cases e == 0 <;> rfl
@[push_cast] theorem err_cells (e : Nat) : (errA e).cells = [errA e] := by unfold errA; cases e == 0 <;> rfl
def badN (c t len : Nat) (k : List GNode) : Bool :=
  (!shapeHas c t && decide (0 < k.length)) || (shapeHas c t && (!fitsN (shapeOf c t) len || !kidsOk (shapeOf c t) k))
mutual
def checkN (c dp : Nat) : GNode → Nat
  | .mk t d k =>
    if 4 < dp then 9 else if badN c t d.length k = true then 7 else if countedN c t d = true then 8
    else if checkL (insideN (shapeOf c t).kids).1 (dp + 1) k ≠ 0 then checkL (insideN (shapeOf c t).kids).1 (dp + 1) k
    else if 65535 < nSize [.mk t d k] then 4 else 0
def checkL (c dp : Nat) : List GNode → Nat
  | [] => 0
  | n :: l => if checkN c dp n ≠ 0 then checkN c dp n else checkL c dp l
end
theorem checkN_eq (c dp : Nat) (n : GNode) : checkN c dp n =
    if 4 < dp then 9 else if badN c n.ty n.data.length n.kids = true then 7 else if countedN c n.ty n.data = true then 8
    else if checkL (insideN (shapeOf c n.ty).kids).1 (dp + 1) n.kids ≠ 0 then checkL (insideN (shapeOf c n.ty).kids).1 (dp + 1) n.kids
    else if 65535 < nSize [n] then 4 else 0 := by
  cases n; simp only [checkN, GNode.ty, GNode.data, GNode.kids]; rfl
theorem checkL_snoc (c dp : Nat) (n : GNode) : ∀ l : List GNode, checkL c dp (l ++ [n]) = if checkL c dp l ≠ 0 then checkL c dp l else checkN c dp n
  | [] => by
    simp only [List.nil_append, checkL]
    by_cases h : checkN c dp n = 0 <;> simp [h]
  | m :: l => by
    simp only [List.cons_append, checkL, checkL_snoc c dp n l]
    by_cases h : checkN c dp m = 0 <;> simp [h]
theorem checkL_app (c dp : Nat) (r : List GNode) : ∀ l : List GNode, checkL c dp l ≠ 0 → checkL c dp (l ++ r) = checkL c dp l
  | [], h => by simp [checkL] at h
  | m :: l, h => by
    simp only [List.cons_append, checkL] at h ⊢
    by_cases hm : checkN c dp m = 0
    · simp only [hm, ne_eq, not_true_eq_false, if_false] at h ⊢
      exact checkL_app c dp r l h
    · simp [hm]
theorem checkL_at (c dp : Nat) (l : List GNode) (i : Nat) (hil : i < l.length) (h0 : checkL c dp (l.take i) = 0) (h : checkN c dp l[i] ≠ 0) : checkL c dp l = checkN c dp l[i] := by
  have e := checkL_snoc c dp l[i] (l.take i)
  rw [h0, ← List.take_succ_eq_append_getElem hil] at e
  simp only [ne_eq, not_true_eq_false, if_false] at e
  have e2 := checkL_app c dp (l.drop (i + 1)) (l.take (i + 1)) (by rw [e]; exact h)
  rw [List.take_append_drop] at e2
  exact e2.trans e
theorem form_ok (c t : Nat) (h : shapeHas c t = true) : 0 < (shapeOf c t).unit ∧ (shapeOf c t).unit < 2 ^ 60 ∧ (shapeOf c t).least < 2 ^ 60 := by
  have key : ∀ l : List ShForm, (∀ f ∈ l, 0 < f.unit ∧ f.unit < 2 ^ 60 ∧ f.least < 2 ^ 60) → (l.find? fun f => f.ty == t).isSome = true →
      0 < (((l.find? fun f => f.ty == t).map fun f => { f with cls := c }).getD zeroForm).unit ∧ (((l.find? fun f => f.ty == t).map fun f => { f with cls := c }).getD zeroForm).unit < 2 ^ 60 ∧ (((l.find? fun f => f.ty == t).map fun f => { f with cls := c }).getD zeroForm).least < 2 ^ 60 := by
    intro l hl hs
    cases hf : l.find? (fun f => f.ty == t) with
    | none => simp [hf] at hs
    | some f => simpa using hl f (List.mem_of_find?_eq_some hf)
  refine key (formsN c) ?_ h
  match c with
  | 0 => intro f hf; simp [formsN] at hf
  | 1 => decide
  | 2 => decide
  | _ + 3 => intro f hf; simp [formsN] at hf
theorem form_kids (c t : Nat) : (shapeOf c t).kids < 2 ^ 60 := by
  have key : ∀ l : List ShForm, (∀ f ∈ l, f.kids < 2 ^ 60) → (((l.find? fun f => f.ty == t).map fun f => { f with cls := c }).getD zeroForm).kids < 2 ^ 60 := by
    intro l hl
    cases hf : l.find? (fun f => f.ty == t) with
    | none => simp [zeroForm]
    | some f => simpa using hl f (List.mem_of_find?_eq_some hf)
  refine key (formsN c) ?_
  match c with
  | 0 => intro f hf; simp [formsN] at hf
  | 1 => decide
  | 2 => decide
  | _ + 3 => intro f hf; simp [formsN] at hf
theorem inside_class (c t len : Nat) (k : List GNode) (h : badN c t len k = false) (hk : 0 < k.length) : (insideN (shapeOf c t).kids).1 = 1 ∨ (insideN (shapeOf c t).kids).1 = 2 := by
  unfold badN at h
  have hd : decide (0 < k.length) = true := by simpa using hk
  rw [hd] at h
  cases hs : shapeHas c t with
  | false => simp [hs] at h
  | true =>
    simp only [hs, Bool.not_true, Bool.false_and, Bool.false_or, Bool.true_and, Bool.or_eq_false_iff, Bool.not_eq_false'] at h
    have hkk := h.2
    unfold kidsOk insideN at hkk
    unfold insideN
    by_cases h1 : (shapeOf c t).kids = 1 ∨ (shapeOf c t).kids = 4
    · simp [h1]
    · by_cases h2 : (shapeOf c t).kids = 2
      · simp [h2]
      · by_cases h3 : (shapeOf c t).kids = 3
        · simp [h3]
        · simp [h1, h2, h3] at hkk
          rw [hkk.1] at hk
          simp at hk
theorem nSize_kids1 (n : GNode) : nSize n.kids ≤ nSize [n] := nSize_kids (by simp)
theorem nSize_one {l : List GNode} {n : GNode} (h : n ∈ l) : nSize [n] ≤ nSize l := by
  have := vlen_mem h
  have e : nSize [n] = 4 + vlen n := by simp [nSize, nLens, tlvSize, sumUp, upN, gapN]
  omega
theorem nSize_data (n : GNode) : n.data.length ≤ nSize [n] := by
  have e : nSize [n] = 4 + vlen n := by simp [nSize, nLens, tlvSize, sumUp, upN, gapN]
  rw [vlen_eq] at e; omega
theorem check_step (w : Nat) (ih : ∀ (c dp : Nat) (n : GNode), n.wt < w → (c = 1 ∨ c = 2) → dp < 2 ^ 60 → nSize [n] ≤ 2 ^ 30 → PC Tryz.prog 101 [nat c, nodeA false n, nat dp] (errA (checkN c dp n)))
    (c dp : Nat) (n : GNode) (hw : n.wt ≤ w) (hc : c = 1 ∨ c = 2) (hdp : dp < 2 ^ 60) (hs : nSize [n] ≤ 2 ^ 30) : PC Tryz.prog 101 [nat c, nodeA false n, nat dp] (errA (checkN c dp n)) := by
  have hkl := nSize_len n.kids
  have hk1 := nSize_kids1 n
  have hdl := nSize_data n
  refine PC.of_bodyW (by simp only [push_cast]) Tryz.func101 rfl (by rw [Tryz.ntmps101]; simp) ?_
  refine AWp.regionW ?_
  refine AWp.seqK fun K1 hK1 => ?_
  refine AWp.regionW ?_
  refine AWp.condLM (fun c0 => ?_) (fun c0 => ?_)
  · skip
    have h0 : 4 < dp := by simpa using c0
    refine AWp.regionW ?_
    refine AWp.ret ?_
    try simp only [thenQ, blockQ, noGo]
    refine bodyQ.m ?_
    clear hK1 K1
    rw [checkN_eq, if_pos h0]
    first | done | exact Hand.go
  · skip
    have h0 : ¬ 4 < dp := by simpa using c0
    refine AWp.skip ?_
    refine hK1 _ ?_
    refine AWp.regionM fun K2 hK2 => ?_
    refine ARun2.callM (of_c c n.ty hc) ?_
    refine ARun2.endm (hK2 _ ?_)
    refine AWp.seqK fun K3 hK3 => ?_
    refine AWp.block ?_
    refine AWp.seqK fun K4 hK4 => ?_
    refine AWp.regionA fun K5 hK5 => ?_
    refine ARun.segm 3 fun KS hKS => ?_
    refine ARun2.endm (hKS _ ?_); clear hKS KS
    apply ARun.grpM 4 2 true 32 [0, 2, 4, 7, 8, 28]
    · intro g2 KG hKG
      refine ARun2.gom ?_
      exact ARun2.endm (hKG _ Le.grpM)
    refine ARun2.gom ?_
    refine ARun2.endm (hK5 _ ?_)
    refine AWp.condLM (fun c1 => ?_) (fun c1 => ?_)
    · skip
      refine AWp.skip ?_
      refine hK4 _ ?_
      refine AWp.condT ?_
      have hb : badN c n.ty n.data.length n.kids = true := by unfold badN; simp_all
      refine AWp.regionW ?_
      refine AWp.ret ?_
      try simp only [thenQ, blockQ, noGo]
      refine bodyQ.m ?_
      clear hK5 K5 hK4 K4 hK3 K3 hK2 K2 hK1 K1
      rw [checkN_eq, if_neg h0, if_pos hb]
      first | done | exact Hand.go
    · skip
      refine AWp.regionB fun K6 hK6 => ?_
      refine ARun.segm 2 fun KS hKS => ?_
      refine ARun2.endm (hKS _ ?_); clear hKS KS
      apply ARun.grpM 13 1 true 48 [0, 2, 4, 7, 35]
      · intro g1 KG hKG
        have hf := form_ok c n.ty g1
        refine ARun.segm 7 fun KS hKS => ?_
        refine ARun2.callM (fits_c (shapeOf c n.ty) n.data.length (by omega) hf.2.2 hf.1 hf.2.1) ?_
        refine ARun2.endm (hKS _ ?_); clear hKS KS
        apply ARun.grpM 5 8 false 47 [0, 2, 4, 7, 35, 42]
        · intro g8 KG hKG
          refine ARun2.gom ?_
          refine ARun2.callM (kids_c (shapeOf c n.ty) n.kids (by omega) (form_kids c n.ty)) ?_
          exact ARun2.endm (hKG _ Le.grpM)
        refine ARun2.gom ?_
        exact ARun2.endm (hKG _ Le.grpM)
      refine ARun2.gom ?_
      refine ARun2.endm (hK6 _ ?_)
      refine hK4 _ ?_
      refine AWp.condLM (fun c2 => ?_) (fun c2 => ?_)
      · skip
        have hb : badN c n.ty n.data.length n.kids = true := by unfold badN; simp_all
        refine AWp.regionW ?_
        refine AWp.ret ?_
        try simp only [thenQ, blockQ, noGo]
        refine bodyQ.m ?_
        clear hK6 K6 hK5 K5 hK4 K4 hK3 K3 hK2 K2 hK1 K1
        rw [checkN_eq, if_neg h0, if_pos hb]
        first | done | exact Hand.go
      · skip
        have hb : badN c n.ty n.data.length n.kids = false := by unfold badN; simp_all
        have hb' : ¬ badN c n.ty n.data.length n.kids = true := by rw [hb]; simp
        refine AWp.regionM fun K7 hK7 => ?_
        refine ARun2.callM (counted_c c n.ty n.data (by omega)) ?_
        refine ARun2.endm (hK7 _ ?_)
        refine AWp.condLM (fun c3 => ?_) (fun c3 => ?_)
        · skip
          have h3 : countedN c n.ty n.data = true := c3
          refine AWp.regionW ?_
          refine AWp.ret ?_
          try simp only [thenQ, blockQ, noGo]
          refine bodyQ.m ?_
          clear hK7 K7 hK6 K6 hK5 K5 hK4 K4 hK3 K3 hK2 K2 hK1 K1
          rw [checkN_eq, if_neg h0, if_neg hb', if_pos h3]
          first | done | exact Hand.go
        · skip
          have h3 : ¬ countedN c n.ty n.data = true := by rw [c3]; simp
          refine AWp.skip ?_
          refine hK3 _ ?_
          refine AWp.regionM fun K8 hK8 => ?_
          refine ARun2.callM (inside_c (shapeOf c n.ty).kids (form_kids c n.ty)) ?_
          refine ARun2.endm (hK8 _ ?_)
          refine AWp.seqK fun K9 hK9 => ?_
          refine AWp.regionW ?_
          refine AWp.block ?_
          refine AWp.loopK0 [2, 4, 9, 67, 68] (fun (i : Nat) => [(69, nat i)]) (fun i => i ≤ n.kids.length ∧ checkL (insideN (shapeOf c n.ty).kids).1 (dp + 1) (n.kids.take i) = 0) (fun i => n.kids.length - i) (0) ?_ ⟨Nat.zero_le _, rfl⟩ ?_
          · skip
            refine Le.m 2 ?_ ?_
            · exact Go.Abs.evM
            · exact Go.Abs.evN
          · intro i hi K10 hK10
            refine AWp.regionW ?_
            refine AWp.seqK fun K11 hK11 => ?_
            refine AWp.condLM (fun c4 => ?_) (fun c4 => ?_)
            · skip
              have hil : i < n.kids.length := by simpa using c4
              have hm := List.getElem_mem hil
              have hcl := inside_class c n.ty n.data.length n.kids hb (by omega)
              refine AWp.skip ?_
              refine hK11 _ ?_
              refine AWp.seqK fun K12 hK12 => ?_
              refine AWp.block ?_
              refine AWp.regionM fun K13 hK13 => ?_
              refine ARun2.indexM (i) (nodeA false n.kids[i]) ?_ ?_
              · exact nodesA_at _ _ _ hil
              refine ARun2.endm (hK13 _ ?_)
              refine AWp.regionM fun K14 hK14 => ?_
              refine ARun2.callM (ih (insideN (shapeOf c n.ty).kids).1 (dp + 1) n.kids[i] (by have := wts_mem hm; rw [GNode.wt_eq] at hw; omega) hcl (by omega) (by have := nSize_one hm; omega)) ?_
              refine ARun2.endm (hK14 _ ?_)
              refine AWp.regionW ?_
              refine AWp.condLM (fun c5 => ?_) (fun c5 => ?_)
              · skip
                have h5 : checkN (insideN (shapeOf c n.ty).kids).1 (dp + 1) n.kids[i] ≠ 0 := by simpa using c5
                refine AWp.regionW ?_
                refine AWp.ret ?_
                try simp only [thenQ, blockQ, noGo]
                refine bodyQ.m ?_
                clear hK14 K14 hK13 K13 hK12 K12 hK11 K11 hK10 K10 hK9 K9 hK8 K8 hK7 K7 hK6 K6 hK5 K5 hK4 K4 hK3 K3 hK2 K2 hK1 K1
                have hL := checkL_at _ _ n.kids i hil hi.2 h5
                rw [checkN_eq c dp n, if_neg h0, if_neg hb', if_neg h3, if_pos (by rw [hL]; exact h5), hL]
                first | done | exact Hand.go
              · skip
                have h5 : checkN (insideN (shapeOf c n.ty).kids).1 (dp + 1) n.kids[i] = 0 := by simpa using c5
                refine AWp.skip ?_
                refine hK12 _ ?_
                refine AWp.regionV ?_
                refine hK10 _ (i + 1) (⟨by omega, by rw [List.take_succ_eq_append_getElem hil, checkL_snoc, hi.2]; simpa using h5⟩) (by omega) ?_
                refine Le.m 2 ?_ ?_
                · exact Go.Abs.evM
                · exact Go.Abs.evN
            · skip
              have hil : i = n.kids.length := by have := hi.1; simp at c4; omega
              have hL : checkL (insideN (shapeOf c n.ty).kids).1 (dp + 1) n.kids = 0 := by have := hi.2; rwa [hil, List.take_length] at this
              subst hil
              refine AWp.exit ?_
              try simp only [thenQ, blockQ, noGo, reduceIte, Nat.reduceEqDiff]
              refine hK9 _ ?_
              refine AWp.seqK fun K15 hK15 => ?_
              refine AWp.regionM fun K16 hK16 => ?_
              refine ARun2.callM (size_c [n] hs) ?_
              refine ARun2.endm (hK16 _ ?_)
              refine AWp.condLM (fun c6 => ?_) (fun c6 => ?_)
              · skip
                have h6 : 65535 < nSize [n] := by simpa using c6
                refine AWp.regionW ?_
                refine AWp.ret ?_
                try simp only [thenQ, blockQ, noGo]
                refine bodyQ.m ?_
                clear hK16 K16 hK15 K15 hK11 K11 hK10 K10 hK9 K9 hK8 K8 hK7 K7 hK6 K6 hK5 K5 hK4 K4 hK3 K3 hK2 K2 hK1 K1
                rw [checkN_eq, if_neg h0, if_neg hb', if_neg h3, if_neg (by rw [hL]; simp), if_pos h6]
                first | done | exact Hand.go
              · skip
                have h6 : ¬ 65535 < nSize [n] := by simpa using c6
                refine AWp.skip ?_
                refine hK15 _ ?_
                refine AWp.regionW ?_
                refine AWp.ret ?_
                try simp only [thenQ, blockQ, noGo]
                refine bodyQ.m ?_
                clear hK16 K16 hK15 K15 hK11 K11 hK10 K10 hK9 K9 hK8 K8 hK7 K7 hK6 K6 hK5 K5 hK4 K4 hK3 K3 hK2 K2 hK1 K1
                rw [checkN_eq, if_neg h0, if_neg hb', if_neg h3, if_neg (by rw [hL]; simp), if_neg h6]
                first | done | exact Hand.go
theorem check_w : ∀ (w c dp : Nat) (n : GNode), n.wt ≤ w → (c = 1 ∨ c = 2) → dp < 2 ^ 60 → nSize [n] ≤ 2 ^ 30 → PC Tryz.prog 101 [nat c, nodeA false n, nat dp] (errA (checkN c dp n)) := by
  intro w
  induction w with
  | zero => exact check_step 0 (fun c dp n h => by omega)
  | succ w ih => exact check_step (w + 1) (fun c dp n h => ih c dp n (by omega))
theorem check_c (c : Nat) (n : GNode) (hc : c = 1 ∨ c = 2) (hs : nSize [n] ≤ 2 ^ 30) : PC Tryz.prog 84 [nat c, nodeA false n] (errA (checkN c 1 n)) := by
  refine PC.of_bodyW (by simp only [push_cast]) Tryz.func84 rfl (by rw [Tryz.ntmps84]; simp) ?_
  refine AWp.regionW ?_
  refine AWp.regionM fun K1 hK1 => ?_
  refine ARun2.callM (check_w n.wt c 1 n (Nat.le_refl _) hc (by omega) hs) ?_
  refine ARun2.endm (hK1 _ ?_)
  refine AWp.ret ?_
  try simp only [thenQ, blockQ, noGo]
  refine bodyQ.m ?_
  clear hK1 K1
  first | done | exact Hand.go
end Go.Proofs.YtldoehmlpdpiaaaGreatDoor.C
namespace Go.Abs
theorem nodesA_snoc (b : Bool) (l : List GNode) (n : GNode) : nodesA b (l ++ [n]) = nodesA b l ++ [nodeA b n] := by rw [nodesA_map, nodesA_map, List.map_append]; rfl
mutual
def GNode.sz : GNode → Nat
  | .mk _ d k => d.length + szs k + 1
def szs : List GNode → Nat
  | [] => 0
  | n :: l => n.sz + szs l
end
theorem GNode.sz_eq (n : GNode) : n.sz = n.data.length + szs n.kids + 1 := by cases n; simp [GNode.sz, GNode.kids, GNode.data]
theorem szs_mem : ∀ {l : List GNode} {n : GNode}, n ∈ l → n.sz ≤ szs l
  | [], n, h => by simp at h
  | m :: l, n, h => by
    rcases List.mem_cons.1 h with h | h
    · subst h; simp only [szs]; omega
    · have := szs_mem h; simp only [szs]; omega
theorem szs_len : ∀ l : List GNode, l.length ≤ szs l
  | [] => by simp [szs]
  | n :: l => by
    have := szs_len l
    have := n.sz_eq
    simp only [szs, List.length_cons]; omega
theorem szs_lt {n m : GNode} (h : m ∈ n.kids) : m.sz < n.sz := by
  have := szs_mem h; rw [GNode.sz_eq n]; omega
mutual
def sameN : GNode → GNode → Bool
  | .mk t d k, .mk t' d' k' => t == t' && (decide (d = d') && sameL k k')
def sameL : List GNode → List GNode → Bool
  | [], [] => true
  | n :: l, m :: r => sameN n m && sameL l r
  | _, _ => false
end
theorem sameN_eq (n m : GNode) : sameN n m = (n.ty == m.ty && (decide (n.data = m.data) && sameL n.kids m.kids)) := by cases n; cases m; rw [sameN]; rfl
mutual
theorem sameN_iff : ∀ n m : GNode, sameN n m = true ↔ n = m
  | .mk t d k, .mk t' d' k' => by
    have := sameL_iff k k'
    simp [sameN, this]
theorem sameL_iff : ∀ l r : List GNode, sameL l r = true ↔ l = r
  | [], [] => by simp [sameL]
  | n :: l, m :: r => by
    have h1 := sameN_iff n m
    have h2 := sameL_iff l r
    simp [sameL, h1, h2]
  | [], m :: r => by simp [sameL]
  | n :: l, [] => by simp [sameL]
end
theorem sameL_len {l r : List GNode} (h : l.length ≠ r.length) : sameL l r = false := by
  cases hs : sameL l r with
  | false => rfl
  | true => rw [sameL_iff] at hs; subst hs; simp at h
theorem sameL_take {l r : List GNode} {i : Nat} (hl : i < l.length) (hr : i < r.length) (h0 : sameL (l.take i) (r.take i) = true) (h : sameN l[i] r[i] = true) : sameL (l.take (i + 1)) (r.take (i + 1)) = true := by
  rw [sameL_iff] at *
  rw [sameN_iff] at h
  rw [List.take_succ_eq_append_getElem hl, List.take_succ_eq_append_getElem hr, h0, h]
theorem sameL_at {l r : List GNode} {i : Nat} (hl : i < l.length) (hr : i < r.length) (h : sameN l[i] r[i] = false) : sameL l r = false := by
  cases hs : sameL l r with
  | false => rfl
  | true =>
    rw [sameL_iff] at hs; subst hs
    have : sameN l[i] l[i] = true := (sameN_iff _ _).2 rfl
    rw [this] at h; cases h
end Go.Abs
namespace Go.Proofs.YtldoehmlpdpiaaaGreatDoor.C
open Go.Abs
theorem equalFunc_c (l r : List GNode) (hl : l.length ≤ 2 ^ 40) (ih : ∀ n ∈ l, ∀ m ∈ r, PC Tryz.prog 51 [nodeA false n, nodeA false m] (bool (sameN n m))) :
    PC Tryz.prog 50 [.sl false 3 (nodesA false l), .sl false 3 (nodesA false r), .fn (.func 51) [] []] (bool (sameL l r)) := by
  refine PC.of_bodyW (by simp only [push_cast]) Tryz.func50 rfl (by rw [Tryz.ntmps50]; simp) ?_
  refine AWp.regionW ?_
  refine AWp.seqK fun K1 hK1 => ?_
  refine AWp.regionW ?_
  refine AWp.condLM (fun c0 => ?_) (fun c0 => ?_)
  · skip
    have hne : l.length ≠ r.length := by simpa using c0
    refine AWp.regionW ?_
    refine AWp.ret ?_
    try simp only [thenQ, blockQ, noGo]
    refine bodyQ.m ?_
    clear hK1 K1
    rw [sameL_len hne]
    first | done | exact Hand.go
  · skip
    have he : l.length = r.length := by simpa using c0
    refine AWp.skip ?_
    refine hK1 _ ?_
    refine AWp.seqK fun K2 hK2 => ?_
    refine AWp.regionW ?_
    refine AWp.block ?_
    refine AWp.loopK0 [1, 2, 15, 16] (fun (i : Nat) => [(17, nat i)]) (fun i => i ≤ l.length ∧ sameL (l.take i) (r.take i) = true) (fun i => l.length - i) (0) ?_ ⟨Nat.zero_le _, rfl⟩ ?_
    · skip
      refine Le.m 0 ?_ ?_
      · exact Go.Abs.evM
      · exact Go.Abs.evN
    · intro i hi K3 hK3
      refine AWp.regionW ?_
      refine AWp.seqK fun K4 hK4 => ?_
      refine AWp.condLM (fun c1 => ?_) (fun c1 => ?_)
      · skip
        have hil : i < l.length := by simpa using c1
        have hir : i < r.length := by omega
        refine AWp.skip ?_
        refine hK4 _ ?_
        refine AWp.seqK fun K5 hK5 => ?_
        refine AWp.block ?_
        refine AWp.regionM fun K6 hK6 => ?_
        refine ARun2.indexM (i) (nodeA false l[i]) ?_ ?_
        · exact nodesA_at _ _ _ hil
        refine ARun2.endm (hK6 _ ?_)
        refine AWp.regionM fun K7 hK7 => ?_
        refine ARun2.indexM (i) (nodeA false r[i]) ?_ ?_
        · exact nodesA_at _ _ _ hir
        refine ARun2.endm (hK7 _ ?_)
        refine AWp.regionM fun K8 hK8 => ?_
        refine ARun2.callVM (ih l[i] (List.getElem_mem hil) r[i] (List.getElem_mem hir)) ?_
        refine ARun2.endm (hK8 _ ?_)
        refine AWp.condLM (fun c2 => ?_) (fun c2 => ?_)
        · skip
          have h5 : sameN l[i] r[i] = false := by simpa using c2
          refine AWp.regionW ?_
          refine AWp.ret ?_
          try simp only [thenQ, blockQ, noGo]
          refine bodyQ.m ?_
          clear hK8 K8 hK7 K7 hK6 K6 hK5 K5 hK4 K4 hK3 K3 hK2 K2 hK1 K1
          rw [sameL_at hil hir h5]
          first | done | exact Hand.go
        · skip
          have h5 : sameN l[i] r[i] = true := by simpa using c2
          refine AWp.skip ?_
          refine hK5 _ ?_
          refine AWp.regionV ?_
          refine hK3 _ (i + 1) (⟨by omega, sameL_take hil hir hi.2 h5⟩) (by omega) ?_
          refine Le.m 0 ?_ ?_
          · exact Go.Abs.evM
          · exact Go.Abs.evN
      · skip
        have hil : i = l.length := by have := hi.1; simp at c1; omega
        have hs : sameL l r = true := by have := hi.2; rwa [hil, List.take_length, he, List.take_length] at this
        refine AWp.exit ?_
        try simp only [thenQ, blockQ, noGo, reduceIte, Nat.reduceEqDiff]
        refine hK2 _ ?_
        refine AWp.regionW ?_
        refine AWp.ret ?_
        try simp only [thenQ, blockQ, noGo]
        refine bodyQ.m ?_
        clear hK4 K4 hK3 K3 hK2 K2 hK1 K1
        rw [hs]
        first | done | exact Hand.go
theorem same_step (n m : GNode) (hs : n.sz ≤ 2 ^ 40) (ih : ∀ a b : GNode, a.sz < n.sz → PC Tryz.prog 51 [nodeA false a, nodeA false b] (bool (sameN a b))) : PC Tryz.prog 51 [nodeA false n, nodeA false m] (bool (sameN n m)) := by
  have hsz := n.sz_eq
  have hlen := szs_len n.kids
  have hq := equalFunc_c n.kids m.kids (by omega) (fun a ha b hb => ih a b (szs_lt ha))
  refine PC.of_bodyW (by simp only [push_cast]) Tryz.func51 rfl (by rw [Tryz.ntmps51]; simp) ?_
  refine AWp.regionW ?_
  refine AWp.regionA fun K1 hK1 => ?_
  refine ARun.segm 6 fun KS hKS => ?_
  refine ARun2.endm (hKS _ ?_); clear hKS KS
  apply ARun.grpM 5 5 true 15 [2, 3, 10]
  · intro g5 KG hKG
    refine ARun2.gom ?_
    refine ARun2.callM (equal_c n.data m.data) ?_
    exact ARun2.endm (hKG _ Le.grpM)
  refine ARun.segm 2 fun KS hKS => ?_
  refine ARun2.endm (hKS _ ?_); clear hKS KS
  apply ARun.grpM 5 12 true 22 [17]
  · intro g12 KG hKG
    refine ARun2.gom ?_
    refine ARun2.callM (hq) ?_
    exact ARun2.endm (hKG _ Le.grpM)
  refine ARun2.gom ?_
  refine ARun2.endm (hK1 _ ?_)
  refine AWp.ret ?_
  try simp only [thenQ, blockQ, noGo]
  refine bodyQ.m ?_
  clear hK1 K1
  simp only [sameN_eq, Bool.and_assoc]
  first | done | exact Hand.go
theorem same_w : ∀ (w : Nat) (n m : GNode), n.sz ≤ w → n.sz ≤ 2 ^ 40 → PC Tryz.prog 51 [nodeA false n, nodeA false m] (bool (sameN n m)) := by
  intro w
  induction w with
  | zero => intro n m h; have := n.sz_eq; omega
  | succ w ih => exact fun n m hw hs => same_step n m hs (fun a b h => ih a b (by omega) (by omega))
theorem same_c (n m : GNode) (hs : n.sz ≤ 2 ^ 40) : PC Tryz.prog 51 [nodeA false n, nodeA false m] (bool (sameN n m)) := same_w _ n m (Nat.le_refl _) hs
end Go.Proofs.YtldoehmlpdpiaaaGreatDoor.C
namespace Go.Abs
mutual
def GNode.tyOk : GNode → Bool
  | .mk t _ k => decide (t < 65536) && tysOk k
def tysOk : List GNode → Bool
  | [] => true
  | n :: l => n.tyOk && tysOk l
end
theorem GNode.tyOk_eq (n : GNode) : n.tyOk = (decide (n.ty < 65536) && tysOk n.kids) := by cases n; rw [GNode.tyOk]; rfl
theorem tysOk_mem : ∀ {l : List GNode}, tysOk l = true → ∀ n ∈ l, n.tyOk = true
  | [], _, n, h => by simp at h
  | m :: l, h, n, hm => by
    simp only [tysOk, Bool.and_eq_true] at h
    rcases List.mem_cons.1 hm with rfl | hm
    · exact h.1
    · exact tysOk_mem h.2 n hm
theorem GNode.tyOk_kids {n : GNode} (h : n.tyOk = true) : tysOk n.kids = true := by rw [GNode.tyOk_eq] at h; simp at h; exact h.2
theorem GNode.tyOk_ty {n : GNode} (h : n.tyOk = true) : n.ty < 65536 := by rw [GNode.tyOk_eq] at h; simp at h; exact h.1
set_option linter.unusedSectionVars false
def isBl (P : Program) (T : TypeId) : Bool := match P.underlying T with
  | some .bool => true
  | _ => false
theorem isBl_spec {P : Program} {T : TypeId} (h : isBl P T = true) : P.underlying T = some .bool := by
  unfold isBl at h
  split at h
  · assumption
  · cases h
section
variable {P : Program} {ops : Array Oper} {E : Env} {s s' : AS} {ρ : List Value} {B : Nat → Prop} {a : Act} {w w' : World} {o : Oper} {rest : List Oper} {Q : AS → Prop} {R : Exit → AS → Prop}
theorem AOp.boolEq {op : BinOp} {T X : TypeId} {x y : Operand} {b c : Bool} (ho : o.op = .binOp op T x y X) (hop : op = .eql ∨ op = .neq) (hT : isBl P T = true) (hx : s.ev x = .val (.bool b)) (hy : s.ev y = .val (.bool c))
    (k : ARun P ops rest (s.put o.dst (.val (.bool (if op = .eql then b == c else b != c)))) Q) : AOp P ops o rest s Q := by
  refine AOp.pure1 (fun E ρ B a w hs => ⟨.bool (if op = .eql then b == c else b != c), ?_, .val _⟩) k
  have hu := isBl_spec hT
  have e1 : a.eval x = .bool b := (hx ▸ hs.ev x : Rel w B E.bs ρ (.val (.bool b)) (a.eval x)).val_eq
  have e2 : a.eval y = .bool c := (hy ▸ hs.ev y : Rel w B E.bs ρ (.val (.bool c)) (a.eval y)).val_eq
  have he : (Op.equal T (.bool b) (.bool c)).run P w = .ok (b == c) w := equal_run fun d => by simp [Op.equalIn, run_underlying hu]
  have hg : (eqGuard op T x y (.bool b) (.bool c)).run P w = .ok () w := by rcases hop with rfl | rfl <;> simp [eqGuard]
  simp only [execOp, ho, e1, e2]
  rcases hop with rfl | rfl
  · simp [binOp, hg, he]
  · simp [binOp, hg, he, bne]
theorem ARun2.boolEqM {op : BinOp} {T X : TypeId} {x y : Operand} {b c : Bool} {p : List Oper × AS} (K : ARun2 P ops p Q) (ho : o.op = .binOp op T x y X := by rfl) (hop : op = .eql ∨ op = .neq := by first | exact .inl rfl | exact .inr rfl) (hT : isBl P T = true := by kernel_rfl)
    (hg : gd ops s o = some true := by exact Go.Abs.evT) (hx : s.ev x = .val (.bool b) := by exact Go.Abs.evT) (hy : s.ev y = .val (.bool c) := by exact Go.Abs.evT)
    (h : srun P ops rest (s.put o.dst (.val (.bool (if op = .eql then b == c else b != c)))) = p := by
        exact Go.Abs.evE) : ARun2 P ops (o :: rest, s) Q :=
  ARun.exec hg (AOp.boolEq ho hop hT hx hy (ARun.srun (h ▸ K)))
end
attribute [push_cast] bne_self_eq_false
set_option linter.unusedSectionVars false
set_option linter.unnecessarySimpa false
mutual
def AV.fresh : AV → Bool
  | .val _ => true
  | .any => false
  | .agg l | .tup l => AV.freshL l
  | .sl nw _ xs => nw && AV.freshL xs
  | .slc _ _ => false
  | .own _ | .ptr _ _ | .ept _ _ => false
  | .ref nw x => nw && x.fresh
  | .ifc _ x => x.fresh
  | .fn _ l m => AV.freshL l && AV.freshL m
def AV.freshL : List AV → Bool
  | [] => true
  | x :: xs => x.fresh && AV.freshL xs
end
theorem AV.freshL_cells (x : AV) : AV.freshL x.cells = x.fresh := by
  cases x <;> simp [AV.cells, AV.fresh, AV.freshL]
section fresh
variable {w : World} {B : Nat → Prop} {bs : Nat} {ρ : List Value}
mutual
theorem Rel.fresh : ∀ {x : AV} {v : Value}, Rel w B bs ρ x v → x.fresh = true → Rel w (fun b => B b ∧ bs ≤ b) bs ρ x v
  | _, _, .val v, _ => .val v
  | _, _, .agg h, e => .agg (h.fresh (by simpa [AV.fresh] using e))
  | _, _, .tup h, e => .tup (h.fresh (by simpa [AV.fresh] using e))
  | _, _, .slE nw sz A cap, _ => .slE nw sz A cap
  | _, _, .sl h hc, e => by
    simp only [AV.fresh, Bool.and_eq_true] at e
    exact .sl (RelRow.fresh' h e.1 e.2) hc
  | _, _, .own h h1, e => by simp [AV.fresh] at e
  | _, _, .ptr h, e => by simp [AV.fresh] at e
  | _, _, .ept h, e => by simp [AV.fresh] at e
  | _, _, .ref (x := x) h hn, e => by
    simp only [AV.fresh, Bool.and_eq_true] at e
    exact .ref (RelCells.fresh h e.1 (by rw [AV.freshL_cells]; exact e.2)) hn
  | _, _, .ifc h, e => .ifc (h.fresh (by simpa [AV.fresh] using e))
  | _, _, .fn h h2, e => .fn (h.fresh (by simp only [AV.fresh, Bool.and_eq_true] at e; exact e.1)) (h2.fresh (by simp only [AV.fresh, Bool.and_eq_true] at e; exact e.2))
  | _, _, .any v, e => by simp [AV.fresh] at e
  | _, _, .slc h, e => by simp [AV.fresh] at e
theorem RelL.fresh : ∀ {xs : List AV} {vs : List Value}, RelL w B bs ρ xs vs → AV.freshL xs = true → RelL w (fun b => B b ∧ bs ≤ b) bs ρ xs vs
  | _, _, .nil, _ => .nil
  | _, _, .cons h h2, e => .cons (h.fresh (by simp only [AV.freshL, Bool.and_eq_true] at e; exact e.1)) (h2.fresh (by simp only [AV.freshL, Bool.and_eq_true] at e; exact e.2))
theorem RelCells.fresh : ∀ {nw : Bool} {b o : Nat} {xs : List AV}, RelCells w B bs ρ nw b o xs → nw = true → AV.freshL xs = true → RelCells w (fun b => B b ∧ bs ≤ b) bs ρ nw b o xs
  | _, _, _, _, .nil, _, _ => .nil
  | _, _, _, _, .cons h1 h2 h3 h4 h5 h6, g, e => .cons ⟨h1, h2 g⟩ h2 h3 h4 (h5.fresh (by simp only [AV.freshL, Bool.and_eq_true] at e; exact e.1)) (RelCells.fresh h6 g (by simp only [AV.freshL, Bool.and_eq_true] at e; exact e.2))
theorem RelRow.fresh' : ∀ {nw : Bool} {b sz o : Nat} {xs : List AV}, RelRow w B bs ρ nw b sz o xs → nw = true → AV.freshL xs = true → RelRow w (fun b => B b ∧ bs ≤ b) bs ρ nw b sz o xs
  | _, _, _, _, _, .nil, _, _ => .nil
  | _, _, _, _, _, .cons (x := x) h1 h2 h3, g, e => .cons (RelCells.fresh h1 g (by rw [AV.freshL_cells]; simp only [AV.freshL, Bool.and_eq_true] at e; exact e.1)) h2 (RelRow.fresh' h3 g (by simp only [AV.freshL, Bool.and_eq_true] at e; exact e.2))
end
end fresh
section
variable {P : Program} {ops : Array Oper} {E : Env} {s s' : AS} {ρ σ : List Value} {B : Nat → Prop} {a : Act} {w w' : World} {o : Oper} {rest : List Oper} {Q : AS → Prop} {R : Exit → AS → Prop}
theorem flat_ones : ∀ {xs : List AV}, xs.all AV.one = true → xs.flatMap AV.cells = xs
  | [], _ => rfl
  | x :: xs, h => by
    simp only [List.all_cons, Bool.and_eq_true] at h
    rw [List.flatMap_cons, one_cells h.1, flat_ones h.2]; rfl
def Wk (x y : AV) : Prop := ∀ (w : World) (B : Nat → Prop) (bs : Nat) (ρ : List Value) (v : Value), Rel w B bs ρ x v → Rel w B bs ρ y v
def WkL (xs ys : List AV) : Prop := ∀ (w : World) (B : Nat → Prop) (bs : Nat) (ρ : List Value) (vs : List Value), RelL w B bs ρ xs vs → RelL w B bs ρ ys vs
theorem Wk.eq {x y : AV} (h : x = y) : Wk x y := by subst h; exact fun _ _ _ _ _ h => h
theorem Wk.nil {nw : Bool} {sz : Nat} : Wk (.val (.slice none 0 0)) (.sl nw sz []) := by
  intro w B bs ρ v h; cases h; exact .slE _ _ _ _
theorem WkL.nil : WkL [] [] := fun _ _ _ _ _ h => h
theorem WkL.cons {x y : AV} {xs ys : List AV} (h : Wk x y) (h2 : WkL xs ys) : WkL (x :: xs) (y :: ys) := by
  intro w B bs ρ v hr; cases hr with | cons a b => exact .cons (h _ _ _ _ _ a) (h2 _ _ _ _ _ b)
theorem Wk.agg {xs ys : List AV} (h : WkL xs ys) : Wk (.agg xs) (.agg ys) := by
  intro w B bs ρ v hr; cases hr with | agg a => exact .agg (h _ _ _ _ _ a)
theorem Wk.tup {xs ys : List AV} (h : WkL xs ys) : Wk (.tup xs) (.tup ys) := by
  intro w B bs ρ v hr; cases hr with | tup a => exact .tup (h _ _ _ _ _ a)
theorem Wk.go {x y : AV} (h : Wk x y := by
      exact Go.Abs.evW) : Wk x y := h
theorem PC.of_bodyK {f : FuncId} {fn : Func} {c : Code} {args : List AV} {r : AV} (hr : r.idsOk (fun _ => false) = true) (hf : P.funcs[f]? = some fn) (hb : fn.body = some c) (hn : args.length ≤ fn.ntmps)
    (h : AWp P c { n := fn.ntmps, m := 0, fr := frOf 0 args, ob := [] } (bodyQ P fn fun r' _ => Wk r' r)) : PC P f args r := by
  refine ⟨hr, ?_⟩
  intro ep w ρ B vs hg hw hrel R' hR'
  refine ACalls.of_body (τ := []) (R := fun r' _ => Wk r' r) hf hb hn h ep w ρ B vs hg hw hrel R' ?_
  rintro r' v τ' ρ' B' w' hh hw' hv
  have hρ : ρ = [] := by have := hw.len; simpa using this
  subst hρ
  refine hR' _ v [] [] B' w' ⟨rfl, rfl⟩ ?_ ((hh _ _ _ _ _ hv).ids (p := fun _ => false) (by intro _ _ h; simp at h) hr)
  have := hw'.cut (n := 0) (by simp) (by intro k o h; simp at h)
  simpa using this
end
attribute [push_cast] AV.fresh AV.freshL
set_option linter.unusedSectionVars false
set_option linter.unnecessarySimpa false
section
variable {P : Program} {ops : Array Oper} {E : Env} {s s' : AS} {ρ σ : List Value} {B : Nat → Prop} {a : Act} {w w' : World} {o : Oper} {rest : List Oper} {Q : AS → Prop} {R : Exit → AS → Prop}
theorem zeros_one {z : Value} {zv : Value} (h : zv.cells = #[z]) (n : Nat) : Builtin.zeroCells zv.cells n = (List.replicate n z).toArray := by
  apply Array.ext'
  simp only [Builtin.zeroCells, h]
  apply List.ext_getElem
  · simp
  · intro j h1 h2
    simp [Nat.mod_one]
theorem AOp.appendZeros {T T2 e : TypeId} {x y : Operand} {k1 kn : IntKind} {n : Nat} {z : Value} (ho : o.op = .call { callee := .builtin .append, args := #[x, y], argTypes := #[T, T2] }) (hx : s.ev x = .val (.slice none 0 0)) (hy : s.ev y = .val (.int k1 (N n)))
    (hz : elSz P T = some 1) (he : elT P T = some e) (hzc : zc P e = some [z]) (hT2 : ikd P T2 = some kn) (h0 : 0 < n) (hn : n ≤ 2 ^ 40) (hb : elB P T ≤ 2 ^ 6)
    (K : ARun P ops rest (({ s with ob := s.ob ++ [Ob.row e 1 (List.replicate n (.val z))] } : AS).put o.dst (.own s.ob.length)) Q) : AOp P ops o rest s Q := by
  refine AOp.value (s' := { s with ob := s.ob ++ [.row e 1 (List.replicate n (.val z))] }) (fun E ρ B a w hs => ?_) K
  obtain ⟨e', i, zv, hu, hi, hsz, hzz, hzl, hz1⟩ := elSz_spec hz
  have hee : e' = e := by have := elT_spec he; rw [hu] at this; simpa using this
  subst hee
  have hzv : zv.cells = #[z] := by
    simp only [zc, hi, hzz, Option.bind_some] at hzc
    split at hzc <;> simp only [Option.some.injEq, reduceCtorEq] at hzc
    apply Array.ext'; simpa using hzc
  have h4 : (AV.val z).one = true := by
    have := hz1 z (by rw [hzv]; simp)
    exact this
  have hbe : elB P T = i.bytes := elB_spec hu hi
  have hxv := (hx ▸ hs.ev x : Rel w B E.bs ρ (.val (.slice none 0 0)) (a.eval x)).val_eq
  have hyv := (hy ▸ hs.ev y : Rel w B E.bs ρ (.val (.int k1 (N n))) (a.eval y)).val_eq
  have hmul : n * i.bytes ≤ 2 ^ 40 * 2 ^ 6 := Nat.mul_le_mul hn (hbe ▸ hb)
  have hrun := Go.Lib.run_append_grow_zeros (P := P) w T T2 o.type e' i zv k1 kn hu (ikd_spec hT2) hi hzz none 0 0 [] (by simp [Builtin.firstCells]) n h0 (by omega) (by omega) (by omega) (by omega) (growslice_fits (by omega) (by rw [Nat.zero_add]; omega))
  rw [Nat.zero_add, zeros_one hzv, zeros_one hzv] at hrun
  have hcap : n ≤ grownCap w n 0 e' := by simp [grownCap, Question.cut]
  generalize hc : grownCap w n 0 e' = cap at hrun hcap
  have hsame : Same w (w.drew.alloc (.cells (List.toArray [] ++ (List.replicate n z).toArray ++ (List.replicate (cap - n) z).toArray) e')) := by
    have h1 := same_alloc w.drew (.cells (List.toArray [] ++ (List.replicate n z).toArray ++ (List.replicate (cap - n) z).toArray) e')
    exact ⟨h1.os, h1.tape, h1.output, h1.size, h1.block⟩
  have hnew : (w.drew.alloc (.cells (List.toArray [] ++ (List.replicate n z).toArray ++ (List.replicate (cap - n) z).toArray) e')).heap[w.heap.size]? = some (.cells (List.toArray (List.replicate n z ++ List.replicate (cap - n) z)) e') := by
    have := alloc_get w.drew (.cells (List.toArray [] ++ (List.replicate n z).toArray ++ (List.replicate (cap - n) z).toArray) e')
    have hs0 : w.drew.heap.size = w.heap.size := rfl
    rw [hs0] at this
    rw [this]
    simp
  have hall : (List.replicate n (AV.val z)).all AV.one = true := by
    rw [List.all_eq_true]; intro c hc; rw [(List.mem_replicate.1 hc).2]; exact h4
  have hrl : ∀ (m : Nat) (W : World) (B1 : Nat → Prop) (ρ1 : List Value), RelL W B1 E.bs ρ1 (List.replicate m (AV.val z)) (List.replicate m z) := by
    intro m W B1 ρ1
    induction m with
    | zero => exact .nil
    | succ m ih => exact .cons (.val _) ih
  refine ⟨.slice (some ⟨w.heap.size, 0, none⟩) n cap, _, ρ ++ [.slice (some ⟨w.heap.size, 0, none⟩) n cap], B, ?_, hs.new hsame ⟨?_, .inr ⟨w.heap.size, cap, List.replicate n z, List.replicate (cap - n) z, (0, 0), ?_, hnew, ?_, ?_, .inl (Nat.le_refl _), ?_⟩⟩ ?_, .own ?_ rfl⟩
  · have hrun' : (Builtin.append_ #[T, T2] o.type #[.slice none 0 0, .int k1 (N n)]).run P w = _ := hrun
    simp [execOp, ho, resolve, invoke, builtin, hxv, hyv, hrun']
  · intro c hc
    have := List.all_eq_true.1 hall c hc
    rw [one_cells this]
    exact ⟨rfl, fun u hu => by simp at hu; subst hu; exact this⟩
  · rw [List.length_replicate, ← hs.rw_.len, List.getElem?_append_right (Nat.le_refl _), Nat.sub_self]; rfl
  · simp; omega
  · simpa using hcap
  · rw [flat_ones hall]; exact hrl n _ _ _
  · intro b hb
    simp only [blk, Option.some.injEq] at hb
    subst hb
    refine ⟨Nat.le_refl _, ?_⟩
    simp [World.alloc]
  · rw [← hs.rw_.len, List.getElem?_append_right (Nat.le_refl _), Nat.sub_self]; rfl
theorem ARun2.appendZerosM {T T2 e : TypeId} {x y : Operand} {k1 kn : IntKind} {z : Value} {p : List Oper × AS} (n : Nat) (h0 : 0 < n) (hn : n ≤ 2 ^ 40) (K : ARun2 P ops p Q)
    (ho : o.op = .call { callee := .builtin .append, args := #[x, y], argTypes := #[T, T2] } := by rfl) (hg : gd ops s o = some true := by exact Go.Abs.evT) (hx : s.ev x = .val (.slice none 0 0) := by exact Go.Abs.evT) (hy : s.ev y = .val (.int k1 (N n)) := by exact Go.Abs.evT)
    (hz : elSz P T = some 1 := by exact Go.Abs.evT) (he : elT P T = some e := by exact Go.Abs.evT) (hzc : zc P e = some [z] := by exact Go.Abs.evT) (hT2 : ikd P T2 = some kn := by exact Go.Abs.evT) (hb : decide (elB P T ≤ 2 ^ 6) = true := by exact Go.Abs.evT)
    (h : srun P ops rest (({ s with ob := s.ob ++ [Ob.row e 1 (List.replicate n (.val z))] } : AS).put o.dst (.own s.ob.length)) = p := by
        exact Go.Abs.evE) : ARun2 P ops (o :: rest, s) Q :=
  ARun.exec hg (AOp.appendZeros ho hx hy hz he hzc hT2 h0 hn (of_decide_eq_true hb) (ARun.srun (h ▸ K)))
theorem AOp.frontOwn {T e : TypeId} {x hi : Operand} {k sz m : Nat} {xs : List AV} {kk : IntKind} (ho : o.op = .slice T x none (some hi) none) (hx : s.ev x = .own k) (hk : s.ob[k]? = some (.row e sz xs)) (hh : s.ev hi = .val (.int kk (N m)))
    (hz : elSz P T = some sz) (hm : m ≤ xs.length) (hid : AV.idsOkL (· != k) xs = true)
    (K : ARun P ops rest (({ s with ob := (s.ob.map (Ob.inval k)).set k (.row e sz (xs.take m)), fr := frInval k s.fr } : AS).put o.dst (.own k)) Q) : AOp P ops o rest s Q := by
  refine AOp.value (s' := { s with ob := (s.ob.map (Ob.inval k)).set k (.row e sz (xs.take m)), fr := frInval k s.fr }) (fun E ρ B a w hs => ?_) K
  obtain ⟨e', ti, zv, hu, hti, hsz, _⟩ := elSz_spec hz
  have hxr := hs.ev x
  rw [hx] at hxr
  have hhv := (hh ▸ hs.ev hi : Rel w B E.bs ρ (.val (.int kk (N m))) (a.eval hi)).val_eq
  generalize hq : a.eval x = u at hxr
  have hob := hs.rw_.obs k _ hk
  obtain ⟨h0, hob⟩ := hob
  have hkl := get_lt hk
  have hkr : k < ρ.length := by rw [hs.rw_.len]; exact hkl
  have hids : ∀ (i : Nat) (u' v' : Value), (i != k) = true → ρ[i]? = some u' → (ρ.set k v')[i]? = some u' := by
    intro i u' v' hi' hu'
    have hne : k ≠ i := by have : i ≠ k := by simpa using hi'
                           exact this.symm
    rw [List.getElem?_set_ne hne]; exact hu'
  have hidc : AV.idsOkL (· != k) ((xs.take m).flatMap AV.cells) = true := by
    rw [AV.idsOkL_iff] at hid ⊢
    intro c hc
    simp only [List.mem_flatMap] at hc
    obtain ⟨x', hx', hc⟩ := hc
    have := hid x' (List.mem_of_mem_take hx')
    rw [← AV.idsOkL_cells, AV.idsOkL_iff] at this
    exact this c hc
  have h0' : ∀ y ∈ xs.take m, y.cells.length = sz ∧ ∀ c ∈ y.cells, c.one = true := fun y hy => h0 y (List.mem_of_mem_take hy)
  cases hxr with
  | own hp h1 =>
    rcases hob with ⟨rfl, hr⟩ | ⟨b, cap, vs, ws, fz, r1, r2, r3, r4, r5, r6⟩
    · have hv : u = .slice none 0 0 := by rw [hr] at hp; exact (Option.some.inj hp).symm
      subst hv
      obtain rfl : m = 0 := by simpa using hm
      have hb := run_bounds (P := P) (w := w) (lo := none) (hi := some (.int kk (N 0))) (l := 0) (h := 0) (n := 0) (c := 0) true rfl rfl (Int.le_refl _) (Int.le_refl _) (Int.le_refl _) (Nat.le_refl _)
      refine ⟨.slice none 0 0, w, ρ.set k (.slice none 0 0), B, ?_, hs.regrow hk hp rfl rfl rfl rfl (Nat.le_refl _) (fun _ _ _ => rfl) (fun b hb => by simp [blk] at hb) ⟨by simp, .inl ⟨by simp, by rw [List.getElem?_set_self hkr]⟩⟩, .own (by rw [List.getElem?_set_self hkr]) rfl⟩
      simp only [execOp, ho]
      refine val_run ?_
      simp only [Instr.sliceAt, Sem.run_bind, run_underlying hu, Result.andThen_ok, Instr.slice, hq, hhv, Option.map_some, Option.map_none, hb, run_sizeOf hti, hsz, Sem.run_pure]
      simp
    · have hv : u = .slice (some ⟨b, 0, none⟩) xs.length cap := by rw [r1] at hp; exact (Option.some.inj hp).symm
      subst hv
      have hb := run_bounds (P := P) (w := w) (lo := none) (hi := some (.int kk (N m))) (l := 0) (h := N m) (n := xs.length) (c := cap) true rfl rfl (Int.le_refl _) (Int.natCast_nonneg m) (Int.ofNat_le.2 hm) r4
      have hvl : vs.length = xs.length * sz := by
        have := r6.length_eq
        rw [← this]
        exact flat_len fun y hy => (h0 y hy).1
      have htl : ((xs.take m).flatMap AV.cells).length = m * sz := by
        rw [flat_len (fun y hy => (h0' y hy).1), List.length_take, Nat.min_eq_left hm]
      have hle : m * sz ≤ xs.length * sz := Nat.mul_le_mul_right _ hm
      have hsplit : xs.flatMap AV.cells = (xs.take m).flatMap AV.cells ++ (xs.drop m).flatMap AV.cells := by
        rw [← List.flatMap_append, List.take_append_drop]
      have hrel := r6.take (m * sz)
      rw [hsplit, List.take_left' htl] at hrel
      refine ⟨.slice (some ⟨b, 0, none⟩) m cap, w, ρ.set k (.slice (some ⟨b, 0, none⟩) m cap), B, ?_, hs.regrow hk hp rfl rfl rfl rfl (Nat.le_refl _) (fun _ _ _ => rfl) (fun b' hb' => .inl hb')
        ⟨h0', .inr ⟨b, cap, vs.take (m * sz), vs.drop (m * sz) ++ ws, fz, ?_, ?_, ?_, ?_, ?_, hrel.ids (fun i u' hi' hu' => hids i u' _ hi' hu') hidc⟩⟩, .own (by rw [List.getElem?_set_self hkr]) rfl⟩
      · simp only [execOp, ho]
        refine val_run ?_
        simp only [Instr.sliceAt, Sem.run_bind, run_underlying hu, Result.andThen_ok, Instr.slice, hq, hhv, Option.map_some, Option.map_none, hb, run_sizeOf hti, hsz, Sem.run_pure]
        simp [N]
        intro _; rfl
      · rw [List.getElem?_set_self hkr, List.length_take, Nat.min_eq_left hm]
      · rw [← List.append_assoc, List.take_append_drop]; exact r2
      · rw [← List.append_assoc, List.take_append_drop]; exact r3
      · rw [List.length_take]; omega
      · rw [← List.append_assoc, List.take_append_drop]; exact r5
theorem ARun2.frontOwnM {T e : TypeId} {x hi : Operand} {k sz : Nat} {xs : List AV} {kk : IntKind} {p : List Oper × AS} (m : Nat) (hm : m ≤ xs.length) (K : ARun2 P ops p Q) (ho : o.op = .slice T x none (some hi) none := by rfl) (hg : gd ops s o = some true := by exact Go.Abs.evT)
    (hx : s.ev x = .own k := by exact Go.Abs.evT) (hk : s.ob[k]? = some (.row e sz xs) := by exact Go.Abs.evT) (hh : s.ev hi = .val (.int kk (N m)) := by exact Go.Abs.evT) (hz : elSz P T = some sz := by exact Go.Abs.evT) (hid : AV.idsOkL (· != k) xs = true := by exact Go.Abs.evT)
    (h : srun P ops rest (({ s with ob := (s.ob.map (Ob.inval k)).set k (.row e sz (xs.take m)), fr := frInval k s.fr } : AS).put o.dst (.own k)) = p := by
        exact Go.Abs.evE) : ARun2 P ops (o :: rest, s) Q :=
  ARun.exec hg (AOp.frontOwn ho hx hk hh hz hm hid (ARun.srun (h ▸ K)))
theorem ARun2.frontNilM {T : TypeId} {x hi : Operand} {kk : IntKind} {p : List Oper × AS} (K : ARun2 P ops p Q) (ho : o.op = .slice T x none (some hi) none := by rfl) (hg : gd ops s o = some true := by exact Go.Abs.evT)
    (hx : s.ev x = .val (.slice none 0 0) := by exact Go.Abs.evT) (hh : s.ev hi = .val (.int kk 0) := by exact Go.Abs.evT) (hz : (elSz P T).isSome = true := by exact Go.Abs.evT)
    (h : srun P ops rest (s.put o.dst (.val (.slice none 0 0))) = p := by
        exact Go.Abs.evE) : ARun2 P ops (o :: rest, s) Q := by
  refine ARun.exec hg (AOp.pure1 (fun E ρ B a w hs => ?_) (ARun.srun (h ▸ K)))
  obtain ⟨sz, hz⟩ := Option.isSome_iff_exists.1 hz
  obtain ⟨e', ti, zv, hu, hti, hsz, _⟩ := elSz_spec hz
  have hxv := (hx ▸ hs.ev x : Rel w B E.bs ρ (.val (.slice none 0 0)) (a.eval x)).val_eq
  have hhv := (hh ▸ hs.ev hi : Rel w B E.bs ρ (.val (.int kk 0)) (a.eval hi)).val_eq
  have hb := run_bounds (P := P) (w := w) (lo := none) (hi := some (.int kk 0)) (l := 0) (h := 0) (n := 0) (c := 0) true rfl rfl (Int.le_refl _) (Int.le_refl _) (Int.le_refl _) (Nat.le_refl _)
  refine ⟨.slice none 0 0, ?_, .val _⟩
  simp only [execOp, ho]
  refine val_run ?_
  simp only [Instr.sliceAt, Sem.run_bind, run_underlying hu, Result.andThen_ok, Instr.slice, hxv, hhv, Option.map_some, Option.map_none, hb, run_sizeOf hti, hsz, Sem.run_pure]
  simp
theorem ARun2.capNilM {T : TypeId} {x : Operand} {p : List Oper × AS} (K : ARun2 P ops p Q) (ho : o.op = .call { callee := .builtin .cap, args := #[x], argTypes := #[T] } := by rfl) (hg : gd ops s o = some true := by exact Go.Abs.evT)
    (hx : s.ev x = .val (.slice none 0 0) := by exact Go.Abs.evT) (hz : (elSz P T).isSome = true := by exact Go.Abs.evT)
    (h : srun P ops rest (s.put o.dst (.val (.int .i64 0))) = p := by
        exact Go.Abs.evE) : ARun2 P ops (o :: rest, s) Q := by
  refine ARun.exec hg (AOp.pure1 (fun E ρ B a w hs => ?_) (ARun.srun (h ▸ K)))
  obtain ⟨sz, hz⟩ := Option.isSome_iff_exists.1 hz
  obtain ⟨e', ti, zv, hu, hti, hsz, _⟩ := elSz_spec hz
  have hxv := (hx ▸ hs.ev x : Rel w B E.bs ρ (.val (.slice none 0 0)) (a.eval x)).val_eq
  refine ⟨.int .i64 0, ?_, .val _⟩
  simp [execOp, ho, resolve, invoke, builtin, hxv, Builtin.cap_, run_underlying hu, goInt]
def Ho (ids : List Nat) (x y : AV) : Prop := ∀ (w : World) (B : Nat → Prop) (bs : Nat) (ρ σ : List Value) (v : Value), (∀ i k : Nat, ids[i]? = some k → σ[i]? = ρ[k]?) → Rel w B bs ρ x v → Rel w B bs σ y v
def HoL (ids : List Nat) (xs ys : List AV) : Prop := ∀ (w : World) (B : Nat → Prop) (bs : Nat) (ρ σ : List Value) (vs : List Value), (∀ i k : Nat, ids[i]? = some k → σ[i]? = ρ[k]?) → RelL w B bs ρ xs vs → RelL w B bs σ ys vs
theorem Ho.hand {ids : List Nat} {x y : AV} (h : Hand ids x y) : Ho ids x y := fun w B bs ρ σ v hi hr => h w B bs bs ρ σ v (Nat.le_refl _) hi hr
theorem Ho.eq {ids : List Nat} {x y : AV} (h : x = y) (hp : x.idsOk (fun _ => false) = true) : Ho ids x y := by
  subst h
  exact fun w B bs ρ σ v hi hr => hr.ids (p := fun _ => false) (by intro _ _ h; simp at h) hp
theorem HoL.nil {ids : List Nat} : HoL ids [] [] := fun _ _ _ _ _ _ _ h => by cases h; exact .nil
theorem HoL.cons {ids : List Nat} {x y : AV} {xs ys : List AV} (h : Ho ids x y) (h2 : HoL ids xs ys) : HoL ids (x :: xs) (y :: ys) := by
  intro w B bs ρ σ v hi hr; cases hr with | cons a b => exact .cons (h _ _ _ _ _ _ hi a) (h2 _ _ _ _ _ _ hi b)
theorem Ho.agg {ids : List Nat} {xs ys : List AV} (h : HoL ids xs ys) : Ho ids (.agg xs) (.agg ys) := by
  intro w B bs ρ σ v hi hr; cases hr with | agg a => exact .agg (h _ _ _ _ _ _ hi a)
theorem Ho.tup {ids : List Nat} {xs ys : List AV} (h : HoL ids xs ys) : Ho ids (.tup xs) (.tup ys) := by
  intro w B bs ρ σ v hi hr; cases hr with | tup a => exact .tup (h _ _ _ _ _ _ hi a)
theorem Ho.nilS {ids : List Nat} {nw : Bool} {sz : Nat} : Ho ids (.val (.slice none 0 0)) (.sl nw sz []) := by
  intro w B bs ρ σ v _ h; cases h; exact .slE _ _ _ _
theorem Ho.go {ids : List Nat} {x y : AV} (h : Ho ids x y := by
      try simp only [push_cast, ↓reduceIte, Nat.reduceEqDiff, Nat.reduceLT, Nat.reduceAdd, Nat.reduceSub, Nat.reduceMul, Nat.reduceLeDiff, Nat.reducePow, Int.reduceLT, Int.reduceToNat, reduceCtorEq, Int.reduceNeg, Int.reduceEq, Nat.reduceBEq, Nat.reduceBNe, Int.reduceBEq, Int.reduceBNe, String.reduceEq]
      try simp (disch := omega) only [w_nat, w_add, w_addl, w_addr, w_sub, w_subl, w_mul, w_mull, w_mulr, w_u32, w_u16, w_u8, w_u32a, N_zero]
      repeat' (first | assumption | exact HoL.nil | exact Ho.nilS | exact Ho.eq (by exact Go.Abs.evT) (by exact Go.Abs.evT) | exact Ho.hand (Hand.eq (by exact Go.Abs.evT) (by exact Go.Abs.evT)) | refine HoL.cons ?_ ?_ | refine Ho.agg ?_ | refine Ho.tup ?_)) : Ho ids x y := h
def endK (ids : List Nat) (r0 : AV) (τ' : List Ob) (r : AV) (s : AS) : Prop := ids.Nodup ∧ SubOL ids s.ob ids τ' ∧ Ho ids r r0
theorem endK.m {ids : List Nat} {r0 r : AV} {τ' τ : List Ob} (hτ : τ = τ') (hr : Ho ids r r0) (hn : ids.Nodup := by first | rfl | decide) (hok : handObsOk ids s.ob ids = true := by exact Go.Abs.evT) (hh : handObs ids s.ob ids = τ := by
        exact Go.Abs.evE) : endK ids r0 τ' r s :=
  ⟨hn, (hh.trans hτ) ▸ SubOL.hand hok, hr⟩
theorem OC.of_bodyK {f : FuncId} {fn : Func} {c : Code} {args : List AV} {τ τ' : List Ob} {r0 : AV} (ids : List Nat) (h0 : ∀ k, k < τ.length → ids[k]? = some k) (hf : P.funcs[f]? = some fn) (hb : fn.body = some c) (hn : args.length ≤ fn.ntmps)
    (h : AWp P c { n := fn.ntmps, m := τ.length, fr := frOf 0 args, ob := τ } (bodyQ P fn (endK ids r0 τ'))) : OC P f args τ r0 τ' := by
  intro ep w ρ B vs hg hw hr R' hR'
  have hs := RS.init (n := fn.ntmps) hw hr (by rw [← hr.length_eq]; exact hn)
  refine calls_body (E0.ok ep w B ρ P hg) rfl hf hb (by simpa using hs) h ?_
  rintro r v s' ρ' B' a' w' ⟨e1, e2, e3⟩ hs' hv
  refine hR' r0 v τ' (pick ρ' ids) B' w' ⟨rfl, rfl⟩ (hs'.rw_.sel e1 e2 (fun k hk => h0 k (by simpa [hw.len] using hk))) ?_
  exact e3 _ _ _ _ _ _ (fun i k hi => pick_at hs'.rw_ e2 hi) hv
theorem stepR_scope {b : Frame} {a : Act} {k : List Item} {cs : List Frame} {w : World} {c : Code} : step P (lone (b.atR a (.code (.scope c) :: k)) cs w) = .next (lone (b.atR a (.code c :: .inScope c :: k)) cs w) :=
  step_lone_go (by simp [stepG, stepG.exec, Frame.atR])
theorem stepR_inScope {b : Frame} {a : Act} {k : List Item} {cs : List Frame} {w : World} {c : Code} : step P (lone (b.atR a (.inScope c :: k)) cs w) = .next (lone (b.atR a k) cs w) :=
  step_lone_go (by simp [stepG, stepG.exec, Frame.atR])
theorem wpIn_scope {F : Fence} {n : Nat} {c : Code} {Q : Exit → Act → World → Prop} {a : Act} {w : World} (hg : ∀ l a w, ¬ Q (.goto l) a w) (h : c.wpIn F n P Q a w) : (Code.scope c).wpIn F n P Q a w := by
  intro b k cs hro hb hr
  have h0 : (lone (b.atR a (.code (.scope c) :: k)) cs w).fenced P F := fenced_calm hb hr rfl
  obtain ⟨e, a₁, w₁, hq, harr⟩ := h b (.inScope c :: k) cs hro hb hr
  cases e with
  | normal => exact ⟨.normal, a₁, w₁, hq, .head h0 stepR_scope (StepsIn.trans harr (.one (fenced_calm hb hr rfl) stepR_inScope))⟩
  | exit id =>
    have hx : exitTo id (.inScope c :: k) = exitTo id k := by simp [exitTo]
    exact ⟨.exit id, a₁, w₁, hq, fun k' hk => .head h0 stepR_scope (harr.1 k' (by rw [hx]; exact hk)),
      fun hr' hk => let ⟨k₁, h1, h2⟩ := harr.2 hr' (by rw [hx]; exact hk); ⟨k₁, h1, .head h0 stepR_scope h2⟩⟩
  | goto l => exact absurd hq (hg _ _ _)
  | ret => exact ⟨_, a₁, w₁, hq, .of_steps (.one h0 stepR_scope) harr⟩
  | panic ch => exact ⟨_, a₁, w₁, hq, .of_steps (.one h0 stepR_scope) harr⟩
  | outgrown => exact ⟨_, a₁, w₁, hq, .of_steps (.one h0 stepR_scope) harr⟩
theorem AWp.scope {c : Code} (h : AWp P c s (noGo R)) : AWp P (.scope c) s R := by
  intro E hE ρ B a w hs Q' hQ
  have := h E hE ρ B a w hs (fun e a w => (∀ l, e ≠ .goto l) ∧ Q' e a w) fun e s' ρ' B' a' w' hq hs' => by
    cases e with
    | goto l => exact hq.elim
    | _ => exact ⟨(by rintro l ⟨⟩), hQ _ _ _ _ _ _ hq hs'⟩
  exact wpIn_mono (wpIn_scope (fun l a w hq => hq.1 l rfl) this) fun e a w hq => hq.2
end
set_option linter.unusedSectionVars false
set_option linter.unnecessarySimpa false
section
variable {P : Program} {ops : Array Oper} {E : Env} {s s' : AS} {ρ σ : List Value} {B : Nat → Prop} {a : Act} {w w' : World} {o : Oper} {rest : List Oper} {Q : AS → Prop} {R : Exit → AS → Prop}
theorem PC.of_own {f : FuncId} {ys : List AV} {e : TypeId} {sz : Nat} {xs : List AV} (h : OC P f ys [] (.own 0) [.row e sz xs]) (hx : AV.idsOkL (fun _ => false) xs = true := by simp only [push_cast]) : PC P f ys (.sl true sz xs) := by
  refine ⟨by simpa [AV.idsOk] using hx, fun ep w ρ B vs hg hw hr R' hR' => ?_⟩
  refine h ep w ρ B vs hg hw hr R' ?_
  rintro r v τ' ρ' B' w' ⟨rfl, rfl⟩ hw' hv
  have hρ : ρ = [] := by have := hw.len; simpa using this
  subst hρ
  obtain ⟨B2, u, k1, k2, k3, k4, _⟩ := hw'.publish (k := 0) rfl (Nat.zero_le _)
  have hu : u = v := by
    cases hv with
    | own hp _ => rw [k2] at hp; exact Option.some.inj hp
  subst hu
  have hc := k3.cut (n := 0) (by simp) (by intro k o h; simp at h)
  refine hR' _ u [] [] B2 w' ⟨rfl, rfl⟩ (by simpa using hc) (k4.ids (p := fun _ => false) (by intro _ _ h; simp at h) (by simpa [AV.idsOk] using hx))
theorem Le.nilSl (t : Nat) (nw : Bool) (sz : Nat) (h : lk s.fr t = .val (.slice none 0 0)) : Le s { s with fr := (t, .sl nw sz []) :: del s.fr t } := by
  intro E ρ B a w hs
  refine ⟨ρ, B, hs.rw_, hs.m, hs.n, hs.df, hs.jj, ?_⟩
  intro u x hm
  rcases List.mem_cons.1 hm with e | hm
  · have e1 : u = t := congrArg Prod.fst e
    have e2 : x = .sl nw sz [] := congrArg Prod.snd e
    subst e1; subst e2
    have hg := hs.get u
    rw [h] at hg
    refine ⟨?_, ?_⟩
    · rcases lk_mem h with hx | hx
      · cases hx
      · exact (hs.rf u _ hx).1
    · rw [hg.val_eq]; exact .slE _ _ _ _
  · exact hs.rf u x (del_mem hm).1
theorem AWp.nilSl {c : Code} (t : Nat) (nw : Bool) (sz : Nat) {s' : AS} (K : AWp P c s' R) (h : lk s.fr t = .val (.slice none 0 0) := by exact Go.Abs.evT) (hs' : { s with fr := (t, .sl nw sz []) :: del s.fr t } = s' := by
        exact Go.Abs.evE) : AWp P c s R :=
  AWp.weak (Le.nilSl t nw sz h) (hs' ▸ K)
end
set_option linter.unusedSectionVars false
set_option linter.unnecessarySimpa false
section
variable {P : Program} {ops : Array Oper} {E : Env} {s s' : AS} {ρ σ : List Value} {B : Nat → Prop} {a : Act} {w w' : World} {o : Oper} {rest : List Oper} {Q : AS → Prop} {R : Exit → AS → Prop}
@[push_cast] theorem idsOkL_app (p : Nat → Bool) (l m : List AV) : AV.idsOkL p (l ++ m) = (AV.idsOkL p l && AV.idsOkL p m) := by
  rw [Bool.eq_iff_iff, Bool.and_eq_true, AV.idsOkL_iff, AV.idsOkL_iff, AV.idsOkL_iff]
  simp only [List.mem_append]
  exact ⟨fun h => ⟨fun x hx => h x (.inl hx), fun x hx => h x (.inr hx)⟩, fun h x hx => hx.elim (h.1 x) (h.2 x)⟩
end
set_option linter.unusedSectionVars false
section
variable {P : Program} {ops : Array Oper} {E : Env} {s s' : AS} {o : Oper} {rest : List Oper} {Q : AS → Prop} {R : Exit → AS → Prop} {nds : List (List (Nat × Option Nat))} {vals : List AV} {G : Prop}
attribute [push_cast] Option.toList_some
theorem AAny.zero {listed : Array Bool} (h : Region.ready .any ops listed = []) (q : Q s) : AAny P ops 0 listed Q s := by
  intro E hE ρ B a w hs Q' hQ
  exact ⟨h, hQ _ _ _ _ _ q hs⟩
theorem AAny.step {fuel : Nat} {listed : Array Bool} {l : List Nat} (h : Region.ready .any ops listed = l) (hl : l ≠ []) (k : ∀ j ∈ l, ∃ o, ops[j]? = some o ∧ ARun P ops [o] s (fun s' => AAny P ops fuel (listed.setIfInBounds j true) Q s')) :
    AAny P ops (fuel + 1) listed Q s := by
  intro E hE ρ B a w hs Q' hQ
  refine ⟨fun e => absurd (h.symm.trans e) hl, fun i hi => ?_⟩
  obtain ⟨o, ho, hk⟩ := k i (h ▸ hi)
  have := hk E hE ρ B a w hs (fun e a w => match e with | .normal => wpAnyIn (FR E.rnd) 0 P .any ops Q' fuel (listed.setIfInBounds i true) a w | e => Q' e a w) (fun s' ρ' B' a' w' q hs' => q E hE ρ' B' a' w' hs' Q' hQ)
  unfold wpOpIn
  simp only [ho]
  simp only [lwp] at this
  split
  · rename_i hw; rw [if_pos hw] at this; exact wpIn_mono2 (fun _ _ h => h) (fun e a w he h => by cases e <;> first | exact absurd rfl he | exact h) this
  · rename_i hw; rw [if_neg hw] at this; exact ⟨fun _ _ => trivial, this⟩
theorem AAny.fin {listed : Array Bool} (q : Q s) (h : Region.ready .any ops listed = [] := by kernel_rfl) : AAny P ops 0 listed Q s := AAny.zero h q
theorem AAny.one {fuel : Nat} {listed : Array Bool} (j : Nat) (k : ARun P ops (ops[j]?).toList s (fun s' => AAny P ops fuel (listed.setIfInBounds j true) Q s')) (ho : (ops[j]?).isSome = true := by kernel_rfl) (h : Region.ready .any ops listed = [j] := by kernel_rfl) :
    AAny P ops (fuel + 1) listed Q s := by
  refine AAny.step h (by simp) fun i hi => ?_
  have : i = j := by simpa using hi
  subst this
  obtain ⟨o, ho⟩ := Option.isSome_iff_exists.1 ho
  exact ⟨o, ho, by rw [ho] at k; exact k⟩
theorem ARun.opM {l : List Oper} {p : List Oper × AS} (k : ARun2 P ops p Q) (h : Abs.srun P ops l s = p := by
        exact Go.Abs.evE) : ARun P ops l s Q := ARun.srun (h ▸ k)
def drawnT (ops : Array Oper) (n sn : Nat) (nds : List (List (Nat × Option Nat))) : Bool :=
  decide (n < ops.size) && ((List.range n).all fun i => Region.waitsFor .any ops n i || (List.range n).any fun j => decide (i < j) && Region.waitsFor .any ops j i) &&
  ((List.range ops.size).all fun j => decide (j ≤ n) || (List.range j).any fun i => decide (n ≤ i) && Region.waitsFor .any ops j i) && drawnH ops n sn nds
theorem drawnT.tail {n sn : Nat} (h : drawnT ops n sn nds = true) {listed : Array Bool} (inv : HeadInv .any ops n listed) : ∀ (d i : Nat), n - i = d → i < n → listed.getD i true = false → ∀ t, n ≤ t → t ∉ Region.ready .any ops listed := by
  simp only [drawnT, Bool.and_eq_true, decide_eq_true_eq] at h
  obtain ⟨⟨⟨hn, hs⟩, hc⟩, _⟩ := h
  intro d
  induction d using Nat.strongRecOn with
  | _ d ih =>
    intro i hd hi hun t ht hr
    obtain ⟨_, ot, hot, hall⟩ := mem_ready.1 hr
    have htlt : t < ops.size := (Array.getElem?_eq_some_iff.1 hot).1
    by_cases htn : t = n
    · subst htn
      have h1 := List.all_eq_true.1 hs i (List.mem_range.2 hi)
      simp only [Bool.or_eq_true] at h1
      rcases h1 with h1 | h1
      · obtain ⟨oj, hoj, e, he, hb, hon⟩ := Region.waitsFor_spec h1
        have : oj = ot := Option.some.inj (hoj.symm.trans hot)
        subst this
        have h2 := hall e he hb
        rw [hon, getD_both hun] at h2
        cases h2
      · obtain ⟨j, hj, hj2⟩ := List.any_eq_true.1 h1
        simp only [Bool.and_eq_true, decide_eq_true_eq] at hj2
        obtain ⟨oj, hoj, e, he, hb, hon⟩ := Region.waitsFor_spec hj2.2
        have hjlt := List.mem_range.1 hj
        cases hl : listed.getD j false with
        | true =>
          have h2 := inv.closed j oj hoj hl e he hb
          rw [hon, getD_both hun] at h2
          cases h2
        | false =>
          have hjs : j < listed.size := by rw [inv.size]; omega
          exact ih (t - j) (by omega) j rfl (by omega) (getD_in hjs hl) t (Nat.le_refl _) hr
    · have h1 := List.all_eq_true.1 hc t (List.mem_range.2 htlt)
      simp only [Bool.or_eq_true, decide_eq_true_eq] at h1
      rcases h1 with h1 | h1
      · omega
      · obtain ⟨i', hi', h1⟩ := List.any_eq_true.1 h1
        simp only [Bool.and_eq_true, decide_eq_true_eq] at h1
        obtain ⟨o', ho', e, he, hb, hon⟩ := Region.waitsFor_spec h1.2
        have : o' = ot := Option.some.inj (ho'.symm.trans hot)
        subst this
        have h2 := hall e he hb
        have := List.mem_range.1 hi'
        rw [hon, getD_both (inv.tail i' h1.1 (by omega))] at h2
        cases h2
theorem AAny.weak {fuel : Nat} {listed : Array Bool} (h : Le s s') (k : AAny P ops fuel listed Q s') : AAny P ops fuel listed Q s := by
  intro E hE ρ B a w hs Q' hQ
  obtain ⟨ρ', B', hs'⟩ := h E ρ B a w hs
  exact k E hE ρ' B' a w hs' Q' hQ
def EdL (P : Program) (ops : Array Oper) (f : Nat) (L : Array Bool) (Q : AS → Prop) (x : AS) : List Nat → Prop
  | [] => True
  | j :: r => (∃ y L', L.setIfInBounds j true = L' ∧ ARun P ops (ops[j]?).toList x (fun s' => Le s' y) ∧ AAny P ops f L' Q y) ∧ EdL P ops f L Q x r
theorem EdL.get {f : Nat} {L : Array Bool} {x : AS} : ∀ {l : List Nat}, EdL P ops f L Q x l → ∀ j ∈ l, ∃ y L', L.setIfInBounds j true = L' ∧ ARun P ops (ops[j]?).toList x (fun s' => Le s' y) ∧ AAny P ops f L' Q y
  | [], _, j, h => by cases h
  | i :: r, h, j, hj => by
    rcases List.mem_cons.1 hj with rfl | hj
    · exact h.1
    · exact EdL.get h.2 j hj
theorem AAny.ofL {f : Nat} {L : Array Bool} {x : AS} (l : List Nat) (h : Region.ready .any ops L = l) (hne : l ≠ []) (k : EdL P ops f L Q x l) : AAny P ops (f + 1) L Q x := by
  refine AAny.step h hne fun j hj => ?_
  obtain ⟨y, L', rfl, e, a⟩ := k.get j hj
  obtain ⟨_, o, ho, _⟩ := mem_ready.1 (h.symm ▸ hj)
  rw [ho] at e
  exact ⟨o, ho, e.mono fun s' hle => AAny.weak hle a⟩
section node
variable {f0 : Nat} {L0 : Array Bool} {Q0 : AS → Prop} {x0 x1 s0 s1 xr : AS}
theorem ANode.new {S : AS} (j : Nat) (h0 : x0 = s0) (e : ARun P ops (ops[j]?).toList s0 (fun s' => Le s' S)) (k : ∀ x, x = S → ARun P ops (ops[j]?).toList x0 (fun s' => Le s' x) → AAny P ops f0 L0 Q0 xr) : AAny P ops f0 L0 Q0 xr := k S rfl (h0 ▸ e)
theorem ANode.fin (L : Array Bool) (h0 : x0 = s0) (q : Q0 s0) (k : AAny P ops 0 L Q0 x0 → AAny P ops f0 L0 Q0 xr) (h : Region.ready .any ops L = [] := by kernel_rfl) : AAny P ops f0 L0 Q0 xr := k (h0 ▸ AAny.zero h q)
theorem ANode.up {f : Nat} {x : AS} (L : Array Bool) (l : List Nat) (hne : l ≠ []) (e : EdL P ops f L Q0 x l) (k : AAny P ops (f + 1) L Q0 x → AAny P ops f0 L0 Q0 xr) (h : Region.ready .any ops L = l := by kernel_rfl) : AAny P ops f0 L0 Q0 xr := k (AAny.ofL l h hne e)
end node
theorem ASpec.own {T e : TypeId} {sz : Nat} (hg : gd ops s o = some true) (ho : o.op = .buildSlice T 0 #[]) (hz : elSz P T = some sz) (he : elT P T = some e) : ASpec P ops o s (.own s.ob.length) (.row e sz []) := by
  intro E ρ B a w hs K Q' hK
  rw [if_pos (gd_wanted hg hs)]
  obtain ⟨e', vs, hu, hr, hrel, h1, hvl⟩ := run_buildSlice (s := s) hz (parts := #[]) (len := 0) rfl (fun p hp => by simp at hp) (by simp) hs
  have hee : e' = e := by
    have := elT_spec he
    rw [hu] at this
    simpa using this
  subst hee
  have hsame := same_alloc w (.cells (List.toArray vs) e')
  have hBw : ∀ b, B b → (w.alloc (.cells (List.toArray vs) e')).heap[b]? = w.heap[b]? := fun b hb => hsame.block b (hs.rw_.blt b hb)
  have hn : RS E { s with ob := s.ob ++ [.row e' sz []] } (ρ ++ [.slice (some ⟨w.heap.size, 0, none⟩) 0 0]) B a (w.alloc (.cells (List.toArray vs) e')) := by
    refine hs.new hsame ⟨?_, .inr ⟨w.heap.size, 0, vs, [], (0, 0), ?_, ?_, ?_, ?_, .inl (Nat.le_refl _), ?_⟩⟩ ?_
    · intro x hx'; simp at hx'
    · rw [← hs.rw_.len, List.getElem?_append_right (Nat.le_refl _), Nat.sub_self]; rfl
    · rw [List.append_nil]; exact alloc_get _ _
    · rw [List.append_nil]; exact hvl
    · exact Nat.le_refl _
    · exact hrel.mono (fun _ h => h) hBw (Nat.le_refl _) (fun _ _ h => get_append_some h)
    · intro b hb
      simp only [blk, Option.some.injEq] at hb
      subst hb
      exact ⟨Nat.le_refl _, by simp⟩
  have hrun : (execOp a.eval o).run P w = .ok (.value (.slice (some ⟨w.heap.size, 0, none⟩) 0 0)) (w.alloc (.cells (List.toArray vs) e')) := by
    simp only [execOp, ho]; exact val_run hr
  refine owp_value hrun (hK _ _ _ hn.rj hBw (.own ?_ rfl))
  rw [← hs.rw_.len, List.getElem?_append_right (Nat.le_refl _), Nat.sub_self]; rfl
theorem Dr.ownS (k : Dr P ops s nds (vals ++ [.own s.ob.length]) G) (hn : ndsB nds = true := by first | rfl | decide) (hv : (nds.getD vals.length [] == [(s.n, none)]) = true := by first | rfl | decide) (hol : ops[vals.length]? = some o := by exact Go.Abs.evT) : Dr P ops s nds vals G := by
  refine Dr.step' hn hol (fun _ => ?_) k
  intro E hE ρ B a w ob hs K Q' hK
  have hv' : nds.getD vals.length [] = [(s.n, none)] := by simpa using hv
  exfalso
  have h := (hs.rf s.n (lk s.fr s.n) (by simp only [hv', needFr]; exact List.mem_singleton.2 rfl)).1
  rw [hs.n] at h
  exact Nat.lt_irrefl _ h
end
set_option linter.unusedSectionVars false
section
variable {P : Program} {ops : Array Oper} {E : Env} {s s' : AS} {ρ : List Value} {B : Nat → Prop} {a : Act} {w w' : World} {o : Oper} {rest : List Oper} {Q : AS → Prop} {R : Exit → AS → Prop} {nds : List (List (Nat × Option Nat))} {vals : List AV} {G : Prop}
theorem NSpec.boolEq {op : BinOp} {T X : TypeId} {x y : Operand} {b c : Bool} (hgd : gd ops s o = some true) (ho : o.op = .binOp op T x y X) (hop : op = .eql ∨ op = .neq) (hT : isBl P T = true) (hx : s.ev x = .val (.bool b)) (hy : s.ev y = .val (.bool c)) :
    NSpec P ops o s (.val (.bool (if op = .eql then b == c else b != c))) := by
  refine NSpec.pure1 hgd fun E ρ B a w ob hs => ⟨.bool (if op = .eql then b == c else b != c), ?_, .val _⟩
  have hev : AS.ev { s with ob := s.ob ++ ob } = s.ev := funext fun y => by cases y <;> rfl
  have hu := isBl_spec hT
  have e1 : a.eval x = .bool b := by have h := hs.ev x; rw [hev, hx] at h; exact h.val_eq
  have e2 : a.eval y = .bool c := by have h := hs.ev y; rw [hev, hy] at h; exact h.val_eq
  have he : (Op.equal T (.bool b) (.bool c)).run P w = .ok (b == c) w := equal_run fun d => by simp [Op.equalIn, run_underlying hu]
  have hg : (eqGuard op T x y (.bool b) (.bool c)).run P w = .ok () w := by rcases hop with rfl | rfl <;> simp [eqGuard]
  simp only [execOp, ho, e1, e2]
  rcases hop with rfl | rfl
  · simp [binOp, hg, he]
  · simp [binOp, hg, he, bne]
theorem Dr.boolEqM {op : BinOp} {T X : TypeId} {x y : Operand} {b c : Bool} (k : Dr P ops s nds (vals ++ [.val (.bool (if op = .eql then b == c else b != c))]) G) (hn : ndsB nds = true := by first | rfl | decide) (hol : ops[vals.length]? = some o := by exact Go.Abs.evT)
    (ho : o.op = .binOp op T x y X := by rfl) (hg : gd ops { s with fr := needFr s.fr vals (nds.getD vals.length []) } o = some true := by exact Go.Abs.evT) (hop : op = .eql ∨ op = .neq := by first | exact .inl rfl | exact .inr rfl) (hT : isBl P T = true := by kernel_rfl)
    (hx : AS.ev { s with fr := needFr s.fr vals (nds.getD vals.length []) } x = .val (.bool b) := by exact Go.Abs.evT) (hy : AS.ev { s with fr := needFr s.fr vals (nds.getD vals.length []) } y = .val (.bool c) := by exact Go.Abs.evT) : Dr P ops s nds vals G :=
  Dr.step hn hol (NSpec.boolEq hg ho hop hT hx hy) k
end
set_option linter.unusedSectionVars false
set_option linter.unnecessarySimpa false
theorem Chg.rfl' (D B : Nat → Prop) (w : World) : Chg D B w D B w :=
  ⟨rfl, rfl, rfl, Nat.le_refl _, fun _ _ _ => rfl, fun _ h => .inl h, fun _ h => h, fun _ h => .inl h⟩
theorem Chg.trans' {D B D1 B1 D2 B2 : Nat → Prop} {w w1 w2 : World} (h : Chg D B w D1 B1 w1) (k : Chg D1 B1 w1 D2 B2 w2) : Chg D B w D2 B2 w2 := by
  refine ⟨k.os.trans h.os, k.tape.trans h.tape, k.output.trans h.output, Nat.le_trans h.size k.size, fun b hb hd => ?_, fun b hb => ?_, fun b hb => k.bsub b (h.bsub b hb), fun b hb => ?_⟩
  · refine (k.block b (Nat.lt_of_lt_of_le hb h.size) fun hd1 => ?_).trans (h.block b hb hd)
    rcases h.dsub b hd1 with h' | h'
    · exact hd h'
    · omega
  · rcases k.dsub b hb with h' | h'
    · exact h.dsub b h'
    · exact .inr (Nat.le_trans h.size h')
  · rcases k.bnew b hb with h' | h' | h'
    · exact h.bnew b h'
    · exact .inr (h.dsub b h')
    · exact .inr (.inr (Nat.le_trans h.size h'))
def Env.spy (E : Env) (D0 B0 : Nat → Prop) (w : World) : Env := { E with J := fun tr go D B w' => E.J tr go D B w' ∧ Chg D0 B0 w D B w' }
section
variable {P : Program} {ops : Array Oper} {E : Env} {s s' : AS} {ρ ρ' : List Value} {B B' : Nat → Prop} {a a' : Act} {w w' : World} {o : Oper} {rest : List Oper} {Q : AS → Prop} {R : Exit → AS → Prop} {nds : List (List (Nat × Option Nat))} {vals : List AV} {G : Prop}
theorem RW.spied {D0 B0 : Nat → Prop} {w0 : World} {ob : List Ob} (h : RW E ob ρ B w) : RW (E.spy D0 B0 w0) ob ρ B w :=
  ⟨h.ep, h.os, h.tape, h.output, h.size, h.block, h.pre, h.bsub, h.bnew, h.blt, h.len, h.obs, h.dis, h.prv⟩
theorem RW.unspied {D0 B0 : Nat → Prop} {w0 : World} {ob : List Ob} (h : RW (E.spy D0 B0 w0) ob ρ B w) : RW E ob ρ B w :=
  ⟨h.ep, h.os, h.tape, h.output, h.size, h.block, h.pre, h.bsub, h.bnew, h.blt, h.len, h.obs, h.dis, h.prv⟩
theorem RS.spied (h : RS E s ρ B a w) : RS (E.spy (fun b => Dof s.ob ρ b ∨ b ∈ s.df) B w) s ρ B a w := by
  refine ⟨h.rw_.spied, h.m, h.n, h.df, ⟨⟨h.jj.j, Chg.rfl' _ _ _⟩, ?_, h.jj.nodup, h.jj.mks⟩, h.rf⟩
  intro tr go D B w D' B' w' hj hc hb
  exact ⟨h.jj.stab tr go D B w D' B' w' hj.1 hc hb, hj.2.trans' hc⟩
theorem RS.unspied {D0 B0 : Nat → Prop} {w0 : World} (hst : E.Stab) (h : RS (E.spy D0 B0 w0) s ρ B a w) : RS E s ρ B a w ∧ Chg D0 B0 w0 (fun b => Dof s.ob ρ b ∨ b ∈ s.df) B w :=
  ⟨⟨h.rw_.unspied, h.m, h.n, h.df, ⟨h.jj.j.1, hst, h.jj.nodup, h.jj.mks⟩, h.rf⟩, h.jj.j.2⟩
def CSpec (P : Program) (ops : Array Oper) (o : Oper) (s : AS) (X X' : List Ob) (x : AV) : Prop :=
  ∀ (E : Env), E.Ok P → ∀ (ρ : List Value) (B : Nat → Prop) (a : Act) (w : World), RS E { s with ob := s.ob ++ X } ρ B a w → ∀ (K : Act → World → Prop) (Q' : Exit → Act → World → Prop),
    (∀ v w' ρ' B', RJ E s (s.ob ++ X') ρ' B' w' → (∀ b, B b → B' b) → (∀ b, B b → w'.heap[b]? = w.heap[b]?) → (∀ (j : Nat) (u : Value), j < s.ob.length → ρ[j]? = some u → ρ'[j]? = some u) → Rel w' B' E.bs ρ' x v → K (a.put o.dst v) w') →
    if Region.wanted o (yielded ops a.tmps) then owp E.rnd P o a w K Q' else K (a.put o.dst undef) w
theorem CSpec.own {T e : TypeId} {sz : Nat} (hg : gd ops s o = some true) (ho : o.op = .buildSlice T 0 #[]) (hz : elSz P T = some sz) (he : elT P T = some e) : CSpec P ops o s [] [.row e sz []] (.own s.ob.length) := by
  intro E hE ρ B a w hs K Q' hK
  have hs' : RS E s ρ B a w := by simpa using hs
  refine ASpec.own hg ho hz he E ρ B a w hs' K Q' fun v w' u h1 h2 h3 => ?_
  exact hK v w' _ B h1 (fun _ h => h) h2 (fun j u _ h => get_append_some h) h3
theorem inval_ids {k : Nat} {x : AV} (h : x.idsOk (fun j => decide (j < k)) = true) : AV.inval k x = x := by
  unfold AV.inval
  rw [if_pos (idsOk_mono (fun j hj => by simp only [decide_eq_true_eq] at hj; simp only [bne_iff_ne, ne_eq]; omega) _ h)]
theorem ob_inval_ids {k : Nat} {o : Ob} (h : obIds (fun j => decide (j < k)) o = true) : Ob.inval k o = o := by
  cases o with
  | box T cs =>
    simp only [Ob.inval, Ob.box.injEq, true_and]
    simp only [obIds] at h
    refine (List.map_congr_left (g := id) fun x hx => inval_ids ?_).trans (List.map_id _)
    exact (AV.idsOkL_iff _ _).1 h x hx
  | row T sz xs =>
    simp only [obIds] at h
    simp only [Ob.inval]
    rw [if_pos (idsOkL_mono (fun j hj => by simp only [decide_eq_true_eq] at hj; simp only [bne_iff_ne, ne_eq]; omega) _ h)]
  | mp es => rfl
  | gone => rfl
theorem CSpec.append {T T2 : TypeId} {x y : Operand} {sz : Nat} {e : TypeId} {xs ys : List AV} (hg : gd ops s o = some true) (ho : o.op = .call { callee := .builtin .append, args := #[x, y], argTypes := #[T, T2] }) (hx : s.ev x = .own s.ob.length)
    (hz : elSz P T = some sz) (hT : elT P T = some e) (h2 : isSlc P T2 = true ∨ isStr P T2 = true) (hsrc : srcOf s sz (s.ev y) = some ys) (hb : 2 * (xs.length + ys.length) * elB P T ≤ 2 ^ 48) (hsm : xs.length + ys.length ≤ 2 ^ 60)
    (hid : AV.idsOkL (· != s.ob.length) xs = true) (hid2 : AV.idsOkL (· != s.ob.length) ys = true) (hob : s.ob.all (obIds (fun j => decide (j < s.ob.length))) = true) : CSpec P ops o s [.row e sz xs] [.row e sz (xs ++ ys)] (.own s.ob.length) := by
  intro E hE ρ B a w hs K Q' hK
  rw [if_pos (gd_wanted (s := { s with ob := s.ob ++ [.row e sz xs] }) hg hs)]
  have hs1 := hs.spied
  have hev : AS.ev { s with ob := s.ob ++ [.row e sz xs] } = s.ev := funext fun y => by cases y <;> rfl
  have hxr := hs.ev x
  rw [hev, hx] at hxr
  have hyr := hs1.ev y
  rw [hev] at hyr
  generalize hu : a.eval x = u at hxr
  cases hxr with
  | own hp h1c =>
    have hk : (s.ob ++ [Ob.row e sz xs])[s.ob.length]? = some (.row e sz xs) := by simp
    obtain ⟨v', w', h1, h3, h4⟩ := append_core (P := P) (ty := o.type) (T := T) (T2 := T2) (k := s.ob.length) hs1 hz (elT_spec hT) h2 hk hp (srcOf_new hsrc) hyr hb hsm hid hid2
    obtain ⟨h3', hc⟩ := h3.unspied hs.jj.stab
    have hmap : s.ob.map (Ob.inval s.ob.length) = s.ob := by
      refine (List.map_congr_left (g := id) fun q hq => ob_inval_ids ?_).trans (List.map_id _)
      exact List.all_eq_true.1 hob q hq
    have hrow : Ob.inval s.ob.length (.row e sz xs) = .row e sz xs := by simp only [Ob.inval]; rw [if_pos hid]
    have e1 : ((s.ob ++ [Ob.row e sz xs]).map (Ob.inval s.ob.length)).set s.ob.length (.row e sz (xs ++ ys)) = s.ob ++ [.row e sz (xs ++ ys)] := by
      rw [List.map_append, hmap, List.map_cons, List.map_nil, hrow, List.set_append_right _ _ (Nat.le_refl _), Nat.sub_self, List.set_cons_zero]
    have hj : RJ E s (s.ob ++ [.row e sz (xs ++ ys)]) (ρ.set s.ob.length v') B w' := by
      have := h3'.rj
      rw [← e1]; exact this
    have hrun : (execOp a.eval o).run P w = .ok (.value v') w' := by simp [execOp, ho, resolve, invoke, builtin, hu, h1]
    have hkρ := get_lt hp
    refine owp_value hrun (hK v' w' _ B hj (fun _ h => h) (fun b hb => hc.block b (hs.rw_.blt b hb) fun hd => ?_) (fun j u hj' hu' => ?_) (.own ?_ h4))
    · rcases hd with ⟨k, o2, v2, a1, a2, a3, a4⟩ | hd
      · exact (hs.rw_.prv k o2 v2 b a1 a2 a3 a4).1 hb
      · exact (hs.jj.mks b hd).2.2.1 hb
    · rw [List.getElem?_set_ne (by omega)]; exact hu'
    · rw [List.getElem?_set_self hkρ]
theorem CSpec.pub {e : TypeId} {sz : Nat} {X : List Ob} {zs : List AV} (h : CSpec P ops o s X [.row e sz zs] (.own s.ob.length)) (hm : s.m ≤ s.ob.length) : CSpec P ops o s X [.gone] (.sl true sz zs) := by
  intro E hE ρ B a w hs K Q' hK
  refine h E hE ρ B a w hs K Q' fun v w' ρ' B' h1 h2 h3 h4 h5 => ?_
  have hk : (s.ob ++ [Ob.row e sz zs])[s.ob.length]? = some (.row e sz zs) := by simp
  obtain ⟨B'', u, p1, p2, p3, p4, p5⟩ := h1.1.publish hk (Nat.le_trans hs.m.1 hm)
  have e1 : (s.ob ++ [Ob.row e sz zs]).set s.ob.length .gone = s.ob ++ [.gone] := by
    rw [List.set_append_right _ _ (Nat.le_refl _), Nat.sub_self, List.set_cons_zero]
  rw [e1] at p3
  have hv : v = u := by
    cases h5 with
    | own hp _ => exact Option.some.inj (hp.symm.trans p2)
  subst hv
  exact hK v w' ρ' B'' ⟨p3, h1.2.chg ⟨rfl, rfl, rfl, Nat.le_refl _, fun _ _ _ => rfl, fun b hd => .inl (Dof.set hk rfl b (e1 ▸ hd)), p1, fun b hb => (p5 b hb).elim .inl fun h => .inr (.inl h)⟩ p3.bd⟩ (fun b hb => p1 b (h2 b hb)) h3 h4 p4
def drawnCB (ops : Array Oper) (n sn : Nat) (ci : List Nat) (nds : List (List (Nat × Option Nat))) : Bool :=
  drawnH ops n sn nds && decide ci.Nodup && (ci.all fun i => decide (i < n)) &&
  ((List.range ci.length).all fun l => decide (l = 0) || Region.waitsFor .any ops (ci.getD l 0) (ci.getD (l - 1) 0)) &&
  ((List.range n).all fun i => (nds.getD i []).all fun p => match p.2 with
    | some j => !ci.contains j || ((List.range ci.length).any fun l => decide (0 < l) && decide (ci.getD (l - 1) 0 = j) && decide (ci.getD l 0 = i)) || (decide (0 < ci.length) && decide (ci.getD (ci.length - 1) 0 = j))
    | none => true)
structure CInv (E : Env) (s : AS) (ops : Array Oper) (n : Nat) (vals : List AV) (ci : List Nat) (obs : Nat → List Ob) (ρ0 ρ : List Value) (B : Nat → Prop) (listed : Array Bool) (k : Nat) (a : Act) (w : World) : Prop where
  rj : RJ E s (s.ob ++ obs k) ρ B w
  pre : ∀ (j : Nat) (u : Value), ρ0[j]? = some u → ρ[j]? = some u
  m : E.ρ0.length ≤ s.m ∧ E.pp.length ≤ s.m ∧ E.yl = s.yl
  sz : a.tmps.size = s.n
  df : a.defers = s.df.map mark
  kle : k ≤ ci.length
  pos : ∀ l, l < ci.length → (listed.getD (ci.getD l 0) false = true ↔ l < k)
  new1 : ∀ (i d : Nat), i < n → i ∉ ci → listed.getD i false = true → dstOf ops i = some d → Rel w B E.bs ρ0 (vals.getD i .any) (a.tmps.getD d undef)
  new2 : ∀ (d : Nat), 0 < k → dstOf ops (ci.getD (k - 1) 0) = some d → Rel w B E.bs ρ (vals.getD (ci.getD (k - 1) 0) .any) (a.tmps.getD d undef)
  old : ∀ t, (∀ i, i < n → listed.getD i false = true → dstOf ops i ≠ some t) → Rel w B E.bs ρ0 (lk s.fr t) (a.tmps.getD t undef)
theorem getD_mem {l : List Nat} {i : Nat} (h : i < l.length) : l.getD i 0 ∈ l := by
  rw [List.getD_eq_getElem?_getD, List.getElem?_eq_getElem h]; exact List.getElem_mem h
theorem getD_inj {l : List Nat} (hn : l.Nodup) {i j : Nat} (hi : i < l.length) (hj : j < l.length) (h : l.getD i 0 = l.getD j 0) : i = j := by
  rw [List.getD_eq_getElem?_getD, List.getElem?_eq_getElem hi, List.getD_eq_getElem?_getD, List.getElem?_eq_getElem hj] at h
  have hp := List.pairwise_iff_getElem.1 hn
  rcases Nat.lt_trichotomy i j with hlt | heq | hgt
  · exact absurd h (hp i j hi hj hlt)
  · exact heq
  · exact absurd h.symm (hp j i hj hi hgt)
theorem mem_getD {l : List Nat} {x : Nat} (h : x ∈ l) : ∃ i, i < l.length ∧ l.getD i 0 = x := by
  obtain ⟨i, hi, e⟩ := List.mem_iff_getElem.1 h
  exact ⟨i, hi, by rw [List.getD_eq_getElem?_getD, List.getElem?_eq_getElem hi]; exact e⟩
theorem AWp.drawnC {id : Nat} {R : Exit → AS → Prop} (n : Nat) (nds : List (List (Nat × Option Nat))) (vals : List AV) (ci : List Nat) (obs : Nat → List Ob) (fr1 : List (Nat × AV)) (hm : P.follows .mixedOrders = true) (hn : n ≤ ops.size) (h0 : obs 0 = []) (hB : drawnCB ops n s.n ci nds = true)
    (hT : ∀ listed, HeadInv .any ops n listed → (∃ i, i < n ∧ listed.getD i true = false) → ∀ j, n ≤ j → j ∉ Region.ready .any ops listed)
    (specs : ∀ i o, i < n → ops[i]? = some o → i ∉ ci → NSpec P ops o { s with fr := needFr s.fr vals (nds.getD i []) } (vals.getD i .any))
    (hid : ∀ i, i < n → i ∉ ci → (vals.getD i .any).idsOk (fun j => decide (j < s.ob.length)) = true)
    (cspec : ∀ l o, l < ci.length → ops[ci.getD l 0]? = some o → CSpec P ops o { s with fr := needFr s.fr vals (nds.getD (ci.getD l 0) []) } (obs l) (obs (l + 1)) (vals.getD (ci.getD l 0) .any))
    (hfr : ∀ t x, (t, x) ∈ fr1 → t < s.n ∧ ((∃ i, i < n ∧ dstOf ops i = some t ∧ x = vals.getD i .any ∧ (i ∉ ci ∨ (0 < ci.length ∧ ci.getD (ci.length - 1) 0 = i))) ∨ ((∀ i, i < n → dstOf ops i ≠ some t) ∧ x = lk s.fr t)))
    (K : AAny P ops (ops.size - n) (listed0 n ops.size) (R .normal) { s with fr := fr1, ob := s.ob ++ obs ci.length }) : AWp P (.region id ops true) s R := by
  intro E hE ρ0 B0 a0 w0 hs0 Q' hQ
  refine wpIn_region_any hm ?_
  simp only [drawnCB, Bool.and_eq_true, decide_eq_true_eq] at hB
  obtain ⟨⟨⟨⟨hhead, hnd⟩, hcn⟩, hcw⟩, hcneed⟩ := hB
  simp only [drawnH] at hhead
  have head : ∀ i, i < n → ∃ o, ops[i]? = some o ∧ (∀ e ∈ o.after, Region.binds .any e = true → e.on < i) ∧ (∀ d, o.dst = some d → d < s.n ∧ ∀ j, j < n → dstOf ops j = some d → j = i) ∧
      (∀ p ∈ nds.getD i [], match p.2 with
        | some j => j < n ∧ dstOf ops j = some p.1 ∧ Region.waitsFor .any ops i j = true
        | none => p.1 < s.n ∧ ∀ j, j < n → dstOf ops j = some p.1 → (j ≠ i ∧ Region.waitsFor .any ops j i = true) ∨ j = i) := by
    intro i hi
    have h := List.all_eq_true.1 hhead i (List.mem_range.2 hi)
    cases ho : ops[i]? with
    | none => simp [ho] at h
    | some o =>
      simp only [ho, Bool.and_eq_true] at h
      obtain ⟨⟨h1, h2⟩, h3⟩ := h
      refine ⟨o, rfl, ?_, ?_, ?_⟩
      · intro e he hb
        have := Array.all_eq_true_iff_forall_mem.1 h1 e he
        simpa [hb] using this
      · intro d hd
        simp only [hd, Bool.and_eq_true, decide_eq_true_eq] at h2
        refine ⟨h2.1, fun j hj hdj => ?_⟩
        have := List.all_eq_true.1 h2.2 j (List.mem_range.2 hj)
        simp only [Bool.or_eq_true, decide_eq_true_eq] at this
        rcases this with this | this
        · exact this
        · exact absurd hdj this
      · intro p hp
        have := List.all_eq_true.1 h3 p hp
        cases hp2 : p.2 with
        | some j =>
          simp only [hp2, Bool.and_eq_true, decide_eq_true_eq] at this
          exact ⟨this.1.1, this.1.2, this.2⟩
        | none =>
          simp only [hp2, Bool.and_eq_true, decide_eq_true_eq] at this
          refine ⟨this.1, ?_⟩
          intro j hj hdj
          have := List.all_eq_true.1 this.2 j (List.mem_range.2 hj)
          simp only [Bool.or_eq_true, decide_eq_true_eq, Bool.and_eq_true] at this
          rcases this with (this | this) | this
          · exact absurd hdj this
          · exact .inl this
          · exact .inr this
  have hlen0 : ρ0.length = s.ob.length := hs0.rw_.len
  have hs0' : RS E s ρ0 B0 a0 { w0 with drawn := w0.drawn + 1 } := hs0.same ⟨rfl, rfl, rfl, Nat.le_refl _, fun _ _ => rfl⟩
  have main : ∀ (u : Nat) (listed : Array Bool) (ρ : List Value) (B : Nat → Prop) (k : Nat) (a : Act) (w : World), left n listed = u → HeadInv .any ops n listed → CInv E s ops n vals ci obs ρ0 ρ B listed k a w → wpAnyIn (FR E.rnd) 0 P .any ops Q' (u + (ops.size - n)) listed a w := by
    intro u
    induction u with
    | zero =>
      intro listed ρ B k a w hu inv hi
      have hall := left_zero hu
      have hlisted : listed = listed0 n ops.size := by
        apply Array.ext
        · simp [inv.size, listed0]
        · intro i h1 h2
          have hi' : i < ops.size := by rw [← inv.size]; exact h1
          have hg : listed.getD i false = listed[i] := by simp [h1]
          have : listed[i] = decide (i < n) := by
            by_cases hin : i < n
            · rw [← hg, hall i hin]; simp [hin]
            · have h3 := getD_both (inv.tail i (by omega) hi')
              rw [← hg, h3]; simp [hin]
          rw [this]; simp [listed0]
      have hk : k = ci.length := by
        rcases Nat.lt_or_ge k ci.length with h | h
        · have := (hi.pos k h).1 (hall _ (by have := List.all_eq_true.1 hcn _ (getD_mem h); simpa using this))
          omega
        · exact Nat.le_antisymm hi.kle h
      subst hk
      rw [Nat.zero_add, hlisted]
      refine K E hE ρ B a w ⟨hi.rj.1, hi.m, hi.sz, hi.df, hi.rj.2, ?_⟩ Q' (fun s' ρ' B' a' w' q hs' => hQ _ _ _ _ _ _ q hs')
      intro t x hmem
      obtain ⟨hlt, h⟩ := hfr t x hmem
      refine ⟨by rw [hi.sz]; exact hlt, ?_⟩
      rcases h with ⟨i, h1, h2, rfl, h3⟩ | ⟨h1, rfl⟩
      · rcases h3 with h3 | ⟨h3, rfl⟩
        · exact (hi.new1 i t h1 h3 (hall i h1) h2).mono (fun _ h => h) (fun _ _ => rfl) (Nat.le_refl _) hi.pre
        · exact hi.new2 t h3 h2
      · exact (hi.old t (fun i hi' _ => h1 i hi')).mono (fun _ h => h) (fun _ _ => rfl) (Nat.le_refl _) hi.pre
    | succ u ih =>
      intro listed ρ B k a w hu inv hi
      have hex : ∃ i, i < n ∧ listed.getD i false = false := by
        apply Classical.byContradiction
        intro hne
        have hz : left n listed = 0 := by
          unfold left
          rw [List.countP_eq_zero]
          intro i hi'
          have := List.mem_range.1 hi'
          have h2 : ¬ listed.getD i false = false := fun e => hne ⟨i, this, e⟩
          simpa using h2
        omega
      have hnr : ∀ j ∈ Region.ready .any ops listed, j < n := by
        intro j hj
        rcases Nat.lt_or_ge j n with h | h
        · exact h
        · exfalso
          obtain ⟨i, hin, hil⟩ := hex
          exact hT listed inv ⟨i, hin, getD_in (by rw [inv.size]; omega) hil⟩ j h hj
      rw [show u + 1 + (ops.size - n) = (u + (ops.size - n)) + 1 by omega]
      refine ⟨?_, ?_⟩
      · intro hempty
        exfalso
        obtain ⟨i, ⟨hin, hil⟩, hmin⟩ := exists_least (p := fun i => i < n ∧ listed.getD i false = false) hex
        obtain ⟨o, ho, hedge, _, _⟩ := head i hin
        have hready : i ∈ Region.ready .any ops listed := by
          rw [mem_ready]
          refine ⟨getD_in (by rw [inv.size]; omega) hil, o, ho, ?_⟩
          intro e he hb
          have hlt := hedge e he hb
          cases hl : listed.getD e.on false with
          | true => rfl
          | false =>
            have := hmin e.on ⟨by omega, hl⟩
            omega
        rw [hempty] at hready
        cases hready
      · intro i hr
        have hin := hnr i hr
        obtain ⟨hun, o', ho', hwait⟩ := mem_ready.1 hr
        obtain ⟨o, ho, hedge, hdst, hneed⟩ := head i hin
        have : o' = o := Option.some.inj (ho'.symm.trans ho)
        subst this
        have hil : listed.getD i false = false := getD_both hun
        have hsz : i < listed.size := by rw [inv.size]; omega
        have hleft := left_set hin hsz hil
        have inv' := inv.set hr hin
        have waits : ∀ j, Region.waitsFor .any ops i j = true → listed.getD j false = true := by
          intro j hj
          obtain ⟨o2, h2, e, he, hb, rfl⟩ := Region.waitsFor_spec hj
          have : o2 = o' := Option.some.inj (h2.symm.trans ho)
          subst this
          exact hwait e he hb
        have notyet : ∀ j, Region.waitsFor .any ops j i = true → listed.getD j false = false := by
          intro j hj
          obtain ⟨o2, h2, e, he, hb, hon⟩ := Region.waitsFor_spec hj
          cases hl : listed.getD j false with
          | false => rfl
          | true =>
            have := inv.closed j o2 h2 hl e he hb
            rw [hon, hil] at this
            cases this
        -- where a chain's operation comes up, the chain stands in front of it
        have stage : ∀ l, l < ci.length → ci.getD l 0 = i → l = k := by
          intro l hl hli
          have h1 : ¬ l < k := fun h => by
            have := (hi.pos l hl).2 h
            rw [hli, hil] at this
            cases this
          rcases Nat.lt_or_ge k l with h2 | h2
          · exfalso
            have hw := List.all_eq_true.1 hcw l (List.mem_range.2 hl)
            simp only [Bool.or_eq_true, decide_eq_true_eq] at hw
            rcases hw with hw | hw
            · omega
            · rw [hli] at hw
              have := (hi.pos (l - 1) (by omega)).1 (waits _ hw)
              omega
          · omega
        have hneedv : ∀ (t j : Nat), (t, some j) ∈ nds.getD i [] → Rel w B E.bs ρ (vals.getD j .any) (a.tmps.getD t undef) := by
          intro t j hmem
          have h := hneed _ hmem
          simp only at h
          obtain ⟨hj, hdj, hw⟩ := h
          have hcc := List.all_eq_true.1 (List.all_eq_true.1 hcneed i (List.mem_range.2 hin)) _ hmem
          simp only [Bool.or_eq_true, Bool.not_eq_true', List.contains_eq_mem, decide_eq_false_iff_not] at hcc
          rcases hcc with (hcc | hcc) | hcc
          · exact (hi.new1 j t hj hcc (waits j hw) hdj).mono (fun _ h => h) (fun _ _ => rfl) (Nat.le_refl _) hi.pre
          · obtain ⟨l, hl, hcc⟩ := List.any_eq_true.1 hcc
            simp only [Bool.and_eq_true, decide_eq_true_eq] at hcc
            obtain ⟨⟨q1, q2⟩, q3⟩ := hcc
            have hlk := stage l (List.mem_range.1 hl) q3
            subst hlk
            subst q2
            exact hi.new2 t q1 hdj
          · simp only [Bool.and_eq_true, decide_eq_true_eq] at hcc
            obtain ⟨q1, q2⟩ := hcc
            have hk : k = ci.length := by
              have h1 := (hi.pos (ci.length - 1) (by omega)).1 (by rw [q2]; exact waits j hw)
              have := hi.kle; omega
            subst hk
            subst q2
            exact hi.new2 t q1 hdj
        have hrs : ∀ ob, ob = s.ob ++ obs k → RS E { s with fr := needFr s.fr vals (nds.getD i []), ob := ob } ρ B a w := by
          rintro ob rfl
          refine ⟨hi.rj.1, hi.m, hi.sz, hi.df, hi.rj.2, ?_⟩
          intro t x hmem
          rcases needFr_mem hmem with ⟨j, h1, rfl⟩ | ⟨h1, rfl⟩
          · have h := hneed _ h1
            simp only at h
            obtain ⟨hj, hdj, hw⟩ := h
            refine ⟨?_, hneedv t j h1⟩
            obtain ⟨oj, hoj, _, hdj', _⟩ := head j hj
            have : oj.dst = some t := by simpa [dstOf, hoj] using hdj
            rw [hi.sz]; exact (hdj' t this).1
          · have h := hneed _ h1
            simp only at h
            refine ⟨by rw [hi.sz]; exact h.1, (hi.old t ?_).mono (fun _ h => h) (fun _ _ => rfl) (Nat.le_refl _) hi.pre⟩
            intro j hj hl hdj
            rcases h.2 j hj hdj with ⟨_, h⟩ | h
            · rw [notyet j h] at hl; cases hl
            · subst h; rw [hil] at hl; cases hl
        -- what stays when operation i has come up
        have tmpsEq : ∀ (v : Value) (d : Nat), o'.dst ≠ some d → (a.put o'.dst v).tmps.getD d undef = a.tmps.getD d undef := by
          intro v d hd
          cases hd' : o'.dst with
          | none => rfl
          | some d' =>
            have hne : d' ≠ d := by rintro rfl; exact hd hd'
            simp [Act.put, Array.getD_eq_getD_getElem?, Array.getElem?_setIfInBounds_ne hne]
        have tmpsNew : ∀ (v : Value) (d : Nat), o'.dst = some d → (a.put o'.dst v).tmps.getD d undef = v := by
          intro v d hd
          have := (hdst d hd).1
          rw [hd]; simp [Act.put, Array.getD_eq_getD_getElem?, hi.sz, this]
        have step : ∀ (v : Value) (w' : World) (ρ' : List Value) (B' : Nat → Prop) (k' : Nat), RJ E s (s.ob ++ obs k') ρ' B' w' → (∀ b, B b → B' b) → (∀ b, B b → w'.heap[b]? = w.heap[b]?) → (∀ (j : Nat) (u : Value), ρ0[j]? = some u → ρ'[j]? = some u) →
            k' ≤ ci.length → (∀ l, l < ci.length → ((listed.setIfInBounds i true).getD (ci.getD l 0) false = true ↔ l < k')) → (i ∉ ci → Rel w' B' E.bs ρ0 (vals.getD i .any) v) →
            (∀ d, 0 < k' → dstOf ops (ci.getD (k' - 1) 0) = some d → Rel w' B' E.bs ρ' (vals.getD (ci.getD (k' - 1) 0) .any) ((a.put o'.dst v).tmps.getD d undef)) →
            wpAnyIn (FR E.rnd) 0 P .any ops Q' (u + (ops.size - n)) (listed.setIfInBounds i true) (a.put o'.dst v) w' := by
          intro v w' ρ' B' k' h1 h2 h3 h4 h5 h6 h7 h8
          refine ih _ ρ' B' k' _ _ (by omega) inv' ⟨h1, h4, hi.m, ?_, ?_, h5, h6, ?_, h8, ?_⟩
          · cases o'.dst <;> simp [Act.put, hi.sz]
          · cases o'.dst <;> simp [Act.put, hi.df]
          · intro j d hj hjc hl hdj
            by_cases hji : j = i
            · subst hji
              have hd : o'.dst = some d := by simpa [dstOf, ho] using hdj
              rw [tmpsNew v d hd]; exact h7 hjc
            · rw [getD_set_ne false (Ne.symm hji)] at hl
              have hold := (hi.new1 j d hj hjc hl hdj).mono h2 h3 (Nat.le_refl _) (fun _ _ h => h)
              rw [tmpsEq v d (fun hd => hji ((hdst d hd).2 j hj hdj))]; exact hold
          · intro t ht
            have hold := (hi.old t (fun j hj hl => ht j hj (by
              by_cases hji : j = i
              · subst hji; rw [hil] at hl; cases hl
              · rw [getD_set_ne false (Ne.symm hji)]; exact hl))).mono h2 h3 (Nat.le_refl _) (fun _ _ h => h)
            rw [tmpsEq v t (fun hd => ht i hin (by simp [hsz]) (by simp [dstOf, ho, hd]))]; exact hold
        unfold wpOpIn
        simp only [ho]
        have fin : ∀ {K' : Act → World → Prop}, (if Region.wanted o' (yielded ops a.tmps) then owp E.rnd P o' a w K' Q' else K' (a.put o'.dst undef) w) → (if Region.wanted o' (yielded ops a.tmps) then o'.wpIn (FR E.rnd) 0 P a w K' Q' else (∀ f, o'.about P w a.eval = some f → (FR E.rnd).fn f) ∧ K' (a.put o'.dst undef) w) := by
          intro K' h
          split at h
          · rename_i hw; rw [if_pos hw]; exact h
          · rename_i hw; rw [if_neg hw]; exact ⟨fun _ _ => trivial, h⟩
        refine fin ?_
        by_cases hic : i ∈ ci
        · obtain ⟨l, hl, hli⟩ := mem_getD hic
          have hlk := stage l hl hli
          subst hlk
          have hcs := cspec l o' hl (by rw [hli]; exact ho)
          rw [hli] at hcs
          refine hcs E hE ρ B a w (hrs _ rfl) _ Q' ?_
          intro v w' ρ' B' h1 h2 h3 h4 h5
          have hpre : ∀ (j : Nat) (u : Value), ρ0[j]? = some u → ρ'[j]? = some u := fun j u hj => h4 j u (by have := get_lt hj; show j < s.ob.length; omega) (hi.pre j u hj)
          refine step v w' ρ' B' (l + 1) h1 h2 h3 hpre hl ?_ (fun h => absurd hic h) ?_
          · intro l' hl'
            by_cases hll : l' = l
            · subst hll; rw [hli]; simp [hsz]
            · have hne : i ≠ ci.getD l' 0 := by rw [← hli]; exact fun e => hll (getD_inj hnd hl' hl e.symm)
              rw [getD_set_ne false hne, hi.pos l' hl']; omega
          · intro d _ hd
            rw [Nat.add_sub_cancel, hli] at hd ⊢
            rw [tmpsNew v d (by simpa [dstOf, ho] using hd)]; exact h5
        · refine specs i o' hin ho hic E hE ρ B a w (obs k) (hrs _ rfl) _ Q' ?_
          intro v w' B' h1 h2 h3 h4
          refine step v w' ρ B' k h1 h2 h3 hi.pre hi.kle ?_ (fun _ => ?_) ?_
          · intro l hl
            have hne : i ≠ ci.getD l 0 := fun e => hic (e ▸ getD_mem hl)
            rw [getD_set_ne false hne]; exact hi.pos l hl
          · refine h4.ids (p := fun j => decide (j < s.ob.length)) ?_ (hid i hin hic)
            intro j u hj hu
            simp only [decide_eq_true_eq] at hj
            have hlt : j < ρ0.length := by omega
            have := hi.pre j _ (List.getElem?_eq_getElem hlt)
            rw [hu] at this
            rw [List.getElem?_eq_getElem hlt, ← this]
          · intro d hk hd
            have hold := (hi.new2 d hk hd).mono h2 h3 (Nat.le_refl _) (fun _ _ h => h)
            have hne : ci.getD (k - 1) 0 ≠ i := fun e => hic (e ▸ getD_mem (by have := hi.kle; omega))
            have hcl : ci.getD (k - 1) 0 < n := by have := List.all_eq_true.1 hcn _ (getD_mem (l := ci) (i := k - 1) (by have := hi.kle; omega)); simpa using this
            rw [tmpsEq v d (fun hd' => hne ((hdst d hd').2 _ hcl hd))]; exact hold
  have inv0 : HeadInv .any ops n (Array.replicate ops.size false) :=
    ⟨by simp, fun j oj _ hl => (by rw [getD_replicate_false] at hl; cases hl), fun t _ ht => getD_in (by simpa using ht) (getD_replicate_false _ _)⟩
  have hc0 : CInv E s ops n vals ci obs ρ0 ρ0 B0 (Array.replicate ops.size false) 0 a0 { w0 with drawn := w0.drawn + 1 } := by
    refine ⟨?_, fun _ _ h => h, hs0'.m, hs0'.n, hs0'.df, Nat.zero_le _, fun l _ => (by rw [getD_replicate_false]; simp), fun i d _ _ hl => (by rw [getD_replicate_false] at hl; cases hl), fun d h => absurd h (Nat.lt_irrefl _), fun t _ => hs0'.get t⟩
    rw [h0, List.append_nil]; exact hs0'.rj
  have hl0 : left n (Array.replicate ops.size false) = n := by
    unfold left
    rw [List.countP_eq_length.2 (by intro i _; rw [getD_replicate_false]; rfl)]
    simp
  have := main n _ ρ0 B0 0 a0 _ hl0 inv0 hc0
  rwa [show n + (ops.size - n) = ops.size by omega] at this
def CL (P : Program) (ops : Array Oper) (s : AS) (nds1 : List (List (Nat × Option Nat))) (vals : List AV) : List Nat → List Ob → List Ob → Prop
  | [], X, XL => X = XL
  | i :: r, X, XL => ∃ X', (∀ o, ops[i]? = some o → CSpec P ops o { s with fr := needFr s.fr vals (nds1.getD i []) } X X' (vals.getD i .any)) ∧ CL P ops s nds1 vals r X' XL
theorem CL.obs {nds1 : List (List (Nat × Option Nat))} : ∀ {ci : List Nat} {X XL : List Ob}, CL P ops s nds1 vals ci X XL → ∃ obs : Nat → List Ob, obs 0 = X ∧ obs ci.length = XL ∧
    ∀ l o, l < ci.length → ops[ci.getD l 0]? = some o → CSpec P ops o { s with fr := needFr s.fr vals (nds1.getD (ci.getD l 0) []) } (obs l) (obs (l + 1)) (vals.getD (ci.getD l 0) .any)
  | [], X, XL, h => ⟨fun _ => X, rfl, h, fun l o hl => by simp at hl⟩
  | i :: r, X, XL, ⟨X', h1, h2⟩ => by
    obtain ⟨obs, a1, a2, a3⟩ := CL.obs h2
    refine ⟨fun l => match l with | 0 => X | l + 1 => obs l, rfl, a2, fun l o hl ho => ?_⟩
    cases l with
    | zero =>
      have := h1 o (by simpa using ho)
      simp only [List.getD_cons_zero]
      rw [a1]; exact this
    | succ l =>
      simp only [List.getD_cons_succ] at ho ⊢
      exact a3 l o (by simpa using hl) ho
section cl
variable {nds1 : List (List (Nat × Option Nat))} {X XL : List Ob} {i : Nat} {r : List Nat}
theorem CL.nil : CL P ops s nds1 vals [] X X := rfl
theorem CL.own {T e : TypeId} {sz : Nat} (k : CL P ops s nds1 vals r [.row e sz []] XL) (hol : ops[i]? = some o := by exact Go.Abs.evT) (ho : o.op = .buildSlice T 0 #[] := by rfl) (hg : gd ops { s with fr := needFr s.fr vals (nds1.getD i []) } o = some true := by exact Go.Abs.evT)
    (hz : elSz P T = some sz := by exact Go.Abs.evT) (he : elT P T = some e := by exact Go.Abs.evT) (hv : vals.getD i .any = .own s.ob.length := by rfl) : CL P ops s nds1 vals (i :: r) [] XL :=
  ⟨_, fun o' ho' => by
    have : o' = o := Option.some.inj (ho'.symm.trans hol)
    subst this
    rw [hv]
    exact CSpec.own hg ho hz he, k⟩
theorem CL.app {T T2 e : TypeId} {x y : Operand} {sz : Nat} {xs ys zs : List AV} (k : CL P ops s nds1 vals r [.row e sz zs] XL) (hol : ops[i]? = some o := by exact Go.Abs.evT) (ho : o.op = .call { callee := .builtin .append, args := #[x, y], argTypes := #[T, T2] } := by rfl)
    (hg : gd ops { s with fr := needFr s.fr vals (nds1.getD i []) } o = some true := by exact Go.Abs.evT) (hx : AS.ev { s with fr := needFr s.fr vals (nds1.getD i []) } x = .own s.ob.length := by exact Go.Abs.evT) (hz : elSz P T = some sz := by exact Go.Abs.evT) (he : elT P T = some e := by exact Go.Abs.evT) (h2 : (isSlc P T2 || isStr P T2) = true := by exact Go.Abs.evT)
    (hsrc : srcOf { s with fr := needFr s.fr vals (nds1.getD i []) } sz (AS.ev { s with fr := needFr s.fr vals (nds1.getD i []) } y) = some ys := by exact Go.Abs.evT) (hzs : xs ++ ys = zs := by
        exact Go.Abs.evE)
    (hid : AV.idsOkL (· != s.ob.length) xs = true := by exact Go.Abs.evT) (hid2 : AV.idsOkL (· != s.ob.length) ys = true := by exact Go.Abs.evT) (hob : s.ob.all (obIds (fun j => decide (j < s.ob.length))) = true := by exact Go.Abs.evT) (hv : vals.getD i .any = .own s.ob.length := by rfl)
    (hb : 2 * (xs.length + ys.length) * elB P T ≤ 2 ^ 48) (hsm : xs.length + ys.length ≤ 2 ^ 60) : CL P ops s nds1 vals (i :: r) [.row e sz xs] XL :=
  ⟨_, fun o' ho' => by
    have : o' = o := Option.some.inj (ho'.symm.trans hol)
    subst this
    rw [hv]
    have := CSpec.append (s := { s with fr := needFr s.fr vals (nds1.getD i []) }) hg ho hx hz he (by simpa using h2) hsrc hb hsm hid hid2 hob
    rw [hzs] at this
    exact this, k⟩
end cl
def tailB (ops : Array Oper) (n : Nat) : Bool := decide (n ≤ ops.size) && (decide (n = ops.size) || (((List.range n).all fun i => Region.waitsFor .any ops n i || (List.range n).any fun j => decide (i < j) && Region.waitsFor .any ops j i) &&
  ((List.range ops.size).all fun j => decide (j ≤ n) || (List.range j).any fun i => decide (n ≤ i) && Region.waitsFor .any ops j i)))
theorem tailB.tail {n : Nat} (h : tailB ops n = true) {listed : Array Bool} (inv : HeadInv .any ops n listed) (hex : ∃ i, i < n ∧ listed.getD i true = false) : ∀ t, n ≤ t → t ∉ Region.ready .any ops listed := by
  simp only [tailB, Bool.and_eq_true, decide_eq_true_eq, Bool.or_eq_true] at h
  obtain ⟨hn, h⟩ := h
  rcases h with h | ⟨hs, hc⟩
  · intro t ht hr
    obtain ⟨_, ot, hot, _⟩ := mem_ready.1 hr
    have := (Array.getElem?_eq_some_iff.1 hot).1
    omega
  · have key : ∀ (d i : Nat), n - i = d → i < n → listed.getD i true = false → ∀ t, n ≤ t → t ∉ Region.ready .any ops listed := by
      intro d
      induction d using Nat.strongRecOn with
      | _ d ih =>
        intro i hd hi hun t ht hr
        obtain ⟨_, ot, hot, hall⟩ := mem_ready.1 hr
        have htlt : t < ops.size := (Array.getElem?_eq_some_iff.1 hot).1
        by_cases htn : t = n
        · subst htn
          have h1 := List.all_eq_true.1 hs i (List.mem_range.2 hi)
          simp only [Bool.or_eq_true] at h1
          rcases h1 with h1 | h1
          · obtain ⟨oj, hoj, e, he, hb, hon⟩ := Region.waitsFor_spec h1
            have : oj = ot := Option.some.inj (hoj.symm.trans hot)
            subst this
            have h2 := hall e he hb
            rw [hon, getD_both hun] at h2
            cases h2
          · obtain ⟨j, hj, hj2⟩ := List.any_eq_true.1 h1
            simp only [Bool.and_eq_true, decide_eq_true_eq] at hj2
            obtain ⟨oj, hoj, e, he, hb, hon⟩ := Region.waitsFor_spec hj2.2
            have hjlt := List.mem_range.1 hj
            cases hl : listed.getD j false with
            | true =>
              have h2 := inv.closed j oj hoj hl e he hb
              rw [hon, getD_both hun] at h2
              cases h2
            | false =>
              have hjs : j < listed.size := by rw [inv.size]; omega
              exact ih (t - j) (by omega) j rfl (by omega) (getD_in hjs hl) t (Nat.le_refl _) hr
        · have h1 := List.all_eq_true.1 hc t (List.mem_range.2 htlt)
          simp only [Bool.or_eq_true, decide_eq_true_eq] at h1
          rcases h1 with h1 | h1
          · omega
          · obtain ⟨i', hi', h1⟩ := List.any_eq_true.1 h1
            simp only [Bool.and_eq_true, decide_eq_true_eq] at h1
            obtain ⟨o', ho', e, he, hb, hon⟩ := Region.waitsFor_spec h1.2
            have : o' = ot := Option.some.inj (ho'.symm.trans hot)
            subst this
            have h2 := hall e he hb
            have := List.mem_range.1 hi'
            rw [hon, getD_both (inv.tail i' h1.1 (by omega))] at h2
            cases h2
    obtain ⟨i, hin, hil⟩ := hex
    exact key _ i rfl hin hil
def ciB : List Nat → Nat → Bool
  | [], _ => false
  | j :: r, i => (j == i) || ciB r i
theorem ciB_iff {i : Nat} : ∀ {ci : List Nat}, ciB ci i = true ↔ i ∈ ci
  | [] => by simp [ciB]
  | j :: r => by
    simp only [ciB, Bool.or_eq_true, beq_iff_eq, ciB_iff (ci := r), List.mem_cons]
    constructor
    · rintro (h | h)
      · exact .inl h.symm
      · exact .inr h
    · rintro (h | h)
      · exact .inl h.symm
      · exact .inr h
def valIds (p : Nat → Bool) (ci : List Nat) : Nat → List AV → Bool
  | _, [] => true
  | i, x :: r => (ciB ci i || x.idsOk p) && valIds p ci (i + 1) r
theorem valIds_get {p : Nat → Bool} {ci : List Nat} : ∀ {l : List AV} {k : Nat}, valIds p ci k l = true → ∀ i, k + i ∉ ci → (l.getD i .any).idsOk p = true
  | [], k, h, i, hi => by simp [AV.idsOk]
  | x :: r, k, h, i, hi => by
    simp only [valIds, Bool.and_eq_true, Bool.or_eq_true] at h
    cases i with
    | zero =>
      rcases h.1 with h1 | h1
      · exact absurd (ciB_iff.1 h1) hi
      · simpa using h1
    | succ i =>
      simp only [List.getD_cons_succ]
      exact valIds_get h.2 i (by rw [show k + 1 + i = k + (i + 1) by omega]; exact hi)
attribute [push_cast] ciB valIds Bool.true_or Bool.false_or
def drCB (ops : Array Oper) (n sn : Nat) (ci : List Nat) (nds nds1 : List (List (Nat × Option Nat))) (new : List (Nat × Nat)) : Bool :=
  tailB ops n && drawnCB ops n sn ci nds1 && noAl ops n none && ((List.range n).all fun i => ci.contains i || decide (nds.getD i [] = nds1.getD i [])) &&
  (new.all fun p => !ci.contains p.2 || (decide (0 < ci.length) && decide (ci.getD (ci.length - 1) 0 = p.2)))
theorem AWp.drC {id : Nat} {n : Nat} (ci : List Nat) {XL : List Ob} (nds nds1 : List (List (Nat × Option Nat))) (new : List (Nat × Nat)) (old : List Nat) (vals : List AV) (hc : CL P ops s nds1 vals ci [] XL) (hm : P.follows .mixedOrders = true) (hB : drCB ops n s.n ci nds nds1 new = true)
    (hk : drB ops n s.n s.fr new old = true) (hl : vals.length = n) (hp : PSpec P ops s nds vals) (hid : valIds (fun j => decide (j < s.ob.length)) ci 0 vals = true)
    (k : AAny P ops (ops.size - n) (listed0 n ops.size) (R .normal) { s with fr := (new.map fun p => (p.1, vals.getD p.2 .any)) ++ keepFr s.fr old, ob := s.ob ++ XL }) : AWp P (.region id ops true) s R := by
  subst hl
  obtain ⟨obs, o1, o2, o3⟩ := hc.obs
  simp only [drCB, Bool.and_eq_true] at hB
  obtain ⟨⟨⟨⟨ht, hd⟩, hna⟩, hnn⟩, hnew⟩ := hB
  have hle : vals.length ≤ ops.size := by simp only [tailB, Bool.and_eq_true, decide_eq_true_eq] at ht; exact ht.1
  refine AWp.drawnC vals.length nds1 vals ci obs _ hm hle o1 hd (fun listed inv hex => tailB.tail ht inv hex) (fun i o h1 h2 h3 => ?_) (fun i _ h3 => valIds_get hid i (by rw [Nat.zero_add]; exact h3)) o3 (fun t x hmem => ?_) (by rw [o2]; exact k)
  · have h := List.all_eq_true.1 hnn i (List.mem_range.2 h1)
    simp only [Bool.or_eq_true, decide_eq_true_eq, List.contains_eq_mem] at h
    rcases h with h | h
    · exact absurd h h3
    · rw [← h]
      refine hp i o h1 h2 ?_
      have := List.all_eq_true.1 hna i (List.mem_range.2 h1)
      simp only [h2, Bool.or_eq_true, decide_eq_true_eq, Bool.not_eq_true'] at this
      rcases this with h | h
      · cases h
      · exact h
  · simp only [drB, Bool.and_eq_true] at hk
    rcases List.mem_append.1 hmem with h | h
    · simp only [List.mem_map] at h
      obtain ⟨p, hp', e⟩ := h
      have e1 : p.1 = t := congrArg Prod.fst e
      have e2 : vals.getD p.2 .any = x := congrArg Prod.snd e
      have := List.all_eq_true.1 hk.1 p hp'
      simp only [Bool.and_eq_true, decide_eq_true_eq] at this
      have h2 := List.all_eq_true.1 hnew p hp'
      simp only [Bool.or_eq_true, Bool.not_eq_true', Bool.and_eq_true, decide_eq_true_eq, List.contains_eq_mem, decide_eq_false_iff_not] at h2
      subst e1; subst e2
      exact ⟨this.1.1, .inl ⟨p.2, this.1.2, this.2, rfl, h2⟩⟩
    · obtain ⟨h1, rfl⟩ := keepFr_mem h
      have := List.all_eq_true.1 hk.2 t h1
      simp only [Bool.and_eq_true, decide_eq_true_eq] at this
      exact ⟨this.1, .inr ⟨fun i hi => by simpa using List.all_eq_true.1 this.2 i (List.mem_range.2 hi), rfl⟩⟩
theorem Dr.finCM {id : Nat} {n : Nat} {y : Code} (ci : List Nat) {XL : List Ob} (f : Nat) (nds1 : List (List (Nat × Option Nat))) (new : List (Nat × Nat)) (old : List Nat) (hc : CL P ops s nds1 vals ci [] XL) (hG : ∀ vals, PSpec P ops s nds vals → AWp P (.region id ops true) s (thenQ (fun s' => AWp P y s' R) R) → G) (hm : P.follows .mixedOrders = true)
    (k : ∀ K : AS → Prop, (∀ s', AWp P y s' R → K s') → AAny P ops f (listed0 n (n + f)) K { s with fr := (new.map fun p => (p.1, vals.getD p.2 .any)) ++ keepFr s.fr old, ob := s.ob ++ XL })
    (hl : vals.length = n := by rfl) (hf : ops.size = n + f := by kernel_rfl) (hB : drCB ops n s.n ci nds nds1 new = true := by kernel_rfl) (hk : drB ops n s.n s.fr new old = true := by kernel_rfl) (hid : valIds (fun j => decide (j < s.ob.length)) ci 0 vals = true := by exact Go.Abs.evT) : Dr P ops s nds vals G := by
  intro hp
  refine hG vals hp (AWp.drC ci nds nds1 new old vals hc hm hB hk hl hp hid ?_)
  rw [hf, Nat.add_sub_cancel_left]
  exact k _ fun _ h => h
end
set_option linter.unusedSectionVars false
section
variable {P : Program} {ops : Array Oper} {E : Env} {s s' : AS} {o : Oper} {rest : List Oper} {Q : AS → Prop} {R : Exit → AS → Prop}
end
set_option linter.unusedSectionVars false
section
variable {P : Program} {ops : Array Oper} {E : Env} {s s' : AS} {o : Oper} {rest : List Oper} {Q : AS → Prop} {R : Exit → AS → Prop} {nds : List (List (Nat × Option Nat))} {vals : List AV} {G : Prop}
theorem Dr.slice {T : TypeId} {x lo hi : Operand} {nw : Bool} {sz : Nat} {xs : List AV} {kk k' : IntKind} (m n : Nat) (hmn : m ≤ n) (hnl : n ≤ xs.length) (k : Dr P ops s nds (vals ++ [.sl nw sz ((xs.take n).drop m)]) G) (hn : ndsB nds = true := by first | rfl | decide) (hol : ops[vals.length]? = some o := by exact Go.Abs.evT)
    (ho : o.op = .slice T x (some lo) (some hi) none := by rfl) (hg : gd ops { s with fr := needFr s.fr vals (nds.getD vals.length []) } o = some true := by exact Go.Abs.evT) (hx : AS.ev { s with fr := needFr s.fr vals (nds.getD vals.length []) } x = .sl nw sz xs := by exact Go.Abs.evT)
    (hl : AS.ev { s with fr := needFr s.fr vals (nds.getD vals.length []) } lo = .val (.int kk (N m)) := by exact Go.Abs.evT) (hh : AS.ev { s with fr := needFr s.fr vals (nds.getD vals.length []) } hi = .val (.int k' (N n)) := by exact Go.Abs.evT) (hz : elSz P T = some sz := by exact Go.Abs.evT) : Dr P ops s nds vals G := by
  refine Dr.step hn hol (NSpec.cast ?_ (NSpec.slice (l := N m) (h := N n) hg ho hx (by rw [Option.map_some, hl]; rfl) (fun h => by cases h) (by rw [Option.map_some, hh]; rfl) (fun h => by cases h) hz (Int.natCast_nonneg m) (Int.ofNat_le.2 hmn) (Int.ofNat_le.2 hnl))) k
  rw [N_toNat, N_toNat]
def arSz (P : Program) (T : TypeId) : Option (Nat × Nat) :=
  match P.underlying T with
  | some (.array n e) => (P.info? e).map fun i => (n, i.size)
  | _ => none
theorem arSz_spec {T : TypeId} {n sz : Nat} (h : arSz P T = some (n, sz)) : ∃ e i, P.underlying T = some (.array n e) ∧ P.info? e = some i ∧ i.size = sz := by
  unfold arSz at h
  split at h <;> (try (simp at h; done))
  rename_i m e hu
  cases hi : P.info? e with
  | none => simp [hi] at h
  | some i =>
    simp only [hi, Option.map_some, Option.some.injEq, Prod.mk.injEq] at h
    obtain ⟨rfl, rfl⟩ := h
    exact ⟨e, i, hu, hi, rfl⟩
theorem AOp.pureE {x : AV} (h : ∀ (E : Env), E.Ok P → ∀ (ρ : List Value) (B : Nat → Prop) (a : Act) (w : World), RS E s ρ B a w → ∃ v, (execOp a.eval o).run P w = .ok (.value v) w ∧ Rel w B E.bs ρ x v) (K : ARun P ops rest (s.put o.dst x) Q) : AOp P ops o rest s Q := by
  intro E hE ρ B a w hs Q' hQ
  obtain ⟨v, h1, h2⟩ := h E hE ρ B a w hs
  exact owp_value h1 (K E hE ρ B _ w (hs.put o.dst h2) Q' hQ)
theorem NSpec.pureE {x : AV} (hg : gd ops s o = some true) (h : ∀ (E : Env), E.Ok P → ∀ (ρ : List Value) (B : Nat → Prop) (a : Act) (w : World) (ob : List Ob), RS E { s with ob := s.ob ++ ob } ρ B a w →
      ∃ v, (execOp a.eval o).run P w = .ok (.value v) w ∧ Rel w B E.bs ρ x v) : NSpec P ops o s x := by
  intro E hE ρ B a w ob hs K Q' hK
  rw [if_pos (gd_wanted (s := { s with ob := s.ob ++ ob }) hg hs)]
  obtain ⟨v, h1, h2⟩ := h E hE ρ B a w ob hs
  exact owp_value h1 (hK _ _ _ hs.rj (fun _ h => h) (fun _ _ => rfl) h2)
theorem run_index_arr {w : World} {T : TypeId} {len sz b o' : Nat} {k : IntKind} {j : Int} (hz : arSz P T = some (len, sz)) (h0 : 0 ≤ j) (h1 : j < len) :
    (Instr.indexAt T (.pointer (some ⟨b, o', none⟩)) (.int k j)).run P w = .ok (.pointer (some ⟨b, o' + j.toNat * sz, none⟩)) w := by
  obtain ⟨e, i, hu, hi, rfl⟩ := arSz_spec hz
  simp only [Instr.indexAt, asIntOf, Sem.run_bind, Sem.run_pure, Result.andThen_ok, run_underlying hu, Instr.sureAddr, if_pos (And.intro h0 h1), run_sizeOf hi, addr_add]
def ElemsOf (sz : Nat) (xs : List AV) (cs : List Value) : Prop := xs.flatMap AV.cells = cs.map AV.val ∧ ∀ x ∈ xs, x.cells.length = sz ∧ ∀ c ∈ x.cells, c.one = true
theorem glb_row {w : World} {B : Nat → Prop} {bs g sz : Nat} {ρ : List Value} {xs : List AV} {cs : List Value} (hB : B g) (hc : GlobC w g cs) (he : ElemsOf sz xs cs) : RelRow w B bs ρ false g sz 0 xs :=
  RelRow.mk hB (fun h => by cases h) (vs := cs) (by rw [he.1]; exact RelL.valsC cs) he.2 (fun j v hj => by rw [Nat.zero_add]; exact hc j v hj)
theorem gslice_run (E : Env) (hE : E.Ok P) {ρ : List Value} {B : Nat → Prop} {a : Act} {w : World} (hs : RS E s ρ B a w) {T : TypeId} {g n sz : Nat} {xs : List AV} {cs : List Value} (hg : (g, cs) ∈ glb) (he : ElemsOf sz xs cs) (hz : arSz P T = some (n, sz)) (hl : xs.length = n)
    (ho : o.op = .slice T (.global g) none none none) : ∃ v, (execOp a.eval o).run P w = .ok (.value v) w ∧ Rel w B E.bs ρ (.sl false sz xs) v := by
  obtain ⟨e, i, hu, hi, rfl⟩ := arSz_spec hz
  obtain ⟨h1, h2⟩ := hE.glb.now hs.rw_ _ hg
  have hr := glb_row (bs := E.bs) (ρ := ρ) h1 h2 he
  refine ⟨.slice (some ⟨g, 0, none⟩) n n, ?_, ?_⟩
  · simp only [execOp, ho]
    refine val_run ?_
    have ev : a.eval (.global g) = .pointer (some ⟨g, 0, none⟩) := rfl
    simp [Instr.sliceAt, run_underlying hu, ev, Instr.sureAddr, Instr.sliceBounds, run_sizeOf hi, addr_add]
  · cases xs with
    | nil => simp at hl; subst hl; exact .slE _ _ _ _
    | cons x xs => simp at hl; subst hl; exact .sl hr (by simp)
theorem ARun2.gsliceM {T : TypeId} {g n sz : Nat} {p : List Oper × AS} (xs : List AV) (cs : List Value) (hg : (g, cs) ∈ glb) (he : ElemsOf sz xs cs) (hz : arSz P T = some (n, sz)) (hl : xs.length = n) (K : ARun2 P ops p Q) (ho : o.op = .slice T (.global g) none none none := by rfl) (hgd : gd ops s o = some true := by exact Go.Abs.evT)
    (h : srun P ops rest (s.put o.dst (.sl false sz xs)) = p := by
        exact Go.Abs.evE) : ARun2 P ops (o :: rest, s) Q :=
  ARun.exec hgd (AOp.pureE (fun E hE ρ B a w hs => gslice_run E hE hs hg he hz hl ho) (ARun.srun (h ▸ K)))
theorem gindex_run (E : Env) (hE : E.Ok P) {ρ : List Value} {B : Nat → Prop} {a : Act} {w : World} (hs : RS E s ρ B a w) {T : TypeId} {i : Operand} {g len sz : Nat} {kk : IntKind} {xs : List AV} {cs : List Value} (n : Nat) (y : AV) (hg : (g, cs) ∈ glb) (he : ElemsOf sz xs cs) (hz : arSz P T = some (len, sz)) (hl : xs.length = len) (h0 : sz ≠ 0)
    (hy : xs[n]? = some y) (hi : s.ev i = .val (.int kk (N n))) (ho : o.op = .indexAddr T (.global g) i) : ∃ v, (execOp a.eval o).run P w = .ok (.value v) w ∧ Rel w B E.bs ρ (.ref false y) v := by
  obtain ⟨h1, h2⟩ := hE.glb.now hs.rw_ _ hg
  obtain ⟨r1, r2⟩ := (glb_row (bs := E.bs) (ρ := ρ) h1 h2 he).at hy
  have hv := (hi ▸ hs.ev i : Rel w B E.bs ρ (.val (.int kk (N n))) (a.eval i)).val_eq
  have hlt := get_lt hy
  refine ⟨.pointer (some ⟨g, 0 + n * sz, none⟩), ?_, .ref r1 (by intro h; rw [h] at r2; simp at r2; omega)⟩
  simp only [execOp, ho, hv]
  refine val_run ?_
  have := run_index_arr (P := P) (w := w) (b := g) (o' := 0) (k := kk) (j := N n) hz (Int.natCast_nonneg n) (Int.ofNat_lt.2 (by omega))
  rw [N_toNat] at this
  exact this
theorem ARun2.gindexM {T : TypeId} {i : Operand} {g len sz : Nat} {kk : IntKind} {p : List Oper × AS} (xs : List AV) (cs : List Value) (n : Nat) (y : AV) (hg : (g, cs) ∈ glb) (he : ElemsOf sz xs cs) (hz : arSz P T = some (len, sz)) (hl : xs.length = len) (h0 : sz ≠ 0) (hy : xs[n]? = some y) (K : ARun2 P ops p Q)
    (ho : o.op = .indexAddr T (.global g) i := by rfl) (hgd : gd ops s o = some true := by exact Go.Abs.evT) (hi : s.ev i = .val (.int kk (N n)) := by exact Go.Abs.evT) (h : srun P ops rest (s.put o.dst (.ref false y)) = p := by
        exact Go.Abs.evE) : ARun2 P ops (o :: rest, s) Q :=
  ARun.exec hgd (AOp.pureE (fun E hE ρ B a w hs => gindex_run E hE hs n y hg he hz hl h0 hy hi ho) (ARun.srun (h ▸ K)))
theorem Dr.gidx {T : TypeId} {i : Operand} {g len sz : Nat} {kk : IntKind} (xs : List AV) (cs : List Value) (n : Nat) (y : AV) (hg : (g, cs) ∈ glb) (he : ElemsOf sz xs cs) (hz : arSz P T = some (len, sz)) (hl : xs.length = len) (h0 : sz ≠ 0) (hy : xs[n]? = some y) (k : Dr P ops s nds (vals ++ [.ref false y]) G)
    (hn : ndsB nds = true := by first | rfl | decide) (hol : ops[vals.length]? = some o := by exact Go.Abs.evT) (ho : o.op = .indexAddr T (.global g) i := by rfl) (hgd : gd ops { s with fr := needFr s.fr vals (nds.getD vals.length []) } o = some true := by exact Go.Abs.evT)
    (hi : AS.ev { s with fr := needFr s.fr vals (nds.getD vals.length []) } i = .val (.int kk (N n)) := by exact Go.Abs.evT) : Dr P ops s nds vals G :=
  Dr.step hn hol (NSpec.pureE hgd fun E hE ρ B a w ob hs => gindex_run (s := { s with fr := needFr s.fr vals (nds.getD vals.length []), ob := s.ob ++ ob }) E hE hs n y hg he hz hl h0 hy (by rw [← hi]; cases i <;> rfl) ho) k
theorem aref_run {E : Env} {ρ : List Value} {B : Nat → Prop} {a : Act} {w : World} (hs : RS E s ρ B a w) {T : TypeId} {x i : Operand} {len : Nat} {nw : Bool} {kk : IntKind} {l : List AV} (n : Nat) (y : AV) (hz : arSz P T = some (len, 1)) (hl : l.length = len) (hy : l[n]? = some y)
    (hx : s.ev x = .ref nw (.agg l)) (hi : s.ev i = .val (.int kk (N n))) (ho : o.op = .indexAddr T x i) : ∃ v, (execOp a.eval o).run P w = .ok (.value v) w ∧ Rel w B E.bs ρ (.ref nw y) v := by
  have hv := (hi ▸ hs.ev i : Rel w B E.bs ρ (.val (.int kk (N n))) (a.eval i)).val_eq
  have hxr := hs.ev x
  rw [hx] at hxr
  have hlt := get_lt hy
  generalize hq : a.eval x = u at hxr
  cases hxr with
  | ref h1 hne =>
    rename_i b o'
    simp only [AV.cells] at h1
    have hd := h1.drop n
    rw [List.drop_eq_getElem_cons hlt] at hd
    have hyy : l[n] = y := by rw [List.getElem?_eq_getElem hlt] at hy; exact Option.some.inj hy
    rw [hyy] at hd
    cases hd with
    | cons a1 a2 a3 a4 a5 a6 =>
      have hc : y.cells = [y] := by cases y <;> simp_all [AV.cells, AV.one]
      refine ⟨.pointer (some ⟨b, o' + n, none⟩), ?_, .ref (by rw [hc]; exact .cons a1 a2 a3 a4 a5 .nil) (by rw [hc]; simp)⟩
      simp only [execOp, ho, hv, hq]
      refine val_run ?_
      have := run_index_arr (P := P) (w := w) (b := b) (o' := o') (k := kk) (j := N n) hz (Int.natCast_nonneg n) (Int.ofNat_lt.2 (by omega))
      rw [N_toNat, Nat.mul_one] at this
      exact this
theorem Dr.aref {T : TypeId} {x i : Operand} {len : Nat} {nw : Bool} {kk : IntKind} {l : List AV} (n : Nat) (y : AV) (hz : arSz P T = some (len, 1)) (hl : l.length = len) (hy : l[n]? = some y) (k : Dr P ops s nds (vals ++ [.ref nw y]) G)
    (hn : ndsB nds = true := by first | rfl | decide) (hol : ops[vals.length]? = some o := by exact Go.Abs.evT) (ho : o.op = .indexAddr T x i := by rfl) (hgd : gd ops { s with fr := needFr s.fr vals (nds.getD vals.length []) } o = some true := by exact Go.Abs.evT)
    (hx : AS.ev { s with fr := needFr s.fr vals (nds.getD vals.length []) } x = .ref nw (.agg l) := by exact Go.Abs.evT) (hi : AS.ev { s with fr := needFr s.fr vals (nds.getD vals.length []) } i = .val (.int kk (N n)) := by exact Go.Abs.evT) : Dr P ops s nds vals G :=
  Dr.step hn hol (NSpec.pureE hgd fun E hE ρ B a w ob hs => aref_run (s := { s with fr := needFr s.fr vals (nds.getD vals.length []), ob := s.ob ++ ob }) hs n y hz hl hy (by rw [← hx]; cases x <;> rfl) (by rw [← hi]; cases i <;> rfl) ho) k
end
structure KForm where
  ty : Nat
  name : ByteArray
  mask : Nat
  least : Nat
  most : Nat
  unit : Nat
  kids : Nat
@[push_cast] def kformA (f : KForm) : AV := .agg [u8 f.ty, .val (.string f.name), u8 f.mask, nat f.least, nat f.most, nat f.unit, nat f.kids]
def kindForms : List KForm := [
  ⟨0, ⟨#[100, 97, 116, 97]⟩, 15, 13, 65531, 1, 0⟩,
  ⟨1, ⟨#[105, 110, 105, 116]⟩, 0, 16, 16, 1, 2⟩,
  ⟨2, ⟨#[105, 110, 105, 116, 45, 97, 99, 107]⟩, 0, 16, 16, 1, 2⟩,
  ⟨3, ⟨#[115, 97, 99, 107]⟩, 0, 12, 65531, 4, 0⟩,
  ⟨4, ⟨#[104, 101, 97, 114, 116, 98, 101, 97, 116]⟩, 0, 0, 0, 1, 1⟩,
  ⟨5, ⟨#[104, 101, 97, 114, 116, 98, 101, 97, 116, 45, 97, 99, 107]⟩, 0, 0, 0, 1, 1⟩,
  ⟨6, ⟨#[97, 98, 111, 114, 116]⟩, 1, 0, 0, 1, 3⟩,
  ⟨7, ⟨#[115, 104, 117, 116, 100, 111, 119, 110]⟩, 0, 4, 4, 1, 0⟩,
  ⟨8, ⟨#[115, 104, 117, 116, 100, 111, 119, 110, 45, 97, 99, 107]⟩, 0, 0, 0, 1, 0⟩,
  ⟨9, ⟨#[101, 114, 114, 111, 114]⟩, 0, 0, 0, 1, 4⟩,
  ⟨10, ⟨#[99, 111, 111, 107, 105, 101, 45, 101, 99, 104, 111]⟩, 0, 1, 65531, 1, 0⟩,
  ⟨11, ⟨#[99, 111, 111, 107, 105, 101, 45, 97, 99, 107]⟩, 0, 0, 0, 1, 0⟩,
  ⟨12, ⟨#[101, 99, 110, 101]⟩, 0, 4, 4, 1, 0⟩,
  ⟨13, ⟨#[99, 119, 114]⟩, 0, 4, 4, 1, 0⟩,
  ⟨14, ⟨#[115, 104, 117, 116, 100, 111, 119, 110, 45, 99, 111, 109, 112, 108, 101, 116, 101]⟩, 1, 0, 0, 1, 0⟩,
  ⟨15, ⟨#[97, 117, 116, 104]⟩, 0, 5, 65531, 1, 0⟩,
  ⟨64, ⟨#[105, 45, 100, 97, 116, 97]⟩, 15, 17, 65531, 1, 0⟩,
  ⟨128, ⟨#[97, 115, 99, 111, 110, 102, 45, 97, 99, 107]⟩, 0, 4, 4, 1, 2⟩,
  ⟨130, ⟨#[114, 101, 45, 99, 111, 110, 102, 105, 103]⟩, 0, 0, 0, 1, 5⟩,
  ⟨132, ⟨#[112, 97, 100]⟩, 0, 0, 65531, 1, 0⟩,
  ⟨192, ⟨#[102, 111, 114, 119, 97, 114, 100, 45, 116, 115, 110]⟩, 0, 4, 65531, 4, 0⟩,
  ⟨193, ⟨#[97, 115, 99, 111, 110, 102]⟩, 0, 4, 4, 1, 6⟩,
  ⟨194, ⟨#[105, 45, 102, 111, 114, 119, 97, 114, 100, 45, 116, 115, 110]⟩, 0, 4, 65531, 8, 0⟩]
def kformsA (l : List KForm) : List AV := l.map kformA
@[push_cast] theorem kformsA_len (l : List KForm) : (kformsA l).length = l.length := by simp [kformsA]
@[push_cast] theorem kformsA_ids (p : Nat → Bool) (l : List KForm) : AV.idsOkL p (kformsA l) = true := by
  rw [AV.idsOkL_iff]; intro x hx; simp only [kformsA, List.mem_map] at hx; obtain ⟨f, _, rfl⟩ := hx; rfl
@[push_cast] theorem kformsA_hand (ids : List Nat) (l : List KForm) : AV.handL ids (kformsA l) = kformsA l := by
  rw [AV.handL_map, kformsA, List.map_map]; rfl
def zeroK : KForm := ⟨0, ⟨#[]⟩, 0, 0, 0, 0, 0⟩
def kindOf (t : Nat) : KForm := (kindForms.find? fun f => f.ty == t).getD zeroK
def kindHas (t : Nat) : Bool := (kindForms.find? fun f => f.ty == t).isSome
def kidx (t : Nat) : Nat := kindForms.countP fun f => f.ty < t
@[push_cast] theorem kindForms_len : kindForms.length = 23 := rfl
def kf (i : Nat) : KForm := kindForms.getD i zeroK
theorem kf_at (i : Nat) (h : i < 23) : kindForms[i]? = some (kf i) := by
  have h' : i < kindForms.length := h
  rw [kf, List.getD_eq_getElem?_getD, List.getElem?_eq_getElem h']; rfl
theorem kf_mem (i : Nat) (h : i < 23) : kf i ∈ kindForms := List.mem_of_getElem? (kf_at i h)
theorem kformsA_kf (i : Nat) (h : i < 23) : (kformsA kindForms)[i]? = some (kformA (kf i)) := by rw [kformsA, List.getElem?_map, kf_at i h]; rfl
theorem mem_kf {f : KForm} (h : f ∈ kindForms) : ∃ i, i < 23 ∧ f = kf i := by
  obtain ⟨i, hi, rfl⟩ := List.getElem_of_mem h
  refine ⟨i, hi, ?_⟩
  have := kf_at i hi
  rw [List.getElem?_eq_getElem hi] at this
  exact Option.some.inj this
theorem kidx_of (t i : Nat) (hi : i ≤ 23) (h1 : ∀ m, m < i → (kf m).ty < t) (h2 : ∀ m, m < 23 → i ≤ m → t ≤ (kf m).ty) : i = kidx t := by
  unfold kidx
  rw [← List.take_append_drop i kindForms, List.countP_append]
  have e1 : (kindForms.take i).countP (fun f => f.ty < t) = (kindForms.take i).length := by
    rw [List.countP_eq_length]
    intro f hf
    obtain ⟨m, hm, rfl⟩ := List.getElem_of_mem hf
    rw [List.length_take, kindForms_len] at hm
    have := kf_at m (by omega)
    rw [List.getElem?_eq_getElem (by rw [kindForms_len]; omega)] at this
    rw [List.getElem_take, Option.some.inj this]
    exact decide_eq_true (h1 m (by omega))
  have e2 : (kindForms.drop i).countP (fun f => f.ty < t) = 0 := by
    rw [List.countP_eq_zero]
    intro f hf
    obtain ⟨m, hm, rfl⟩ := List.getElem_of_mem hf
    rw [List.length_drop, kindForms_len] at hm
    have := kf_at (i + m) (by omega)
    rw [List.getElem?_eq_getElem (by rw [kindForms_len]; omega)] at this
    rw [List.getElem_drop, Option.some.inj this]
    have := h2 (i + m) (by omega) (by omega)
    simp; omega
  rw [e1, e2, List.length_take, kindForms_len]; omega
theorem kind_pair : (kindForms.map (·.ty)).Pairwise (· < ·) := by decide
theorem kind_sorted (i j : Nat) (h : j < 23) (hij : i < j) : (kf i).ty < (kf j).ty := by
  have h1 := List.pairwise_iff_getElem.1 kind_pair i j (by rw [List.length_map, kindForms_len]; omega) (by rw [List.length_map, kindForms_len]; omega) hij
  rw [List.getElem_map, List.getElem_map] at h1
  have e1 := kf_at i (by omega)
  have e2 := kf_at j h
  rw [List.getElem?_eq_getElem (by rw [kindForms_len]; omega)] at e1 e2
  rwa [Option.some.inj e1, Option.some.inj e2] at h1
theorem kind_small : ∀ f ∈ kindForms, f.ty < 256 ∧ f.mask < 256 ∧ f.least ≤ 65531 ∧ f.most ≤ 65531 ∧ 0 < f.unit ∧ f.unit ≤ 8 ∧ f.kids ≤ 6 ∧ (f.mask = 0 ∨ f.mask = 1 ∨ f.mask = 15) := by decide
theorem kind_at (t i : Nat) (h : i < 23) (he : (kf i).ty = t) : kindOf t = kf i ∧ kindHas t = true := by
  have hi := kf_at i h
  have : kindForms.find? (fun f => f.ty == t) = some (kf i) := by
    rw [List.find?_eq_some_iff_getElem]
    refine ⟨by simpa using he, i, by rw [kindForms_len]; exact h, ?_, fun j hj => ?_⟩
    · rw [List.getElem?_eq_getElem (by rw [kindForms_len]; exact h)] at hi
      exact Option.some.inj hi
    · have h1 := kind_sorted j i h hj
      have h2 := kf_at j (by omega)
      rw [List.getElem?_eq_getElem (by rw [kindForms_len]; omega)] at h2
      rw [Option.some.inj h2]
      have : (kf j).ty ≠ t := by omega
      simpa using this
  unfold kindOf kindHas
  rw [this]
  exact ⟨rfl, rfl⟩
theorem kind_none (t : Nat) (h : ∀ m, m < 23 → (kf m).ty ≠ t) : kindOf t = zeroK ∧ kindHas t = false := by
  have : kindForms.find? (fun f => f.ty == t) = none := by
    rw [List.find?_eq_none]
    intro f hf
    obtain ⟨m, hm, rfl⟩ := mem_kf hf
    simpa using h m hm
  unfold kindOf kindHas
  rw [this]
  exact ⟨rfl, rfl⟩
theorem kind_ends (t i : Nat) (hi : i ≤ 23) (h1 : ∀ m, m < i → (kf m).ty < t) (h2 : ∀ m, m < 23 → i ≤ m → t ≤ (kf m).ty) :
    (i < 23 → ((kf i).ty == t) = kindHas t) ∧ (¬ i < 23 → kindHas t = false) ∧ (kindHas t = true → kindOf t = kf i) := by
  by_cases hi2 : i < 23 ∧ (kf i).ty = t
  · obtain ⟨e1, e2⟩ := kind_at t i hi2.1 hi2.2
    rw [e1, e2]
    exact ⟨fun _ => by simpa using hi2.2, fun h => absurd hi2.1 h, fun _ => rfl⟩
  · have hn := kind_none t (fun m hm => by
      rcases Nat.lt_or_ge m i with h | h
      · have := h1 m h; omega
      · have h3 := h2 m hm h
        rcases Nat.lt_or_ge i m with h' | h'
        · have := kind_sorted i m hm h'; have := h2 i (by omega) (Nat.le_refl _); omega
        · obtain rfl : m = i := by omega
          intro he; exact hi2 ⟨hm, he⟩)
    rw [hn.2]
    exact ⟨fun h => by simpa using fun he => hi2 ⟨h, he⟩, fun _ => rfl, fun h => by cases h⟩
theorem kind_bd (t : Nat) : (kindOf t).mask < 256 ∧ (kindOf t).least ≤ 65531 ∧ (kindOf t).most ≤ 65531 ∧ (kindOf t).unit ≤ 8 ∧ (kindOf t).kids ≤ 6 ∧ ((kindOf t).mask = 0 ∨ (kindOf t).mask = 1 ∨ (kindOf t).mask = 15) ∧ (kindHas t = true → 0 < (kindOf t).unit ∧ (kindOf t).ty = t) ∧ (kindHas t = false → kindOf t = zeroK) := by
  unfold kindOf kindHas
  cases hf : kindForms.find? (fun f => f.ty == t) with
  | none => simp [zeroK]
  | some f =>
    have h1 := kind_small f (List.mem_of_find?_eq_some hf)
    have h2 := List.find?_some hf
    simp at h2 ⊢
    omega
theorem kidx_has (t : Nat) (h : kindHas t = true) : kidx t < 23 ∧ kindOf t = kf (kidx t) := by
  unfold kindHas at h
  obtain ⟨f, hf⟩ := Option.isSome_iff_exists.1 h
  obtain ⟨i, hi, rfl⟩ := mem_kf (List.mem_of_find?_eq_some hf)
  have ht : (kf i).ty = t := by have := List.find?_some hf; simpa using this
  have hk : i = kidx t := kidx_of t i (by omega) (fun m hm => by have := kind_sorted m i hi hm; omega) (fun m hm h2 => by
    rcases Nat.lt_or_ge i m with h' | h'
    · have := kind_sorted i m hm h'; omega
    · obtain rfl : m = i := by omega
      omega)
  rw [← hk]
  exact ⟨hi, (kind_at t i hi ht).1⟩
def kinsideN (k : Nat) : Nat × Nat × Nat :=
  if k = 1 then (1, 1, 1) else if k = 2 then (1, 0, 16384) else if k = 3 then (2, 0, 16384) else if k = 4 then (2, 1, 16384) else if k = 5 then (1, 1, 2) else if k = 6 then (1, 2, 16384) else (0, 0, 0)
def kfitsN (f : KForm) (n : Nat) : Bool := decide (f.least ≤ n) && decide (n ≤ f.most) && ((n - f.least) % f.unit == 0)
def kcells : List Value := kindForms.flatMap fun f => [.int .u8 (N f.ty), .string f.name, .int .u8 (N f.mask), .int .i64 (N f.least), .int .i64 (N f.most), .int .i64 (N f.unit), .int .i64 (N f.kids)]
def icells : List Value := (List.range 7).flatMap fun k => [.int .i64 (N (kinsideN k).1), .int .i64 (N (kinsideN k).2.1), .int .i64 (N (kinsideN k).2.2)]
def insideA : List AV := (List.range 7).map fun k => .agg [nat (kinsideN k).1, nat (kinsideN k).2.1, nat (kinsideN k).2.2]
theorem kelems : ElemsOf 7 (kformsA kindForms) kcells := by
  refine ⟨rfl, fun x hx => ?_⟩
  simp only [kformsA, List.mem_map] at hx
  obtain ⟨f, _, rfl⟩ := hx
  exact ⟨rfl, by simp [kformA, AV.cells, AV.one, Value.oneCell']⟩
theorem ielems : ElemsOf 3 insideA icells := by
  refine ⟨rfl, fun x hx => ?_⟩
  simp only [insideA, List.mem_map] at hx
  obtain ⟨k, _, rfl⟩ := hx
  exact ⟨rfl, by simp [AV.cells, AV.one, Value.oneCell']⟩
theorem kglb : (0, kcells) ∈ glb := by
  first | exact List.Mem.head _ | exact List.Mem.tail _ (List.Mem.head _) | exact List.Mem.tail _ (List.Mem.tail _ (List.Mem.head _))
theorem iglb : (1, icells) ∈ glb := by
  first | exact List.Mem.head _ | exact List.Mem.tail _ (List.Mem.head _) | exact List.Mem.tail _ (List.Mem.tail _ (List.Mem.head _))
end Go.Abs
namespace Go.Proofs.YtldoehmlpdpiaaaGreatDoor.C
open Go.Abs
theorem kind_cmp_c (f : KForm) (t : Nat) (hf : f.ty < 256) (ht : t < 256) : PC Tryz.prog 65 [kformA f, u8 t] (.val (.int .i64 (N f.ty - N t))) := by
  have e : IntKind.i64.wrap (N f.ty - N t) = N f.ty - N t := by rw [IntKind.wrap_i64]; unfold N; omega
  refine PC.of_bodyW (by simp only [push_cast]) Tryz.func65 rfl (by rw [Tryz.ntmps65]; simp) ?_
  refine AWp.regionW ?_
  refine AWp.regionW ?_
  refine AWp.ret ?_
  try simp only [thenQ, blockQ, noGo]
  refine bodyQ.m ?_
  try rw [e]
  first | done | exact Hand.go
theorem half_w (n : Nat) (h : n < 2 ^ 62) : IntKind.i64.wrap ((IntKind.u64.wrap (N n)).fdiv (2 ^ min 1 IntKind.u64.bits)) = N (n / 2) := by
  have e : IntKind.u64.wrap (N n) = N n := by simp [IntKind.wrap, IntKind.bits, IntKind.signed]; unfold N; omega
  have e2 : (2 : Int) ^ min 1 IntKind.u64.bits = 2 := rfl
  rw [e, e2]
  have e3 : (N n).fdiv 2 = N (n / 2) := by unfold N; rw [Int.fdiv_eq_ediv_of_nonneg _ (by omega)]; omega
  rw [e3, IntKind.wrap_i64]; unfold N; omega
theorem bsearch_c (t : Nat) (ht : t < 256) : PC Tryz.prog 64 [.sl false 7 (kformsA kindForms), u8 t, .fn (.func 65) [] []] (.tup [nat (kidx t), bool (kindHas t)]) := by
  refine PC.of_bodyW (by simp only [push_cast]) Tryz.func64 rfl (by rw [Tryz.ntmps64]; simp) ?_
  refine AWp.regionW ?_
  refine AWp.regionW ?_
  refine AWp.regionW ?_
  refine AWp.seqK fun K1 hK1 => ?_
  refine AWp.block ?_
  refine AWp.loopK0 [0, 1, 2, 8] (fun (g : Nat × Nat) => [(9, nat g.1), (10, nat g.2)]) (fun g => g.1 ≤ g.2 ∧ g.2 ≤ 23 ∧ (∀ m, m < g.1 → (kf m).ty < t) ∧ (∀ m, m < 23 → g.2 ≤ m → t ≤ (kf m).ty)) (fun g => g.2 - g.1) ((0, 23)) ?_ ⟨by decide, by decide, fun m h2 => absurd h2 (Nat.not_lt_zero _), fun m h h2 => absurd h (Nat.not_lt.2 h2)⟩ ?_
  · skip
    refine Le.m 0 ?_ ?_
    · exact Go.Abs.evM
    · exact Go.Abs.evN
  · intro g hg K2 hK2
    obtain ⟨i, j⟩ := g
    dsimp only at hg ⊢
    obtain ⟨hg1, hg2, hg3, hg4⟩ := hg
    refine AWp.seqK fun K3 hK3 => ?_
    refine AWp.regionW ?_
    refine AWp.condLM (fun c0 => ?_) (fun c0 => ?_)
    · skip
      have hij : i < j := by simpa using c0
      obtain ⟨q, hq⟩ : ∃ q, (i + j) / 2 = q := ⟨_, rfl⟩
      have hiq : i ≤ q ∧ q < j := by omega
      have hq23 : q < 23 := by omega
      have hbd := (kind_small (kf q) (kf_mem q hq23)).1
      refine AWp.skip ?_
      refine hK3 _ ?_
      refine AWp.block ?_
      refine AWp.regionW ?_
      rw [half_w (i + j) (by omega), hq]
      refine AWp.regionM fun K4 hK4 => ?_
      refine ARun2.indexM (q) (kformA (kf q)) ?_ ?_
      · exact kformsA_kf q hq23
      refine ARun2.callVM (kind_cmp_c (kf q) t hbd ht) ?_
      refine ARun2.endm (hK4 _ ?_)
      refine AWp.condLM (fun c1 => ?_) (fun c1 => ?_)
      · skip
        have hc : (kf q).ty < t := by simp at c1; unfold N at c1; omega
        have hlt : ∀ m, m < q + 1 → (kf m).ty < t := fun m hm => by
          rcases Nat.lt_or_ge m q with h' | h'
          · exact Nat.lt_trans (kind_sorted m q hq23 h') hc
          · obtain rfl : m = q := by omega
            exact hc
        refine AWp.regionV ?_
        refine hK2 _ ((q + 1, j)) (⟨hiq.2, hg2, hlt, hg4⟩) (by show j - (q + 1) < j - i; omega) ?_
        refine Le.m 0 ?_ ?_
        · exact Go.Abs.evM
        · exact Go.Abs.evN
      · skip
        have hc : t ≤ (kf q).ty := by simp at c1; unfold N at c1; omega
        have hge : ∀ m, m < 23 → q ≤ m → t ≤ (kf m).ty := fun m hm23 hm => by
          rcases Nat.lt_or_ge q m with h' | h'
          · exact Nat.le_trans hc (Nat.le_of_lt (kind_sorted q m hm23 h'))
          · obtain rfl : m = q := by omega
            exact hc
        refine AWp.regionV ?_
        refine hK2 _ ((i, q)) (⟨hiq.1, by show q ≤ 23; omega, hg3, hge⟩) (by show q - i < j - i; omega) ?_
        refine Le.m 0 ?_ ?_
        · exact Go.Abs.evM
        · exact Go.Abs.evN
    · skip
      have hij : i = j := by simp at c0; omega
      subst hij
      have hk := kidx_of t i hg2 hg3 hg4
      obtain ⟨e1, e2, e3⟩ := kind_ends t i hg2 hg3 hg4
      refine AWp.exit ?_
      try simp only [thenQ, blockQ, noGo, reduceIte, Nat.reduceEqDiff]
      refine hK1 _ ?_
      refine AWp.regionA fun K5 hK5 => ?_
      refine ARun.segm 5 fun KS hKS => ?_
      refine ARun2.endm (hKS _ ?_); clear hKS KS
      apply ARun.grpM 8 4 true 47 [35, 39]
      · intro g4 KG hKG
        have hlt : i < 23 := by simpa using g4
        refine ARun2.gom ?_
        refine ARun2.indexM (i) (kformA (kf i)) ?_ ?_
        · exact kformsA_kf i hlt
        refine ARun2.callVM (kind_cmp_c (kf i) t ((kind_small (kf i) (kf_mem i hlt)).1) ht) ?_
        exact ARun2.endm (hKG _ Le.grpM)
      refine ARun2.gom ?_
      refine ARun2.endm (hK5 _ ?_)
      refine AWp.ret ?_
      try simp only [thenQ, blockQ, noGo]
      refine bodyQ.m ?_
      clear hK5 K5 hK3 K3 hK2 K2 hK1 K1
      have hb : (decide (i < 23) && (N (kf i).ty - N t == 0)) = kindHas t := by
        by_cases h : i < 23
        · rw [← e1 h, Bool.eq_iff_iff]; simp [h]; unfold N; omega
        · rw [e2 h]; simp [h]
      rw [← hk, ← hb]
      first | done | exact Hand.go
theorem arsz_t : arSz Tryz.prog 105 = some (23, 7) := by kernel_rfl
theorem kof_c (t : Nat) (ht : t < 256) : PC Tryz.prog 33 [u8 t] (.tup [kformA (kindOf t), bool (kindHas t)]) := by
  have hb := kind_bd t
  refine PC.of_bodyW (by simp only [push_cast]) Tryz.func33 rfl (by rw [Tryz.ntmps33]; simp) ?_
  refine AWp.regionW ?_
  refine AWp.regionM fun K1 hK1 => ?_
  refine ARun2.gsliceM (kformsA kindForms) kcells kglb kelems arsz_t rfl ?_
  refine ARun2.callM (bsearch_c t ht) ?_
  refine ARun2.endm (hK1 _ ?_)
  refine AWp.seqK fun K2 hK2 => ?_
  refine AWp.regionW ?_
  refine AWp.condLM (fun c0 => ?_) (fun c0 => ?_)
  · skip
    have hh : kindHas t = false := by simpa using c0
    have hz := hb.2.2.2.2.2.2.2 hh
    refine AWp.regionW ?_
    refine AWp.ret ?_
    try simp only [thenQ, blockQ, noGo]
    refine bodyQ.m ?_
    clear hK2 K2 hK1 K1
    rw [hz, hh]; simp only [zeroK]
    first | done | exact Hand.go
  · skip
    have hh : kindHas t = true := by simpa using c0
    obtain ⟨e1, e2⟩ := kidx_has t hh
    refine AWp.skip ?_
    refine hK2 _ ?_
    refine AWp.regionM fun K3 hK3 => ?_
    refine ARun2.gindexM (kformsA kindForms) kcells (kidx t) (kformA (kf (kidx t))) kglb kelems arsz_t rfl (by decide) (kformsA_kf _ e1) ?_
    refine ARun2.endm (hK3 _ ?_)
    refine AWp.ret ?_
    try simp only [thenQ, blockQ, noGo]
    refine bodyQ.m ?_
    clear hK3 K3 hK2 K2 hK1 K1
    rw [e2, hh]
    first | done | exact Hand.go
end Go.Proofs.YtldoehmlpdpiaaaGreatDoor.C
namespace Go.Abs
@[push_cast] theorem GNode.ty_mk (t : Nat) (d : List UInt8) (k : List GNode) : (GNode.mk t d k).ty = t := rfl
@[push_cast] theorem GNode.data_mk (t : Nat) (d : List UInt8) (k : List GNode) : (GNode.mk t d k).data = d := rfl
@[push_cast] theorem GNode.kids_mk (t : Nat) (d : List UInt8) (k : List GNode) : (GNode.mk t d k).kids = k := rfl
@[push_cast] theorem GNode.zero_mk : GNode.zero = .mk 0 [] [] := rfl
end Go.Abs
namespace Go.Proofs.YtldoehmlpdpiaaaGreatDoor.C
open Go.Abs
theorem tlv_le : ∀ (l : List Nat) (s : Nat), sumUp s (l.map (4 + ·)) ≤ s + l.sum + 7 * l.length
  | [], s => by simp [sumUp]
  | n :: l, s => by
    have := tlv_le l (upN s + (4 + n))
    have h := gapN_le s
    simp only [List.map_cons, sumUp, List.length_cons, List.sum_cons, upN] at *
    omega
mutual
theorem vlen_sz : ∀ n : GNode, vlen n + 7 ≤ 8 * n.sz
  | .mk t d k => by
    have h1 := nLens_sz k
    have h2 := tlv_le (nLens k) 0
    have h3 : (nLens k).length = k.length := by rw [nLens_map]; simp
    simp only [vlen, GNode.sz, tlvSize] at *
    omega
theorem nLens_sz : ∀ l : List GNode, (nLens l).sum + 7 * l.length ≤ 8 * szs l
  | [] => by simp [nLens, szs]
  | n :: l => by
    have h1 := vlen_sz n
    have h2 := nLens_sz l
    simp only [nLens, szs, List.sum_cons, List.length_cons] at *
    omega
end
theorem nSize_sz (n : GNode) : nSize [n] ≤ 8 * n.sz := by
  have h := vlen_sz n
  have e : nSize [n] = 4 + vlen n := by simp [nSize, nLens, tlvSize, sumUp, upN, gapN]
  omega
def rightN (n : GNode) (ok : Bool) : GNode × Bool := bif ok && (checkN 2 1 n == 0) then (n, true) else (.zero, false)
def u16s (l : List Nat) : List AV := l.map u16
@[push_cast] theorem u16s_hand (ids : List Nat) (l : List Nat) : AV.handL ids (u16s l) = u16s l := by
  rw [AV.handL_map]; simp [u16s, AV.hand]
@[push_cast] theorem u16s_len (l : List Nat) : (u16s l).length = l.length := by simp [u16s]
theorem u16s_at (l : List Nat) (i : Nat) (h : i < l.length) : (u16s l)[i]? = some (u16 l[i]) := by simp [u16s, h]
@[push_cast] theorem u16s_nil : u16s [] = [] := rfl
@[push_cast] theorem u16s_pl (l : List Nat) : AV.plL (u16s l) = true := by
  rw [AV.plL_iff]; intro x hx; simp only [u16s, List.mem_map] at hx; obtain ⟨b, _, rfl⟩ := hx; rfl
@[push_cast] theorem u16s_ids (p : Nat → Bool) (l : List Nat) : AV.idsOkL p (u16s l) = true := by
  rw [AV.idsOkL_iff]; intro x hx; simp only [u16s, List.mem_map] at hx; obtain ⟨b, _, rfl⟩ := hx; rfl
theorem beN_lt2 (l : List UInt8) (k : Nat) (h : l.length ≤ k) : beN l < 256 ^ k := by
  have := beN_lt l
  exact Nat.lt_of_lt_of_le this (Nat.pow_le_pow_right (by omega) h)
@[push_cast] theorem plL_app (l m : List AV) : AV.plL (l ++ m) = (AV.plL l && AV.plL m) := by
  rw [Bool.eq_iff_iff, Bool.and_eq_true, AV.plL_iff, AV.plL_iff, AV.plL_iff]
  simp only [List.mem_append]
  exact ⟨fun h => ⟨fun x hx => h x (.inl hx), fun x hx => h x (.inr hx)⟩, fun h x hx => hx.elim (h.1 x) (h.2 x)⟩
def rowsA (ls : List (List UInt8)) : List AV := ls.map fun l => .sl false 1 (bys l)
@[push_cast] theorem rowsA_len (l : List (List UInt8)) : (rowsA l).length = l.length := by simp [rowsA]
theorem rowsA_at (l : List (List UInt8)) (i : Nat) (h : i < l.length) : (rowsA l)[i]? = some (.sl false 1 (bys l[i])) := by simp [rowsA, h]
@[push_cast] theorem rowsA_nil : rowsA [] = [] := rfl
@[push_cast] theorem rowsA_cons (a : List UInt8) (l : List (List UInt8)) : rowsA (a :: l) = .sl false 1 (bys a) :: rowsA l := rfl
@[push_cast] theorem rowsA_ids (p : Nat → Bool) (l : List (List UInt8)) : AV.idsOkL p (rowsA l) = true := by
  rw [AV.idsOkL_iff]; intro x hx; simp only [rowsA, List.mem_map] at hx; obtain ⟨b, _, rfl⟩ := hx; simp only [push_cast]
@[push_cast] theorem rowsA_hand (ids : List Nat) (l : List (List UInt8)) : AV.handL ids (rowsA l) = rowsA l := by
  rw [AV.handL_map]; simp only [rowsA, List.map_map]
  refine List.map_congr_left fun x _ => ?_
  simp only [Function.comp, AV.hand, bys_hand]
def lens (ls : List (List UInt8)) : Nat := (ls.map List.length).sum
theorem lens_take (ls : List (List UInt8)) : ∀ i, lens (ls.take i) ≤ lens ls := by
  unfold lens
  induction ls with
  | nil => intro i; simp
  | cons a ls ih => intro i; cases i with
    | zero => simp
    | succ i => have := ih i; simp only [List.take_succ_cons, List.map_cons, List.sum_cons]; omega
theorem lens_snoc (ls : List (List UInt8)) (a : List UInt8) : lens (ls ++ [a]) = lens ls + a.length := by simp [lens]
theorem lens_flat (ls : List (List UInt8)) : ls.flatten.length = lens ls := by simp [lens, List.length_flatten]
theorem grow_c (n : Nat) (hn : n ≤ 2 ^ 40) : OC Tryz.prog 104 [.val (.slice none 0 0), nat n] [] (.own 0) [.row 5 1 []] := by
  refine OC.of_body [0] (by intro k hk; simp at hk) Tryz.func104 rfl (by rw [Tryz.ntmps104]; simp) ?_
  refine AWp.regionW ?_
  refine AWp.seqK fun K1 hK1 => ?_
  refine AWp.regionW ?_
  refine AWp.condF ?_
  refine AWp.skip ?_
  refine hK1 _ ?_
  refine AWp.seqK fun K2 hK2 => ?_
  refine AWp.regionM fun K3 hK3 => ?_
  refine ARun2.capNilM ?_
  refine ARun2.endm (hK3 _ ?_)
  rw [show IntKind.i64.wrap (0 - 0) = 0 from rfl, Int.sub_zero, w_nat n (by omega)]
  refine AWp.regionW ?_
  refine AWp.condLM (fun c1 => ?_) (fun c1 => ?_)
  · skip
    have h0 : 0 < n := by simpa using c1
    refine AWp.regionN fun K4 hK4 => ?_
    refine ARun2.capNilM ?_
    refine ARun2.frontNilM ?_
    refine ARun2.appendZerosM n h0 hn ?_
    refine ARun2.frontOwnM 0 (Nat.zero_le _) ?_
    refine ARun2.endm (hK4 _ ?_)
    refine hK2 _ ?_
    refine AWp.regionW ?_
    refine AWp.ret ?_
    try simp only [thenQ, blockQ, noGo]
    refine bodyQ.m ?_
    clear hK4 K4 hK3 K3 hK2 K2 hK1 K1
    refine endO.m ?_ ?_
    · first | rfl | simp
    · skip
      first | done | exact Hand.go
  · skip
    refine AWp.skip ?_
    refine hK2 _ ?_
    refine AWp.nilOwn 0 5 1 (by simp only [push_cast, ↓reduceIte, Nat.reduceEqDiff, Nat.reduceLT, Nat.reduceAdd, Nat.reduceSub, Nat.reduceMul, Nat.reduceLeDiff, Nat.reducePow, Int.reduceLT, Int.reduceToNat, reduceCtorEq, Int.reduceNeg, Int.reduceEq, Nat.reduceBEq, Nat.reduceBNe, Int.reduceBEq, Int.reduceBNe, String.reduceEq]) ?_
    simp only [push_cast, ↓reduceIte, Nat.reduceEqDiff, Nat.reduceLT, Nat.reduceAdd, Nat.reduceSub, Nat.reduceMul, Nat.reduceLeDiff, Nat.reducePow, Int.reduceLT, Int.reduceToNat, reduceCtorEq, Int.reduceNeg, Int.reduceEq, Nat.reduceBEq, Nat.reduceBNe, Int.reduceBEq, Int.reduceBNe, String.reduceEq]
    refine AWp.regionW ?_
    refine AWp.ret ?_
    try simp only [thenQ, blockQ, noGo]
    refine bodyQ.m ?_
    clear hK3 K3 hK2 K2 hK1 K1
    refine endO.m ?_ ?_
    · first | rfl | simp
    · skip
      first | done | exact Hand.go
theorem concat_o (ls : List (List UInt8)) (hl : lens ls ≤ 2 ^ 40) (hn : ls.length ≤ 2 ^ 40) : OC Tryz.prog 87 [.sl false 1 (rowsA ls)] [] (.own 0) [.row 5 1 (bys ls.flatten)] := by
  refine OC.of_body [0] (by intro k hk; simp at hk) Tryz.func87 rfl (by rw [Tryz.ntmps87]; simp) ?_
  refine AWp.regionW ?_
  refine AWp.regionW ?_
  refine AWp.seqK fun K1 hK1 => ?_
  refine AWp.regionW ?_
  refine AWp.block ?_
  refine AWp.loopK0 [0, 9, 10] (fun (i : Nat) => [(3, nat (lens (ls.take i))), (11, nat i)]) (fun i => i ≤ ls.length) (fun i => ls.length - i) (0) ?_ (Nat.zero_le _) ?_
  · skip
    refine Le.m 0 ?_ ?_
    · exact Go.Abs.evM
    · exact Go.Abs.evN
  · intro i hi K2 hK2
    refine AWp.regionW ?_
    refine AWp.seqK fun K3 hK3 => ?_
    refine AWp.condLM (fun c0 => ?_) (fun c0 => ?_)
    · skip
      have hil : i < ls.length := by simpa using c0
      have hlt := lens_take ls (i + 1)
      rw [List.take_succ_eq_append_getElem hil, lens_snoc] at hlt
      refine AWp.skip ?_
      refine hK3 _ ?_
      refine AWp.seqK fun K4 hK4 => ?_
      refine AWp.block ?_
      refine AWp.regionM fun K5 hK5 => ?_
      refine ARun2.indexM (i) (.sl false 1 (bys ls[i])) ?_ ?_
      · exact rowsA_at _ _ hil
      refine ARun2.endm (hK5 _ ?_)
      refine AWp.regionW ?_
      refine AWp.regionW ?_
      refine AWp.condF ?_
      refine AWp.skip ?_
      refine hK4 _ ?_
      refine AWp.regionV ?_
      refine hK2 _ (i + 1) (by omega) (by omega) ?_
      refine Le.m 0 ?_ ?_
      · exact Go.Abs.evM
      · simp only [push_cast, ↓reduceIte, Nat.reduceEqDiff, Nat.reduceLT, Nat.reduceAdd, Nat.reduceSub, Nat.reduceMul, Nat.reduceLeDiff, Nat.reducePow, Int.reduceLT, Int.reduceToNat, reduceCtorEq, Int.reduceNeg, Int.reduceEq, Nat.reduceBEq, Nat.reduceBNe, Int.reduceBEq, Int.reduceBNe, String.reduceEq]
        try simp (disch := omega) only [w_nat, w_add, w_addl, w_addr, w_sub, w_subl, w_mul, w_mull, w_mulr, w_u32, w_u16, w_u8, w_u32a, N_zero]
        rw [List.take_succ_eq_append_getElem hil, lens_snoc]
    · skip
      have hil : i = ls.length := by simp at c0; omega
      subst hil
      rw [List.take_length]
      refine AWp.exit ?_
      try simp only [thenQ, blockQ, noGo, reduceIte, Nat.reduceEqDiff]
      refine hK1 _ ?_
      refine AWp.regionM fun K6 hK6 => ?_
      refine ARun2.callOM [] (grow_c (lens ls) hl) ?_
      refine ARun2.endm (hK6 _ ?_)
      refine AWp.seqK fun K7 hK7 => ?_
      refine AWp.regionW ?_
      refine AWp.block ?_
      -- SLOTS THAT TURN AND ARE NOT TOLD: [6]
      refine AWp.loopK [6, 25, 26] (fun (i : Nat) => [(27, nat i)]) (fun i => [.row 5 1 (bys (ls.take i).flatten)]) (fun i => i ≤ ls.length) (fun i => ls.length - i) (0) ?_ (Nat.zero_le _) ?_
      · skip
        refine Le.m 1 ?_ ?_
        · exact Go.Abs.evM
        · exact Go.Abs.evN
      · intro i hi K8 hK8
        refine AWp.regionW ?_
        refine AWp.seqK fun K9 hK9 => ?_
        refine AWp.condLM (fun c2 => ?_) (fun c2 => ?_)
        · skip
          have hil : i < ls.length := by simpa using c2
          have hlt := lens_take ls (i + 1)
          rw [List.take_succ_eq_append_getElem hil, lens_snoc, ← lens_flat] at hlt
          refine AWp.skip ?_
          refine hK9 _ ?_
          refine AWp.seqK fun K10 hK10 => ?_
          refine AWp.block ?_
          refine AWp.regionM fun K11 hK11 => ?_
          refine ARun2.indexM (i) (.sl false 1 (bys ls[i])) ?_ ?_
          · exact rowsA_at _ _ hil
          refine ARun2.endm (hK11 _ ?_)
          refine AWp.regionN fun K12 hK12 => ?_
          refine ARun2.appendM ?_ ?_ ?_
          · rw [YtldoehmlpdpiaaaGreatDoor.Facts.eb40, bys_len, bys_len]; omega
          · rw [bys_len, bys_len]; omega
          refine ARun2.endm (hK12 _ ?_)
          refine hK10 _ ?_
          refine AWp.regionV ?_
          refine hK8 _ (i + 1) (by omega) (by omega) ?_
          refine Le.m 1 ?_ ?_
          · try simp only [push_cast, ↓reduceIte, Nat.reduceEqDiff, Nat.reduceLT, Nat.reduceAdd, Nat.reduceSub, Nat.reduceMul, Nat.reduceLeDiff, Nat.reducePow, Int.reduceLT, Int.reduceToNat, reduceCtorEq, Int.reduceNeg, Int.reduceEq, Nat.reduceBEq, Nat.reduceBNe, Int.reduceBEq, Int.reduceBNe, String.reduceEq]
            try simp (disch := omega) only [w_nat, w_add, w_addl, w_addr, w_sub, w_subl, w_mul, w_mull, w_mulr, w_u32, w_u16, w_u8, w_u32a, N_zero]
            first | done | skip
            rw [List.take_succ_eq_append_getElem hil, List.flatten_append, bys_append]; simp
          · exact Go.Abs.evN
        · skip
          have hil : i = ls.length := by simp at c2; omega
          subst hil
          refine AWp.exit ?_
          try simp only [thenQ, blockQ, noGo, reduceIte, Nat.reduceEqDiff]
          refine hK7 _ ?_
          refine AWp.regionW ?_
          refine AWp.ret ?_
          try simp only [thenQ, blockQ, noGo]
          refine bodyQ.m ?_
          clear hK9 K9 hK8 K8 hK7 K7 hK6 K6 hK3 K3 hK2 K2 hK1 K1
          refine endO.m ?_ ?_
          · rw [List.take_length]
          · skip
            first | done | exact Hand.go
theorem wjoin_o (ls : List (List UInt8)) (hl : lens ls ≤ 2 ^ 40) (hn : ls.length ≤ 2 ^ 40) : OC Tryz.prog 57 [.sl false 1 (rowsA ls)] [] (.own 0) [.row 5 1 (bys ls.flatten)] := by
  refine OC.of_body [0] (by intro k hk; simp at hk) Tryz.func57 rfl (by rw [Tryz.ntmps57]; simp) ?_
  refine AWp.regionW ?_
  refine AWp.regionM fun K1 hK1 => ?_
  refine ARun2.callOM [] (concat_o ls hl hn) ?_
  refine ARun2.endm (hK1 _ ?_)
  refine AWp.ret ?_
  try simp only [thenQ, blockQ, noGo]
  refine bodyQ.m ?_
  clear hK1 K1
  refine endO.m ?_ ?_
  · rfl
  · skip
    first | done | exact Hand.go
theorem wjoin_c (ls : List (List UInt8)) (hl : lens ls ≤ 2 ^ 40) (hn : ls.length ≤ 2 ^ 40) : PC Tryz.prog 57 [.sl false 1 (rowsA ls)] (.sl true 1 (bys ls.flatten)) := PC.of_own (wjoin_o ls hl hn)
def padB (l : List UInt8) : List UInt8 := l ++ List.replicate (gapN l.length) 0
theorem padB_len (l : List UInt8) : (padB l).length = upN l.length := by simp [padB, upN]
theorem padBytes_o (l : List UInt8) (hl : l.length ≤ 2 ^ 39) : OC Tryz.prog 103 [.sl false 1 (bys l)] [] (.own 0) [.row 5 1 (bys (padB l))] := by
  have hg := gapN_le l.length
  have hc := concat_o [l, List.replicate (gapN l.length) 0] (by simp [lens]; omega) (by simp)
  rw [show [l, List.replicate (gapN l.length) 0].flatten = padB l by simp [padB]] at hc
  refine OC.of_body [0] (by intro k hk; simp at hk) Tryz.func103 rfl (by rw [Tryz.ntmps103]; simp) ?_
  refine AWp.regionW ?_
  refine AWp.regionM fun K1 hK1 => ?_
  refine ARun2.callM (pad_gap l.length (by omega)) ?_
  refine ARun2.makeM (gapN l.length) ?_ ?_
  · omega
  refine ARun2.callOM [] (hc) ?_
  refine ARun2.endm (hK1 _ ?_)
  refine AWp.ret ?_
  try simp only [thenQ, blockQ, noGo]
  refine bodyQ.m ?_
  clear hK1 K1
  refine endO.m ?_ ?_
  · rfl
  · skip
    first | done | exact Hand.go
inductive Er where
  | ok
  | code (c : Nat)
  | flt (c i : Nat)
  deriving DecidableEq
def Er.isOk : Er → Bool
  | .ok => true
  | _ => false
@[push_cast] theorem isOk_ok : Er.ok.isOk = true := rfl
@[push_cast] theorem isOk_code (c : Nat) : (Er.code c).isOk = false := rfl
@[push_cast] theorem isOk_flt (c i : Nat) : (Er.flt c i).isOk = false := rfl
def erA : Er → AV
  | .ok => .val .nilIface
  | .code c => .ifc 123 (nat c)
  | .flt c i => .ifc 159 (.agg [nat c, nat i])
@[push_cast] theorem erA_ok : erA .ok = .val .nilIface := rfl
@[push_cast] theorem nilIs_er (e : Er) : nilIs .ifc (erA e) = some e.isOk := by cases e <;> rfl
@[push_cast] theorem er_ids (p : Nat → Bool) (e : Er) : (erA e).idsOk p = true := by cases e <;> rfl
@[push_cast] theorem er_hand (ids : List Nat) (e : Er) : (erA e).hand ids = erA e := by cases e <;> rfl
@[push_cast] theorem er_one (e : Er) : (erA e).one = true := by cases e <;> rfl
@[push_cast] theorem er_flat (e : Er) : (erA e).flat = true := by cases e <;> rfl
@[push_cast] theorem er_cells (e : Er) : (erA e).cells = [erA e] := by cases e <;> rfl
@[push_cast] theorem er_fresh (e : Er) : (erA e).fresh = true := by cases e <;> rfl
theorem fnew_c (c i : Nat) : PC Tryz.prog 95 [nat c, nat i] (erA (.flt c i)) := by
  refine PC.of_bodyK (by simp only [push_cast]) Tryz.func95 rfl (by rw [Tryz.ntmps95]; simp) ?_
  refine AWp.regionW ?_
  refine AWp.regionW ?_
  refine AWp.ret ?_
  try simp only [thenQ, blockQ, noGo]
  refine bodyQ.m ?_
  exact Wk.eq rfl
  first | done | exact Wk.go
end Go.Proofs.YtldoehmlpdpiaaaGreatDoor.C
namespace Go.Abs
open Go.Extern
set_option linter.unusedSectionVars false
set_option linter.unnecessarySimpa false
def NatOk (P : Program) (f : FuncId) (e : Array Value → Sem Value) : Prop := ∀ vs w, (callFunc f vs).run P w = ((e vs).run P w).andThen fun v w' => .ok (.value v) w'
section
variable {P : Program} {ops : Array Oper} {E : Env} {s s' : AS} {ρ σ : List Value} {B : Nat → Prop} {a : Act} {w w' : World} {o : Oper} {rest : List Oper} {Q : AS → Prop} {R : Exit → AS → Prop}
theorem run_call_nat {f : FuncId} {e : Array Value → Sem Value} {args : Array Operand} {ts : Array TypeId} (he : NatOk P f e) (ho : o.op = .call { callee := .value (.func f), args := args, argTypes := ts }) {ρe : Operand → Value} (hf : ρe (.func f) = .func (.func f) #[] #[]) :
    (execOp ρe o).run P w = ((e (args.map ρe)).run P w).andThen fun v w' => .ok (.value v) w' := by
  have := he (args.map ρe) w
  simp [execOp, ho, resolve, hf, Deferred.ofValue, invoke, this]
theorem run_inv_nat {g : FuncId} {e : Array Value → Sem Value} {recv : Operand} {name : String} {args : Array Operand} {ts : Array TypeId} {RT : TypeId} {p p' : Value} (he : NatOk P g e)
    (hm : ∀ w, (Go.method (P.types.size + Made.depth) RT p name).run P w = .ok (g, p') w) (ho : o.op = .call { callee := .invoke recv name, args := args, argTypes := ts }) {ρe : Operand → Value} (hr : ρe recv = .iface RT p) :
    (execOp ρe o).run P w = ((e (#[p'] ++ args.map ρe)).run P w).andThen fun v w' => .ok (.value v) w' := by
  have h1 := he (#[p'] ++ args.map ρe) w
  have h2 := hm w
  have h3 : (callMethod (.iface RT p) name (args.map ρe)).run P w = ((e (#[p'] ++ args.map ρe)).run P w).andThen fun v w' => .ok (.value v) w' := by
    have hp : (program : Sem Program).run P w = .ok P w := rfl
    simp only [callMethod, Sem.run_bind, hp, Result.andThen_ok, h2]
    exact h1
  have h4 : (#[ρe recv] ++ args.map ρe)[0]? = some (.iface RT p) := by rw [hr, Array.getElem?_append_left (by simp)]; rfl
  have h5 : (#[ρe recv] ++ args.map ρe).extract 1 (#[ρe recv] ++ args.map ρe).size = args.map ρe := by
    apply Array.ext'; simp
    exact List.take_of_length_le (by simp)
  simp only [execOp, ho, resolve, Sem.run_bind, Sem.run_pure, Result.andThen_ok, invoke, h4, h5]
  exact h3
theorem args_vals {l : List Operand} {vs : List Value} (hs : RS E s ρ B a w) (h : l.map s.ev = vs.map AV.val) : l.map a.eval = vs := by
  have hr := RelL.map_ev hs l
  rw [h] at hr
  generalize l.map a.eval = us at hr
  clear h
  induction vs generalizing us with
  | nil => cases hr; rfl
  | cons v vs ih => cases hr with | cons h1 h2 => rw [h1.val_eq, ih _ h2]
theorem eval_func (f : FuncId) : a.eval (.func f) = .func (.func f) #[] #[] := rfl
theorem AOp.invC {g : FuncId} {e : Array Value → Sem Value} {recv : Operand} {name : String} {args : Array Operand} {ts : Array TypeId} {RT : TypeId} {p p' : Value} {vs : List Value} {v : Value} (he : NatOk P g e) (hm : ∀ w, (Go.method (P.types.size + Made.depth) RT p name).run P w = .ok (g, p') w)
    (hr : ∀ w, (e (p' :: vs).toArray).run P w = .ok v w) (ho : o.op = .call { callee := .invoke recv name, args := args, argTypes := ts }) (hx : s.ev recv = .val (.iface RT p)) (hv : args.toList.map s.ev = vs.map AV.val) (K : ARun P ops rest (s.put o.dst (.val v)) Q) : AOp P ops o rest s Q := by
  refine AOp.pure1 (fun E ρ B a w hs => ⟨v, ?_, .val _⟩) K
  have ha : args.map a.eval = vs.toArray := by apply Array.ext'; simpa using args_vals hs hv
  have hxv := (hx ▸ hs.ev recv : Rel w B E.bs ρ (.val (.iface RT p)) (a.eval recv)).val_eq
  rw [run_inv_nat he hm ho hxv, ha, show #[p'] ++ vs.toArray = (p' :: vs).toArray by simp, hr]; rfl
theorem AOp.natV {f : FuncId} {e : Array Value → Sem Value} {x : Operand} {ts : Array TypeId} {h fl : Value} {nw : Bool} {y r : AV} (he : NatOk P f e) (ho : o.op = .call { callee := .value (.func f), args := #[x], argTypes := ts }) (hx : s.ev x = .agg [.val h, .ref nw y, .val fl])
    (hr : ∀ (w : World) (B : Nat → Prop) (bs : Nat) (ρ : List Value) (b o : Nat), RelCells w B bs ρ nw b o y.cells → ∃ v, (e #[.agg #[h, .pointer (some ⟨b, o, none⟩), fl]]).run P w = .ok v w ∧ Rel w B bs ρ r v)
    (K : ARun P ops rest (s.put o.dst r) Q) : AOp P ops o rest s Q := by
  refine AOp.pure1 (fun E ρ B a w hs => ?_) K
  have hxr := hs.ev x
  rw [hx] at hxr
  generalize hq : a.eval x = u at hxr
  cases hxr with
  | agg h1 =>
    cases h1 with
    | cons a1 h1 => cases h1 with
      | cons a2 h1 => cases h1 with
        | cons a3 h1 =>
          cases h1
          have e1 := a1.val_eq
          have e3 := a3.val_eq
          subst e1; subst e3
          cases a2 with
          | ref hc hn =>
            obtain ⟨v, k1, k2⟩ := hr w B E.bs ρ _ _ hc
            refine ⟨v, ?_, k2⟩
            rw [run_call_nat he ho (eval_func f), show (#[x] : Array Operand).map a.eval = #[a.eval x] by simp, hq]
            have k1' := congrArg (fun r : Result Value => r.andThen fun v w' => (Result.ok (Next.value v) w' : Result Next)) k1
            exact k1'
theorem AOp.valueOf {f : FuncId} {e : Array Value → Sem Value} {x : Operand} {ts : Array TypeId} {T : TypeId} {h fl : Value} {y : AV} (he : NatOk P f e) (ho : o.op = .call { callee := .value (.func f), args := #[x], argTypes := ts }) (hx : s.ev x = .ifc T y) (hf : y.flat = true) (hne : y.cells ≠ [])
    (hr : ∀ (w : World) (B : Nat → Prop) (bs : Nat) (ρ : List Value) (v : Value), Rel w B bs ρ y v → (e #[.iface T v]).run P w = .ok (.agg #[h, .pointer (some ⟨w.heap.size, 0, none⟩), fl]) (w.alloc (.cells (List.toArray v.cells.toList) T)))
    (K : ARun P ops rest (s.put o.dst (.agg [.val h, .ref true y, .val fl])) Q) : AOp P ops o rest s Q := by
  refine AOp.value (s' := s) (fun E ρ B a w hs => ?_) K
  have hxr := hs.ev x
  rw [hx] at hxr
  generalize hq : a.eval x = u at hxr
  cases hxr with
  | ifc h1 =>
    rename_i v
    have hrun := hr w B E.bs ρ v h1
    obtain ⟨c1, c2⟩ := h1.toCells hf
    have hsame := same_alloc w (.cells (List.toArray v.cells.toList) T)
    refine ⟨.agg #[h, .pointer (some ⟨w.heap.size, 0, none⟩), fl], w.alloc (.cells (List.toArray v.cells.toList) T), ρ, _, ?_, hs.pubNew hsame (Nat.le_refl _) (by simp), .agg (.cons (.val _) (.cons (.ref (RelCells.mk (vs := v.cells.toList) (.inr rfl) (fun _ => hs.rw_.le) (c1.mono (fun _ h => .inl h) (fun b hb => hsame.block b (hs.rw_.blt b hb)) (Nat.le_refl _) (fun _ _ h => h)) c2 ?_) hne) (.cons (.val _) .nil)))⟩
    · rw [run_call_nat he ho (eval_func f), show (#[x] : Array Operand).map a.eval = #[a.eval x] by simp, hq]
      exact congrArg (fun r : Result Value => r.andThen fun v w' => (Result.ok (Next.value v) w' : Result Next)) hrun
    · intro j u hj
      exact block_cell (alloc_get w _) 0 j u (by simpa using hj)
theorem AOp.natSet {f : FuncId} {e : Array Value → Sem Value} {x y : Operand} {ts : Array TypeId} {T T' : TypeId} {h1 f1 h2 f2 : Value} {k off : Nat} {nw : Bool} {z z' : AV} {cs : List AV} (he : NatOk P f e) (ho : o.op = .call { callee := .value (.func f), args := #[x, y], argTypes := ts })
    (hx : s.ev x = .agg [.val h1, .ptr k off, .val f1]) (hy : s.ev y = .agg [.val h2, .ref nw z, .val f2]) (hk : s.ob[k]? = some (.box T' cs)) (hz : part' z.cells 0 (tk P T) = some z') (hf : z'.flat = true) (hl : z'.cells.length = tkLen (tk P T)) (hpos : 0 < tkLen (tk P T)) (hle : off + z'.cells.length ≤ cs.length)
    (hr : ∀ (ta b : Addr) (w w' : World) (v : Value), (loadVar T b).run P w = .ok v w → (storeVar T ta v).run P w = .ok () w' → (e #[.agg #[h1, .pointer (some ta), f1], .agg #[h2, .pointer (some b), f2]]).run P w = .ok (.tuple #[]) w')
    (K : ARun P ops rest (({ s with ob := s.ob.set k (.box T' (splice cs off z'.cells)) } : AS).put o.dst (.val (.tuple #[]))) Q) : AOp P ops o rest s Q := by
  refine AOp.value (s' := { s with ob := s.ob.set k (.box T' (splice cs off z'.cells)) }) (fun E ρ B a w hs => ?_) K
  have hxr := hs.ev x
  rw [hx] at hxr
  generalize hq : a.eval x = u at hxr
  have hyr := hs.ev y
  rw [hy] at hyr
  generalize hq2 : a.eval y = u2 at hyr
  cases hxr with
  | agg g1 => cases g1 with
    | cons a1 g1 => cases g1 with
      | cons a2 g1 => cases g1 with
        | cons a3 g1 =>
          cases g1
          have e1 := a1.val_eq
          have e3 := a3.val_eq
          subst e1; subst e3
          cases hyr with
          | agg g2 => cases g2 with
            | cons b1 g2 => cases g2 with
              | cons b2 g2 => cases g2 with
                | cons b3 g2 =>
                  cases g2
                  have d1 := b1.val_eq
                  have d3 := b3.val_eq
                  subst d1; subst d3
                  cases b2 with
                  | ref hc hn =>
                    rename_i bb bo
                    obtain ⟨zs, c1, c2, c3⟩ := hc.get
                    obtain ⟨zv, l1, l2⟩ := run_load_cells (P := P) (T := T) (off := 0) rfl c1 c3 hz
                    obtain ⟨b, vs, fz, r1, r2, r3, r4, r5, r6⟩ := box_cells hs hk (b := 0)
                    obtain ⟨t1, t2⟩ := l2.toCells hf
                    have hi : ∃ i, P.info? T = some i ∧ i.size = z'.cells.length := by
                      rw [hl]
                      cases ht : tk P T with
                      | scal => obtain ⟨d, i, _, hi, hs, _⟩ := tk_scal ht; exact ⟨i, hi, hs⟩
                      | aggr n => obtain ⟨d, i, _, hi, hs, _⟩ := tk_aggr ht; exact ⟨i, hi, hs⟩
                      | bad => rw [ht] at hpos; simp [tkLen] at hpos
                    obtain ⟨i, hi, hsz⟩ := hi
                    have hlen := r4.length_eq
                    have hlc := t1.length_eq
                    have hst := run_storeVar (P := P) (w := w) (t := T) (b := b) (o := off) (T := T') hi (v := zv) rfl (by rw [hsz, hlc]) r2 r3 (by omega) (t1.ones t2)
                    have hw : RS E { s with ob := s.ob.set k (.box T' (splice cs off z'.cells)) } ρ B a (setBlk w b (.cells (vs.take off ++ zv.cells.toList ++ vs.drop (off + zv.cells.toList.length)).toArray T' fz)) := by
                      obtain ⟨p1, p2, p3⟩ := hs.rw_.prv k _ _ b hk rfl r1 rfl
                      have hB : ∀ b', B b' → (setBlk w b (.cells (vs.take off ++ zv.cells.toList ++ vs.drop (off + zv.cells.toList.length)).toArray T' fz)).heap[b']? = w.heap[b']? := fun b' hb' => by
                        rw [setBlk_get _ _ _ _ p2, if_neg (by rintro rfl; exact p1 hb')]
                      refine hs.write (b := b) hk rfl r1 rfl ⟨b, _, fz, r1, by rw [setBlk_get _ _ _ _ p2, if_pos rfl], ?_, (r4.splice t1 off).mono (fun _ h => h) hB (Nat.le_refl _) (fun _ _ h => h), ?_⟩
                      · have : (vs.take off ++ zv.cells.toList ++ vs.drop (off + zv.cells.toList.length)).length = vs.length := by simp only [List.length_append, List.length_take, List.length_drop]; omega
                        rw [this]; exact r3
                      · intro c hc
                        simp only [splice, List.mem_append] at hc
                        rcases hc with (hc | hc) | hc
                        · exact r5 c (List.mem_of_mem_take hc)
                        · exact AV.oc_of (t2 c hc)
                        · exact r5 c (List.mem_of_mem_drop hc)
                    cases a2 with
                    | ptr hp =>
                      rw [r1] at hp
                      simp only [Option.some.injEq, Value.pointer.injEq, Addr.mk.injEq, and_true] at hp
                      subst hp
                      refine ⟨.tuple #[], _, ρ, B, ?_, hw, .val _⟩
                      rw [run_call_nat he ho (eval_func f), show (#[x, y] : Array Operand).map a.eval = #[a.eval x, a.eval y] by simp, hq, hq2]
                      exact congrArg (fun r : Result Value => r.andThen fun v w' => (Result.ok (Next.value v) w' : Result Next)) (hr _ _ _ _ _ l1 hst)
theorem AWp.loop2 {c : Code} (h : ∀ K : AS → Prop, (∀ s', AWp P c s' (thenQ (fun _ => False) R) → K s') → AWp P c s (thenQ K R)) : AWp P (.loop c) s R := by
  refine AWp.loop (α := Nat) (fun n s' => (n = 1 ∧ s' = s) ∨ (n = 0 ∧ AWp P c s' (thenQ (fun _ => False) R))) (fun n => n) 1 (.inl ⟨rfl, rfl⟩) ?_
  rintro n s' (⟨rfl, rfl⟩ | ⟨rfl, hk⟩)
  · refine (h (fun s' => AWp P c s' (thenQ (fun _ => False) R)) fun _ hk => hk).mono ?_
    intro e s2 q
    cases e with
    | normal => exact ⟨0, .inr ⟨rfl, q⟩, Nat.zero_lt_one⟩
    | _ => exact q
  · refine hk.mono ?_
    intro e s2 q
    cases e with
    | normal => exact q.elim
    | _ => exact q
theorem ARun2.invCM {g : FuncId} {e : Array Value → Sem Value} {recv : Operand} {name : String} {args : Array Operand} {ts : Array TypeId} {RT : TypeId} {pp pp' : Value} {p : List Oper × AS} (vs : List Value) (v : Value) (he : NatOk P g e) (hm : ∀ w, (Go.method (P.types.size + Made.depth) RT pp name).run P w = .ok (g, pp') w)
    (hr : ∀ w, (e (pp' :: vs).toArray).run P w = .ok v w) (K : ARun2 P ops p Q) (ho : o.op = .call { callee := .invoke recv name, args := args, argTypes := ts } := by rfl)
    (hg : gd ops s o = some true := by exact Go.Abs.evT) (hx : s.ev recv = .val (.iface RT pp) := by exact Go.Abs.evT) (hv : args.toList.map s.ev = vs.map AV.val := by exact Go.Abs.evT) (h : srun P ops rest (s.put o.dst (.val v)) = p := by
        exact Go.Abs.evE) : ARun2 P ops (o :: rest, s) Q :=
  ARun.exec hg (AOp.invC he hm hr ho hx hv (ARun.srun (h ▸ K)))
theorem ARun2.natVM {f : FuncId} {e : Array Value → Sem Value} {x : Operand} {ts : Array TypeId} {hh fl : Value} {nw : Bool} {y : AV} {p : List Oper × AS} (r : AV) (he : NatOk P f e)
    (hr : ∀ (w : World) (B : Nat → Prop) (bs : Nat) (ρ : List Value) (b o : Nat), RelCells w B bs ρ nw b o y.cells → ∃ v, (e #[.agg #[hh, .pointer (some ⟨b, o, none⟩), fl]]).run P w = .ok v w ∧ Rel w B bs ρ r v) (K : ARun2 P ops p Q)
    (ho : o.op = .call { callee := .value (.func f), args := #[x], argTypes := ts } := by rfl) (hg : gd ops s o = some true := by exact Go.Abs.evT) (hx : s.ev x = .agg [.val hh, .ref nw y, .val fl] := by exact Go.Abs.evT) (h : srun P ops rest (s.put o.dst r) = p := by
        exact Go.Abs.evE) : ARun2 P ops (o :: rest, s) Q :=
  ARun.exec hg (AOp.natV he ho hx hr (ARun.srun (h ▸ K)))
theorem ARun2.valueOfM {f : FuncId} {e : Array Value → Sem Value} {x : Operand} {ts : Array TypeId} {T : TypeId} {hh fl : Value} {y : AV} {p : List Oper × AS} (he : NatOk P f e)
    (hr : ∀ (w : World) (B : Nat → Prop) (bs : Nat) (ρ : List Value) (v : Value), Rel w B bs ρ y v → (e #[.iface T v]).run P w = .ok (.agg #[hh, .pointer (some ⟨w.heap.size, 0, none⟩), fl]) (w.alloc (.cells (List.toArray v.cells.toList) T))) (K : ARun2 P ops p Q)
    (ho : o.op = .call { callee := .value (.func f), args := #[x], argTypes := ts } := by rfl) (hg : gd ops s o = some true := by exact Go.Abs.evT) (hx : s.ev x = .ifc T y := by exact Go.Abs.evT) (hf : y.flat = true := by exact Go.Abs.evT) (hne : y.cells.isEmpty = false := by exact Go.Abs.evT)
    (h : srun P ops rest (s.put o.dst (.agg [.val hh, .ref true y, .val fl])) = p := by
        exact Go.Abs.evE) : ARun2 P ops (o :: rest, s) Q :=
  ARun.exec hg (AOp.valueOf he ho hx hf (by intro e; rw [e] at hne; cases hne) hr (ARun.srun (h ▸ K)))
theorem ARun2.natSetM {f : FuncId} {e : Array Value → Sem Value} {x y : Operand} {ts : Array TypeId} {T T' : TypeId} {h1 f1 h2 f2 : Value} {k off : Nat} {nw : Bool} {z z' : AV} {cs : List AV} {p : List Oper × AS} (he : NatOk P f e)
    (hr : ∀ (ta b : Addr) (w w' : World) (v : Value), (loadVar T b).run P w = .ok v w → (storeVar T ta v).run P w = .ok () w' → (e #[.agg #[h1, .pointer (some ta), f1], .agg #[h2, .pointer (some b), f2]]).run P w = .ok (.tuple #[]) w') (K : ARun2 P ops p Q)
    (ho : o.op = .call { callee := .value (.func f), args := #[x, y], argTypes := ts } := by rfl) (hg : gd ops s o = some true := by exact Go.Abs.evT) (hx : s.ev x = .agg [.val h1, .ptr k off, .val f1] := by exact Go.Abs.evT) (hy : s.ev y = .agg [.val h2, .ref nw z, .val f2] := by exact Go.Abs.evT) (hk : s.ob[k]? = some (.box T' cs) := by exact Go.Abs.evT)
    (hz : part' z.cells 0 (tk P T) = some z' := by exact Go.Abs.evT) (hf : z'.flat = true := by exact Go.Abs.evT) (hl : (decide (z'.cells.length = tkLen (tk P T)) && decide (0 < tkLen (tk P T)) && decide (off + z'.cells.length ≤ cs.length)) = true := by exact Go.Abs.evT)
    (h : srun P ops rest (({ s with ob := s.ob.set k (.box T' (splice cs off z'.cells)) } : AS).put o.dst (.val (.tuple #[]))) = p := by
        exact Go.Abs.evE) : ARun2 P ops (o :: rest, s) Q := by
  simp only [Bool.and_eq_true, decide_eq_true_eq] at hl
  exact ARun.exec hg (AOp.natSet he ho hx hy hk hz hf hl.1.1 hl.1.2 hl.2 hr (ARun.srun (h ▸ K)))
theorem AOp.invCall {g : FuncId} {recv : Operand} {name : String} {args : Array Operand} {ts : Array TypeId} {T : TypeId} {y r : AV} {ys : List AV} (ho : o.op = .call { callee := .invoke recv name, args := args, argTypes := ts }) (hx : s.ev recv = .ifc T y)
    (hm : ∀ v w, (Go.method (P.types.size + Made.depth) T v name).run P w = .ok (g, v) w) (hc : callable P g = true) (hp : PC P g ys r) (hsub : SubL (y :: args.toList.map s.ev) ys) (K : ARun P ops rest (s.put o.dst r) Q) : AOp P ops o rest s Q := by
  intro E hE ρ B a w hs Q' hQ
  have hxr := hs.ev recv
  rw [hx] at hxr
  generalize hq : a.eval recv = u at hxr
  cases hxr with
  | ifc h1 =>
    rename_i v
    have he : (execOp a.eval o).run P w = .ok (.enter g (v :: args.toList.map a.eval).toArray) w := by
      have h4 : (#[a.eval recv] ++ args.map a.eval)[0]? = some (.iface T v) := by rw [hq, Array.getElem?_append_left (by simp)]; rfl
      have h5 : (#[a.eval recv] ++ args.map a.eval).extract 1 (#[a.eval recv] ++ args.map a.eval).size = args.map a.eval := by
        apply Array.ext'; simp
        exact List.take_of_length_le (by simp)
      have hp : (program : Sem Program).run P w = .ok P w := rfl
      simp only [execOp, ho, resolve, Sem.run_bind, Sem.run_pure, Result.andThen_ok, invoke, h4, h5, callMethod, hp, hm]
      have := callFunc_run hc (#[v] ++ args.map a.eval) w
      rw [show (v :: args.toList.map a.eval).toArray = #[v] ++ args.map a.eval by apply Array.ext'; simp]
      exact this
    have hrel : RelL w B E.bs ρ (y :: args.toList.map s.ev) (v :: args.toList.map a.eval) := .cons h1 (RelL.map_ev hs _)
    refine owp_enter he ?_
    refine hp.2 E.bs w [] B _ (hE.glb.call hs.rw_ (fun _ h => h) (by intro v hv; simp at hv)) hs.rw_.callee (hsub.rel (Nat.le_refl _) hrel) _ ?_
    rintro r' v' τ' ρ' B' w' ⟨rfl, rfl⟩ hw hv
    have hρ : ρ' = [] := by have := hw.len; simpa using this
    subst hρ
    have hs' := hs.back hw
    refine ⟨v', rfl, K E hE ρ B' _ w' (hs'.put o.dst ?_) Q' hQ⟩
    refine (hv.mono (fun _ h => h) (fun _ _ => rfl) (Nat.le_refl _) (fun _ _ h => h)).ids (p := fun _ => false) ?_ hp.1
    intro _ _ h; simp at h
theorem ARun2.invCallM {g : FuncId} {recv : Operand} {name : String} {args : Array Operand} {ts : Array TypeId} {T : TypeId} {y r : AV} {ys : List AV} {p : List Oper × AS} (hp : PC P g ys r) (hm : ∀ v w, (Go.method (P.types.size + Made.depth) T v name).run P w = .ok (g, v) w) (K : ARun2 P ops p Q)
    (ho : o.op = .call { callee := .invoke recv name, args := args, argTypes := ts } := by rfl) (hg : gd ops s o = some true := by exact Go.Abs.evT) (hx : s.ev recv = .ifc T y := by exact Go.Abs.evT) (hc : callable P g = true := by exact Go.Abs.evT)
    (hsub : HandL [] (y :: args.toList.map s.ev) ys := by
      exact Go.Abs.evH)
    (h : srun P ops rest (s.put o.dst r) = p := by
        exact Go.Abs.evE) : ARun2 P ops (o :: rest, s) Q := ARun.exec hg (AOp.invCall ho hx hm hc hp (SubL.of hsub) (ARun.srun (h ▸ K)))
theorem ARun2.assertM {x : Operand} {xT aT T : TypeId} {y r : AV} {p : List Oper × AS} (F : Value → Value) (hr : ∀ v w, (Instr.typeAssert (.iface T v) xT aT true).run P w = .ok (F v) w) (hF : ∀ (w : World) (B : Nat → Prop) (bs : Nat) (ρ : List Value) (v : Value), Rel w B bs ρ (.ifc T y) (.iface T v) → Rel w B bs ρ r (F v)) (K : ARun2 P ops p Q)
    (ho : o.op = .typeAssert x xT aT true := by rfl) (hg : gd ops s o = some true := by exact Go.Abs.evT) (hx : s.ev x = .ifc T y := by exact Go.Abs.evT) (h : srun P ops rest (s.put o.dst r) = p := by
        exact Go.Abs.evE) : ARun2 P ops (o :: rest, s) Q := by
  refine ARun.exec hg (AOp.pure1 (fun E ρ B a w hs => ?_) (ARun.srun (h ▸ K)))
  have hxr := hs.ev x
  rw [hx] at hxr
  generalize hq : a.eval x = u at hxr
  have hxr' := hxr
  cases hxr with
  | ifc h1 =>
    rename_i v
    refine ⟨F v, ?_, hF _ _ _ _ _ hxr'⟩
    simp only [execOp, ho, hq]
    exact val_run (hr v w)
theorem ARun2.gloadM {T : TypeId} {g : Nat} {p : List Oper × AS} (v : Value) (hv : (g, [v]) ∈ glb) (ht : tk P T = .scal) (K : ARun2 P ops p Q) (ho : o.op = .load T (.global g) := by rfl) (hg : gd ops s o = some true := by exact Go.Abs.evT)
    (h : srun P ops rest (s.put o.dst (.val v)) = p := by
        exact Go.Abs.evE) : ARun2 P ops (o :: rest, s) Q := by
  refine ARun.exec hg ?_
  intro E hE ρ B a w hs Q' hQ
  obtain ⟨_, h2⟩ := hE.glb.now hs.rw_ _ hv
  have hcell := h2 0 v rfl
  have hl := run_loadVar_scal (P := P) ht hcell
  have hr : (execOp a.eval o).run P w = .ok (.value v) w := by
    simp only [execOp, ho]
    refine val_run ?_
    have e : a.eval (.global g) = .pointer (some ⟨g, 0, none⟩) := rfl
    simpa [Instr.loadAt, Instr.sureAddr, e] using hl
  exact owp_value hr ((ARun.srun (h ▸ K)) E hE ρ B _ w (hs.put o.dst (.val v)) Q' hQ)
theorem ARun2.natVM1 {f : FuncId} {e : Array Value → Sem Value} {x : Operand} {ts : Array TypeId} {T : TypeId} {y : AV} {v : Value} {p : List Oper × AS} (he : NatOk P f e) (hr : ∀ u w, (e #[.iface T u]).run P w = .ok v w) (K : ARun2 P ops p Q)
    (ho : o.op = .call { callee := .value (.func f), args := #[x], argTypes := ts } := by rfl) (hg : gd ops s o = some true := by exact Go.Abs.evT) (hx : s.ev x = .ifc T y := by exact Go.Abs.evT) (h : srun P ops rest (s.put o.dst (.val v)) = p := by
        exact Go.Abs.evE) : ARun2 P ops (o :: rest, s) Q := by
  refine ARun.exec hg (AOp.pure1 (fun E ρ B a w hs => ⟨v, ?_, .val _⟩) (ARun.srun (h ▸ K)))
  have hxr := hs.ev x
  rw [hx] at hxr
  generalize hq : a.eval x = u at hxr
  cases hxr with
  | ifc h1 =>
    rw [run_call_nat he ho (eval_func f), show (#[x] : Array Operand).map a.eval = #[a.eval x] by simp, hq, hr]; rfl
end
end Go.Abs
namespace Go.Proofs.YtldoehmlpdpiaaaGreatDoor.C
open Go.Abs Go.Extern
abbrev HT (t : Nat) : Value := .pointer (some ⟨3, t, none⟩)
abbrev RTY (t : Nat) : Value := .iface 190 (.agg #[HT t])
theorem nat_valueOf : NatOk Tryz.prog 110 (fun args => ReflectliteValue.unpack (args.getD 0 (.tuple #[]))) := fun vs w => run_callFunc_extern (e := fun args => ReflectliteValue.unpack (args.getD 0 (.tuple #[]))) Tryz.func110 (by kernel_rfl) (by kernel_rfl) (by kernel_rfl) (by kernel_rfl) vs w
theorem nat_type : NatOk Tryz.prog 111 (ReflectliteValue.methodAny (ReflectliteValue.valueError "reflectlite.Value.Type" 0) (fun t _ _ _ => ReflectliteType.toType t)) := fun vs w => run_callFunc_extern Tryz.func111 (by kernel_rfl) (by kernel_rfl) (by kernel_rfl) (by kernel_rfl) vs w
theorem nat_isNil : NatOk Tryz.prog 112 (ReflectliteValue.method (ReflectliteValue.valueError "reflectlite.Value.IsNil" 0) ReflectliteValue.isNil) := fun vs w => run_callFunc_extern Tryz.func112 (by kernel_rfl) (by kernel_rfl) (by kernel_rfl) (by kernel_rfl) vs w
theorem nat_kind : NatOk Tryz.prog 148 (ReflectliteType.abiMethod fun t => do pure (.int .u8 (← Rtype.kind t))) := fun vs w => run_callFunc_extern Tryz.func148 (by kernel_rfl) (by kernel_rfl) (by kernel_rfl) (by kernel_rfl) vs w
theorem nat_elem : NatOk Tryz.prog 160 (ReflectliteType.method ReflectliteType.elem) := fun vs w => run_callFunc_extern Tryz.func160 (by kernel_rfl) (by kernel_rfl) (by kernel_rfl) (by kernel_rfl) vs w
theorem nat_implements : NatOk Tryz.prog 161 (ReflectliteType.relation "Implements" ReflectliteType.implements_) := fun vs w => run_callFunc_extern Tryz.func161 (by kernel_rfl) (by kernel_rfl) (by kernel_rfl) (by kernel_rfl) vs w
theorem nat_typeOf : NatOk Tryz.prog 124 ReflectliteType.typeOf := fun vs w => run_callFunc_extern Tryz.func124 (by kernel_rfl) (by kernel_rfl) (by kernel_rfl) (by kernel_rfl) vs w
theorem nat_assignable : NatOk Tryz.prog 158 (ReflectliteType.relation "AssignableTo" ReflectliteType.assignableTo) := fun vs w => run_callFunc_extern Tryz.func158 (by kernel_rfl) (by kernel_rfl) (by kernel_rfl) (by kernel_rfl) vs w
theorem nat_elemV : NatOk Tryz.prog 125 (ReflectliteValue.method (ReflectliteValue.valueError "reflectlite.Value.Elem" 0) ReflectliteValue.elem) := fun vs w => run_callFunc_extern Tryz.func125 (by kernel_rfl) (by kernel_rfl) (by kernel_rfl) (by kernel_rfl) vs w
theorem nat_set : NatOk Tryz.prog 126 ReflectliteValue.set := fun vs w => run_callFunc_extern Tryz.func126 (by kernel_rfl) (by kernel_rfl) (by kernel_rfl) (by kernel_rfl) vs w
theorem m_kind (h : Value) (w : World) : (Go.method (Tryz.prog.types.size + Made.depth) 190 (.agg #[h]) "Kind").run Tryz.prog w = .ok (148, h) w := by kernel_rfl
theorem m_elem (h : Value) (w : World) : (Go.method (Tryz.prog.types.size + Made.depth) 190 (.agg #[h]) "Elem").run Tryz.prog w = .ok (160, .agg #[h]) w := by kernel_rfl
theorem m_implements (h : Value) (w : World) : (Go.method (Tryz.prog.types.size + Made.depth) 190 (.agg #[h]) "Implements").run Tryz.prog w = .ok (161, .agg #[h]) w := by kernel_rfl
theorem m_assignable (h : Value) (w : World) : (Go.method (Tryz.prog.types.size + Made.depth) 190 (.agg #[h]) "AssignableTo").run Tryz.prog w = .ok (158, .agg #[h]) w := by kernel_rfl
theorem rlm (z : Sem Value) (f : TypeId → Addr → Nat → Nat → Sem Value) (v : Value) :
    ReflectliteValue.method z f #[v] = (do match ← ReflectliteValue.parts v with | none => z | some (t, a, fl) => f t a fl (fl % 32)) := rfl
theorem rls (v x : Value) : ReflectliteValue.set #[v, x] = (do
    let (some (dst, a, fl), some (src, b, _)) := (← ReflectliteValue.parts v, ← ReflectliteValue.parts x)
      | unsupported (.noEntry "extern/(internal/reflectlite.Value).Set.zeroValue")
    if fl / ReflectliteValue.flagAddr % 2 == 0 then unsupported (.noEntry "extern/(internal/reflectlite.Value).Set.unaddressable")
    let val ← loadVar src b
    if ← Rtype.directlyAssignable dst src then storeVar dst a val
    else if ← Rtype.implements dst src then
      if (← Rtype.kind src) == 20 then
        match val with
        | .nilIface => unsupported (.noEntry "extern/reflectlite: a nil value of one interface type handed on as a value of another")
        | _ => storeVar dst a val
      else storeVar dst a (.iface src val)
    else panicString ("reflectlite.Set: value of type " ++ (← Rtype.spelt src) ++ " is not assignable to type " ++ (← Rtype.spelt dst))
    pure (.tuple #[])) := rfl
theorem pv_Code (w : World) (B : Nat → Prop) (bs : Nat) (ρ : List Value) (k off : Nat) (v : Value) (h : Rel w B bs ρ (.ptr k off) v) : ((fun args : Array Value => ReflectliteValue.unpack (args.getD 0 (.tuple #[]))) #[.iface 149 v]).run Tryz.prog w = .ok (.agg #[HT 149, .pointer (some ⟨w.heap.size, 0, none⟩), .int .u64 150]) (w.alloc (.cells (List.toArray v.cells.toList) 149)) := by
  cases h; kernel_rfl
theorem ty_Code (a : Addr) (w : World) : (ReflectliteValue.methodAny (ReflectliteValue.valueError "reflectlite.Value.Type" 0) (fun t _ _ _ => ReflectliteType.toType t) #[.agg #[HT 149, .pointer (some a), .int .u64 150]]).run Tryz.prog w = .ok (RTY 149) w := by kernel_rfl
theorem pk_Code (w : World) : ((ReflectliteType.abiMethod fun t => do pure (.int .u8 (← Rtype.kind t))) #[HT 149]).run Tryz.prog w = .ok (.int .u8 22) w := by kernel_rfl
theorem kd_Code (w : World) : ((ReflectliteType.abiMethod fun t => do pure (.int .u8 (← Rtype.kind t))) #[HT 123]).run Tryz.prog w = .ok (.int .u8 2) w := by kernel_rfl
theorem el_Code (w : World) : (ReflectliteType.method ReflectliteType.elem #[.agg #[HT 149]]).run Tryz.prog w = .ok (RTY 123) w := by kernel_rfl
theorem im_Code (w : World) : (ReflectliteType.relation "Implements" ReflectliteType.implements_ #[.agg #[HT 123], RTY 61]).run Tryz.prog w = .ok (.bool true) w := by kernel_rfl
theorem to_Code (v : Value) (w : World) : (ReflectliteType.typeOf #[.iface 123 v]).run Tryz.prog w = .ok (RTY 123) w := by kernel_rfl
theorem as_Code (w : World) : (ReflectliteType.relation "AssignableTo" ReflectliteType.assignableTo #[.agg #[HT 123], RTY 123]).run Tryz.prog w = .ok (.bool true) w := by kernel_rfl
theorem parts_Code (a : Addr) (w : World) : (ReflectliteValue.parts (.agg #[HT 149, .pointer (some a), .int .u64 150])).run Tryz.prog w = .ok (some (149, a, 150)) w := by kernel_rfl
theorem partsA_Code (a : Addr) (w : World) : (ReflectliteValue.parts (.agg #[HT 123, .pointer (some a), .int .u64 386])).run Tryz.prog w = .ok (some (123, a, 386)) w := by kernel_rfl
theorem partsV_Code (a : Addr) (w : World) : (ReflectliteValue.parts (.agg #[HT 123, .pointer (some a), .int .u64 130])).run Tryz.prog w = .ok (some (123, a, 130)) w := by kernel_rfl
theorem direct_Code (w : World) : (Rtype.directlyAssignable 123 123).run Tryz.prog w = .ok true w := by kernel_rfl
theorem elemOf_Code (w : World) : (Rtype.elem? 149).run Tryz.prog w = .ok (some 123) w := by kernel_rfl
theorem mk_Code (p : Addr) (w : World) : (ReflectliteValue.mk 123 p ReflectliteValue.flagAddr).run Tryz.prog w = .ok (.agg #[HT 123, .pointer (some p), .int .u64 386]) w := by kernel_rfl
theorem ty1_Code (y : AV) (nw : Bool) (w : World) (B : Nat → Prop) (bs : Nat) (ρ : List Value) (b o : Nat) (h : RelCells w B bs ρ nw b o y.cells) : ∃ v, (ReflectliteValue.methodAny (ReflectliteValue.valueError "reflectlite.Value.Type" 0) (fun t _ _ _ => ReflectliteType.toType t) #[.agg #[HT 149, .pointer (some ⟨b, o, none⟩), .int .u64 150]]).run Tryz.prog w = .ok v w ∧ Rel w B bs ρ (.val (RTY 149)) v :=
  ⟨_, ty_Code _ w, .val _⟩
theorem nil_Code (k off : Nat) (nw : Bool) (w : World) (B : Nat → Prop) (bs : Nat) (ρ : List Value) (b o : Nat) (h : RelCells w B bs ρ nw b o (AV.ptr k off).cells) : ∃ v, (ReflectliteValue.method (ReflectliteValue.valueError "reflectlite.Value.IsNil" 0) ReflectliteValue.isNil #[.agg #[HT 149, .pointer (some ⟨b, o, none⟩), .int .u64 150]]).run Tryz.prog w = .ok v w ∧ Rel w B bs ρ (.val (.bool false)) v := by
  cases h with
  | cons h1 h2 h3 h4 h5 h6 =>
    cases h5 with
    | ptr hp =>
      refine ⟨.bool false, ?_, .val _⟩
      rw [rlm]
      simp only [Sem.run_bind, parts_Code, Result.andThen]
      simp [ReflectliteValue.isNil, loadVar, isAgg, underlying, Tryz.underlying149, h3, Result.andThen]
theorem ev_Code (k off : Nat) (nw : Bool) (w : World) (B : Nat → Prop) (bs : Nat) (ρ : List Value) (b o : Nat) (h : RelCells w B bs ρ nw b o (AV.ptr k off).cells) : ∃ v, (ReflectliteValue.method (ReflectliteValue.valueError "reflectlite.Value.Elem" 0) ReflectliteValue.elem #[.agg #[HT 149, .pointer (some ⟨b, o, none⟩), .int .u64 150]]).run Tryz.prog w = .ok v w ∧ Rel w B bs ρ (.agg [.val (HT 123), .ptr k off, .val (.int .u64 386)]) v := by
  cases h with
  | cons h1 h2 h3 h4 h5 h6 =>
    cases h5 with
    | ptr hp =>
      refine ⟨_, ?_, .agg (.cons (.val _) (.cons (.ptr hp) (.cons (.val _) .nil)))⟩
      rw [rlm]
      simp only [Sem.run_bind, parts_Code, Result.andThen]
      simp [ReflectliteValue.elem, loadVar, isAgg, underlying, Tryz.underlying149, h3, Result.andThen, elemOf_Code, mk_Code]
theorem set_Code (ta b : Addr) (w w' : World) (v : Value) (h1 : (loadVar 123 b).run Tryz.prog w = .ok v w) (h2 : (storeVar 123 ta v).run Tryz.prog w = .ok () w') :
    (ReflectliteValue.set #[.agg #[HT 123, .pointer (some ta), .int .u64 386], .agg #[HT 123, .pointer (some b), .int .u64 130]]).run Tryz.prog w = .ok (.tuple #[]) w' := by
  rw [rls]
  simp only [Sem.run_bind, partsA_Code, partsV_Code, Result.andThen]
  simp [ReflectliteValue.flagAddr, h1, Result.andThen, direct_Code, h2]
theorem to_Fault (v : Value) (w : World) : (ReflectliteType.typeOf #[.iface 159 v]).run Tryz.prog w = .ok (RTY 159) w := by kernel_rfl
theorem as_mix (w : World) : (ReflectliteType.relation "AssignableTo" ReflectliteType.assignableTo #[.agg #[HT 159], RTY 123]).run Tryz.prog w = .ok (.bool false) w := by kernel_rfl
theorem vv_Code (c : Nat) (w : World) (B : Nat → Prop) (bs : Nat) (ρ : List Value) (v : Value) (h : Rel w B bs ρ (nat c) v) : ((fun args : Array Value => ReflectliteValue.unpack (args.getD 0 (.tuple #[]))) #[.iface 123 v]).run Tryz.prog w = .ok (.agg #[HT 123, .pointer (some ⟨w.heap.size, 0, none⟩), .int .u64 130]) (w.alloc (.cells (List.toArray v.cells.toList) 123)) := by
  cases h; kernel_rfl
end Go.Proofs.YtldoehmlpdpiaaaGreatDoor.C
namespace Go.Proofs.YtldoehmlpdpiaaaGreatDoor.C
open Go.Abs Go.Extern Go.Stop
theorem glb_err : (2, [RTY 61]) ∈ glb := by
  unfold glb; repeat (first | exact List.mem_cons_self | apply List.mem_cons_of_mem)
theorem unwrap_c (c i : Nat) : PC Tryz.prog 153 [.agg [nat c, nat i]] (erA (.code c)) := by
  refine PC.of_bodyK (by simp only [push_cast]) Tryz.func153 rfl (by rw [Tryz.ntmps153]; simp) ?_
  refine AWp.regionW ?_
  refine AWp.regionW ?_
  refine AWp.ret ?_
  try simp only [thenQ, blockQ, noGo]
  refine bodyQ.m ?_
  exact Wk.eq rfl
  first | done | exact Wk.go
theorem as2_Code (c x : Nat) : OC Tryz.prog 113 [.ifc 123 (nat c), .ifc 149 (.ptr 0 0), .agg [.val (HT 149), .ref false (.ptr 0 0), .val (.int .u64 150)], .val (RTY 123)] [.box 123 [nat x]] (bool true) [.box 123 [nat c]] := by
  refine OC.of_body [0] (by intro k hk; simp at hk; subst hk; rfl) Tryz.func113 rfl (by rw [Tryz.ntmps113]; simp) ?_
  refine AWp.regionW ?_
  refine AWp.block ?_
  refine AWp.loop2 fun KL hKL => ?_
  refine AWp.block ?_
  refine AWp.seqK fun K1 hK1 => ?_
  refine AWp.regionM fun K2 hK2 => ?_
  refine ARun2.natVM1 nat_typeOf (to_Code) ?_
  refine ARun2.invCM [RTY 123] (.bool true) nat_assignable (m_assignable _) as_Code ?_
  refine ARun2.endm (hK2 _ ?_)
  refine AWp.condT ?_
  refine AWp.regionM fun K3 hK3 => ?_
  refine ARun2.natVM _ nat_elemV (ev_Code 0 0 _) ?_
  refine ARun2.valueOfM nat_valueOf (vv_Code c) ?_
  refine ARun2.natSetM nat_set set_Code ?_
  refine ARun2.endm (hK3 _ ?_)
  refine AWp.regionW ?_
  refine AWp.ret ?_
  try simp only [thenQ, blockQ, noGo]
  refine bodyQ.m ?_
  clear hK3 K3 hK2 K2 hK1 K1 hKL KL
  refine endO.m ?_ ?_
  · rfl
  · skip
    first | done | exact Hand.go
theorem as_Code_hit (c x : Nat) : OC Tryz.prog 100 [.ifc 123 (nat c), .ifc 149 (.ptr 0 0)] [.box 123 [nat x]] (bool true) [.box 123 [nat c]] := by
  refine OC.of_body [0] (by intro k hk; simp at hk; subst hk; rfl) Tryz.func100 rfl (by rw [Tryz.ntmps100]; simp) ?_
  refine AWp.regionW ?_
  refine AWp.seqK fun K1 hK1 => ?_
  refine AWp.regionW ?_
  refine AWp.condF ?_
  refine AWp.skip ?_
  refine hK1 _ ?_
  refine AWp.seqK fun K2 hK2 => ?_
  refine AWp.regionW ?_
  refine AWp.condF ?_
  refine AWp.skip ?_
  refine hK2 _ ?_
  refine AWp.regionM fun K3 hK3 => ?_
  refine ARun2.valueOfM nat_valueOf (pv_Code · · · · 0 0) ?_
  refine ARun2.endm (hK3 _ ?_)
  refine AWp.regionM fun K4 hK4 => ?_
  refine ARun2.natVM _ nat_type (ty1_Code _ _) ?_
  refine ARun2.endm (hK4 _ ?_)
  refine AWp.seqK fun K5 hK5 => ?_
  refine AWp.regionM fun K6 hK6 => ?_
  refine ARun2.invCM [] (.int .u8 22) nat_kind (m_kind _) pk_Code ?_
  refine ARun2.natVM _ nat_isNil (nil_Code 0 0 _) ?_
  refine ARun2.endm (hK6 _ ?_)
  refine AWp.condF ?_
  refine AWp.skip ?_
  refine hK5 _ ?_
  refine AWp.regionM fun K7 hK7 => ?_
  refine ARun2.invCM [] (RTY 123) nat_elem (m_elem _) el_Code ?_
  refine ARun2.endm (hK7 _ ?_)
  refine AWp.seqK fun K8 hK8 => ?_
  refine AWp.regionM fun K9 hK9 => ?_
  refine ARun2.invCM [] (.int .u8 2) nat_kind (m_kind _) kd_Code ?_
  refine ARun2.gloadM (g := 2) (RTY 61) glb_err (by kernel_rfl) ?_
  refine ARun2.invCM [RTY 61] (.bool true) nat_implements (m_implements _) im_Code ?_
  refine ARun2.endm (hK9 _ ?_)
  refine AWp.condF ?_
  refine AWp.skip ?_
  refine hK8 _ ?_
  refine AWp.regionM fun K10 hK10 => ?_
  refine ARun2.callOM [0] (as2_Code c x) ?_
  refine ARun2.endm (hK10 _ ?_)
  refine AWp.ret ?_
  try simp only [thenQ, blockQ, noGo]
  refine bodyQ.m ?_
  clear hK10 K10 hK9 K9 hK8 K8 hK7 K7 hK6 K6 hK5 K5 hK4 K4 hK3 K3 hK2 K2 hK1 K1
  refine endO.m ?_ ?_
  · rfl
  · skip
    first | done | exact Hand.go
theorem no_as_Fault (v : Value) (w : World) : (Instr.typeAssert (.iface 159 v) 61 195 true).run Tryz.prog w = .ok (.tuple #[.nilIface, .bool false]) w := run_typeAssert_lacksB Tryz.underlying195 (by kernel_rfl) (by kernel_rfl) v 61 w
theorem un_Fault (v : Value) (w : World) : (Instr.typeAssert (.iface 159 v) 61 198 true).run Tryz.prog w = .ok (.tuple #[.iface 159 v, .bool true]) w := run_typeAssert_hasB Tryz.underlying198 (by kernel_rfl) v 61 w
theorem m_unwrap (v : Value) (w : World) : (Go.method (Tryz.prog.types.size + Made.depth) 159 v "Unwrap").run Tryz.prog w = .ok (153, v) w := by kernel_rfl
theorem rel_no {w : World} {B : Nat → Prop} {bs : Nat} {ρ : List Value} : Rel w B bs ρ (.tup [.val .nilIface, .val (.bool false)]) (.tuple #[.nilIface, .bool false]) := .tup (.cons (.val _) (.cons (.val _) .nil))
theorem rel_yes {T : TypeId} {y : AV} {w : World} {B : Nat → Prop} {bs : Nat} {ρ : List Value} {v : Value} (h : Rel w B bs ρ (.ifc T y) (.iface T v)) : Rel w B bs ρ (.tup [.ifc T y, .val (.bool true)]) (.tuple #[.iface T v, .bool true]) := .tup (.cons h (.cons (.val _) .nil))
theorem as2_in (c i x : Nat) : OC Tryz.prog 113 [.ifc 159 (.agg [nat c, nat i]), .ifc 149 (.ptr 0 0), .agg [.val (HT 149), .ref false (.ptr 0 0), .val (.int .u64 150)], .val (RTY 123)] [.box 123 [nat x]] (bool true) [.box 123 [nat c]] := by
  refine OC.of_body [0] (by intro k hk; simp at hk; subst hk; rfl) Tryz.func113 rfl (by rw [Tryz.ntmps113]; simp) ?_
  refine AWp.regionW ?_
  refine AWp.block ?_
  refine AWp.loop2 fun KL hKL => ?_
  refine AWp.block ?_
  refine AWp.seqK fun K1 hK1 => ?_
  refine AWp.regionM fun K2 hK2 => ?_
  refine ARun2.natVM1 nat_typeOf to_Fault ?_
  refine ARun2.invCM [RTY 123] (.bool false) nat_assignable (m_assignable _) as_mix ?_
  refine ARun2.endm (hK2 _ ?_)
  refine AWp.condF ?_
  refine AWp.skip ?_
  refine hK1 _ ?_
  refine AWp.seqK fun K3 hK3 => ?_
  refine AWp.regionM fun K4 hK4 => ?_
  refine ARun2.assertM _ no_as_Fault (fun _ _ _ _ _ _ => rel_no) ?_
  refine ARun2.endm (hK4 _ ?_)
  refine AWp.regionM fun K5 hK5 => ?_
  skip
  refine ARun2.endm (hK5 _ ?_)
  refine AWp.condF ?_
  refine AWp.skip ?_
  refine hK3 _ ?_
  refine AWp.regionW ?_
  refine AWp.block ?_
  refine AWp.regionM fun K6 hK6 => ?_
  refine ARun2.assertM _ un_Fault (fun _ _ _ _ _ => rel_yes) ?_
  refine ARun2.endm (hK6 _ ?_)
  refine AWp.condT ?_
  refine AWp.regionW ?_
  refine AWp.regionM fun K7 hK7 => ?_
  refine ARun2.invCallM (unwrap_c c i) m_unwrap ?_
  rw [show erA (.code c) = .ifc 123 (nat c) from rfl]
  refine ARun2.endm (hK7 _ ?_)
  refine AWp.regionW ?_
  refine AWp.condF ?_
  refine AWp.skip ?_
  refine hKL _ ?_
  refine AWp.block ?_
  refine AWp.seqK fun K8 hK8 => ?_
  refine AWp.regionM fun K9 hK9 => ?_
  refine ARun2.natVM1 nat_typeOf to_Code ?_
  refine ARun2.invCM [RTY 123] (.bool true) nat_assignable (m_assignable _) as_Code ?_
  refine ARun2.endm (hK9 _ ?_)
  refine AWp.condT ?_
  refine AWp.regionM fun K10 hK10 => ?_
  refine ARun2.natVM _ nat_elemV (ev_Code 0 0 _) ?_
  refine ARun2.valueOfM nat_valueOf (vv_Code c) ?_
  refine ARun2.natSetM nat_set set_Code ?_
  refine ARun2.endm (hK10 _ ?_)
  refine AWp.regionW ?_
  refine AWp.ret ?_
  try simp only [thenQ, blockQ, noGo]
  refine bodyQ.m ?_
  clear hK10 K10 hK9 K9 hK8 K8 hK7 K7 hK6 K6 hK5 K5 hK4 K4 hK3 K3 hK2 K2 hK1 K1 hKL KL
  refine endO.m ?_ ?_
  · rfl
  · skip
    first | done | exact Hand.go
theorem as_in (c i x : Nat) : OC Tryz.prog 100 [.ifc 159 (.agg [nat c, nat i]), .ifc 149 (.ptr 0 0)] [.box 123 [nat x]] (bool true) [.box 123 [nat c]] := by
  refine OC.of_body [0] (by intro k hk; simp at hk; subst hk; rfl) Tryz.func100 rfl (by rw [Tryz.ntmps100]; simp) ?_
  refine AWp.regionW ?_
  refine AWp.seqK fun K1 hK1 => ?_
  refine AWp.regionW ?_
  refine AWp.condF ?_
  refine AWp.skip ?_
  refine hK1 _ ?_
  refine AWp.seqK fun K2 hK2 => ?_
  refine AWp.regionW ?_
  refine AWp.condF ?_
  refine AWp.skip ?_
  refine hK2 _ ?_
  refine AWp.regionM fun K3 hK3 => ?_
  refine ARun2.valueOfM nat_valueOf (pv_Code · · · · 0 0) ?_
  refine ARun2.endm (hK3 _ ?_)
  refine AWp.regionM fun K4 hK4 => ?_
  refine ARun2.natVM _ nat_type (ty1_Code _ _) ?_
  refine ARun2.endm (hK4 _ ?_)
  refine AWp.seqK fun K5 hK5 => ?_
  refine AWp.regionM fun K6 hK6 => ?_
  refine ARun2.invCM [] (.int .u8 22) nat_kind (m_kind _) pk_Code ?_
  refine ARun2.natVM _ nat_isNil (nil_Code 0 0 _) ?_
  refine ARun2.endm (hK6 _ ?_)
  refine AWp.condF ?_
  refine AWp.skip ?_
  refine hK5 _ ?_
  refine AWp.regionM fun K7 hK7 => ?_
  refine ARun2.invCM [] (RTY 123) nat_elem (m_elem _) el_Code ?_
  refine ARun2.endm (hK7 _ ?_)
  refine AWp.seqK fun K8 hK8 => ?_
  refine AWp.regionM fun K9 hK9 => ?_
  refine ARun2.invCM [] (.int .u8 2) nat_kind (m_kind _) kd_Code ?_
  refine ARun2.gloadM (g := 2) (RTY 61) glb_err (by kernel_rfl) ?_
  refine ARun2.invCM [RTY 61] (.bool true) nat_implements (m_implements _) im_Code ?_
  refine ARun2.endm (hK9 _ ?_)
  refine AWp.condF ?_
  refine AWp.skip ?_
  refine hK8 _ ?_
  refine AWp.regionM fun K10 hK10 => ?_
  refine ARun2.callOM [0] (as2_in c i x) ?_
  refine ARun2.endm (hK10 _ ?_)
  refine AWp.ret ?_
  try simp only [thenQ, blockQ, noGo]
  refine bodyQ.m ?_
  clear hK10 K10 hK9 K9 hK8 K8 hK7 K7 hK6 K6 hK5 K5 hK4 K4 hK3 K3 hK2 K2 hK1 K1
  refine endO.m ?_ ?_
  · rfl
  · skip
    first | done | exact Hand.go
theorem as_none_Code (x : Nat) : OC Tryz.prog 100 [.val .nilIface, .ifc 149 (.ptr 0 0)] [.box 123 [nat x]] (bool false) [.box 123 [nat x]] := by
  refine OC.of_body [0] (by intro k hk; simp at hk; subst hk; rfl) Tryz.func100 rfl (by rw [Tryz.ntmps100]; simp) ?_
  refine AWp.regionW ?_
  refine AWp.seqK fun K1 hK1 => ?_
  refine AWp.regionW ?_
  refine AWp.condT ?_
  refine AWp.regionW ?_
  refine AWp.ret ?_
  try simp only [thenQ, blockQ, noGo]
  refine bodyQ.m ?_
  clear hK1 K1
  refine endO.m ?_ ?_
  · rfl
  · skip
    first | done | exact Hand.go
def Er.codeOf : Er → Nat × Bool
  | .ok => (0, false)
  | .code c => (c, true)
  | .flt c _ => (c, true)
def Er.atOf : Er → Nat × Bool
  | .flt _ i => (i, true)
  | _ => (0, false)
theorem code_ok : PC Tryz.prog 83 [.val .nilIface] (.tup [nat 0, bool false]) := by
  refine PC.of_bodyW (by simp only [push_cast]) Tryz.func83 rfl (by rw [Tryz.ntmps83]; simp) ?_
  refine AWp.regionW ?_
  refine AWp.regionW ?_
  refine AWp.regionM fun K1 hK1 => ?_
  refine ARun2.callOM [0] (as_none_Code 0) ?_
  refine ARun2.endm (hK1 _ ?_)
  refine AWp.regionW ?_
  refine AWp.ret ?_
  try simp only [thenQ, blockQ, noGo]
  refine bodyQ.m ?_
  clear hK1 K1
  first | done | exact Hand.go
theorem code_code (c : Nat) : PC Tryz.prog 83 [.ifc 123 (nat c)] (.tup [nat c, bool true]) := by
  refine PC.of_bodyW (by simp only [push_cast]) Tryz.func83 rfl (by rw [Tryz.ntmps83]; simp) ?_
  refine AWp.regionW ?_
  refine AWp.regionW ?_
  refine AWp.regionM fun K1 hK1 => ?_
  refine ARun2.callOM [0] (as_Code_hit c 0) ?_
  refine ARun2.endm (hK1 _ ?_)
  refine AWp.regionW ?_
  refine AWp.ret ?_
  try simp only [thenQ, blockQ, noGo]
  refine bodyQ.m ?_
  clear hK1 K1
  first | done | exact Hand.go
theorem code_flt (c i : Nat) : PC Tryz.prog 83 [.ifc 159 (.agg [nat c, nat i])] (.tup [nat c, bool true]) := by
  refine PC.of_bodyW (by simp only [push_cast]) Tryz.func83 rfl (by rw [Tryz.ntmps83]; simp) ?_
  refine AWp.regionW ?_
  refine AWp.regionW ?_
  refine AWp.regionM fun K1 hK1 => ?_
  refine ARun2.callOM [0] (as_in c i 0) ?_
  refine ARun2.endm (hK1 _ ?_)
  refine AWp.regionW ?_
  refine AWp.ret ?_
  try simp only [thenQ, blockQ, noGo]
  refine bodyQ.m ?_
  clear hK1 K1
  first | done | exact Hand.go
theorem code_c (e : Er) : PC Tryz.prog 83 [erA e] (.tup [nat e.codeOf.1, bool e.codeOf.2]) := by
  cases e with
  | ok => exact code_ok
  | code c => exact code_code c
  | flt c i => exact code_flt c i
def Er.shift (n : Nat) : Er → Er
  | .ok => .ok
  | .code c => .flt c n
  | .flt c i => .flt c (i + n)
end Go.Proofs.YtldoehmlpdpiaaaGreatDoor.C
namespace Go.Proofs.YtldoehmlpdpiaaaGreatDoor.C
open Go.Abs
@[push_cast] theorem frmA_hand (ids : List Nat) (b : Bool) (f : Frm) : (frmA b f).hand ids = frmA false f := by simp only [frmA, AV.hand, AV.handL, bys_hand]
theorem peek2_lt (l : List UInt8) (i : Nat) : peekN 2 l i < 65536 := by
  unfold peekN
  split
  · have := beN_lt ((l.drop i).take 2)
    have h2 : ((l.drop i).take 2).length ≤ 2 := List.length_take_le _ _
    calc beN ((l.drop i).take 2) < 256 ^ ((l.drop i).take 2).length := this
      _ ≤ 256 ^ 2 := Nat.pow_le_pow_right (by omega) h2
  · omega
@[push_cast] def readA (r : Frm × Nat × Er) : AV := .tup [frmA true r.1, nat r.2.1, erA r.2.2]
structure GChunk where
  ty : Nat
  flags : Nat
  data : List UInt8
  kids : List GNode
def GChunk.zero : GChunk := ⟨0, 0, [], []⟩
@[push_cast] def chunkA (b : Bool) (c : GChunk) : AV := .agg [u8 c.ty, u8 c.flags, .sl b 1 (bys c.data), .sl b 3 (nodesA b c.kids)]
def maskBad (f m : Nat) : Bool := bitsV .andNot .u8 (N f) (N m) != 0
def kkidsOk (k : KForm) (l : List GNode) : Bool :=
  decide ((kinsideN k.kids).2.1 ≤ l.length) && decide (l.length ≤ (kinsideN k.kids).2.2) && (k.kids != 1 || (l.headD default).ty == 1) && (k.kids != 6 || ((l.headD default).ty == 5 || (l.headD default).ty == 6))
def sackBad (c : GChunk) : Bool := c.ty == 3 && (peekN 2 c.data 8 + peekN 2 c.data 10 != (c.data.length - 12) / 4)
def oddAt (d : List UInt8) : Nat → Nat → Option Nat
  | 0, _ => none
  | k + 1, i => if i < d.length then (if 1 < peekN 2 d (i + 2) then some (i + 2) else oddAt d k (i + 8)) else none
def oddN (c : GChunk) : Option Nat := if c.ty = 64 then (if peekN 2 c.data 6 ≠ 0 then some 6 else none) else if c.ty = 194 then oddAt c.data c.data.length 4 else none
def flagsE (c : GChunk) (k : KForm) : Er := if maskBad c.flags k.mask = true then .flt 6 1 else .ok
def dataE (c : GChunk) (k : KForm) : Er := if kfitsN k c.data.length = false then .flt 7 0 else .ok
def kidsE (c : GChunk) (k : KForm) : Er := if kkidsOk k c.kids = false then .flt 7 0 else .ok
def countE (c : GChunk) : Er := if sackBad c = true then .flt 8 12 else .ok
def valueE (c : GChunk) : Er := match oddN c with
  | some i => .flt 11 (4 + i)
  | none => .ok
def firstE : List Er → Er
  | [] => .ok
  | e :: l => if e = .ok then firstE l else e
theorem firstE_take : ∀ (l : List Er) (i : Nat), i < l.length → (∀ j, j < i → l.getD j .ok = .ok) → l.getD i .ok ≠ .ok → firstE l = l.getD i .ok
  | [], i, h, _, _ => by simp at h
  | e :: l, 0, h, _, h2 => by simp [firstE] at h2 ⊢; intro he; exact absurd he h2
  | e :: l, i + 1, h, h1, h2 => by
    have h0 := h1 0 (by omega)
    simp at h0
    subst h0
    rw [firstE, if_pos rfl]
    exact firstE_take l i (by simpa using h) (fun j hj => by have := h1 (j + 1) (by omega); simpa using this) (by simpa using h2)
theorem firstE_ok : ∀ (l : List Er), (∀ j, j < l.length → l.getD j .ok = .ok) → firstE l = .ok
  | [], _ => rfl
  | e :: l, h => by
    have h0 := h 0 (by simp)
    simp at h0
    subst h0
    rw [firstE, if_pos rfl]
    exact firstE_ok l fun j hj => by have := h (j + 1) (by simpa using hj); simpa using this
def idxN (l : List Nat) (x : Nat) : Int := match l.findIdx? (· == x) with
  | some i => N i
  | none => -1
theorem idxN_hit {l : List Nat} {x i : Nat} (h : i < l.length) (h0 : ∀ j (hj : j < i), l[j]'(by omega) ≠ x) (hi : l[i] = x) : idxN l x = N i := by
  unfold idxN
  rw [show l.findIdx? (· == x) = some i from List.findIdx?_eq_some_iff_getElem.2 ⟨h, by simpa using hi, fun j hj => by simpa using h0 j hj⟩]
theorem idxN_none {l : List Nat} {x : Nat} (h0 : ∀ j (hj : j < l.length), l[j] ≠ x) : idxN l x = -1 := by
  unfold idxN
  rw [show l.findIdx? (· == x) = none from List.findIdx?_eq_none_iff.2 fun y hy => by
    obtain ⟨j, hj, rfl⟩ := List.getElem_of_mem hy
    simpa using h0 j hj]
theorem idxN_in (l : List Nat) (x : Nat) : decide (0 ≤ idxN l x) = l.contains x := by
  unfold idxN
  cases h : l.findIdx? (· == x) with
  | some i =>
    obtain ⟨h1, h2, _⟩ := List.findIdx?_eq_some_iff_getElem.1 h
    have : l.contains x = true := by
      rw [List.contains_iff_mem]
      have : l[i] = x := by simpa using h2
      exact this ▸ List.getElem_mem h1
    rw [this]; simp [N]
  | none =>
    have h1 := List.findIdx?_eq_none_iff.1 h
    have : l.contains x = false := by
      cases hc : l.contains x with
      | false => rfl
      | true =>
        rw [List.contains_iff_mem] at hc
        have := h1 x hc
        simp at this
    rw [this]; decide
theorem index16_c (l : List Nat) (x : Nat) (hl : l.length ≤ 2 ^ 40) : PC Tryz.prog 107 [.sl false 1 (u16s l), u16 x] (.val (.int .i64 (idxN l x))) := by
  refine PC.of_bodyW (by simp only [push_cast]) Tryz.func107 rfl (by rw [Tryz.ntmps107]; simp) ?_
  refine AWp.regionW ?_
  refine AWp.seqK fun K1 hK1 => ?_
  refine AWp.regionW ?_
  refine AWp.block ?_
  refine AWp.loopK0 [0, 1, 7] (fun (i : Nat) => [(8, nat i)]) (fun i => i ≤ l.length ∧ ∀ j (hj : j < l.length), j < i → l[j] ≠ x) (fun i => l.length - i) (0) ?_ ⟨Nat.zero_le _, fun j _ hj => by omega⟩ ?_
  · skip
    refine Le.m 0 ?_ ?_
    · exact Go.Abs.evM
    · exact Go.Abs.evN
  · intro i hi K2 hK2
    refine AWp.regionW ?_
    refine AWp.seqK fun K3 hK3 => ?_
    refine AWp.condLM (fun c0 => ?_) (fun c0 => ?_)
    · skip
      have hil : i < l.length := by simpa using c0
      refine AWp.skip ?_
      refine hK3 _ ?_
      refine AWp.seqK fun K4 hK4 => ?_
      refine AWp.block ?_
      refine AWp.regionW ?_
      refine AWp.regionM fun K5 hK5 => ?_
      refine ARun2.indexM (i) (u16 l[i]) ?_ ?_
      · exact u16s_at _ _ hil
      refine ARun2.endm (hK5 _ ?_)
      refine AWp.condLM (fun c1 => ?_) (fun c1 => ?_)
      · skip
        have he : l[i] = x := by simp at c1; exact c1.symm
        have hz := idxN_hit hil (fun j hj => hi.2 j (by omega) hj) he
        refine AWp.regionW ?_
        refine AWp.ret ?_
        try simp only [thenQ, blockQ, noGo]
        refine bodyQ.m ?_
        clear hK5 K5 hK4 K4 hK3 K3 hK2 K2 hK1 K1
        rw [hz]
        first | done | exact Hand.go
      · skip
        have hne : l[i] ≠ x := by simp at c1; exact fun h => c1 h.symm
        refine AWp.skip ?_
        refine hK4 _ ?_
        refine AWp.regionV ?_
        refine hK2 _ (i + 1) (⟨hil, fun j hj hji => (Nat.lt_or_ge j i).elim (fun h => hi.2 j hj h) (fun h => by have e : j = i := (by omega); subst e; exact hne)⟩) (by omega) ?_
        refine Le.m 0 ?_ ?_
        · exact Go.Abs.evM
        · exact Go.Abs.evN
    · skip
      have hil : i = l.length := by have := hi.1; simp at c0; omega
      have hz := idxN_none (l := l) (x := x) fun j hj => hi.2 j hj (by omega)
      refine AWp.exit ?_
      try simp only [thenQ, blockQ, noGo, reduceIte, Nat.reduceEqDiff]
      refine hK1 _ ?_
      refine AWp.regionW ?_
      refine AWp.ret ?_
      try simp only [thenQ, blockQ, noGo]
      refine bodyQ.m ?_
      clear hK3 K3 hK2 K2 hK1 K1
      rw [hz]
      first | done | exact Hand.go
theorem contains16_c (l : List Nat) (x : Nat) (hl : l.length ≤ 2 ^ 40) : PC Tryz.prog 98 [.sl false 1 (u16s l), u16 x] (bool (l.contains x)) := by
  refine PC.of_bodyW (by simp only [push_cast]) Tryz.func98 rfl (by rw [Tryz.ntmps98]; simp) ?_
  refine AWp.regionW ?_
  refine AWp.regionM fun K1 hK1 => ?_
  refine ARun2.callM (index16_c l x hl) ?_
  refine ARun2.endm (hK1 _ ?_)
  refine AWp.ret ?_
  try simp only [thenQ, blockQ, noGo]
  refine bodyQ.m ?_
  clear hK1 K1
  rw [idxN_in]
  first | done | exact Hand.go
@[push_cast] theorem nodesA_ren (φ : Nat → Nat) (b : Bool) (l : List GNode) : AV.renL φ (nodesA b l) = nodesA b l := AV.renL_closed φ _ (nodesA_ids _ b l)
theorem arsz_i : arSz Tryz.prog 108 = some (7, 3) := by kernel_rfl
theorem arsz_3 : arSz Tryz.prog 107 = some (3, 1) := by kernel_rfl
theorem insideA_at (k : Nat) (h : k < 7) : insideA[k]? = some (.agg [nat (kinsideN k).1, nat (kinsideN k).2.1, nat (kinsideN k).2.2]) := by
  simp [insideA, h]
theorem kinside_c (k : Nat) (hk : k ≤ 6) : PC Tryz.prog 34 [nat k] (.tup [nat (kinsideN k).1, nat (kinsideN k).2.1, nat (kinsideN k).2.2]) := by
  refine PC.of_bodyW (by simp only [push_cast]) Tryz.func34 rfl (by rw [Tryz.ntmps34]; simp) ?_
  refine AWp.regionW ?_
  refine AWp.seqK fun K1 hK1 => ?_
  refine AWp.regionA fun K2 hK2 => ?_
  refine ARun.segm 3 fun KS hKS => ?_
  refine ARun2.endm (hKS _ ?_); clear hKS KS
  apply ARun.grpM 2 2 false 9 [0, 7]
  · intro g2 KG hKG
    refine ARun2.gom ?_
    exact ARun2.endm (hKG _ Le.grpM)
  refine ARun2.gom ?_
  refine ARun2.endm (hK2 _ ?_)
  refine AWp.condF ?_ (by simp only [push_cast]; simp; omega)
  refine AWp.skip ?_
  refine hK1 _ ?_
  refine AWp.drS [[(0, none)], [(11, some 0)], [(12, some 1)], [(13, some 2)], [(0, none)], [(15, some 4)], [(16, some 5)], [(17, some 6)], [(0, none)], [(19, some 8)], [(20, some 9)], [(21, some 10)], [(14, some 3)], [(18, some 7)], [(22, some 11)]] fun G hG => ?_
  refine Dr.sim ?_
  try simp only [List.cons_append, List.nil_append]
  refine Dr.gidx insideA icells k _ iglb ielems arsz_i rfl (by decide) (insideA_at k (by omega)) ?_
  try simp only [List.cons_append, List.nil_append]
  refine Dr.aref 0 (nat (kinsideN k).1) arsz_3 rfl rfl ?_
  try simp only [List.cons_append, List.nil_append]
  refine Dr.sim ?_
  try simp only [List.cons_append, List.nil_append]
  refine Dr.sim ?_
  try simp only [List.cons_append, List.nil_append]
  refine Dr.gidx insideA icells k _ iglb ielems arsz_i rfl (by decide) (insideA_at k (by omega)) ?_
  try simp only [List.cons_append, List.nil_append]
  refine Dr.aref 1 (nat (kinsideN k).2.1) arsz_3 rfl rfl ?_
  try simp only [List.cons_append, List.nil_append]
  refine Dr.sim ?_
  try simp only [List.cons_append, List.nil_append]
  refine Dr.sim ?_
  try simp only [List.cons_append, List.nil_append]
  refine Dr.gidx insideA icells k _ iglb ielems arsz_i rfl (by decide) (insideA_at k (by omega)) ?_
  try simp only [List.cons_append, List.nil_append]
  refine Dr.aref 2 (nat (kinsideN k).2.2) arsz_3 rfl rfl ?_
  try simp only [List.cons_append, List.nil_append]
  refine Dr.sim ?_
  try simp only [List.cons_append, List.nil_append]
  refine Dr.sim ?_
  try simp only [List.cons_append, List.nil_append]
  refine Dr.sim ?_
  try simp only [List.cons_append, List.nil_append]
  refine Dr.sim ?_
  try simp only [List.cons_append, List.nil_append]
  refine Dr.finM (n := 15) [(2, 12), (3, 13), (4, 14)] [] hG YtldoehmlpdpiaaaGreatDoor.Facts.mixed fun KD hKD => ?_
  refine ARun2.endm (hKD _ ?_); clear hKD KD hG G
  refine AWp.ret ?_
  try simp only [thenQ, blockQ, noGo]
  refine bodyQ.m ?_
  clear hK2 K2 hK1 K1
  first | done | exact Hand.go
theorem kfits_c (f : KForm) (n : Nat) (hn : n < 2 ^ 60) (hl : f.least < 2 ^ 60) (hu : 0 < f.unit) (hu2 : f.unit < 2 ^ 60) : PC Tryz.prog 96 [kformA f, nat n] (bool (kfitsN f n)) := by
  refine PC.of_bodyW (by simp only [push_cast]) Tryz.func96 rfl (by rw [Tryz.ntmps96]; simp) ?_
  refine AWp.regionW ?_
  refine AWp.regionA fun K1 hK1 => ?_
  refine ARun.segm 5 fun KS hKS => ?_
  refine ARun2.endm (hKS _ ?_); clear hKS KS
  apply ARun.grpM 4 4 true 13 [1, 2, 9]
  · intro g4 KG hKG
    refine ARun2.gom ?_
    exact ARun2.endm (hKG _ Le.grpM)
  refine ARun.segm 2 fun KS hKS => ?_
  refine ARun2.endm (hKS _ ?_); clear hKS KS
  apply ARun.grpM 8 10 true 23 [15]
  · intro g10 KG hKG
    have hle : f.least ≤ n := by simp at g10; omega
    refine ARun2.gom ?_
    exact ARun2.endm (hKG _ Le.grpM)
  refine ARun2.gom ?_
  refine ARun2.endm (hK1 _ ?_)
  refine AWp.ret ?_
  try simp only [thenQ, blockQ, noGo]
  refine bodyQ.m ?_
  clear hK1 K1
  simp only [kfitsN]
  first | done | exact Hand.go
theorem cflags_c (c : GChunk) (k : KForm) : PC Tryz.prog 78 [chunkA false c, kformA k] (erA (flagsE c k)) := by
  refine PC.of_bodyW (by simp only [push_cast]) Tryz.func78 rfl (by rw [Tryz.ntmps78]; simp) ?_
  refine AWp.regionW ?_
  refine AWp.seqK fun K1 hK1 => ?_
  refine AWp.regionW ?_
  refine AWp.condLM (fun c0 => ?_) (fun c0 => ?_)
  · skip
    have h : flagsE c k = .flt 6 1 := if_pos (show maskBad c.flags k.mask = true from c0)
    refine AWp.regionM fun K2 hK2 => ?_
    refine ARun2.callM (fnew_c 6 1) ?_
    refine ARun2.endm (hK2 _ ?_)
    refine AWp.ret ?_
    try simp only [thenQ, blockQ, noGo]
    refine bodyQ.m ?_
    clear hK2 K2 hK1 K1
    rw [h]
    first | done | exact Hand.go
  · skip
    have h : flagsE c k = .ok := if_neg (by rw [show maskBad c.flags k.mask = false from c0]; simp)
    refine AWp.skip ?_
    refine hK1 _ ?_
    refine AWp.regionW ?_
    refine AWp.ret ?_
    try simp only [thenQ, blockQ, noGo]
    refine bodyQ.m ?_
    clear hK1 K1
    rw [h]
    first | done | exact Hand.go
theorem cdata_c (c : GChunk) (k : KForm) (hd : c.data.length ≤ 2 ^ 40) (hl : k.least < 2 ^ 60) (hu : 0 < k.unit) (hu2 : k.unit < 2 ^ 60) : PC Tryz.prog 79 [chunkA false c, kformA k] (erA (dataE c k)) := by
  refine PC.of_bodyW (by simp only [push_cast]) Tryz.func79 rfl (by rw [Tryz.ntmps79]; simp) ?_
  refine AWp.regionW ?_
  refine AWp.seqK fun K1 hK1 => ?_
  refine AWp.regionM fun K2 hK2 => ?_
  refine ARun2.callM (kfits_c k c.data.length (by omega) hl hu hu2) ?_
  refine ARun2.endm (hK2 _ ?_)
  refine AWp.condLM (fun c0 => ?_) (fun c0 => ?_)
  · skip
    have h : dataE c k = .flt 7 0 := if_pos (by simpa using c0)
    refine AWp.regionM fun K3 hK3 => ?_
    refine ARun2.callM (fnew_c 7 0) ?_
    refine ARun2.endm (hK3 _ ?_)
    refine AWp.ret ?_
    try simp only [thenQ, blockQ, noGo]
    refine bodyQ.m ?_
    clear hK3 K3 hK2 K2 hK1 K1
    rw [h]
    first | done | exact Hand.go
  · skip
    have h : dataE c k = .ok := if_neg (by simpa using c0)
    refine AWp.skip ?_
    refine hK1 _ ?_
    refine AWp.regionW ?_
    refine AWp.ret ?_
    try simp only [thenQ, blockQ, noGo]
    refine bodyQ.m ?_
    clear hK2 K2 hK1 K1
    rw [h]
    first | done | exact Hand.go
theorem first1_c (l : List Nat) (c : GChunk) (hl : l.length ≤ 2 ^ 40) (hk : c.kids.length ≤ 2 ^ 40) :
    OC Tryz.prog 97 [.sl false 1 (u16s l), .ptr 0 0, .ptr 1 0] [.box 3 [nat c.kids.length], .box 42 [u8 c.ty, u8 c.flags, .sl false 1 (bys c.data), .sl false 3 (nodesA false c.kids)]] (bool (c.kids.length == 0 || l.contains (c.kids.headD default).ty)) [.box 3 [nat c.kids.length], .box 42 [u8 c.ty, u8 c.flags, .sl false 1 (bys c.data), .sl false 3 (nodesA false c.kids)]] := by
  refine OC.of_body [0, 1] (by intro k hk; simp at hk; match k, hk with | 0, _ => rfl | 1, _ => rfl) Tryz.func97 rfl (by rw [Tryz.ntmps97]; simp) ?_
  refine AWp.regionW ?_
  refine AWp.regionA fun K1 hK1 => ?_
  refine ARun.segm 3 fun KS hKS => ?_
  refine ARun2.endm (hKS _ ?_); clear hKS KS
  apply ARun.grpM 7 2 false 14 [7]
  · intro g2 KG hKG
    have hn : 0 < c.kids.length := by simp at g2; exact List.length_pos_iff.2 g2
    refine ARun2.gom ?_
    refine ARun2.indexM (0) (nodeA false (c.kids.headD default)) ?_ ?_
    · exact nodesA_head false _ hn
    refine ARun2.callM (contains16_c l (c.kids.headD default).ty hl) ?_
    exact ARun2.endm (hKG _ Le.grpM)
  refine ARun2.gom ?_
  refine ARun2.endm (hK1 _ ?_)
  refine AWp.ret ?_
  try simp only [thenQ, blockQ, noGo]
  refine bodyQ.m ?_
  clear hK1 K1
  refine endO.m ?_ ?_
  · rfl
  · skip
    first | done | exact Hand.go
@[push_cast] theorem bif_true_r (b : Bool) : (bif b then true else false) = b := by cases b <;> rfl
theorem kk_eq (q n y : Nat) (hq : q ≤ 6) : (decide (n < (kinsideN q).2.1) || decide ((kinsideN q).2.2 < n) || q == 1 && !(n == 0 || y == 1) || q == 6 && !(n == 0 || (y == 5 || y == 6))) =
    !(decide ((kinsideN q).2.1 ≤ n) && decide (n ≤ (kinsideN q).2.2) && (q != 1 || y == 1) && (q != 6 || (y == 5 || y == 6))) := by
  have h : q = 0 ∨ q = 1 ∨ q = 2 ∨ q = 3 ∨ q = 4 ∨ q = 5 ∨ q = 6 := by omega
  rcases h with rfl | rfl | rfl | rfl | rfl | rfl | rfl <;> rw [Bool.eq_iff_iff] <;> simp [kinsideN] <;> omega
theorem ckids_c (c : GChunk) (k : KForm) (hk : k.kids ≤ 6) (hl : c.kids.length ≤ 2 ^ 40) : PC Tryz.prog 80 [chunkA false c, kformA k] (erA (kidsE c k)) := by
  have hb : (decide (c.kids.length < (kinsideN k.kids).2.1) || decide ((kinsideN k.kids).2.2 < c.kids.length) || k.kids == 1 && !(c.kids.length == 0 || (c.kids.headD default).ty == 1) || k.kids == 6 && !(c.kids.length == 0 || ((c.kids.headD default).ty == 5 || (c.kids.headD default).ty == 6))) = !kkidsOk k c.kids :=
    kk_eq k.kids c.kids.length (c.kids.headD default).ty hk
  have h1 := first1_c [1] c (by decide) hl
  have h56 := first1_c [5, 6] c (by decide) hl
  have e1 : ([1] : List Nat).contains (c.kids.headD default).ty = ((c.kids.headD default).ty == 1) := by rw [List.contains_cons]; simp only [List.contains_nil, Bool.or_false]
  have e56 : ([5, 6] : List Nat).contains (c.kids.headD default).ty = ((c.kids.headD default).ty == 5 || (c.kids.headD default).ty == 6) := by rw [List.contains_cons, List.contains_cons]; simp only [List.contains_nil, Bool.or_false]
  rw [e1] at h1
  rw [e56] at h56
  refine PC.of_bodyW (by simp only [push_cast]) Tryz.func80 rfl (by rw [Tryz.ntmps80]; simp) ?_
  refine AWp.regionW ?_
  refine AWp.regionM fun K1 hK1 => ?_
  refine ARun2.callM (kinside_c k.kids hk) ?_
  refine ARun2.endm (hK1 _ ?_)
  refine AWp.regionW ?_
  refine AWp.regionW ?_
  refine AWp.seqK fun K2 hK2 => ?_
  refine AWp.regionA fun K3 hK3 => ?_
  refine ARun.segm 4 fun KS hKS => ?_
  refine ARun2.endm (hKS _ ?_); clear hKS KS
  apply ARun.grpM 3 3 false 27 [3, 9, 24]
  · intro g3 KG hKG
    refine ARun2.gom ?_
    exact ARun2.endm (hKG _ Le.grpM)
  refine ARun.segm 2 fun KS hKS => ?_
  refine ARun2.endm (hKS _ ?_); clear hKS KS
  apply ARun.grpM 9 8 false 38 [3, 9, 29]
  · intro g8 KG hKG
    refine ARun.segm 4 fun KS hKS => ?_
    refine ARun2.endm (hKS _ ?_); clear hKS KS
    apply ARun.grpM 4 12 true 37 [3, 9, 29, 33]
    · intro g12 KG hKG
      refine ARun2.gom ?_
      refine ARun2.callOM [2, 0] (h1) ?_
      exact ARun2.endm (hKG _ Le.grpM)
    refine ARun2.gom ?_
    exact ARun2.endm (hKG _ Le.grpM)
  refine ARun.segm 2 fun KS hKS => ?_
  refine ARun2.endm (hKS _ ?_); clear hKS KS
  apply ARun.grpM 9 19 false 49 [40]
  · intro g19 KG hKG
    refine ARun.segm 4 fun KS hKS => ?_
    refine ARun2.endm (hKS _ ?_); clear hKS KS
    apply ARun.grpM 4 23 true 48 [40, 44]
    · intro g23 KG hKG
      refine ARun2.gom ?_
      refine ARun2.callOM [2, 0] (h56) ?_
      exact ARun2.endm (hKG _ Le.grpM)
    refine ARun2.gom ?_
    exact ARun2.endm (hKG _ Le.grpM)
  refine ARun2.gom ?_
  refine ARun2.endm (hK3 _ ?_)
  refine AWp.condLM (fun c0 => ?_) (fun c0 => ?_)
  · skip
    have h : kidsE c k = .flt 7 0 := if_pos (by rw [hb] at c0; simpa using c0)
    refine AWp.regionM fun K4 hK4 => ?_
    refine ARun2.callM (fnew_c 7 0) ?_
    refine ARun2.endm (hK4 _ ?_)
    refine AWp.ret ?_
    try simp only [thenQ, blockQ, noGo]
    refine bodyQ.m ?_
    clear hK4 K4 hK3 K3 hK2 K2 hK1 K1
    rw [h]
    first | done | exact Hand.go
  · skip
    have h : kidsE c k = .ok := if_neg (by rw [hb] at c0; simpa using c0)
    refine AWp.skip ?_
    refine hK2 _ ?_
    refine AWp.regionW ?_
    refine AWp.ret ?_
    try simp only [thenQ, blockQ, noGo]
    refine bodyQ.m ?_
    clear hK3 K3 hK2 K2 hK1 K1
    rw [h]
    first | done | exact Hand.go
theorem peek_cut (d : List UInt8) (i j n : Nat) (h : j + 2 ≤ n) (hn : i + n ≤ d.length) : peekN 2 ((d.take (i + n)).drop i) j = peekN 2 d (i + j) := by
  have e : ((d.take (i + n)).drop i).length = n := by rw [List.length_drop, List.length_take]; omega
  unfold peekN
  rw [if_pos (by omega), if_pos (by omega), List.drop_drop, List.drop_take, List.take_take]
  congr 2; omega
theorem nums_2a (d : List UInt8) (h : d.length = 4) : numsOf 2 d = [peekN 2 d 0, peekN 2 d 2] := by
  unfold numsOf peekN
  rw [h, if_pos (by omega), if_pos (by omega)]
  simp [List.range_succ]
theorem nums_1a (d : List UInt8) (h : d.length = 2) : numsOf 2 d = [peekN 2 d 0] := by
  unfold numsOf peekN
  rw [h, if_pos (by omega)]
  simp [List.range_succ]
theorem ccount_c (c : GChunk) (k : KForm) (hd : c.data.length ≤ 2 ^ 40) (h12 : c.ty = 3 → 12 ≤ c.data.length) : PC Tryz.prog 81 [chunkA false c, kformA k] (erA (countE c)) := by
  have p1 := peek2_lt c.data 8
  have p2 := peek2_lt c.data 10
  refine PC.of_bodyW (by simp only [push_cast]) Tryz.func81 rfl (by rw [Tryz.ntmps81]; simp) ?_
  refine AWp.regionW ?_
  refine AWp.seqK fun K1 hK1 => ?_
  refine AWp.regionW ?_
  refine AWp.condLM (fun c0 => ?_) (fun c0 => ?_)
  · skip
    have h : countE c = .ok := if_neg (by unfold sackBad; simp at c0 ⊢; intro h; exact absurd h c0)
    refine AWp.regionW ?_
    refine AWp.ret ?_
    try simp only [thenQ, blockQ, noGo]
    refine bodyQ.m ?_
    clear hK1 K1
    rw [h]
    first | done | exact Hand.go
  · skip
    have h3 : c.ty = 3 := by simpa using c0
    have hl := h12 h3
    have e4 : ((c.data.take 12).drop 8).length = 4 := by rw [List.length_drop, List.length_take]; omega
    have hns := numbers_n 2 ((c.data.take 12).drop 8) (by omega) (by omega) (by rw [e4])
    rw [nums_2a _ e4, peek_cut c.data 8 0 4 (by omega) (by omega), peek_cut c.data 8 2 4 (by omega) (by omega)] at hns
    refine AWp.skip ?_
    refine hK1 _ ?_
    refine AWp.regionM fun K2 hK2 => ?_
    refine ARun2.sliceM (8) (12) ?_ ?_ ?_
    · omega
    · rw [bys_len]; omega
    refine ARun2.callM (hns) ?_
    refine ARun2.endm (hK2 _ ?_)
    refine AWp.seqK fun K3 hK3 => ?_
    refine AWp.drS [[(5, none)], [(13, some 0)], [(14, some 1)], [(15, some 2)], [(5, none)], [(17, some 4)], [(18, some 5)], [(19, some 6)], [(16, some 3), (20, some 7)], [(2, none)], [(22, some 9)], [(23, some 10)], [(24, some 11)], [(25, some 12)], [(21, some 8), (26, some 13)]] fun G hG => ?_
    refine Dr.sim ?_
    try simp only [List.cons_append, List.nil_append]
    refine Dr.idx (0) (u32 (peekN 2 c.data 8)) ?_ ?_
    · rfl
    try simp only [List.cons_append, List.nil_append]
    refine Dr.sim ?_
    try simp only [List.cons_append, List.nil_append]
    refine Dr.sim ?_
    try simp only [List.cons_append, List.nil_append]
    refine Dr.sim ?_
    try simp only [List.cons_append, List.nil_append]
    refine Dr.idx (1) (u32 (peekN 2 c.data 10)) ?_ ?_
    · rfl
    try simp only [List.cons_append, List.nil_append]
    refine Dr.sim ?_
    try simp only [List.cons_append, List.nil_append]
    refine Dr.sim ?_
    try simp only [List.cons_append, List.nil_append]
    refine Dr.sim ?_
    try simp only [List.cons_append, List.nil_append]
    refine Dr.sim ?_
    try simp only [List.cons_append, List.nil_append]
    refine Dr.sim ?_
    try simp only [List.cons_append, List.nil_append]
    refine Dr.sim ?_
    try simp only [List.cons_append, List.nil_append]
    refine Dr.sim ?_
    try simp only [List.cons_append, List.nil_append]
    refine Dr.sim ?_
    try simp only [List.cons_append, List.nil_append]
    refine Dr.sim ?_
    try simp only [List.cons_append, List.nil_append]
    refine Dr.finM (n := 15) [(27, 14)] [] hG YtldoehmlpdpiaaaGreatDoor.Facts.mixed fun KD hKD => ?_
    refine ARun2.endm (hKD _ ?_); clear hKD KD hG G
    refine AWp.condLM (fun c1 => ?_) (fun c1 => ?_)
    · skip
      have h : countE c = .flt 8 12 := if_pos (by unfold sackBad; rw [h3, c1]; rfl)
      refine AWp.regionM fun K4 hK4 => ?_
      refine ARun2.callM (fnew_c 8 12) ?_
      refine ARun2.endm (hK4 _ ?_)
      refine AWp.ret ?_
      try simp only [thenQ, blockQ, noGo]
      refine bodyQ.m ?_
      clear hK4 K4 hK3 K3 hK2 K2 hK1 K1
      rw [h]
      first | done | exact Hand.go
    · skip
      have h : countE c = .ok := if_neg (by unfold sackBad; rw [h3, c1]; simp)
      refine AWp.skip ?_
      refine hK3 _ ?_
      refine AWp.regionW ?_
      refine AWp.ret ?_
      try simp only [thenQ, blockQ, noGo]
      refine bodyQ.m ?_
      clear hK3 K3 hK2 K2 hK1 K1
      rw [h]
      first | done | exact Hand.go
@[push_cast] theorem frmsA_nil (b : Bool) : frmsA b [] = [] := rfl
theorem frmsA_snoc (b : Bool) (l : List Frm) (f : Frm) : frmsA b (l ++ [f]) = frmsA b l ++ [frmA b f] := by simp [frmsA]
theorem isOk_iff (e : Er) : e.isOk = true ↔ e = .ok := by cases e <;> simp [Er.isOk]
def chunkN (b : List UInt8) : GNode × Bool := rightN (.mk 6 b []) true
theorem take_step {α : Type} {l m : List α} {i : Nat} (hl : i < l.length) (hm : i < m.length) (h0 : l.take i = m.take i) (h : l[i] = m[i]) : l.take (i + 1) = m.take (i + 1) := by
  rw [List.take_succ_eq_append_getElem hl, List.take_succ_eq_append_getElem hm, h0, h]
theorem ne_at {α : Type} {l m : List α} {i : Nat} (hl : i < l.length) (hm : i < m.length) (h : l[i] ≠ m[i]) : l ≠ m := by
  rintro rfl; exact h rfl
theorem bys_at (l : List UInt8) (i : Nat) (h : i < l.length) : (bys l)[i]? = some (.val (.int .u8 (N l[i].toNat))) := by simp [bys, h]
theorem same01_c (l m : List UInt8) (hl : l.length ≤ 2 ^ 40) : PC Tryz.prog 41 [.sl false 1 (bys l), .sl false 1 (bys m)] (bool (decide (l = m))) := by
  refine PC.of_bodyW (by simp only [push_cast]) Tryz.func41 rfl (by rw [Tryz.ntmps41]; simp) ?_
  refine AWp.regionW ?_
  refine AWp.seqK fun K1 hK1 => ?_
  refine AWp.regionW ?_
  refine AWp.condLM (fun c0 => ?_) (fun c0 => ?_)
  · skip
    have hne : decide (l = m) = false := decide_eq_false (by rintro rfl; simp at c0)
    refine AWp.regionW ?_
    refine AWp.ret ?_
    try simp only [thenQ, blockQ, noGo]
    refine bodyQ.m ?_
    clear hK1 K1
    rw [hne]
    first | done | exact Hand.go
  · skip
    have he : l.length = m.length := by simpa using c0
    refine AWp.skip ?_
    refine hK1 _ ?_
    refine AWp.seqK fun K2 hK2 => ?_
    refine AWp.regionW ?_
    refine AWp.block ?_
    refine AWp.loopK0 [0, 1] (fun (i : Nat) => [(5, nat i)]) (fun i => i ≤ l.length ∧ l.take i = m.take i) (fun i => l.length - i) (0) ?_ ⟨Nat.zero_le _, rfl⟩ ?_
    · skip
      refine Le.m 0 ?_ ?_
      · exact Go.Abs.evM
      · exact Go.Abs.evN
    · intro i hi K3 hK3
      refine AWp.seqK fun K4 hK4 => ?_
      refine AWp.regionW ?_
      refine AWp.condLM (fun c1 => ?_) (fun c1 => ?_)
      · skip
        have hil : i < l.length := by simpa using c1
        have hir : i < m.length := by omega
        refine AWp.skip ?_
        refine hK4 _ ?_
        refine AWp.seqK fun K5 hK5 => ?_
        refine AWp.block ?_
        refine AWp.drS [[(0, none)], [(5, none)], [(17, some 0), (18, some 1)], [(19, some 2)], [(1, none)], [(5, none)], [(21, some 4), (22, some 5)], [(23, some 6)], [(20, some 3), (24, some 7)]] fun G hG => ?_
        refine Dr.sim ?_
        try simp only [List.cons_append, List.nil_append]
        refine Dr.sim ?_
        try simp only [List.cons_append, List.nil_append]
        refine Dr.idx (i) (.val (.int .u8 (N l[i].toNat))) ?_ ?_
        · exact bys_at _ _ hil
        try simp only [List.cons_append, List.nil_append]
        refine Dr.sim ?_
        try simp only [List.cons_append, List.nil_append]
        refine Dr.sim ?_
        try simp only [List.cons_append, List.nil_append]
        refine Dr.sim ?_
        try simp only [List.cons_append, List.nil_append]
        refine Dr.idx (i) (.val (.int .u8 (N m[i].toNat))) ?_ ?_
        · exact bys_at _ _ hir
        try simp only [List.cons_append, List.nil_append]
        refine Dr.sim ?_
        try simp only [List.cons_append, List.nil_append]
        refine Dr.sim ?_
        try simp only [List.cons_append, List.nil_append]
        refine Dr.finM (n := 9) [(25, 8)] [0, 1, 5] hG YtldoehmlpdpiaaaGreatDoor.Facts.mixed fun KD hKD => ?_
        refine ARun2.endm (hKD _ ?_); clear hKD KD hG G
        refine AWp.condLM (fun c2 => ?_) (fun c2 => ?_)
        · skip
          have hne : decide (l = m) = false := decide_eq_false (ne_at hil hir (by intro e; rw [e] at c2; simp at c2))
          refine AWp.regionW ?_
          refine AWp.ret ?_
          try simp only [thenQ, blockQ, noGo]
          refine bodyQ.m ?_
          clear hK5 K5 hK4 K4 hK3 K3 hK2 K2 hK1 K1
          rw [hne]
          first | done | exact Hand.go
        · skip
          have hx : l[i] = m[i] := by apply UInt8.toNat_inj.1; simpa using c2
          refine AWp.skip ?_
          refine hK5 _ ?_
          refine AWp.regionV ?_
          refine hK3 _ (i + 1) (⟨by omega, take_step hil hir hi.2 hx⟩) (by omega) ?_
          refine Le.m 0 ?_ ?_
          · exact Go.Abs.evM
          · exact Go.Abs.evN
      · skip
        have hil : i = l.length := by have := hi.1; simp at c1; omega
        have hq : decide (l = m) = true := decide_eq_true (by have := hi.2; rwa [hil, List.take_length, he, List.take_length] at this)
        refine AWp.exit ?_
        try simp only [thenQ, blockQ, noGo, reduceIte, Nat.reduceEqDiff]
        refine hK2 _ ?_
        refine AWp.regionW ?_
        refine AWp.ret ?_
        try simp only [thenQ, blockQ, noGo]
        refine bodyQ.m ?_
        clear hK4 K4 hK3 K3 hK2 K2 hK1 K1
        rw [hq]
        first | done | exact Hand.go
theorem same08_step (l r : List GNode) (hs : szs l ≤ 2 ^ 40) (ih : ∀ a ∈ l, ∀ b : GNode, PC Tryz.prog 19 [.sl false 3 (nodesA false a.kids), .sl false 3 (nodesA false b.kids)] (bool (sameL a.kids b.kids))) :
    PC Tryz.prog 19 [.sl false 3 (nodesA false l), .sl false 3 (nodesA false r)] (bool (sameL l r)) := by
  have hlen := szs_len l
  refine PC.of_bodyW (by simp only [push_cast]) Tryz.func19 rfl (by rw [Tryz.ntmps19]; simp) ?_
  refine AWp.regionW ?_
  refine AWp.seqK fun K1 hK1 => ?_
  refine AWp.regionW ?_
  refine AWp.condLM (fun c0 => ?_) (fun c0 => ?_)
  · skip
    have hne : l.length ≠ r.length := by simpa using c0
    refine AWp.regionW ?_
    refine AWp.ret ?_
    try simp only [thenQ, blockQ, noGo]
    refine bodyQ.m ?_
    clear hK1 K1
    rw [sameL_len hne]
    first | done | exact Hand.go
  · skip
    have he : l.length = r.length := by simpa using c0
    refine AWp.skip ?_
    refine hK1 _ ?_
    refine AWp.seqK fun K2 hK2 => ?_
    refine AWp.regionW ?_
    refine AWp.block ?_
    refine AWp.loopK0 [0, 1] (fun (i : Nat) => [(5, nat i)]) (fun i => i ≤ l.length ∧ sameL (l.take i) (r.take i) = true) (fun i => l.length - i) (0) ?_ ⟨Nat.zero_le _, rfl⟩ ?_
    · skip
      refine Le.m 0 ?_ ?_
      · exact Go.Abs.evM
      · exact Go.Abs.evN
    · intro i hi K3 hK3
      refine AWp.seqK fun K4 hK4 => ?_
      refine AWp.regionW ?_
      refine AWp.condLM (fun c1 => ?_) (fun c1 => ?_)
      · skip
        have hil : i < l.length := by simpa using c1
        have hir : i < r.length := by omega
        have hm := List.getElem_mem hil
        have hsz := szs_mem hm
        have hse := GNode.sz_eq l[i]
        refine AWp.skip ?_
        refine hK4 _ ?_
        refine AWp.seqK fun K5 hK5 => ?_
        refine AWp.block ?_
        refine AWp.drS [[(0, none)], [(5, none)], [(17, some 0), (18, some 1)], [(19, some 2)], [(20, some 3)], [(1, none)], [(5, none)], [(22, some 5), (23, some 6)], [(24, some 7)], [(25, some 8)], [(21, some 4), (26, some 9)], [(27, some 10)], [(0, none), (28, some 11)], [(5, none), (28, some 11)], [(29, some 12), (30, some 13), (28, some 11)], [(31, some 14), (28, some 11)], [(32, some 15), (28, some 11)], [(1, none), (28, some 11)], [(5, none), (28, some 11)], [(34, some 17), (35, some 18), (28, some 11)], [(36, some 19), (28, some 11)], [(37, some 20), (28, some 11)], [(33, some 16), (38, some 21), (28, some 11)], [(39, some 22), (28, some 11)], [(28, some 11), (40, some 23)], [(41, some 24)], [(0, none), (42, some 25)], [(5, none), (42, some 25)], [(43, some 26), (44, some 27), (42, some 25)], [(45, some 28), (42, some 25)], [(46, some 29), (42, some 25)], [(1, none), (42, some 25)], [(5, none), (42, some 25)], [(48, some 31), (49, some 32), (42, some 25)], [(50, some 33), (42, some 25)], [(51, some 34), (42, some 25)], [(47, some 30), (52, some 35), (42, some 25)], [(53, some 36), (42, some 25)], [(42, some 25), (54, some 37)]] fun G hG => ?_
        refine Dr.sim ?_
        try simp only [List.cons_append, List.nil_append]
        refine Dr.sim ?_
        try simp only [List.cons_append, List.nil_append]
        refine Dr.idx (i) (nodeA false l[i]) ?_ ?_
        · exact nodesA_at _ _ _ hil
        try simp only [List.cons_append, List.nil_append]
        refine Dr.sim ?_
        try simp only [List.cons_append, List.nil_append]
        refine Dr.sim ?_
        try simp only [List.cons_append, List.nil_append]
        refine Dr.sim ?_
        try simp only [List.cons_append, List.nil_append]
        refine Dr.sim ?_
        try simp only [List.cons_append, List.nil_append]
        refine Dr.idx (i) (nodeA false r[i]) ?_ ?_
        · exact nodesA_at _ _ _ hir
        try simp only [List.cons_append, List.nil_append]
        refine Dr.sim ?_
        try simp only [List.cons_append, List.nil_append]
        refine Dr.sim ?_
        try simp only [List.cons_append, List.nil_append]
        refine Dr.sim ?_
        try simp only [List.cons_append, List.nil_append]
        refine Dr.sim ?_
        try simp only [List.cons_append, List.nil_append]
        refine Dr.simg ?_
        try simp only [List.cons_append, List.nil_append]
        refine Dr.simg ?_
        try simp only [List.cons_append, List.nil_append]
        refine Dr.idxg (i) (nodeA false l[i]) ?_ ?_
        · intro g11
          exact nodesA_at _ _ _ hil
        try simp only [List.cons_append, List.nil_append]
        refine Dr.simg ?_
        try simp only [List.cons_append, List.nil_append]
        refine Dr.simg ?_
        try simp only [List.cons_append, List.nil_append]
        refine Dr.simg ?_
        try simp only [List.cons_append, List.nil_append]
        refine Dr.simg ?_
        try simp only [List.cons_append, List.nil_append]
        refine Dr.idxg (i) (nodeA false r[i]) ?_ ?_
        · intro g11
          exact nodesA_at _ _ _ hir
        try simp only [List.cons_append, List.nil_append]
        refine Dr.simg ?_
        try simp only [List.cons_append, List.nil_append]
        refine Dr.simg ?_
        try simp only [List.cons_append, List.nil_append]
        refine Dr.callg (fun g11 => same01_c l[i].data r[i].data (by omega)) ?_
        try simp only [List.cons_append, List.nil_append]
        refine Dr.simg ?_
        try simp only [List.cons_append, List.nil_append]
        refine Dr.sim ?_
        try simp only [List.cons_append, List.nil_append]
        refine Dr.sim ?_
        try simp only [List.cons_append, List.nil_append]
        refine Dr.simg ?_
        try simp only [List.cons_append, List.nil_append]
        refine Dr.simg ?_
        try simp only [List.cons_append, List.nil_append]
        refine Dr.idxg (i) (nodeA false l[i]) ?_ ?_
        · intro g25
          exact nodesA_at _ _ _ hil
        try simp only [List.cons_append, List.nil_append]
        refine Dr.simg ?_
        try simp only [List.cons_append, List.nil_append]
        refine Dr.simg ?_
        try simp only [List.cons_append, List.nil_append]
        refine Dr.simg ?_
        try simp only [List.cons_append, List.nil_append]
        refine Dr.simg ?_
        try simp only [List.cons_append, List.nil_append]
        refine Dr.idxg (i) (nodeA false r[i]) ?_ ?_
        · intro g25
          exact nodesA_at _ _ _ hir
        try simp only [List.cons_append, List.nil_append]
        refine Dr.simg ?_
        try simp only [List.cons_append, List.nil_append]
        refine Dr.simg ?_
        try simp only [List.cons_append, List.nil_append]
        refine Dr.callg (fun g25 => ih l[i] hm r[i]) ?_
        try simp only [List.cons_append, List.nil_append]
        refine Dr.simg ?_
        try simp only [List.cons_append, List.nil_append]
        refine Dr.sim ?_
        try simp only [List.cons_append, List.nil_append]
        refine Dr.finM (n := 39) [(55, 38)] [0, 1, 5] hG YtldoehmlpdpiaaaGreatDoor.Facts.mixed fun KD hKD => ?_
        refine ARun2.endm (hKD _ ?_); clear hKD KD hG G
        refine AWp.condLM (fun c2 => ?_) (fun c2 => ?_)
        · skip
          have h5 : sameN l[i] r[i] = false := by rw [sameN_eq]; revert c2; cases h1 : l[i].ty == r[i].ty <;> cases h2 : decide (l[i].data = r[i].data) <;> cases h3 : sameL l[i].kids r[i].kids <;> simp_all
          refine AWp.regionW ?_
          refine AWp.ret ?_
          try simp only [thenQ, blockQ, noGo]
          refine bodyQ.m ?_
          clear hK5 K5 hK4 K4 hK3 K3 hK2 K2 hK1 K1
          rw [sameL_at hil hir h5]
          first | done | exact Hand.go
        · skip
          have h5 : sameN l[i] r[i] = true := by rw [sameN_eq]; revert c2; cases h1 : l[i].ty == r[i].ty <;> cases h2 : decide (l[i].data = r[i].data) <;> cases h3 : sameL l[i].kids r[i].kids <;> simp_all
          refine AWp.skip ?_
          refine hK5 _ ?_
          refine AWp.regionV ?_
          refine hK3 _ (i + 1) (⟨by omega, sameL_take hil hir hi.2 h5⟩) (by omega) ?_
          refine Le.m 0 ?_ ?_
          · exact Go.Abs.evM
          · exact Go.Abs.evN
      · skip
        have hil : i = l.length := by have := hi.1; simp at c1; omega
        have hs : sameL l r = true := by have := hi.2; rwa [hil, List.take_length, he, List.take_length] at this
        refine AWp.exit ?_
        try simp only [thenQ, blockQ, noGo, reduceIte, Nat.reduceEqDiff]
        refine hK2 _ ?_
        refine AWp.regionW ?_
        refine AWp.ret ?_
        try simp only [thenQ, blockQ, noGo]
        refine bodyQ.m ?_
        clear hK4 K4 hK3 K3 hK2 K2 hK1 K1
        rw [hs]
        first | done | exact Hand.go
theorem same08_w : ∀ (w : Nat) (l r : List GNode), szs l ≤ w → szs l ≤ 2 ^ 40 → PC Tryz.prog 19 [.sl false 3 (nodesA false l), .sl false 3 (nodesA false r)] (bool (sameL l r)) := by
  have kl : ∀ (a : GNode) (l : List GNode), a ∈ l → szs a.kids < szs l := by
    intro a l ha
    have := szs_mem ha; rw [GNode.sz_eq] at this; omega
  intro w
  induction w with
  | zero => exact fun l r hw hs => same08_step l r hs (fun a ha b => by have := kl a l ha; omega)
  | succ w ih => exact fun l r hw hs => same08_step l r hs (fun a ha b => by have := kl a l ha; exact ih _ _ (by omega) (by omega))
theorem same08_c (l r : List GNode) (hs : szs l ≤ 2 ^ 40) : PC Tryz.prog 19 [.sl false 3 (nodesA false l), .sl false 3 (nodesA false r)] (bool (sameL l r)) := same08_w _ l r (Nat.le_refl _) hs
def twoB (t : Nat) : List UInt8 := [UInt8.ofNat (t / 256), UInt8.ofNat t]
theorem bits8 (a : UInt8) : BitVec.ofInt IntKind.u8.bits (N a.toNat) = a.toBitVec := by
  apply BitVec.eq_of_toNat_eq
  rw [BitVec.toNat_ofInt]
  have := a.toNat_lt
  show (N a.toNat % 2 ^ 8).toNat = a.toNat
  unfold N; omega
theorem or_zero (a b : UInt8) : (bitsV .or .u8 (N a.toNat) (N b.toNat) != 0) = (a.toNat * 256 + b.toNat != 0) := by
  have ha := a.toNat_lt
  have hb := b.toNat_lt
  have h1 : bitsV .or .u8 (N a.toNat) (N b.toNat) = N (a.toBitVec ||| b.toBitVec).toNat := by
    have hlt : (a.toBitVec ||| b.toBitVec).toNat < 256 := (a.toBitVec ||| b.toBitVec).isLt
    have e : (BitVec.ofInt IntKind.u8.bits (N a.toNat) ||| BitVec.ofInt IntKind.u8.bits (N b.toNat)).toNat = (a.toBitVec ||| b.toBitVec).toNat := by rw [bits8, bits8]; rfl
    show IntKind.u8.wrap ((BitVec.ofInt IntKind.u8.bits (N a.toNat) ||| BitVec.ofInt IntKind.u8.bits (N b.toNat)).toNat : Int) = _
    rw [e]
    generalize (a.toBitVec ||| b.toBitVec).toNat = z at hlt ⊢
    rw [IntKind.wrap_u8]
    unfold N; omega
  rw [h1, Bool.eq_iff_iff, bne_iff_ne, bne_iff_ne, Decidable.not_iff_not]
  have e1 : a.toBitVec.toNat = a.toNat := rfl
  have e2 : b.toBitVec.toNat = b.toNat := rfl
  constructor
  · intro h
    have h0 : (a.toBitVec ||| b.toBitVec).toNat = 0 := by unfold N at h; omega
    have h2 : a.toBitVec ||| b.toBitVec = 0#8 := BitVec.eq_of_toNat_eq (by rw [h0]; rfl)
    obtain ⟨h3, h4⟩ := BitVec.or_eq_zero_iff.1 h2
    have := congrArg BitVec.toNat h3
    have := congrArg BitVec.toNat h4
    simp at *
    omega
  · intro h
    have h3 : a.toBitVec = 0#8 := BitVec.eq_of_toNat_eq (by show a.toNat = 0; omega)
    have h4 : b.toBitVec = 0#8 := BitVec.eq_of_toNat_eq (by show b.toNat = 0; omega)
    rw [h3, h4]; rfl
theorem peek_bytes (d : List UInt8) (i : Nat) (h : i + 2 ≤ d.length) : peekN 2 d i = (d[i]'(by omega)).toNat * 256 + (d[i + 1]'(by omega)).toNat := by
  have hd : (d.drop i).take 2 = [d[i]'(by omega), d[i + 1]'(by omega)] := by
    rw [List.drop_eq_getElem_cons (by omega), List.drop_eq_getElem_cons (by omega)]; rfl
  unfold peekN
  rw [if_pos h, hd]
  simp [beN]
theorem cvalue_c (c : GChunk) (k : KForm) (hd : c.data.length ≤ 2 ^ 40) (h64 : c.ty = 64 → 17 ≤ c.data.length) (h194 : c.ty = 194 → 4 ≤ c.data.length ∧ (c.data.length - 4) % 8 = 0) :
    PC Tryz.prog 82 [chunkA false c, kformA k] (erA (valueE c)) := by
  refine PC.of_bodyW (by simp only [push_cast]) Tryz.func82 rfl (by rw [Tryz.ntmps82]; simp) ?_
  refine AWp.regionW ?_
  refine AWp.regionW ?_
  refine AWp.seqK fun K1 hK1 => ?_
  refine AWp.regionW ?_
  refine AWp.block ?_
  refine AWp.regionW ?_
  refine AWp.condLM (fun c0 => ?_) (fun c0 => ?_)
  · skip
    have h3 : c.ty = 64 := by simpa using c0
    have hl := h64 h3
    have hor := or_zero (c.data[6]'(by omega)) (c.data[7]'(by omega))
    rw [← peek_bytes c.data 6 (by omega)] at hor
    refine AWp.drS [[(2, none)], [(11, some 0)], [(12, some 1)], [(13, some 2)], [(2, none)], [(15, some 4)], [(16, some 5)], [(17, some 6)], [(14, some 3), (18, some 7)], [(19, some 8)]] fun G hG => ?_
    refine Dr.sim ?_
    try simp only [List.cons_append, List.nil_append]
    refine Dr.sim ?_
    try simp only [List.cons_append, List.nil_append]
    refine Dr.idx (6) (.val (.int .u8 (N (c.data[6]'(by omega)).toNat))) ?_ ?_
    · exact bys_at _ _ (by omega)
    try simp only [List.cons_append, List.nil_append]
    refine Dr.sim ?_
    try simp only [List.cons_append, List.nil_append]
    refine Dr.sim ?_
    try simp only [List.cons_append, List.nil_append]
    refine Dr.sim ?_
    try simp only [List.cons_append, List.nil_append]
    refine Dr.idx (7) (.val (.int .u8 (N (c.data[7]'(by omega)).toNat))) ?_ ?_
    · exact bys_at _ _ (by omega)
    try simp only [List.cons_append, List.nil_append]
    refine Dr.sim ?_
    try simp only [List.cons_append, List.nil_append]
    refine Dr.sim ?_
    try simp only [List.cons_append, List.nil_append]
    refine Dr.sim ?_
    try simp only [List.cons_append, List.nil_append]
    refine Dr.finM (n := 10) [(20, 9)] [5] hG YtldoehmlpdpiaaaGreatDoor.Facts.mixed fun KD hKD => ?_
    refine ARun2.endm (hKD _ ?_); clear hKD KD hG G
    refine AWp.condLM (fun c1 => ?_) (fun c1 => ?_)
    · skip
      rw [hor] at c1
      have h : valueE c = .flt 11 10 := by unfold valueE oddN; rw [if_pos h3, if_pos (by simpa using c1)]
      refine AWp.regionV ?_
      refine hK1 _ ?_
      refine AWp.seqK fun K2 hK2 => ?_
      refine AWp.regionW ?_
      refine AWp.condF ?_
      refine AWp.skip ?_
      refine hK2 _ ?_
      refine AWp.regionM fun K3 hK3 => ?_
      refine ARun2.callM (fnew_c 11 10) ?_
      refine ARun2.endm (hK3 _ ?_)
      refine AWp.ret ?_
      try simp only [thenQ, blockQ, noGo]
      refine bodyQ.m ?_
      clear hK3 K3 hK2 K2 hK1 K1
      rw [h]
      first | done | exact Hand.go
    · skip
      rw [hor] at c1
      have h : valueE c = .ok := by unfold valueE oddN; rw [if_pos h3, if_neg (by simpa using c1)]
      refine AWp.skip ?_
      refine hK1 _ ?_
      refine AWp.seqK fun K4 hK4 => ?_
      refine AWp.regionW ?_
      refine AWp.condT ?_
      refine AWp.regionW ?_
      refine AWp.ret ?_
      try simp only [thenQ, blockQ, noGo]
      refine bodyQ.m ?_
      clear hK4 K4 hK1 K1
      rw [h]
      first | done | exact Hand.go
  · skip
    have h3 : ¬ c.ty = 64 := by simpa using c0
    refine AWp.regionW ?_
    refine AWp.condLM (fun c2 => ?_) (fun c2 => ?_)
    · skip
      have h4 : c.ty = 194 := by simpa using c2
      obtain ⟨l1, l2⟩ := h194 h4
      have hv : oddN c = oddAt c.data c.data.length 4 := by unfold oddN; rw [if_neg h3, if_pos h4]
      refine AWp.scope ?_
      refine AWp.seq (AWp.label ?_)
      refine AWp.regionW ?_
      refine AWp.block ?_
      -- SLOTS THAT TURN AND ARE NOT TOLD: [5]
      refine AWp.loopK0 [2, 5] (fun (g : Nat × Nat) => [(6, nat g.2)]) (fun g => oddAt c.data c.data.length 4 = oddAt c.data g.1 g.2 ∧ g.2 ≤ c.data.length ∧ (c.data.length - g.2) % 8 = 0 ∧ c.data.length - g.2 ≤ g.1) (fun g => c.data.length - g.2) ((c.data.length, 4)) ?_ ⟨rfl, l1, l2, Nat.sub_le _ _⟩ ?_
      · skip
        refine Le.m 2 ?_ ?_
        · exact Go.Abs.evM
        · exact Go.Abs.evN
      · intro g hg K5 hK5
        obtain ⟨q, i⟩ := g
        dsimp only at hg ⊢
        obtain ⟨hg1, hg2, hg3, hg4⟩ := hg
        refine AWp.seqK fun K6 hK6 => ?_
        refine AWp.regionW ?_
        refine AWp.condLM (fun c3 => ?_) (fun c3 => ?_)
        · skip
          have hil : i < c.data.length := by simpa using c3
          obtain ⟨q, rfl⟩ : ∃ q', q = q' + 1 := ⟨q - 1, by omega⟩
          rw [oddAt, if_pos hil] at hg1
          have e2 : ((c.data.take (i + 4)).drop (i + 2)).length = 2 := by rw [List.length_drop, List.length_take]; omega
          have pc : peekN 2 ((c.data.take (i + 4)).drop (i + 2)) 0 = peekN 2 c.data (i + 2) := peek_cut c.data (i + 2) 0 2 (by omega) (by omega)
          have hns := numbers_n 2 ((c.data.take (i + 4)).drop (i + 2)) (by omega) (by omega) (by rw [e2])
          rw [nums_1a _ e2, pc] at hns
          refine AWp.skip ?_
          refine hK6 _ ?_
          refine AWp.seqK fun K7 hK7 => ?_
          refine AWp.block ?_
          refine AWp.regionM fun K8 hK8 => ?_
          refine ARun2.sliceM (i + 2) (i + 4) ?_ ?_ ?_
          · omega
          · rw [bys_len]; omega
          refine ARun2.callM (hns) ?_
          refine ARun2.indexM (0) (u32 (peekN 2 c.data (i + 2))) ?_ ?_
          · rfl
          refine ARun2.endm (hK8 _ ?_)
          refine AWp.condLM (fun c4 => ?_) (fun c4 => ?_)
          · skip
            have hp : 1 < peekN 2 c.data (i + 2) := by simpa using c4
            rw [if_pos hp] at hg1
            have h : valueE c = .flt 11 (4 + (i + 2)) := by unfold valueE; rw [hv, hg1]
            refine AWp.regionW ?_
            refine AWp.exit ?_
            try simp only [thenQ, blockQ, noGo, reduceIte, Nat.reduceEqDiff]
            try simp only [noGo]
            refine hK1 _ ?_
            refine AWp.seqK fun K9 hK9 => ?_
            refine AWp.regionW ?_
            refine AWp.condF ?_ (by simp only [push_cast, ↓reduceIte, Nat.reduceEqDiff, Nat.reduceLT, Nat.reduceAdd, Nat.reduceSub, Nat.reduceMul, Nat.reduceLeDiff, Nat.reducePow, Int.reduceLT, Int.reduceToNat, reduceCtorEq, Int.reduceNeg, Int.reduceEq, Nat.reduceBEq, Nat.reduceBNe, Int.reduceBEq, Int.reduceBNe, String.reduceEq])
            refine AWp.skip ?_
            refine hK9 _ ?_
            refine AWp.regionM fun K10 hK10 => ?_
            refine ARun2.callM (fnew_c 11 (4 + (i + 2))) ?_
            refine ARun2.endm (hK10 _ ?_)
            refine AWp.ret ?_
            try simp only [thenQ, blockQ, noGo]
            refine bodyQ.m ?_
            clear hK10 K10 hK9 K9 hK8 K8 hK7 K7 hK6 K6 hK5 K5 hK1 K1
            rw [h]
            first | done | exact Hand.go
          · skip
            have hp : ¬ 1 < peekN 2 c.data (i + 2) := by simpa using c4
            rw [if_neg hp] at hg1
            refine AWp.skip ?_
            refine hK7 _ ?_
            refine AWp.regionV ?_
            refine hK5 _ ((q, i + 8)) (⟨hg1, by show i + 8 ≤ _; omega, by show (c.data.length - (i + 8)) % 8 = 0; omega, by show c.data.length - (i + 8) ≤ q; omega⟩) (by show c.data.length - (i + 8) < c.data.length - i; omega) ?_
            refine Le.m 2 ?_ ?_
            · exact Go.Abs.evM
            · exact Go.Abs.evN
        · skip
          have hil : ¬ i < c.data.length := by simpa using c3
          have h : valueE c = .ok := by
            unfold valueE; rw [hv, hg1]
            cases q with
            | zero => rfl
            | succ q => rw [oddAt, if_neg hil]
          refine AWp.exit ?_
          try simp only [thenQ, blockQ, noGo, reduceIte, Nat.reduceEqDiff]
          try simp only [noGo]
          refine hK1 _ ?_
          refine AWp.seqK fun K11 hK11 => ?_
          refine AWp.regionW ?_
          refine AWp.condT ?_
          refine AWp.regionW ?_
          refine AWp.ret ?_
          try simp only [thenQ, blockQ, noGo]
          refine bodyQ.m ?_
          clear hK11 K11 hK6 K6 hK5 K5 hK1 K1
          rw [h]
          first | done | exact Hand.go
    · skip
      have h4 : ¬ c.ty = 194 := by simpa using c2
      have h : valueE c = .ok := by unfold valueE oddN; rw [if_neg h3, if_neg h4]
      refine AWp.skip ?_
      refine hK1 _ ?_
      refine AWp.seqK fun K12 hK12 => ?_
      refine AWp.regionW ?_
      refine AWp.condT ?_
      refine AWp.regionW ?_
      refine AWp.ret ?_
      try simp only [thenQ, blockQ, noGo]
      refine bodyQ.m ?_
      clear hK12 K12 hK1 K1
      rw [h]
      first | done | exact Hand.go
def fnsA (l : List FuncId) : List AV := l.map fun f => .fn (.func f) [] []
@[push_cast] theorem fnsA_len (l : List FuncId) : (fnsA l).length = l.length := by simp [fnsA]
theorem fnsA_at (l : List FuncId) (i : Nat) (h : i < l.length) : (fnsA l)[i]? = some (.fn (.func (l.getD i 0)) [] []) := by simp [fnsA, h]
@[push_cast] theorem fnsA_cons (f : FuncId) (l : List FuncId) : fnsA (f :: l) = .fn (.func f) [] [] :: fnsA l := rfl
@[push_cast] theorem fnsA_nil : fnsA [] = [] := rfl
@[push_cast] theorem fnsA_ids (p : Nat → Bool) (l : List FuncId) : AV.idsOkL p (fnsA l) = true := by
  rw [AV.idsOkL_iff]; intro x hx; simp only [fnsA, List.mem_map] at hx; obtain ⟨f, _, rfl⟩ := hx; rfl
@[push_cast] theorem fnsA_hand (ids : List Nat) (l : List FuncId) : AV.handL ids (fnsA l) = fnsA l := by
  rw [AV.handL_map, fnsA, List.map_map]; rfl
set_option maxRecDepth 100000 in
theorem cfirst_c (c : GChunk) (k : KForm) (fs : List FuncId) (ers : List Er) (hle : fs.length = ers.length) (hl : fs.length ≤ 2 ^ 40) (hc : ∀ i, i < fs.length → callable Tryz.prog (fs.getD i 0) = true)
    (h : ∀ i, i < fs.length → (∀ j, j < i → ers.getD j .ok = .ok) → PC Tryz.prog (fs.getD i 0) [chunkA false c, kformA k] (erA (ers.getD i .ok))) : PC Tryz.prog 77 [chunkA false c, kformA k, .sl false 1 (fnsA fs)] (erA (firstE ers)) := by
  refine PC.of_bodyW (by simp only [push_cast]) Tryz.func77 rfl (by rw [Tryz.ntmps77]; simp) ?_
  refine AWp.regionW ?_
  refine AWp.seqK fun K1 hK1 => ?_
  refine AWp.regionW ?_
  refine AWp.block ?_
  refine AWp.loopK0 [3, 4, 10, 11] (fun (i : Nat) => [(12, nat i)]) (fun i => i ≤ fs.length ∧ ∀ j, j < i → ers.getD j .ok = .ok) (fun i => fs.length - i) (0) ?_ ⟨Nat.zero_le _, fun j hj => by omega⟩ ?_
  · skip
    refine Le.m 2 ?_ ?_
    · exact Go.Abs.evM
    · exact Go.Abs.evN
  · intro i hi K2 hK2
    refine AWp.regionW ?_
    refine AWp.seqK fun K3 hK3 => ?_
    refine AWp.condLM (fun c0 => ?_) (fun c0 => ?_)
    · skip
      have hil : i < fs.length := by simpa using c0
      have hci := hc i hil
      have hpi := h i hil hi.2
      obtain ⟨f, hf⟩ : ∃ f, fs.getD i 0 = f := ⟨_, rfl⟩
      rw [hf] at hci hpi
      refine AWp.skip ?_
      refine hK3 _ ?_
      refine AWp.seqK fun K4 hK4 => ?_
      refine AWp.block ?_
      refine AWp.regionM fun K5 hK5 => ?_
      refine ARun2.indexM (i) (.fn (.func f) [] []) ?_ ?_
      · rw [← hf]; exact fnsA_at _ _ hil
      refine ARun2.endm (hK5 _ ?_)
      refine AWp.regionM fun K6 hK6 => ?_
      refine ARun2.callVM (hpi) ?_
      refine ARun2.endm (hK6 _ ?_)
      refine AWp.regionW ?_
      refine AWp.condLM (fun c1 => ?_) (fun c1 => ?_)
      · skip
        have he : ers.getD i .ok ≠ .ok := by intro h; rw [h] at c1; cases c1
        have hr := firstE_take ers i (by omega) hi.2 he
        refine AWp.regionW ?_
        refine AWp.ret ?_
        try simp only [thenQ, blockQ, noGo]
        refine bodyQ.m ?_
        clear hK6 K6 hK5 K5 hK4 K4 hK3 K3 hK2 K2 hK1 K1
        rw [hr]
        first | done | exact Hand.go
      · skip
        have he : ers.getD i .ok = .ok := by rw [← isOk_iff]; simpa using c1
        refine AWp.skip ?_
        refine hK4 _ ?_
        refine AWp.regionV ?_
        refine hK2 _ (i + 1) (⟨hil, fun j hj => (Nat.lt_or_ge j i).elim (hi.2 j) (fun h => (show i = j by omega) ▸ he)⟩) (by omega) ?_
        refine Le.m 2 ?_ ?_
        · exact Go.Abs.evM
        · exact Go.Abs.evN
    · skip
      have hil : i = fs.length := by have := hi.1; simp at c0; omega
      have hr := firstE_ok ers fun j hj => hi.2 j (by omega)
      refine AWp.exit ?_
      try simp only [thenQ, blockQ, noGo, reduceIte, Nat.reduceEqDiff]
      refine hK1 _ ?_
      refine AWp.regionW ?_
      refine AWp.ret ?_
      try simp only [thenQ, blockQ, noGo]
      refine bodyQ.m ?_
      clear hK3 K3 hK2 K2 hK1 K1
      rw [hr]
      first | done | exact Hand.go
theorem csize_c (c : GChunk) (hd : c.data.length ≤ 2 ^ 40) (hs : nSize c.kids ≤ 2 ^ 30) : PC Tryz.prog 59 [chunkA false c] (nat (4 + c.data.length + nSize c.kids)) := by
  refine PC.of_bodyW (by simp only [push_cast]) Tryz.func59 rfl (by rw [Tryz.ntmps59]; simp) ?_
  refine AWp.regionW ?_
  refine AWp.drS [[(1, none)], [(3, some 0)], [(4, some 1)], [(5, some 2)], [(1, none)], [(7, some 4)], [(8, some 5)], [(6, some 3), (9, some 6)], [(10, some 7)]] fun G hG => ?_
  refine Dr.sim ?_
  try simp only [List.cons_append, List.nil_append]
  refine Dr.sim ?_
  try simp only [List.cons_append, List.nil_append]
  refine Dr.sim ?_
  try simp only [List.cons_append, List.nil_append]
  refine Dr.sim ?_
  try simp only [List.cons_append, List.nil_append]
  refine Dr.sim ?_
  try simp only [List.cons_append, List.nil_append]
  refine Dr.sim ?_
  try simp only [List.cons_append, List.nil_append]
  refine Dr.call (size_c c.kids hs) ?_
  try simp only [List.cons_append, List.nil_append]
  refine Dr.sim ?_
  try simp only [List.cons_append, List.nil_append]
  refine Dr.sim ?_
  try simp only [List.cons_append, List.nil_append]
  refine Dr.finM (n := 9) [(2, 8)] [] hG YtldoehmlpdpiaaaGreatDoor.Facts.mixed fun KD hKD => ?_
  refine ARun2.endm (hKD _ ?_); clear hKD KD hG G
  refine AWp.ret ?_
  try simp only [thenQ, blockQ, noGo]
  refine bodyQ.m ?_
  first | done | exact Hand.go
theorem putB2 (x : Nat) : putB 2 x = twoB x := by
  simp [putB, twoB, List.range_succ]
theorem gap03_c (n : Nat) (h : n < 2 ^ 60) : PC Tryz.prog 70 [nat n] (nat (gapN n)) := by
  refine PC.of_bodyW (by simp only [push_cast]) Tryz.func70 rfl (by rw [Tryz.ntmps70]; simp) ?_
  refine AWp.regionW ?_
  refine AWp.regionW ?_
  refine AWp.seqK fun K1 hK1 => ?_
  refine AWp.block ?_
  refine AWp.loopK0 [0] (fun (i : Nat) => [(3, nat i)]) (fun i => i ≤ gapN n ∧ i ≤ 3) (fun i => gapN n - i) (0) ?_ ⟨Nat.zero_le _, by omega⟩ ?_
  · skip
    refine Le.m 0 ?_ ?_
    · exact Go.Abs.evM
    · exact Go.Abs.evN
  · intro i hi K2 hK2
    refine AWp.seqK fun K3 hK3 => ?_
    refine AWp.regionW ?_
    refine AWp.condLM (fun c0 => ?_) (fun c0 => ?_)
    · skip
      have h0 : i < gapN n := by have := hi.1; simp at c0; unfold gapN at *; omega
      refine AWp.skip ?_
      refine hK3 _ ?_
      refine AWp.block ?_
      refine AWp.regionV ?_
      refine hK2 _ (i + 1) (⟨h0, by have := gapN_le n; omega⟩) (by omega) ?_
      refine Le.m 0 ?_ ?_
      · exact Go.Abs.evM
      · exact Go.Abs.evN
    · skip
      have h0 : i = gapN n := by have := hi.1; simp at c0; unfold gapN at *; omega
      refine AWp.exit ?_
      try simp only [thenQ, blockQ, noGo, reduceIte, Nat.reduceEqDiff]
      refine hK1 _ ?_
      refine AWp.regionW ?_
      refine AWp.ret ?_
      try simp only [thenQ, blockQ, noGo]
      refine bodyQ.m ?_
      clear hK3 K3 hK2 K2 hK1 K1
      rw [h0]
      first | done | exact Hand.go
theorem right01_c (k : Nat) : PC Tryz.prog 92 [nat k] (bool (k == 1 || k == 2 || k == 4)) := by
  refine PC.of_bodyW (by simp only [push_cast]) Tryz.func92 rfl (by rw [Tryz.ntmps92]; simp) ?_
  refine AWp.regionW ?_
  refine AWp.regionA fun K1 hK1 => ?_
  refine ARun.segm 3 fun KS hKS => ?_
  refine ARun2.endm (hKS _ ?_); clear hKS KS
  apply ARun.grpM 2 2 false 7 [0, 5]
  · intro g2 KG hKG
    refine ARun2.gom ?_
    exact ARun2.endm (hKG _ Le.grpM)
  refine ARun.segm 2 fun KS hKS => ?_
  refine ARun2.endm (hKS _ ?_); clear hKS KS
  apply ARun.grpM 2 6 false 11 [9]
  · intro g6 KG hKG
    refine ARun2.gom ?_
    exact ARun2.endm (hKG _ Le.grpM)
  refine ARun2.gom ?_
  refine ARun2.endm (hK1 _ ?_)
  refine AWp.ret ?_
  try simp only [thenQ, blockQ, noGo]
  refine bodyQ.m ?_
  clear hK1 K1
  simp only [Bool.or_assoc]
  first | done | exact Hand.go
theorem mul8 {x : Nat} {b : UInt8} (h : x < 2 ^ 24) : IntKind.u32.wrap (IntKind.u32.wrap (N x * 256) + N b.toNat) = N (x * 256 + b.toNat) := by
  have := b.toNat_lt
  rw [IntKind.wrap_u32, IntKind.wrap_u32]; unfold N; omega
theorem number01_c (k : Nat) (l : List UInt8) (i : Nat) (hk : k = 1 ∨ k = 2 ∨ k = 4) (hl : l.length ≤ 2 ^ 40) (hi : i ≤ 2 ^ 40) :
    PC Tryz.prog 69 [.sl false 1 (bys l), nat i, nat k] (.tup [u32 (peekN k l i), bool (decide (i + k ≤ l.length))]) := by
  have hr : (k == 1 || k == 2 || k == 4) = true := by rcases hk with rfl | rfl | rfl <;> rfl
  refine PC.of_bodyW (by simp only [push_cast]) Tryz.func69 rfl (by rw [Tryz.ntmps69]; simp) ?_
  refine AWp.regionW ?_
  refine AWp.seqK fun K1 hK1 => ?_
  refine AWp.regionM fun K2 hK2 => ?_
  refine ARun2.callM (hr ▸ right01_c k) ?_
  refine ARun2.endm (hK2 _ ?_)
  refine AWp.condLM (fun c0 => ?_) (fun c0 => ?_)
  · skip
    have h0 : ¬ i + k ≤ l.length := by simpa using c0
    have e : peekN k l i = 0 := if_neg h0
    have e2 : decide (i + k ≤ l.length) = false := decide_eq_false h0
    refine AWp.regionW ?_
    refine AWp.ret ?_
    try simp only [thenQ, blockQ, noGo]
    refine bodyQ.m ?_
    clear hK2 K2 hK1 K1
    rw [e, e2]
    first | done | exact Hand.go
  · skip
    have h0 : i + k ≤ l.length := by simpa using c0
    have e : peekN k l i = beN ((l.drop i).take k) := if_pos h0
    have e2 : decide (i + k ≤ l.length) = true := decide_eq_true h0
    refine AWp.skip ?_
    refine hK1 _ ?_
    refine AWp.regionW ?_
    refine AWp.seqK fun K3 hK3 => ?_
    refine AWp.regionW ?_
    refine AWp.block ?_
    refine AWp.loopK0 [0, 1, 2] (fun (j : Nat) => [(9, nat j), (8, u32 (beN ((l.drop i).take j)))]) (fun j => j ≤ k) (fun j => k - j) (0) ?_ (Nat.zero_le _) ?_
    · skip
      refine Le.m 0 ?_ ?_
      · exact Go.Abs.evM
      · exact Go.Abs.evN
    · intro j hj K4 hK4
      refine AWp.seqK fun K5 hK5 => ?_
      refine AWp.regionW ?_
      refine AWp.condLM (fun c1 => ?_) (fun c1 => ?_)
      · skip
        have hjk : j < k := by simpa using c1
        have hlt : i + j < l.length := by omega
        have hjd : j < (l.drop i).length := by rw [List.length_drop]; omega
        have hx : beN ((l.drop i).take j) < 2 ^ 24 := Nat.lt_of_lt_of_le (beN_lt2 _ 3 (Nat.le_trans (List.length_take_le _ _) (by omega))) (by decide)
        have hs : beN ((l.drop i).take (j + 1)) = beN ((l.drop i).take j) * 256 + l[i + j].toNat := by
          rw [List.take_succ_eq_append_getElem hjd, beN_snoc, List.getElem_drop]
        refine AWp.skip ?_
        refine hK5 _ ?_
        refine AWp.seqK fun K6 hK6 => ?_
        refine AWp.block ?_
        refine AWp.regionN fun K7 hK7 => ?_
        refine ARun2.indexM (i + j) (.val (.int .u8 (N l[i + j].toNat))) ?_ ?_
        · exact bys_at _ _ hlt
        refine ARun2.endm (hK7 _ ?_)
        refine hK6 _ ?_
        refine AWp.regionV ?_
        refine hK4 _ (j + 1) (by omega) (by omega) ?_
        refine Le.m 0 ?_ ?_
        · exact Go.Abs.evM
        · simp only [push_cast, ↓reduceIte, Nat.reduceEqDiff, Nat.reduceLT, Nat.reduceAdd, Nat.reduceSub, Nat.reduceMul, Nat.reduceLeDiff, Nat.reducePow, Int.reduceLT, Int.reduceToNat, reduceCtorEq, Int.reduceNeg, Int.reduceEq, Nat.reduceBEq, Nat.reduceBNe, Int.reduceBEq, Int.reduceBNe, String.reduceEq]
          try simp (disch := omega) only [w_nat, w_add, w_addl, w_addr, w_sub, w_subl, w_mul, w_mull, w_mulr, w_u32, w_u16, w_u8, w_u32a, N_zero]
          rw [mul8 hx, hs]
      · skip
        have hjk : j = k := by simp at c1; omega
        subst hjk
        refine AWp.exit ?_
        try simp only [thenQ, blockQ, noGo, reduceIte, Nat.reduceEqDiff]
        refine hK3 _ ?_
        refine AWp.regionW ?_
        refine AWp.ret ?_
        try simp only [thenQ, blockQ, noGo]
        refine bodyQ.m ?_
        clear hK5 K5 hK4 K4 hK3 K3 hK2 K2 hK1 K1
        rw [e, e2]
        first | done | exact Hand.go
def countedR (d : List UInt8) : Bool := decide (4 ≤ d.length ∧ 2 * peekN 4 d 0 = d.length - 4)
theorem counted08_c (d : List UInt8) (hl : d.length ≤ 2 ^ 40) : PC Tryz.prog 45 [.sl false 1 (bys d)] (bool (countedR d)) := by
  have hp := peekN_lt 4 d 0 (by omega)
  have hc : (N (2 * peekN 4 d 0) == IntKind.i64.wrap (N d.length - 4)) = countedR d := by
    unfold countedR
    rw [IntKind.wrap_i64, Bool.eq_iff_iff, beq_iff_eq, decide_eq_true_iff]
    unfold N; omega
  refine PC.of_bodyW (by simp only [push_cast]) Tryz.func45 rfl (by rw [Tryz.ntmps45]; simp) ?_
  refine AWp.regionW ?_
  refine AWp.regionM fun K1 hK1 => ?_
  refine ARun2.callM (number01_c 4 d 0 (by omega) hl (by omega)) ?_
  refine ARun2.endm (hK1 _ ?_)
  refine AWp.regionW ?_
  refine AWp.ret ?_
  try simp only [thenQ, blockQ, noGo]
  refine bodyQ.m ?_
  clear hK1 K1
  rw [hc]
  first | done | exact Hand.go
theorem inside08_c (k : Nat) (hk : k ≤ 4) : PC Tryz.prog 46 [nat k] (nat (insideN k).1) := by
  have hq : (insideN k).1 = if k = 3 then 2 else if k = 0 then 0 else 1 := by
    have h : k = 0 ∨ k = 1 ∨ k = 2 ∨ k = 3 ∨ k = 4 := by omega
    rcases h with rfl | rfl | rfl | rfl | rfl <;> rfl
  refine PC.of_bodyW (by simp only [push_cast]) Tryz.func46 rfl (by rw [Tryz.ntmps46]; simp) ?_
  refine AWp.regionW ?_
  refine AWp.seqK fun K1 hK1 => ?_
  refine AWp.regionW ?_
  refine AWp.condLM (fun c0 => ?_) (fun c0 => ?_)
  · skip
    refine AWp.regionW ?_
    refine AWp.ret ?_
    try simp only [thenQ, blockQ, noGo]
    refine bodyQ.m ?_
    clear hK1 K1
    rw [hq, if_pos (by simpa using c0)]
    first | done | exact Hand.go
  · skip
    refine AWp.skip ?_
    refine hK1 _ ?_
    refine AWp.seqK fun K2 hK2 => ?_
    refine AWp.regionW ?_
    refine AWp.condLM (fun c1 => ?_) (fun c1 => ?_)
    · skip
      refine AWp.regionW ?_
      refine AWp.ret ?_
      try simp only [thenQ, blockQ, noGo]
      refine bodyQ.m ?_
      clear hK2 K2 hK1 K1
      rw [hq, if_neg (by simpa using c0), if_pos (by simpa using c1)]
      first | done | exact Hand.go
    · skip
      refine AWp.skip ?_
      refine hK2 _ ?_
      refine AWp.regionW ?_
      refine AWp.ret ?_
      try simp only [thenQ, blockQ, noGo]
      refine bodyQ.m ?_
      clear hK2 K2 hK1 K1
      rw [hq, if_neg (by simpa using c0), if_neg (by simpa using c1)]
      first | done | exact Hand.go
theorem fits07_c (f : ShForm) (n : Nat) (hn : n < 2 ^ 40) (hl : f.least < 2 ^ 40) (hm : f.most < 2 ^ 40) (hu : 0 < f.unit) (hu2 : f.unit < 2 ^ 40) : PC Tryz.prog 43 [formA f, nat n] (bool (fitsN f n)) := by
  refine PC.of_bodyW (by simp only [push_cast]) Tryz.func43 rfl (by rw [Tryz.ntmps43]; simp) ?_
  refine AWp.regionW ?_
  refine AWp.seqK fun K1 hK1 => ?_
  refine AWp.regionW ?_
  refine AWp.block ?_
  refine AWp.loopK [1, 2] (fun (i : Nat) => [(5, nat (f.least + i * f.unit))]) (fun i => [.box 83 [nat f.cls, u16 f.ty, .val (.string f.name), nat f.least, nat f.most, nat f.unit, nat f.kids]]) (fun i => ∀ j, j < i → f.least + j * f.unit ≠ n) (fun i => f.most + 1 - (f.least + i * f.unit)) (0) ?_ (fun j h => by omega) ?_
  · skip
    refine Le.m 1 ?_ ?_
    · exact Go.Abs.evM
    · simp only [push_cast, ↓reduceIte, Nat.reduceEqDiff, Nat.reduceLT, Nat.reduceAdd, Nat.reduceSub, Nat.reduceMul, Nat.reduceLeDiff, Nat.reducePow, Int.reduceLT, Int.reduceToNat, reduceCtorEq, Int.reduceNeg, Int.reduceEq, Nat.reduceBEq, Nat.reduceBNe, Int.reduceBEq, Int.reduceBNe, String.reduceEq]
      try simp (disch := omega) only [w_nat, w_add, w_addl, w_addr, w_sub, w_subl, w_mul, w_mull, w_mulr, w_u32, w_u16, w_u8, w_u32a, N_zero]
      simp only [Nat.zero_mul, Nat.add_zero]
  · intro i hi K2 hK2
    refine AWp.seqK fun K3 hK3 => ?_
    refine AWp.regionW ?_
    refine AWp.condLM (fun c0 => ?_) (fun c0 => ?_)
    · skip
      have h0 : f.least + i * f.unit ≤ f.most := by simpa using c0
      have hs : (i + 1) * f.unit = i * f.unit + f.unit := by rw [Nat.add_mul, Nat.one_mul]
      refine AWp.skip ?_
      refine hK3 _ ?_
      refine AWp.seqK fun K4 hK4 => ?_
      refine AWp.block ?_
      refine AWp.regionW ?_
      refine AWp.condLM (fun c1 => ?_) (fun c1 => ?_)
      · skip
        have h1 : f.least + i * f.unit = n := by simpa using c1
        have hf : fitsN f n = true := by
          have e : n - f.least = i * f.unit := by omega
          unfold fitsN
          rw [e, Nat.mul_mod_left]
          simp
          omega
        refine AWp.regionW ?_
        refine AWp.ret ?_
        try simp only [thenQ, blockQ, noGo]
        refine bodyQ.m ?_
        clear hK4 K4 hK3 K3 hK2 K2 hK1 K1
        rw [hf]
        first | done | exact Hand.go
      · skip
        have h1 : f.least + i * f.unit ≠ n := by simpa using c1
        refine AWp.skip ?_
        refine hK4 _ ?_
        refine AWp.regionV ?_
        refine hK2 _ (i + 1) ((fun j hj => (Nat.lt_or_ge j i).elim (fun h => hi j h) (fun h => (show j = i by omega) ▸ h1))) (by omega) ?_
        refine Le.m 1 ?_ ?_
        · exact Go.Abs.evM
        · simp only [push_cast, ↓reduceIte, Nat.reduceEqDiff, Nat.reduceLT, Nat.reduceAdd, Nat.reduceSub, Nat.reduceMul, Nat.reduceLeDiff, Nat.reducePow, Int.reduceLT, Int.reduceToNat, reduceCtorEq, Int.reduceNeg, Int.reduceEq, Nat.reduceBEq, Nat.reduceBNe, Int.reduceBEq, Int.reduceBNe, String.reduceEq]
          try simp (disch := omega) only [w_nat, w_add, w_addl, w_addr, w_sub, w_subl, w_mul, w_mull, w_mulr, w_u32, w_u16, w_u8, w_u32a, N_zero]
          rw [hs, ← Nat.add_assoc]
    · skip
      have h0 : f.most < f.least + i * f.unit := by simpa using c0
      have hf : fitsN f n = false := by
        unfold fitsN
        by_cases h2 : f.least ≤ n ∧ n ≤ f.most
        · have h3 : (n - f.least) % f.unit ≠ 0 := by
            intro h3
            obtain ⟨j, hj⟩ := Nat.dvd_of_mod_eq_zero h3
            rw [Nat.mul_comm] at hj
            have hlt : j < i := by
              rcases Nat.lt_or_ge j i with h | h
              · exact h
              · have := Nat.mul_le_mul_right f.unit h
                omega
            exact hi j hlt (by omega)
          simp [h3]
        · rcases Nat.lt_or_ge n f.least with h4 | h4
          · simp; omega
          · simp; omega
      refine AWp.exit ?_
      try simp only [thenQ, blockQ, noGo, reduceIte, Nat.reduceEqDiff]
      refine hK1 _ ?_
      refine AWp.regionW ?_
      refine AWp.ret ?_
      try simp only [thenQ, blockQ, noGo]
      refine bodyQ.m ?_
      clear hK3 K3 hK2 K2 hK1 K1
      rw [hf]
      first | done | exact Hand.go
end Go.Proofs.YtldoehmlpdpiaaaGreatDoor.C
