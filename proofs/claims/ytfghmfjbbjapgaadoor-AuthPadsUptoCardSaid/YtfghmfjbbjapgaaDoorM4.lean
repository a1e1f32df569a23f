/- Frames written: tlv.All (the iterator itself), tlv.Put, tlv.Join; nodes written: frames, Encode. -/
import Derived.Test.YtfghmfjbbjapgaaDoorM3
import Derived.Laws.StructEq
import Derived.ChangeKeysEq
import Derived.Lib.BytesEntry
import Derived.WalkKit
import Derived.ProofKit
import Derived.OpenShut
import Derived.JoinedCond
import Derived.Carry
import Derived.ChangeSlices
import Derived.Test.YtfghmfjbbjapgaaDoorRows
import Derived.Deep.Strs
import Derived.LaidLaws
import Derived.LaidHandle
import Derived.Stop.Joined
import Derived.Test.YtfghmfjbbjapgaaDoorCards
import Derived.Test.YtfghmfjbbjapgaaDoorTie
import Derived.Deep.DeepHandedRow
set_option linter.unusedVariables false
set_option linter.unusedSimpArgs false
namespace Go.Proofs.YtfghmfjbbjapgaaDoor.C
open Go.Abs
/-- a frame's bytes -/
def putF (f : Frm) : List UInt8 := putB 2 f.ty ++ putB 2 (4 + f.val.length) ++ f.val
theorem putF_len (f : Frm) : (putF f).length = 4 + f.val.length := by simp [putF, putB_len]; omega
def fitF (f : Frm) : Bool := decide (f.val.length ≤ 65531)
theorem put_c (f : Frm) (ht : f.ty < 65536) (hl : f.val.length ≤ 2 ^ 38) : PC Tryd.prog 82 [frmA false f] (.tup [.sl true 1 (bys (if fitF f = true then putF f else [])), bool (fitF f)]) := by
  refine PC.of_bodyK (by simp only [push_cast]) Tryd.func82 rfl (by rw [Tryd.ntmps82]; simp) ?_
  refine AWp.regionW ?_
  refine AWp.seqK fun K1 hK1 => ?_
  refine AWp.regionW ?_
  refine AWp.condLM (fun c0 => ?_) (fun c0 => ?_)
  · skip
    have hf : fitF f = false := by simp at c0; unfold fitF; exact decide_eq_false (by omega)
    refine AWp.regionW ?_
    refine AWp.ret ?_
    try simp only [thenQ, blockQ, noGo]
    refine bodyQ.m ?_
    clear hK1 K1
    rw [hf]; simp only [if_true, if_false, reduceCtorEq, Bool.false_eq_true]
    first | done | exact Wk.go
  · skip
    have hle : f.val.length ≤ 65531 := by simp at c0; exact c0
    have hf : fitF f = true := decide_eq_true hle
    have hp := wire_put 2 [f.ty, 4 + f.val.length] (by omega) (by intro x hx; simp at hx; omega) (by simp)
    rw [show [f.ty, 4 + f.val.length].flatMap (putB 2) = putB 2 f.ty ++ putB 2 (4 + f.val.length) by simp] at hp
    have hj := wjoin_c [putB 2 f.ty ++ putB 2 (4 + f.val.length), f.val] (by simp [lens, putB_len]; omega) (by simp)
    rw [show [putB 2 f.ty ++ putB 2 (4 + f.val.length), f.val].flatten = putF f by simp [putF]] at hj
    refine AWp.skip ?_
    refine hK1 _ ?_
    refine AWp.drS [[(1, none)], [(8, some 0)], [(9, some 1)], [(1, none)], [(11, some 3)], [(12, some 4)], [(13, some 5)], [(14, some 6)], [(10, some 2), (15, some 7)], [(16, some 8)], [(1, none)], [(18, some 10)], [(17, some 9), (19, some 11)], [(20, some 12)], [(21, some 13)], []] fun G hG => ?_
    refine Dr.sim ?_
    try simp only [List.cons_append, List.nil_append]
    refine Dr.sim ?_
    try simp only [List.cons_append, List.nil_append]
    refine Dr.sim ?_
    try simp only [List.cons_append, List.nil_append]
    refine Dr.sim ?_
    try simp only [List.cons_append, List.nil_append]
    refine Dr.sim ?_
    try simp only [List.cons_append, List.nil_append]
    refine Dr.sim ?_
    try simp only [List.cons_append, List.nil_append]
    refine Dr.sim ?_
    try simp only [List.cons_append, List.nil_append]
    refine Dr.sim ?_
    try simp only [List.cons_append, List.nil_append]
    refine Dr.build ?_
    try simp only [List.cons_append, List.nil_append]
    refine Dr.call (hp) ?_
    try simp only [List.cons_append, List.nil_append]
    refine Dr.sim ?_
    try simp only [List.cons_append, List.nil_append]
    refine Dr.sim ?_
    try simp only [List.cons_append, List.nil_append]
    refine Dr.build ?_
    try simp only [List.cons_append, List.nil_append]
    refine Dr.call (hj) ?_
    try simp only [List.cons_append, List.nil_append]
    refine Dr.sim ?_
    try simp only [List.cons_append, List.nil_append]
    refine Dr.sim ?_
    try simp only [List.cons_append, List.nil_append]
    refine Dr.finM (n := 16) [(2, 14), (3, 15)] [] hG YtfghmfjbbjapgaaDoor.Facts.mixed fun KD hKD => ?_
    refine ARun2.endm (hKD _ ?_); clear hKD KD hG G
    refine AWp.ret ?_
    try simp only [thenQ, blockQ, noGo]
    refine bodyQ.m ?_
    clear hK1 K1
    rw [hf]; simp only [if_true, if_false, reduceCtorEq, Bool.false_eq_true]
    first | done | exact Wk.go
/-- the bytes of frames, one behind the other -/
def joinF (l : List Frm) : List UInt8 := l.foldl (fun out f => padB out ++ putF f) []
theorem joinF_snoc (l : List Frm) (f : Frm) : joinF (l ++ [f]) = padB (joinF l) ++ putF f := by simp [joinF]
theorem joinF_len_aux : ∀ (l : List Frm) (acc : List UInt8), (l.foldl (fun out f => padB out ++ putF f) acc).length = sumUp acc.length ((l.map fun f => f.val.length).map (4 + ·))
  | [], acc => rfl
  | f :: l, acc => by
    rw [List.foldl_cons, joinF_len_aux l, List.length_append, padB_len, putF_len]
    rfl
theorem joinF_len (l : List Frm) : (joinF l).length = tlvSize (l.map fun f => f.val.length) := joinF_len_aux l []
theorem tlvSize_take (l : List Nat) (i : Nat) : tlvSize (l.take i) ≤ tlvSize l := by
  unfold tlvSize; rw [List.map_take]; exact sumUp_take _ _
def joinX (l : List Frm) : List UInt8 := if l.all fitF = true then joinF l else []
theorem join_c (l : List Frm) (ht : ∀ f ∈ l, f.ty < 65536) (hs : tlvSize (l.map fun f => f.val.length) ≤ 2 ^ 36) (hl : l.length ≤ 2 ^ 40) : PC Tryd.prog 71 [.sl false 2 (frmsA false l)] (.tup [.sl true 1 (bys (joinX l)), bool (l.all fitF)]) := by
  refine PC.of_bodyK (by simp only [push_cast]) Tryd.func71 rfl (by rw [Tryd.ntmps71]; simp) ?_
  refine AWp.regionW ?_
  refine AWp.regionW ?_
  refine AWp.seqK fun K1 hK1 => ?_
  refine AWp.regionW ?_
  refine AWp.block ?_
  refine AWp.nilSl 4 true 1 ?_
  refine AWp.loopK0 [9, 10] (fun (i : Nat) => [(4, .sl true 1 (bys (joinF (l.take i)))), (11, nat i)]) (fun i => i ≤ l.length ∧ (l.take i).all fitF = true) (fun i => l.length - i) (0) ?_ ⟨Nat.zero_le _, rfl⟩ ?_
  · skip
    refine Le.m 0 ?_ ?_
    · first | with_reducible rfl | (simp only [push_cast, ↓reduceIte, Nat.reduceEqDiff, Nat.reduceLT, Nat.reduceAdd, Nat.reduceSub, Nat.reduceMul, Nat.reduceLeDiff, Nat.reducePow, Int.reduceLT, Int.reduceToNat, reduceCtorEq, Int.reduceNeg, Int.reduceEq, Nat.reduceBEq, Nat.reduceBNe, Int.reduceBEq, Int.reduceBNe, String.reduceEq]; first | done | rfl | (simp (disch := omega) only [w_nat, w_add, w_addl, w_addr, w_sub, w_subl, w_mul, w_mull, w_mulr, w_u32, w_u16, w_u8, w_u32a, N_zero]; first | done | rfl))
    · first | (simp only [push_cast, ↓reduceIte, Nat.reduceEqDiff, Nat.reduceLT, Nat.reduceAdd, Nat.reduceSub, Nat.reduceMul, Nat.reduceLeDiff, Nat.reducePow, Int.reduceLT, Int.reduceToNat, reduceCtorEq, Int.reduceNeg, Int.reduceEq, Nat.reduceBEq, Nat.reduceBNe, Int.reduceBEq, Int.reduceBNe, String.reduceEq]; first | done | rfl | (simp (disch := omega) only [w_nat, w_add, w_addl, w_addr, w_sub, w_subl, w_mul, w_mull, w_mulr, w_u32, w_u16, w_u8, w_u32a, N_zero]; first | done | rfl))
  · intro i hi K2 hK2
    refine AWp.regionW ?_
    refine AWp.seqK fun K3 hK3 => ?_
    refine AWp.condLM (fun c0 => ?_) (fun c0 => ?_)
    · skip
      have hil : i < l.length := by simpa using c0
      have hti := ht l[i] (List.getElem_mem hil)
      have hsi := tlvSize_mem (l := l.map fun f => f.val.length) (List.mem_map.2 ⟨l[i], List.getElem_mem hil, rfl⟩)
      have hj := joinF_len (l.take (i + 1))
      rw [List.map_take] at hj
      have hj2 := tlvSize_take (l.map fun f => f.val.length) (i + 1)
      rw [List.take_succ_eq_append_getElem hil, joinF_snoc, List.length_append] at hj
      have hu := padB_len (joinF (l.take i))
      have hu2 : (joinF (l.take i)).length ≤ upN (joinF (l.take i)).length := by unfold upN; omega
      refine AWp.skip ?_
      refine hK3 _ ?_
      refine AWp.seqK fun K4 hK4 => ?_
      refine AWp.block ?_
      refine AWp.regionM fun K5 hK5 => ?_
      refine ARun2.indexM (i) (frmA false l[i]) ?_ ?_
      · exact frmsA_at _ _ _ hil
      refine ARun2.endm (hK5 _ ?_)
      refine AWp.regionM fun K6 hK6 => ?_
      refine ARun2.callM (put_c l[i] hti (by omega)) ?_
      refine ARun2.endm (hK6 _ ?_)
      refine AWp.seqK fun K7 hK7 => ?_
      refine AWp.regionW ?_
      refine AWp.condLM (fun c1 => ?_) (fun c1 => ?_)
      · skip
        have hf : fitF l[i] = false := by simpa using c1
        have hr : l.all fitF = false := by rw [List.all_eq_false]; exact ⟨l[i], List.getElem_mem hil, by simp [hf]⟩
        have hr2 : joinX l = [] := by unfold joinX; rw [hr]; rfl
        refine AWp.regionW ?_
        refine AWp.ret ?_
        try simp only [thenQ, blockQ, noGo]
        refine bodyQ.m ?_
        clear hK7 K7 hK6 K6 hK5 K5 hK4 K4 hK3 K3 hK2 K2 hK1 K1
        rw [hr, hr2]
        first | done | exact Wk.go
      · skip
        have hf : fitF l[i] = true := by simpa using c1
        rw [hf, if_pos rfl]
        refine AWp.skip ?_
        refine hK7 _ ?_
        refine AWp.regionN fun K8 hK8 => ?_
        refine ARun2.callOM [] (padBytes_o (joinF (l.take i)) (by omega)) ?_
        refine ARun2.appendM ?_ ?_ ?_
        · rw [YtfghmfjbbjapgaaDoor.Facts.eb23, bys_len, bys_len]; omega
        · rw [bys_len, bys_len]; omega
        refine ARun2.endm (hK8 _ ?_)
        refine hK4 _ ?_
        refine AWp.pubD 1 ?_
        refine AWp.regionV ?_
        refine hK2 _ (i + 1) (⟨hil, by rw [List.take_succ_eq_append_getElem hil, List.all_append, hi.2]; simp [hf]⟩) (by omega) ?_
        refine Le.m 0 ?_ ?_
        · first | with_reducible rfl | (simp only [push_cast, ↓reduceIte, Nat.reduceEqDiff, Nat.reduceLT, Nat.reduceAdd, Nat.reduceSub, Nat.reduceMul, Nat.reduceLeDiff, Nat.reducePow, Int.reduceLT, Int.reduceToNat, reduceCtorEq, Int.reduceNeg, Int.reduceEq, Nat.reduceBEq, Nat.reduceBNe, Int.reduceBEq, Int.reduceBNe, String.reduceEq]; first | done | rfl | (simp (disch := omega) only [w_nat, w_add, w_addl, w_addr, w_sub, w_subl, w_mul, w_mull, w_mulr, w_u32, w_u16, w_u8, w_u32a, N_zero]; first | done | rfl))
        · simp only [push_cast, ↓reduceIte, Nat.reduceEqDiff, Nat.reduceLT, Nat.reduceAdd, Nat.reduceSub, Nat.reduceMul, Nat.reduceLeDiff, Nat.reducePow, Int.reduceLT, Int.reduceToNat, reduceCtorEq, Int.reduceNeg, Int.reduceEq, Nat.reduceBEq, Nat.reduceBNe, Int.reduceBEq, Int.reduceBNe, String.reduceEq]
          try simp (disch := omega) only [w_nat, w_add, w_addl, w_addr, w_sub, w_subl, w_mul, w_mull, w_mulr, w_u32, w_u16, w_u8, w_u32a, N_zero]
          rw [List.take_succ_eq_append_getElem hil, joinF_snoc, bys_append]
    · skip
      have hil : i = l.length := by have := hi.1; simp at c0; omega
      subst hil
      have hr : l.all fitF = true := by have := hi.2; rwa [List.take_length] at this
      have hr2 : joinX l = joinF l := by unfold joinX; rw [if_pos hr]
      rw [List.take_length]
      refine AWp.exit ?_
      try simp only [thenQ, blockQ, noGo, reduceIte, Nat.reduceEqDiff]
      refine hK1 _ ?_
      refine AWp.regionW ?_
      refine AWp.ret ?_
      try simp only [thenQ, blockQ, noGo]
      refine bodyQ.m ?_
      clear hK3 K3 hK2 K2 hK1 K1
      rw [hr, hr2]
      first | done | exact Wk.go
end Go.Proofs.YtfghmfjbbjapgaaDoor.C
/- Nodes read: one, parse, Parse. -/
set_option linter.unusedVariables false
set_option linter.unusedSimpArgs false
namespace Go.Proofs.YtfghmfjbbjapgaaDoor.C
open Go.Abs
end Go.Proofs.YtfghmfjbbjapgaaDoor.C
/- Nodes written: frames, Encode. -/
set_option linter.unusedVariables false
set_option linter.unusedSimpArgs false
namespace Go.Proofs.YtfghmfjbbjapgaaDoor.C
open Go.Abs
mutual
def frameN : GNode → Frm
  | .mk t d k => ⟨t, d ++ joinX (framesN k)⟩
def framesN : List GNode → List Frm
  | [] => []
  | n :: l => frameN n :: framesN l
end
theorem framesN_map : ∀ l : List GNode, framesN l = l.map frameN
  | [] => rfl
  | n :: l => by rw [framesN, framesN_map l]; rfl
theorem frameN_eq (n : GNode) : frameN n = ⟨n.ty, n.data ++ joinX (framesN n.kids)⟩ := by cases n; rw [frameN]; rfl
theorem framesN_len (l : List GNode) : (framesN l).length = l.length := by rw [framesN_map]; simp
theorem upN_mono {a b : Nat} (h : a ≤ b) : upN a ≤ upN b := by unfold upN gapN; omega
theorem sumUp_mono {α : Type} (f g : α → Nat) : ∀ (l : List α) (s s' : Nat), s ≤ s' → (∀ x ∈ l, f x ≤ g x) → sumUp s (l.map f) ≤ sumUp s' (l.map g)
  | [], s, s', h, _ => h
  | x :: l, s, s', h, hl => by
    simp only [List.map_cons, sumUp]
    refine sumUp_mono f g l _ _ ?_ fun y hy => hl y (by simp [hy])
    have := upN_mono h
    have := hl x (by simp)
    omega
theorem framesT_of {l : List GNode} (h : ∀ x ∈ l, (frameN x).val.length ≤ vlen x) : tlvSize ((framesN l).map fun f => f.val.length) ≤ nSize l := by
  unfold nSize tlvSize
  rw [framesN_map, nLens_map, List.map_map, List.map_map, List.map_map]
  exact sumUp_mono _ _ l 0 0 (Nat.le_refl _) fun x hx => by simp only [Function.comp]; have := h x hx; omega
theorem joinX_le (l : List Frm) : (joinX l).length ≤ tlvSize (l.map fun f => f.val.length) := by
  unfold joinX
  split
  · rw [joinF_len]; exact Nat.le_refl _
  · simp
mutual
theorem frameN_le : ∀ n : GNode, (frameN n).val.length ≤ vlen n
  | .mk t d k => by
    have h1 := framesT_of (framesL_le k)
    have h2 := joinX_le (framesN k)
    simp only [frameN, vlen, List.length_append]
    unfold nSize at h1
    omega
theorem framesL_le : ∀ (l : List GNode), ∀ x ∈ l, (frameN x).val.length ≤ vlen x
  | [], x, h => by simp at h
  | n :: l, x, h => (List.mem_cons.1 h).elim (fun e => e ▸ frameN_le n) (fun h => framesL_le l x h)
end
theorem framesT_le (l : List GNode) : tlvSize ((framesN l).map fun f => f.val.length) ≤ nSize l := framesT_of (framesL_le l)
theorem framesN_le (l : List GNode) : (joinX (framesN l)).length ≤ nSize l := Nat.le_trans (joinX_le _) (framesT_le l)
theorem framesN_snoc (l : List GNode) (n : GNode) : framesN (l ++ [n]) = framesN l ++ [frameN n] := by rw [framesN_map, framesN_map]; simp
@[push_cast] theorem errA_zero : errA 0 = .val .nilIface := rfl
theorem frameN_ty (n : GNode) : (frameN n).ty = n.ty := by rw [frameN_eq]
theorem frames_step (w : Nat) (ih : ∀ l : List GNode, wts l < w → nSize l ≤ 2 ^ 30 → tysOk l = true → PC Tryd.prog 72 [.sl false 3 (nodesA false l)] (.sl true 2 (frmsA true (framesN l)))) (l : List GNode) (hw : wts l ≤ w) (hs : nSize l ≤ 2 ^ 30) (ht : tysOk l = true) :
    PC Tryd.prog 72 [.sl false 3 (nodesA false l)] (.sl true 2 (frmsA true (framesN l))) := by
  have hlen := nSize_len l
  refine PC.of_bodyK (by simp only [push_cast]) Tryd.func72 rfl (by rw [Tryd.ntmps72]; simp) ?_
  refine AWp.regionW ?_
  refine AWp.regionW ?_
  refine AWp.seqK fun K1 hK1 => ?_
  refine AWp.regionW ?_
  refine AWp.block ?_
  -- SLOTS THAT TURN AND ARE NOT TOLD: [3]
  refine AWp.nilOwn 3 82 2 (by simp only [push_cast, ↓reduceIte, Nat.reduceEqDiff, Nat.reduceLT, Nat.reduceAdd, Nat.reduceSub, Nat.reduceMul, Nat.reduceLeDiff, Nat.reducePow, Int.reduceLT, Int.reduceToNat, reduceCtorEq, Int.reduceNeg, Int.reduceEq, Nat.reduceBEq, Nat.reduceBNe, Int.reduceBEq, Int.reduceBNe, String.reduceEq]) ?_
  simp only [push_cast, ↓reduceIte, Nat.reduceEqDiff, Nat.reduceLT, Nat.reduceAdd, Nat.reduceSub, Nat.reduceMul, Nat.reduceLeDiff, Nat.reducePow, Int.reduceLT, Int.reduceToNat, reduceCtorEq, Int.reduceNeg, Int.reduceEq, Nat.reduceBEq, Nat.reduceBNe, Int.reduceBEq, Int.reduceBNe, String.reduceEq]
  refine AWp.loopK [3, 8, 9] (fun (i : Nat) => [(10, nat i)]) (fun i => [.row 82 2 (frmsA true (framesN (l.take i)))]) (fun i => i ≤ l.length) (fun i => l.length - i) (0) ?_ (Nat.zero_le _) ?_
  · skip
    refine Le.m 1 ?_ ?_
    · try simp only [push_cast, ↓reduceIte, Nat.reduceEqDiff, Nat.reduceLT, Nat.reduceAdd, Nat.reduceSub, Nat.reduceMul, Nat.reduceLeDiff, Nat.reducePow, Int.reduceLT, Int.reduceToNat, reduceCtorEq, Int.reduceNeg, Int.reduceEq, Nat.reduceBEq, Nat.reduceBNe, Int.reduceBEq, Int.reduceBNe, String.reduceEq]
      try simp (disch := omega) only [w_nat, w_add, w_addl, w_addr, w_sub, w_subl, w_mul, w_mull, w_mulr, w_u32, w_u16, w_u8, w_u32a, N_zero]
      first | done | skip
      rfl
    · first | (simp only [push_cast, ↓reduceIte, Nat.reduceEqDiff, Nat.reduceLT, Nat.reduceAdd, Nat.reduceSub, Nat.reduceMul, Nat.reduceLeDiff, Nat.reducePow, Int.reduceLT, Int.reduceToNat, reduceCtorEq, Int.reduceNeg, Int.reduceEq, Nat.reduceBEq, Nat.reduceBNe, Int.reduceBEq, Int.reduceBNe, String.reduceEq]; first | done | rfl | (simp (disch := omega) only [w_nat, w_add, w_addl, w_addr, w_sub, w_subl, w_mul, w_mull, w_mulr, w_u32, w_u16, w_u8, w_u32a, N_zero]; first | done | rfl))
  · intro i hi K2 hK2
    refine AWp.regionW ?_
    refine AWp.seqK fun K3 hK3 => ?_
    refine AWp.condLM (fun c0 => ?_) (fun c0 => ?_)
    · skip
      have hil : i < l.length := by simpa using c0
      have hm := List.getElem_mem hil
      have hv := vlen_mem hm
      have he := vlen_eq l[i]
      have hk := nSize_kids hm
      have hkl := nSize_len l[i].kids
      have hkt := GNode.tyOk_kids (tysOk_mem ht _ hm)
      have hfl := framesN_le l[i].kids
      refine AWp.skip ?_
      refine hK3 _ ?_
      refine AWp.seqK fun K4 hK4 => ?_
      refine AWp.block ?_
      refine AWp.regionM fun K5 hK5 => ?_
      refine ARun2.indexM (i) (nodeA false l[i]) ?_ ?_
      · exact nodesA_at _ _ _ hil
      refine ARun2.endm (hK5 _ ?_)
      refine AWp.regionM fun K6 hK6 => ?_
      refine ARun2.callM (ih l[i].kids (by have := kids_lt hm; omega) (by omega) hkt) ?_
      refine ARun2.callM (join_c (framesN l[i].kids) (by intro f hf; rw [framesN_map] at hf; obtain ⟨n, hn, rfl⟩ := List.mem_map.1 hf; rw [frameN_ty]; exact GNode.tyOk_ty (tysOk_mem hkt _ hn)) (by have := framesT_le l[i].kids; omega) (by rw [framesN_len]; omega)) ?_
      refine ARun2.endm (hK6 _ ?_)
      have hj := wjoin_c [l[i].data, joinX (framesN l[i].kids)] (by simp [lens]; omega) (by simp)
      rw [show [l[i].data, joinX (framesN l[i].kids)].flatten = l[i].data ++ joinX (framesN l[i].kids) by simp] at hj
      refine AWp.drE [[(3, none)], [(5, none)], [(22, some 1)], [(5, none)], [(24, some 3)], [(6, none)], [(25, some 4), (26, some 5)], [(27, some 6)], [(23, some 2), (28, some 7)], [(29, some 8)]] fun G hG => ?_
      refine Dr.sim ?_
      try simp only [List.cons_append, List.nil_append]
      refine Dr.sim ?_
      try simp only [List.cons_append, List.nil_append]
      refine Dr.sim ?_
      try simp only [List.cons_append, List.nil_append]
      refine Dr.sim ?_
      try simp only [List.cons_append, List.nil_append]
      refine Dr.sim ?_
      try simp only [List.cons_append, List.nil_append]
      refine Dr.sim ?_
      try simp only [List.cons_append, List.nil_append]
      refine Dr.build ?_
      try simp only [List.cons_append, List.nil_append]
      refine Dr.call (hj) ?_
      try simp only [List.cons_append, List.nil_append]
      refine Dr.sim ?_
      try simp only [List.cons_append, List.nil_append]
      refine Dr.build ?_
      try simp only [List.cons_append, List.nil_append]
      refine Dr.finN (n := 10) [(21, 0), (30, 9)] [8, 9, 10] hG YtfghmfjbbjapgaaDoor.Facts.mixed fun KD hKD => ?_
      refine ARun2.appendM ?_ ?_ ?_
      · rw [YtfghmfjbbjapgaaDoor.Facts.eb80, frmsA_len, framesN_len, List.length_take, List.length_cons, List.length_nil]; omega
      · rw [frmsA_len, framesN_len, List.length_take, List.length_cons, List.length_nil]; omega
      refine ARun2.endm (hKD _ ?_); clear hKD KD hG G
      refine hK4 _ ?_
      refine AWp.regionV ?_
      refine hK2 _ (i + 1) (by omega) (by omega) ?_
      refine Le.m 1 ?_ ?_
      · try simp only [push_cast, ↓reduceIte, Nat.reduceEqDiff, Nat.reduceLT, Nat.reduceAdd, Nat.reduceSub, Nat.reduceMul, Nat.reduceLeDiff, Nat.reducePow, Int.reduceLT, Int.reduceToNat, reduceCtorEq, Int.reduceNeg, Int.reduceEq, Nat.reduceBEq, Nat.reduceBNe, Int.reduceBEq, Int.reduceBNe, String.reduceEq]
        try simp (disch := omega) only [w_nat, w_add, w_addl, w_addr, w_sub, w_subl, w_mul, w_mull, w_mulr, w_u32, w_u16, w_u8, w_u32a, N_zero]
        first | done | skip
        rw [List.take_succ_eq_append_getElem hil, framesN_snoc, frmsA_snoc, frameN_eq l[i]]; rfl
      · first | (simp only [push_cast, ↓reduceIte, Nat.reduceEqDiff, Nat.reduceLT, Nat.reduceAdd, Nat.reduceSub, Nat.reduceMul, Nat.reduceLeDiff, Nat.reducePow, Int.reduceLT, Int.reduceToNat, reduceCtorEq, Int.reduceNeg, Int.reduceEq, Nat.reduceBEq, Nat.reduceBNe, Int.reduceBEq, Int.reduceBNe, String.reduceEq]; first | done | rfl | (simp (disch := omega) only [w_nat, w_add, w_addl, w_addr, w_sub, w_subl, w_mul, w_mull, w_mulr, w_u32, w_u16, w_u8, w_u32a, N_zero]; first | done | rfl))
    · skip
      have hil : i = l.length := by simp at c0; omega
      subst hil
      refine AWp.exit ?_
      try simp only [thenQ, blockQ, noGo, reduceIte, Nat.reduceEqDiff]
      refine hK1 _ ?_
      refine AWp.pubD 0 ?_
      refine AWp.regionW ?_
      refine AWp.ret ?_
      try simp only [thenQ, blockQ, noGo]
      refine bodyQ.m ?_
      clear hK3 K3 hK2 K2 hK1 K1
      rw [List.take_length]
      first | done | exact Wk.go
theorem frames_w : ∀ (w : Nat) (l : List GNode), wts l ≤ w → nSize l ≤ 2 ^ 30 → tysOk l = true → PC Tryd.prog 72 [.sl false 3 (nodesA false l)] (.sl true 2 (frmsA true (framesN l))) := by
  intro w
  induction w with
  | zero => exact frames_step 0 (fun l h => by omega)
  | succ w ih => exact frames_step (w + 1) (fun l h => ih l (by omega))
theorem frames_c (l : List GNode) (hs : nSize l ≤ 2 ^ 30) (ht : tysOk l = true) : PC Tryd.prog 72 [.sl false 3 (nodesA false l)] (.sl true 2 (frmsA true (framesN l))) := frames_w _ l (Nat.le_refl _) hs ht
/-- the bytes of nodes -/
def encN (l : List GNode) : List UInt8 := joinX (framesN l)
end Go.Proofs.YtfghmfjbbjapgaaDoor.C
/- wharflaw08: coded, told, node.Walk (the iterator itself), awake. -/
set_option linter.unusedVariables false
set_option linter.unusedSimpArgs false
namespace Go.Proofs.YtfghmfjbbjapgaaDoor.C
open Go.Abs
end Go.Proofs.YtfghmfjbbjapgaaDoor.C
/- The reference's bytes of nodes: wharfref03.Bytes, wharfref08.Bytes. -/
set_option linter.unusedVariables false
set_option linter.unusedSimpArgs false
namespace Go.Proofs.YtfghmfjbbjapgaaDoor.C
open Go.Abs
mutual
/-- a node's value in the reference -/
def refV : GNode → List UInt8
  | .mk _ d k => d ++ joinF (refFs k)
def refFs : List GNode → List Frm
  | [] => []
  | n :: l => ⟨n.ty, refV n⟩ :: refFs l
end
theorem refV_eq (n : GNode) : refV n = n.data ++ joinF (refFs n.kids) := by cases n; simp [refV, GNode.data, GNode.kids]
theorem refFs_map : ∀ l : List GNode, refFs l = l.map fun n => ⟨n.ty, refV n⟩
  | [] => by simp [refFs]
  | n :: l => by simp [refFs, refFs_map l]
mutual
theorem refV_len : ∀ n : GNode, (refV n).length = vlen n
  | .mk t d k => by rw [refV, List.length_append, joinF_len, vlen, refFs_len k]
theorem refFs_len : ∀ l : List GNode, ((refFs l).map fun f => f.val.length) = nLens l
  | [] => by simp [refFs, nLens]
  | n :: l => by simp [refFs, nLens, refV_len n, refFs_len l]
end
theorem refB_len (l : List GNode) : (joinF (refFs l)).length = nSize l := by rw [joinF_len, refFs_len]; rfl
end Go.Proofs.YtfghmfjbbjapgaaDoor.C
/- wharflaw08: NodeDepths. -/
set_option linter.unusedVariables false
set_option linter.unusedSimpArgs false
namespace Go.Proofs.YtfghmfjbbjapgaaDoor.C
open Go.Abs
end Go.Proofs.YtfghmfjbbjapgaaDoor.C
/- Nodes written and read again: the plain law. -/
set_option linter.unusedVariables false
set_option linter.unusedSimpArgs false
namespace Go.Proofs.YtfghmfjbbjapgaaDoor.C
open Go.Abs
/-! ### frames, one after the other -/
theorem checkL_mem {c dp : Nat} : ∀ {l : List GNode}, checkL c dp l = 0 → ∀ n ∈ l, checkN c dp n = 0
  | [], h, n, hn => by simp at hn
  | m :: l, h, n, hn => by
    rw [checkL] at h
    split at h
    · rename_i hm; exact absurd h hm
    · rename_i hm
      rcases List.mem_cons.1 hn with rfl | hn
      · simpa using hm
      · exact checkL_mem h n hn
theorem checkN_zero {c dp : Nat} {n : GNode} (h : checkN c dp n = 0) : dp ≤ 4 ∧ badN c n.ty n.data.length n.kids = false ∧ countedN c n.ty n.data = false ∧ checkL (insideN (shapeOf c n.ty).kids).1 (dp + 1) n.kids = 0 ∧ nSize [n] ≤ 65535 := by
  rw [checkN_eq] at h
  split at h
  · cases h
  · rename_i h1
    split at h
    · cases h
    · rename_i h2
      split at h
      · cases h
      · rename_i h3
        split at h
        · rename_i h4; exact absurd h h4
        · rename_i h4
          split at h
          · cases h
          · rename_i h5
            exact ⟨by omega, by simpa using h2, by simpa using h3, by simpa using h4, by omega⟩
theorem size_one (n : GNode) : nSize [n] = 4 + vlen n := by simp [nSize, nLens, tlvSize, sumUp, upN, gapN]
theorem enc_rt : ∀ (w dp c : Nat) (l : List GNode), wts l ≤ w → checkL c dp l = 0 → encN l = joinF (refFs l)
  | w, dp, c, l, hw, h => by
    have key : ∀ n ∈ l, frameN n = ⟨n.ty, refV n⟩ := by
      intro n hn
      have hz := checkN_zero (checkL_mem h n hn)
      have hlt := kids_lt hn
      match w with
      | 0 => omega
      | w + 1 =>
        have := enc_rt w (dp + 1) _ n.kids (by omega) hz.2.2.2.1
        unfold encN at this
        rw [frameN_eq, this, ← refV_eq]
    have e : framesN l = refFs l := by
      rw [framesN_map, refFs_map]
      exact List.map_congr_left key
    unfold encN joinX
    rw [e, if_pos]
    rw [List.all_eq_true]
    intro f hf
    rw [refFs_map] at hf
    obtain ⟨n, hn, rfl⟩ := List.mem_map.1 hf
    have hz := (checkN_zero (checkL_mem h n hn)).2.2.2.2
    rw [size_one] at hz
    have := refV_len n
    simp [fitF]; omega
end Go.Proofs.YtfghmfjbbjapgaaDoor.C
/- Bytes read as nodes are the bytes of these nodes, which are right: the plain law. -/
set_option linter.unusedVariables false
set_option linter.unusedSimpArgs false
namespace Go.Proofs.YtfghmfjbbjapgaaDoor.C
open Go.Abs
end Go.Proofs.YtfghmfjbbjapgaaDoor.C
/- Chunks written and read again: the plain law. -/
set_option linter.unusedVariables false
set_option linter.unusedSimpArgs false
namespace Go.Proofs.YtfghmfjbbjapgaaDoor.C
open Go.Abs
/-- the bytes of a chunk -/
def headB (c : GChunk) : List UInt8 := [UInt8.ofNat c.ty, UInt8.ofNat c.flags]
def bytesC (c : GChunk) : List UInt8 := headB c ++ (putB 2 (4 + c.data.length + nSize c.kids) ++ (c.data ++ joinF (refFs c.kids)))
theorem bytesC_len (c : GChunk) : (bytesC c).length = 4 + c.data.length + nSize c.kids := by
  simp only [bytesC, headB, List.length_append, putB_len, refB_len, List.length_cons, List.length_nil]; omega
theorem fit_len {k : KForm} {n : Nat} (h : kfitsN k n = true) : k.least ≤ n ∧ n ≤ k.most := by
  unfold kfitsN at h; simp only [Bool.and_eq_true, decide_eq_true_eq] at h; exact h.1
theorem check_pre {c : GChunk} (h : checkC c = 0) (hh : kindHas c.ty = true) : preE c = .ok := by
  have hs : startC c = 0 := by
    unfold checkC at h
    split at h
    · rename_i h1; exact absurd h h1
    · rename_i h1; simpa using h1
  unfold startC at hs
  rw [if_pos hh] at hs
  exact (isN_ok (preE_isN c)).1 hs
theorem check_size {c : GChunk} (h : checkC c = 0) : 4 + c.data.length + nSize c.kids ≤ 65535 ∧ checkL (classOf c.ty) 1 c.kids = 0 := by
  unfold checkC at h
  split at h
  · rename_i h1; exact absurd h h1
  split at h
  · rename_i h1; exact absurd h h1
  rename_i h2
  split at h
  · cases h
  · rename_i h1; exact ⟨by omega, by simpa using h2⟩
theorem check_none {c : GChunk} (h : checkC c = 0) (hh : kindHas c.ty = false) : c.kids = [] := by
  by_cases h2 : 0 < c.kids.length
  · have hs : startC c = 7 := by unfold startC; rw [if_neg (by rw [hh]; simp), if_pos h2]
    unfold checkC at h
    rw [hs] at h
    simp at h
  · exact List.length_eq_zero_iff.1 (by omega)
theorem u8_nat {n : Nat} (h : n < 256) : (UInt8.ofNat n).toNat = n := by rw [UInt8.toNat_ofNat']; omega
end Go.Proofs.YtfghmfjbbjapgaaDoor.C
/- chunk: Encode; the reference's Bytes. -/
set_option linter.unusedVariables false
set_option linter.unusedSimpArgs false
namespace Go.Proofs.YtfghmfjbbjapgaaDoor.C
open Go.Abs
theorem encode2_c (c : Nat) (l : List GNode) (hc : 0 < l.length → c = 1 ∨ c = 2) (hs : nSize l ≤ 2 ^ 30) (ht : tysOk l = true) : PC Tryd.prog 54 [nat c, .sl false 3 (nodesA false l)]
    (.tup [.sl true 1 (bys (if checkL c 1 l = 0 then encN l else [])), errA (checkL c 1 l)]) := by
  have hlen := nSize_len l
  refine PC.of_bodyK (by simp only [push_cast]) Tryd.func54 rfl (by rw [Tryd.ntmps54]; simp) ?_
  refine AWp.regionW ?_
  refine AWp.seqK fun K1 hK1 => ?_
  refine AWp.regionW ?_
  refine AWp.block ?_
  refine AWp.loopK0 [0, 1, 11, 12] (fun (i : Nat) => [(13, nat i)]) (fun i => i ≤ l.length ∧ checkL c 1 (l.take i) = 0) (fun i => l.length - i) (0) ?_ ⟨Nat.zero_le _, rfl⟩ ?_
  · skip
    refine Le.m 0 ?_ ?_
    · first | with_reducible rfl | (simp only [push_cast, ↓reduceIte, Nat.reduceEqDiff, Nat.reduceLT, Nat.reduceAdd, Nat.reduceSub, Nat.reduceMul, Nat.reduceLeDiff, Nat.reducePow, Int.reduceLT, Int.reduceToNat, reduceCtorEq, Int.reduceNeg, Int.reduceEq, Nat.reduceBEq, Nat.reduceBNe, Int.reduceBEq, Int.reduceBNe, String.reduceEq]; first | done | rfl | (simp (disch := omega) only [w_nat, w_add, w_addl, w_addr, w_sub, w_subl, w_mul, w_mull, w_mulr, w_u32, w_u16, w_u8, w_u32a, N_zero]; first | done | rfl))
    · first | (simp only [push_cast, ↓reduceIte, Nat.reduceEqDiff, Nat.reduceLT, Nat.reduceAdd, Nat.reduceSub, Nat.reduceMul, Nat.reduceLeDiff, Nat.reducePow, Int.reduceLT, Int.reduceToNat, reduceCtorEq, Int.reduceNeg, Int.reduceEq, Nat.reduceBEq, Nat.reduceBNe, Int.reduceBEq, Int.reduceBNe, String.reduceEq]; first | done | rfl | (simp (disch := omega) only [w_nat, w_add, w_addl, w_addr, w_sub, w_subl, w_mul, w_mull, w_mulr, w_u32, w_u16, w_u8, w_u32a, N_zero]; first | done | rfl))
  · intro i hi K2 hK2
    refine AWp.regionW ?_
    refine AWp.seqK fun K3 hK3 => ?_
    refine AWp.condLM (fun c0 => ?_) (fun c0 => ?_)
    · skip
      have hil : i < l.length := by simpa using c0
      have hm := List.getElem_mem hil
      have hn1 := nSize_one hm
      refine AWp.skip ?_
      refine hK3 _ ?_
      refine AWp.seqK fun K4 hK4 => ?_
      refine AWp.block ?_
      refine AWp.regionM fun K5 hK5 => ?_
      refine ARun2.indexM (i) (nodeA false l[i]) ?_ ?_
      · exact nodesA_at _ _ _ hil
      refine ARun2.endm (hK5 _ ?_)
      refine AWp.regionM fun K6 hK6 => ?_
      refine ARun2.callM (check_c c l[i] (hc (by omega)) (by omega)) ?_
      refine ARun2.endm (hK6 _ ?_)
      refine AWp.regionW ?_
      refine AWp.condLM (fun c1 => ?_) (fun c1 => ?_)
      · skip
        have hne : checkN c 1 l[i] ≠ 0 := by simpa using c1
        have hr := checkL_at c 1 l i hil hi.2 hne
        have hr2 : (if checkL c 1 l = 0 then encN l else []) = [] := by rw [hr, if_neg hne]
        refine AWp.regionW ?_
        refine AWp.ret ?_
        try simp only [thenQ, blockQ, noGo]
        refine bodyQ.m ?_
        clear hK6 K6 hK5 K5 hK4 K4 hK3 K3 hK2 K2 hK1 K1
        rw [hr2, hr]; try rw [encN]
        first | done | exact Wk.go
      · skip
        have heq : checkN c 1 l[i] = 0 := by simpa using c1
        refine AWp.skip ?_
        refine hK4 _ ?_
        refine AWp.regionV ?_
        refine hK2 _ (i + 1) (⟨hil, by rw [List.take_succ_eq_append_getElem hil, checkL_snoc, hi.2]; simpa using heq⟩) (by omega) ?_
        refine Le.m 0 ?_ ?_
        · first | with_reducible rfl | (simp only [push_cast, ↓reduceIte, Nat.reduceEqDiff, Nat.reduceLT, Nat.reduceAdd, Nat.reduceSub, Nat.reduceMul, Nat.reduceLeDiff, Nat.reducePow, Int.reduceLT, Int.reduceToNat, reduceCtorEq, Int.reduceNeg, Int.reduceEq, Nat.reduceBEq, Nat.reduceBNe, Int.reduceBEq, Int.reduceBNe, String.reduceEq]; first | done | rfl | (simp (disch := omega) only [w_nat, w_add, w_addl, w_addr, w_sub, w_subl, w_mul, w_mull, w_mulr, w_u32, w_u16, w_u8, w_u32a, N_zero]; first | done | rfl))
        · first | (simp only [push_cast, ↓reduceIte, Nat.reduceEqDiff, Nat.reduceLT, Nat.reduceAdd, Nat.reduceSub, Nat.reduceMul, Nat.reduceLeDiff, Nat.reducePow, Int.reduceLT, Int.reduceToNat, reduceCtorEq, Int.reduceNeg, Int.reduceEq, Nat.reduceBEq, Nat.reduceBNe, Int.reduceBEq, Int.reduceBNe, String.reduceEq]; first | done | rfl | (simp (disch := omega) only [w_nat, w_add, w_addl, w_addr, w_sub, w_subl, w_mul, w_mull, w_mulr, w_u32, w_u16, w_u8, w_u32a, N_zero]; first | done | rfl))
    · skip
      have hil : i = l.length := by have := hi.1; simp at c0; omega
      subst hil
      have hr : checkL c 1 l = 0 := by have := hi.2; rwa [List.take_length] at this
      have hr2 : (if checkL c 1 l = 0 then encN l else []) = encN l := if_pos hr
      refine AWp.exit ?_
      try simp only [thenQ, blockQ, noGo, reduceIte, Nat.reduceEqDiff]
      refine hK1 _ ?_
      refine AWp.regionM fun K7 hK7 => ?_
      refine ARun2.callM (frames_c l hs ht) ?_
      refine ARun2.callM (join_c (framesN l) (by intro f hf; rw [framesN_map] at hf; obtain ⟨n, hn, rfl⟩ := List.mem_map.1 hf; rw [frameN_ty]; exact GNode.tyOk_ty (tysOk_mem ht _ hn)) (by have := framesT_le l; omega) (by rw [framesN_len]; omega)) ?_
      refine ARun2.endm (hK7 _ ?_)
      refine AWp.regionW ?_
      refine AWp.ret ?_
      try simp only [thenQ, blockQ, noGo]
      refine bodyQ.m ?_
      clear hK7 K7 hK3 K3 hK2 K2 hK1 K1
      rw [hr2, hr]; try rw [encN]
      first | done | exact Wk.go
theorem headB_A (c : GChunk) (ht : c.ty < 256) (hf : c.flags < 256) : [u8 c.ty, u8 c.flags] = bys (headB c) := by
  simp only [bys, headB, List.map_cons, List.map_nil, u8_nat ht, u8_nat hf]
theorem check_class {c : GChunk} (h : checkC c = 0) : 0 < c.kids.length → classOf c.ty = 1 ∨ classOf c.ty = 2 := by
  intro hl
  cases hh : kindHas c.ty with
  | false => rw [check_none h hh] at hl; simp at hl
  | true => exact kclass _ _ (pre_kids (check_pre h hh)) (kind_bd c.ty).2.2.2.2.1 hl
theorem encN_check {c : GChunk} (h : checkC c = 0) : encN c.kids = joinF (refFs c.kids) := enc_rt _ 1 _ c.kids (Nat.le_refl _) (check_size h).2
def encC (c : GChunk) : List UInt8 := if checkC c = 0 then bytesC c else []
theorem wjoin4 (a b c d : List UInt8) : [a, b, c, d].flatten = a ++ (b ++ (c ++ d)) := by simp
theorem cenc_yes (c : GChunk) (u1 u2 : Nat) (BB J : List UInt8) (h : Small c) (hck : PC Tryd.prog 17 [chunkA false c] (errA 0))
    (hki : PC Tryd.prog 28 [nat (kindOf c.ty).kids] (.tup [nat (classOf c.ty), nat u1, nat u2])) (hs : 4 + c.data.length + nSize c.kids ≤ 65535)
    (hen : PC Tryd.prog 54 [nat (classOf c.ty), .sl false 3 (nodesA false c.kids)] (.tup [.sl true 1 (bys J), errA 0]))
    (hsz : PC Tryd.prog 16 [chunkA false c] (nat (4 + c.data.length + nSize c.kids)))
    (hp : PC Tryd.prog 20 [nat 2, .sl false 1 [u32 (4 + c.data.length + nSize c.kids)]] (.sl true 1 (bys (putB 2 (4 + c.data.length + nSize c.kids)))))
    (hj : PC Tryd.prog 19 [.sl false 1 [.sl false 1 [u8 c.ty, u8 c.flags], .sl false 1 (bys (putB 2 (4 + c.data.length + nSize c.kids))), .sl false 1 (bys c.data), .sl false 1 (bys J)]] (.sl true 1 (bys BB))) :
    PC Tryd.prog 38 [chunkA false c] (.tup [.sl true 1 (bys BB), errA 0]) := by
  refine PC.of_bodyK (by simp only [push_cast]) Tryd.func38 rfl (by rw [Tryd.ntmps38]; simp) ?_
  refine AWp.regionW ?_
  refine AWp.seqK fun K1 hK1 => ?_
  refine AWp.regionM fun K2 hK2 => ?_
  refine ARun2.callM (hck) ?_
  refine ARun2.endm (hK2 _ ?_)
  refine AWp.regionW ?_
  refine AWp.condF ?_
  refine AWp.skip ?_
  refine hK1 _ ?_
  refine AWp.regionM fun K3 hK3 => ?_
  refine ARun2.callM (kof_c c.ty h.ty) ?_
  refine ARun2.endm (hK3 _ ?_)
  refine AWp.regionM fun K4 hK4 => ?_
  refine ARun2.callM (hki) ?_
  refine ARun2.endm (hK4 _ ?_)
  refine AWp.regionM fun K5 hK5 => ?_
  refine ARun2.callM (hen) ?_
  refine ARun2.endm (hK5 _ ?_)
  refine AWp.drS [[(1, none)], [(37, some 0)], [(1, none)], [(39, some 2)], [(38, some 1), (40, some 3)], [(1, none)], [(42, some 5)], [(43, some 6)], [(44, some 7)], [(45, some 8)], [(1, none)], [(47, some 10)], [(10, none)], [(41, some 4), (46, some 9), (48, some 11), (49, some 12)], [(50, some 13)], [(11, none)], [(51, some 14)], [(52, some 15)]] fun G hG => ?_
  refine Dr.sim ?_
  try simp only [List.cons_append, List.nil_append]
  refine Dr.sim ?_
  try simp only [List.cons_append, List.nil_append]
  refine Dr.sim ?_
  try simp only [List.cons_append, List.nil_append]
  refine Dr.sim ?_
  try simp only [List.cons_append, List.nil_append]
  refine Dr.build ?_
  try simp only [List.cons_append, List.nil_append]
  refine Dr.sim ?_
  try simp only [List.cons_append, List.nil_append]
  refine Dr.call (hsz) ?_
  try simp only [List.cons_append, List.nil_append]
  refine Dr.sim ?_
  try simp only [List.cons_append, List.nil_append]
  refine Dr.build ?_
  try simp only [List.cons_append, List.nil_append]
  refine Dr.call (hp) ?_
  try simp only [List.cons_append, List.nil_append]
  refine Dr.sim ?_
  try simp only [List.cons_append, List.nil_append]
  refine Dr.sim ?_
  try simp only [List.cons_append, List.nil_append]
  refine Dr.sim ?_
  try simp only [List.cons_append, List.nil_append]
  refine Dr.build ?_
  try simp only [List.cons_append, List.nil_append]
  refine Dr.call (hj) ?_
  try simp only [List.cons_append, List.nil_append]
  refine Dr.sim ?_
  try simp only [List.cons_append, List.nil_append]
  refine Dr.sim ?_
  try simp only [List.cons_append, List.nil_append]
  refine Dr.sim ?_
  try simp only [List.cons_append, List.nil_append]
  refine Dr.finM (n := 18) [(2, 16), (3, 17)] [] hG YtfghmfjbbjapgaaDoor.Facts.mixed fun KD hKD => ?_
  refine ARun2.endm (hKD _ ?_); clear hKD KD hG G
  refine AWp.ret ?_
  try simp only [thenQ, blockQ, noGo]
  refine bodyQ.m ?_
  clear hK5 K5 hK4 K4 hK3 K3 hK2 K2 hK1 K1
  first | done | exact Wk.go
theorem cenc_no (c : GChunk) (h : Small c) (h0 : ¬ checkC c = 0) : PC Tryd.prog 38 [chunkA false c] (.tup [.sl true 1 (bys []), errA (checkC c)]) := by
  have hck := h.check
  refine PC.of_bodyK (by simp only [push_cast]) Tryd.func38 rfl (by rw [Tryd.ntmps38]; simp) ?_
  refine AWp.regionW ?_
  refine AWp.seqK fun K1 hK1 => ?_
  refine AWp.regionM fun K2 hK2 => ?_
  refine ARun2.callM (hck) ?_
  refine ARun2.endm (hK2 _ ?_)
  refine AWp.regionW ?_
  refine AWp.condLM (fun c0 => ?_) (fun c0 => ?_)
  · skip
    refine AWp.regionW ?_
    refine AWp.ret ?_
    try simp only [thenQ, blockQ, noGo]
    refine bodyQ.m ?_
    clear hK2 K2 hK1 K1
    first | done | exact Wk.go
  · skip
    exfalso; apply h0; simpa using c0
theorem cenc_c (c : GChunk) (h : Small c) (htk : tysOk c.kids = true) : PC Tryd.prog 38 [chunkA false c] (.tup [.sl true 1 (bys (encC c)), errA (checkC c)]) := by
  have hb := kind_bd c.ty
  have hck := h.check
  have hki := kinside_c (kindOf c.ty).kids (by omega)
  have hcc : classOf c.ty = (kinsideN (kindOf c.ty).kids).1 := rfl
  rw [← hcc] at hki
  have hns := nSize_szs2 c.kids
  have hkk := h.kids
  have hdd := h.data
  have hsz := csize_c c (by omega) (by omega)
  by_cases h0 : checkC c = 0
  · obtain ⟨hs, hL⟩ := check_size h0
    have hen := encode2_c (classOf c.ty) c.kids (check_class h0) (by omega) htk
    rw [hL, if_pos rfl, encN_check h0] at hen
    have hrl := refB_len c.kids
    have hp : PC Tryd.prog 20 [nat 2, .sl false 1 [u32 (4 + c.data.length + nSize c.kids)]] (.sl true 1 (bys (putB 2 (4 + c.data.length + nSize c.kids)))) := by
      have := wire_put 2 [4 + c.data.length + nSize c.kids] (by omega) (by intro x hx; simp at hx; omega) (by simp)
      simpa [u32s, List.flatMap_cons, List.flatMap_nil] using this
    have hj : PC Tryd.prog 19 [.sl false 1 [.sl false 1 (bys (headB c)), .sl false 1 (bys (putB 2 (4 + c.data.length + nSize c.kids))), .sl false 1 (bys c.data), .sl false 1 (bys (joinF (refFs c.kids)))]] (.sl true 1 (bys (bytesC c))) := by
      have := wjoin_c [headB c, putB 2 (4 + c.data.length + nSize c.kids), c.data, joinF (refFs c.kids)] (by simp only [lens, List.map_cons, List.map_nil, List.sum_cons, List.sum_nil, putB_len, headB, List.length_cons, List.length_nil]; omega) (by simp)
      rw [wjoin4] at this
      exact this
    rw [← headB_A c h.ty h.flags] at hj
    have he : encC c = bytesC c := if_pos h0
    rw [h0] at hck ⊢
    rw [he]
    exact cenc_yes c _ _ _ _ h hck hki hs hen hsz hp hj
  · have he : encC c = [] := if_neg h0
    rw [he]
    exact cenc_no c h h0
end Go.Proofs.YtfghmfjbbjapgaaDoor.C
/- Structs of numbers compared. No condition. -/
namespace Go.Abs
set_option linter.unusedVariables false
set_option linter.unusedSectionVars false
set_option linter.unusedSimpArgs false
@[push_cast] def eqAll : List (IntKind × Int × Int) → Bool
  | [] => true
  | p :: r => (p.2.1 == p.2.2) && eqAll r
section
variable {P : Program} {ops : Array Oper} {E : Env} {s s' : AS} {ρ : List Value} {B : Nat → Prop} {a : Act} {w w' : World} {o : Oper} {rest : List Oper} {Q : AS → Prop} {R : Exit → AS → Prop} {nds : List (List (Nat × Option Nat))} {vals : List AV} {G : Prop}
/-! ### a function's value with bound arguments is called -/
end
end Go.Abs
/- initial: is, Of, all, Cookie, Has, Echo, Streams. -/
set_option linter.unusedVariables false
set_option linter.unusedSimpArgs false
namespace Go.Proofs.YtfghmfjbbjapgaaDoor.C
open Go.Abs
structure Vals where
  tag : Nat
  window : Nat
  out : Nat
  inn : Nat
  tsn : Nat
@[push_cast] def valsA (v : Vals) : AV := .agg [u32 v.tag, u32 v.window, u16 v.out, u16 v.inn, u32 v.tsn]
structure Vals.Ok (v : Vals) : Prop where
  tag : v.tag < 2 ^ 32
  window : v.window < 2 ^ 32
  out : v.out < 2 ^ 16
  inn : v.inn < 2 ^ 16
  tsn : v.tsn < 2 ^ 32
def Vals.zero : Vals := ⟨0, 0, 0, 0, 0⟩
def valsOf (d : List UInt8) : Vals := ⟨peekN 4 d 0, peekN 4 d 4, peekN 2 d 8, peekN 2 d 10, peekN 4 d 12⟩
end Go.Proofs.YtfghmfjbbjapgaaDoor.C
/- initial: all, Cookie, Has, Echo, Extensions, Streams, Make; the reference's Make. -/
set_option linter.unusedVariables false
set_option linter.unusedSimpArgs false
namespace Go.Proofs.YtfghmfjbbjapgaaDoor.C
open Go.Abs
end Go.Proofs.YtfghmfjbbjapgaaDoor.C
/- initial.Make; wharfref01.Put, Numbers; wharfref15: Make, Of, Cookie, Has, Extensions. -/
set_option linter.unusedVariables false
set_option linter.unusedSimpArgs false
namespace Go.Proofs.YtfghmfjbbjapgaaDoor.C
open Go.Abs
end Go.Proofs.YtfghmfjbbjapgaaDoor.C
/- wharflaw20: made, awake; ControlMatchesReference, ControlReads, ControlCauses. -/
set_option linter.unusedVariables false
set_option linter.unusedSimpArgs false
namespace Go.Proofs.YtfghmfjbbjapgaaDoor.C
open Go.Abs
theorem u8_shx (x k : Nat) (hk : k ≤ 32) : IntKind.u8.wrap ((N x).fdiv (2 ^ min k IntKind.u32.bits)) = N (UInt8.ofNat (x / 2 ^ k)).toNat := by
  have h2 : IntKind.u32.bits = 32 := rfl
  rw [h2, Nat.min_eq_left hk, ← u8_low]
  congr 1
  have h3 : (2 : Int) ^ k = ((2 ^ k : Nat) : Int) := by simp
  rw [h3]
  show (x : Int).fdiv ((2 ^ k : Nat) : Int) = ((x / 2 ^ k : Nat) : Int)
  rw [Int.fdiv_eq_ediv_of_nonneg _ (Int.natCast_nonneg _)]; rfl
@[push_cast] theorem u8_shr24 (x : Nat) : IntKind.u8.wrap ((N x).fdiv (2 ^ min 24 IntKind.u32.bits)) = N (UInt8.ofNat (x / 256 ^ 3)).toNat := u8_shx x 24 (by decide)
@[push_cast] theorem u8_shr16 (x : Nat) : IntKind.u8.wrap ((N x).fdiv (2 ^ min 16 IntKind.u32.bits)) = N (UInt8.ofNat (x / 256 ^ 2)).toNat := u8_shx x 16 (by decide)
@[push_cast] theorem u8_shr8 (x : Nat) : IntKind.u8.wrap ((N x).fdiv (2 ^ min 8 IntKind.u32.bits)) = N (UInt8.ofNat (x / 256 ^ 1)).toNat := u8_shx x 8 (by decide)
end Go.Proofs.YtfghmfjbbjapgaaDoor.C
/- wharfref01.Put, Numbers; wharfref15.Make, Of, Has, Extensions. -/
set_option linter.unusedVariables false
set_option linter.unusedSimpArgs false
namespace Go.Proofs.YtfghmfjbbjapgaaDoor.C
open Go.Abs
end Go.Proofs.YtfghmfjbbjapgaaDoor.C
/- wharflaw15: awake; InitialParams, InitialChunks. -/
set_option linter.unusedVariables false
set_option linter.unusedSimpArgs false
namespace Go.Proofs.YtfghmfjbbjapgaaDoor.C
open Go.Abs
end Go.Proofs.YtfghmfjbbjapgaaDoor.C
/- wharfref08.Clone. -/
set_option linter.unusedVariables false
set_option linter.unusedSimpArgs false
namespace Go.Proofs.YtfghmfjbbjapgaaDoor.C
open Go.Abs
end Go.Proofs.YtfghmfjbbjapgaaDoor.C
/- Drawn regions that make a variable in their head and of whose head one operation may come up late. No condition. -/
namespace Go.Abs
set_option linter.unusedVariables false
set_option linter.unusedSectionVars false
set_option linter.unusedSimpArgs false
section
variable {P : Program} {ops : Array Oper} {E : Env} {s s' : AS} {ρ : List Value} {B : Nat → Prop} {a : Act} {w w' : World} {o : Oper} {rest : List Oper} {Q : AS → Prop} {R : Exit → AS → Prop} {nds : List (List (Nat × Option Nat))} {vals : List AV} {G : Prop}
/-- the tail waits for all of the head but q -/
def tailF (ops : Array Oper) (n q : Nat) : Bool :=
  decide (n < ops.size) && ((List.range n).all fun i => decide (i = q) || Region.waitsFor .any ops n i || (List.range n).any fun j => decide (i < j) && decide (j ≠ q) && Region.waitsFor .any ops j i) &&
  ((List.range ops.size).all fun j => decide (j ≤ n) || (List.range j).any fun i => decide (n ≤ i) && Region.waitsFor .any ops j i)
theorem tailF.tail {n q : Nat} (h : tailF ops n q = true) {listed : Array Bool} (inv : HeadInv .any ops n listed) : ∀ (d i : Nat), n - i = d → i < n → i ≠ q → listed.getD i true = false → ∀ t, n ≤ t → t ∉ Region.ready .any ops listed := by
  simp only [tailF, Bool.and_eq_true, decide_eq_true_eq] at h
  obtain ⟨⟨hn, hs⟩, hc⟩ := h
  intro d
  induction d using Nat.strongRecOn with
  | _ d ih =>
    intro i hd hi hiq hun t ht hr
    obtain ⟨_, ot, hot, hall⟩ := mem_ready.1 hr
    have htlt : t < ops.size := (Array.getElem?_eq_some_iff.1 hot).1
    by_cases htn : t = n
    · subst htn
      have h1 := List.all_eq_true.1 hs i (List.mem_range.2 hi)
      simp only [Bool.or_eq_true, decide_eq_true_eq] at h1
      rcases h1 with (h1 | h1) | h1
      · exact hiq h1
      · obtain ⟨oj, hoj, e, he, hb, hon⟩ := Region.waitsFor_spec h1
        have : oj = ot := Option.some.inj (hoj.symm.trans hot)
        subst this
        have h2 := hall e he hb
        rw [hon, getD_both hun] at h2
        cases h2
      · obtain ⟨j, hj, hj2⟩ := List.any_eq_true.1 h1
        simp only [Bool.and_eq_true, decide_eq_true_eq] at hj2
        obtain ⟨oj, hoj, e, he, hb, hon⟩ := Region.waitsFor_spec hj2.2
        have hjlt := List.mem_range.1 hj
        cases hl : listed.getD j false with
        | true =>
          have h2 := inv.closed j oj hoj hl e he hb
          rw [hon, getD_both hun] at h2
          cases h2
        | false =>
          have hjs : j < listed.size := by rw [inv.size]; omega
          exact ih (t - j) (by omega) j rfl (by omega) hj2.1.2 (getD_in hjs hl) t (Nat.le_refl _) hr
    · have h1 := List.all_eq_true.1 hc t (List.mem_range.2 htlt)
      simp only [Bool.or_eq_true, decide_eq_true_eq] at h1
      rcases h1 with h1 | h1
      · omega
      · obtain ⟨i', hi', h1⟩ := List.any_eq_true.1 h1
        simp only [Bool.and_eq_true, decide_eq_true_eq] at h1
        obtain ⟨o', ho', e, he, hb, hon⟩ := Region.waitsFor_spec h1.2
        have : o' = ot := Option.some.inj (ho'.symm.trans hot)
        subst this
        have h2 := hall e he hb
        have := List.mem_range.1 hi'
        rw [hon, getD_both (inv.tail i' h1.1 (by omega))] at h2
        cases h2
section fin
variable {id n : Nat} {y : Code} {T : TypeId} {z : List Value}
end fin
end
end Go.Abs
/- wharflaw15: InitialMatchesReference. -/
set_option linter.unusedVariables false
set_option linter.unusedSimpArgs false
namespace Go.Proofs.YtfghmfjbbjapgaaDoor.C
open Go.Abs
theorem beN_put2b (n : Nat) (h : n < 2 ^ 16) : beN (putB 2 n) = n := by
  simp [putB, beN, List.range_succ, UInt8.toNat_ofNat']; omega
theorem peek_put (k x i : Nat) (p q : List UInt8) (hp : p.length = i) (hb : beN (putB k x) = x) : peekN k (p ++ (putB k x ++ q)) i = x := by
  have hl := putB_len k x
  unfold peekN
  rw [if_pos (by simp only [List.length_append]; omega), List.drop_append_of_le_length (by omega), List.drop_of_length_le (by omega), List.nil_append, List.take_append_of_le_length (by omega), List.take_of_length_le (by omega), hb]
end Go.Proofs.YtfghmfjbbjapgaaDoor.C
/- Maps of the call's own: an entry is written, whether its key is there or not; looked up without asking whether it is there. No condition. -/
namespace Go.Abs
set_option linter.unusedVariables false
set_option linter.unusedSectionVars false
set_option linter.unusedSimpArgs false
section
variable {P : Program} {ops : Array Oper} {E : Env} {s s' : AS} {ρ σ : List Value} {B : Nat → Prop} {a : Act} {w w' : World} {o : Oper} {rest : List Oper} {Q : AS → Prop} {R : Exit → AS → Prop}
/-! ### a literal with elements that begins a chain in a drawn head -/
variable {nds : List (List (Nat × Option Nat))} {vals : List AV} {G : Prop} {nds1 : List (List (Nat × Option Nat))} {X XL : List Ob} {i : Nat} {r : List Nat}
end
end Go.Abs
/- bytealg.IndexByte, as the model answers it. No condition. -/
namespace Go.Abs
set_option linter.unusedVariables false
set_option linter.unusedSectionVars false
set_option linter.unusedSimpArgs false
section
variable {P : Program} {ops : Array Oper} {E : Env} {s s' : AS} {ρ σ : List Value} {B : Nat → Prop} {a : Act} {w w' : World} {o : Oper} {rest : List Oper} {Q : AS → Prop} {R : Exit → AS → Prop}
theorem bys_cellz {bs : Nat} {nw : Bool} {b : Nat} : ∀ {l : List UInt8} {o : Nat}, RelRow w B bs ρ nw b 1 o (bys l) → ∀ i (h : i < l.length), w.cell? ⟨b, o + i, none⟩ = some (.int .u8 (l[i].toNat : Int))
  | [], _, _, i, h => by simp at h
  | x :: l, o, hr, i, h => by
    cases hr with
    | cons h1 h2 h3 =>
      cases h1 with
      | cons _ _ hc _ hrel _ =>
        cases i with
        | zero =>
          have := hrel.val_eq
          subst this
          exact hc
        | succ i =>
          have h4 := bys_cellz (l := l) h3 i (by simpa using h)
          rw [show o + (i + 1) = o + 1 + i by omega]
          exact h4
theorem bytesOf_nat (l : List UInt8) : Lib.bytesOf (l.map fun b => (b.toNat : Int)) = l := by
  unfold Lib.bytesOf
  rw [List.map_map]
  conv => rhs; rw [← List.map_id l]
  refine List.map_congr_left fun b _ => ?_
  simp
theorem run_indexByte0 (A : Option Addr) (c : Nat) (cv : Int) (w : World) : (Extern.BytealgIndexByte.indexByte #[.slice A 0 c, .int .u8 cv]).run P w = .ok (.int .i64 (-1)) w := by
  cases A with
  | none => exact Lib.run_indexByteNil w 0 c cv
  | some A => have hs := Lib.run_indexByteString (P := P) .empty cv w; exact hs
theorem AOp.natByte {f : FuncId} {x y : Operand} {ts : Array TypeId} {nw : Bool} {l : List UInt8} {n : Int} (he : NatOk P f Extern.BytealgIndexByte.indexByte) (ho : o.op = .call { callee := .value (.func f), args := #[x, y], argTypes := ts })
    (hx : s.ev x = .sl nw 1 (bys l)) (hy : s.ev y = .val (.int .u8 n)) (K : ARun P ops rest (s.put o.dst (.val (.int .i64 (Lib.indexByte l n.toNat.toUInt8)))) Q) : AOp P ops o rest s Q := by
  refine AOp.pure1 (fun E ρ B a w hs => ⟨.int .i64 (Lib.indexByte l n.toNat.toUInt8), ?_, .val _⟩) K
  have hxr := hs.ev x
  rw [hx] at hxr
  have hyr := hs.ev y
  rw [hy] at hyr
  have hyv := hyr.val_eq
  have hrun : (Extern.BytealgIndexByte.indexByte #[a.eval x, .int .u8 n]).run P w = .ok (.int .i64 (Lib.indexByte l n.toNat.toUInt8)) w := by
    generalize a.eval x = u at hxr
    cases l with
    | nil =>
      cases hxr with
      | slE _ _ A cap => exact run_indexByte0 A cap n w
    | cons b0 l =>
      cases hxr with
      | sl hr hc =>
        have hcell := bys_cellz (l := b0 :: l) hr
        have h := fun cap => Lib.run_indexByteSlice (P := P) w _ _ ((b0 :: l).length) cap ((b0 :: l).map fun b => (b.toNat : Int)) (by simp) (fun i hi => by
          rw [hcell i hi, List.getD_eq_getElem?_getD, List.getElem?_map, List.getElem?_eq_getElem hi]; rfl) n
        simp only [bytesOf_nat] at h
        have e : (List.map (fun b => AV.val (Value.int IntKind.u8 (N b.toNat))) l).length + 1 = (b0 :: l).length := by simp
        rw [e]
        exact h _
  rw [run_call_nat he ho (eval_func f), show (#[x, y] : Array Operand).map a.eval = #[a.eval x, a.eval y] by simp, hyv, hrun]; rfl
theorem ARun2.natByteM {f : FuncId} {x y : Operand} {ts : Array TypeId} {nw : Bool} {l : List UInt8} {n : Int} {p : List Oper × AS} (he : NatOk P f Extern.BytealgIndexByte.indexByte) (K : ARun2 P ops p Q) (ho : o.op = .call { callee := .value (.func f), args := #[x, y], argTypes := ts } := by rfl)
    (hg : gd ops s o = some true := by exact Go.Abs.evT) (hx : s.ev x = .sl nw 1 (bys l) := by exact Go.Abs.evT) (hy : s.ev y = .val (.int .u8 n) := by exact Go.Abs.evT)
    (h : srun P ops rest (s.put o.dst (.val (.int .i64 (Lib.indexByte l n.toNat.toUInt8)))) = p := by
        exact Go.Abs.evE) : ARun2 P ops (o :: rest, s) Q := ARun.exec hg (AOp.natByte he ho hx hy (ARun.srun (h ▸ K)))
theorem indexByte_mem (l : List UInt8) (c : UInt8) : decide (0 ≤ Lib.indexByte l c) = l.contains c := by
  induction l with
  | nil => rfl
  | cons b l ih =>
    have hge := Lib.indexByte_ge l c
    rw [List.contains_cons, ← ih]
    have e : Lib.indexByte (b :: l) c = if b == c then 0 else if Lib.indexByte l c == -1 then -1 else Lib.indexByte l c + 1 := by conv => lhs; unfold Lib.indexByte
    rw [e]
    by_cases h : b = c
    · subst h; simp
    · have h1 : (b == c) = false := by simpa using h
      have h2 : (c == b) = false := by simpa using Ne.symm h
      rw [h1, h2]
      simp only [Bool.false_eq_true, if_false, Bool.false_or]
      by_cases h3 : Lib.indexByte l c = -1
      · rw [h3]; simp
      · have h4 : (Lib.indexByte l c == -1) = false := by simpa using h3
        rw [h4]; simp; omega
end
end Go.Abs
namespace Go.Abs
section
variable {P : Program} {ops : Array Oper} {E : Env} {s s' : AS} {ρ σ : List Value} {B : Nat → Prop} {a : Act} {w w' : World} {o : Oper} {rest : List Oper} {Q : AS → Prop} {R : Exit → AS → Prop}
theorem obInval_nil (o : Ob) : Ob.invalL [] o = o := by
  cases o with
  | box T cs =>
    simp only [Ob.invalL]
    have : cs.map (AV.invalL []) = cs := by
      conv => rhs; rw [← List.map_id cs]
      exact List.map_congr_left fun x _ => by simp [AV.invalL]
    rw [this]
  | _ => simp [Ob.invalL]
/-- a call in a drawn head that makes a row of the call's own -/
theorem CSpec.callO {f : FuncId} {args : Array Operand} {ts : Array TypeId} {ys xs : List AV} {e : TypeId} {sz : Nat} (hp : OC P f ys [] (.own 0) [.row e sz xs]) (hx : AV.idsOkL (fun _ => false) xs = true) (hg : gd ops s o = some true)
    (ho : o.op = .call { callee := .value (.func f), args := args, argTypes := ts }) (hc : callable P f = true) (hsub : HandL [] (args.toList.map s.ev) ys) : CSpec P ops o s [] [.row e sz xs] (.own s.ob.length) := by
  intro E hE ρ B a w hs K Q' hK
  have hs' : RS E s ρ B a w := by simpa using hs
  rw [if_pos (gd_wanted hg hs')]
  unfold callable at hc
  split at hc <;> (try (simp at hc; done))
  rename_i fn hf
  simp only [Bool.and_eq_true, Bool.not_eq_true'] at hc
  have hr := run_call_func (P := P) (w := w) (args := args) (ts := ts) (ty := o.type) (ρe := a.eval) hf hc.1 hc.2 rfl
  have he : (execOp a.eval o).run P w = .ok (.enter f (args.map a.eval)) w := by
    simp only [execOp, ho]; exact hr
  have hrel : RelL w B E.bs ρ (args.toList.map s.ev) (args.toList.map a.eval) := RelL.map_ev hs' _
  have hsub' : SubXL [] (args.toList.map s.ev) ys := hsub
  refine owp_enter he ?_
  have hargs : args.map a.eval = (args.toList.map a.eval).toArray := by apply Array.ext'; simp
  rw [hargs]
  refine hp E.bs w [] B _ (hE.glb.call hs'.rw_ (fun _ h => h) (by intro v hv; simp at hv)) hs'.rw_.callee (hsub'.rel (Nat.le_refl _) (by intro i k hik; simp at hik) hrel) _ ?_
  rintro r' v τ' σ' B' w' ⟨rfl, rfl⟩ hw hv
  have haft := hs'.after (ids := []) (τ := []) List.nodup_nil trivial (by simpa [pick] using hw) (Nat.zero_le _)
  have e1 : obAfter s.ob [] [] [Ob.row e sz xs] = s.ob ++ [Ob.row e sz xs] := by
    unfold obAfter
    have h1 : s.ob.map (Ob.invalL (rowIds [] [])) = s.ob := by
      conv => rhs; rw [← List.map_id s.ob]
      exact List.map_congr_left fun x _ => obInval_nil x
    rw [h1]
    simp only [setAll, List.length_nil, List.drop_zero, List.map_cons, List.map_nil, Ob.ren, AV.renL_closed _ _ hx]
  have e2 : setAll ρ [] σ' ++ σ'.drop ([] : List Nat).length = ρ ++ σ' := by simp [setAll]
  rw [e1, e2] at haft
  have hl := hs'.rw_.len
  refine ⟨v, rfl, hK v w' (ρ ++ σ') B' ⟨haft.rw_, haft.jj⟩ hw.bsub (fun b hb => hw.block b (hs'.rw_.blt b hb) ⟨by rintro ⟨v, hv, _⟩; simp at hv, by simp⟩) (fun j u hj h => by rw [List.getElem?_append_left (by omega)]; exact h) ?_⟩
  cases hv with
  | own hq h1 => exact .own (by rw [← hl, List.getElem?_append_right (Nat.le_refl _), Nat.sub_self]; exact hq) h1
variable {nds : List (List (Nat × Option Nat))} {vals : List AV} {G : Prop} {nds1 : List (List (Nat × Option Nat))} {X XL : List Ob} {i : Nat} {r : List Nat}
theorem CL.callO {f : FuncId} {args : Array Operand} {ts : Array TypeId} {ys xs : List AV} {e : TypeId} {sz : Nat} (hp : OC P f ys [] (.own 0) [.row e sz xs]) (k : CL P ops s nds1 vals r [.row e sz xs] XL) (hx : AV.idsOkL (fun _ => false) xs = true := by simp only [push_cast]) (hol : ops[i]? = some o := by exact Go.Abs.evT)
    (ho : o.op = .call { callee := .value (.func f), args := args, argTypes := ts } := by rfl) (hg : gd ops { s with fr := needFr s.fr vals (nds1.getD i []) } o = some true := by exact Go.Abs.evT) (hc : callable P f = true := by exact Go.Abs.evT)
    (hsub : HandL [] (args.toList.map (AS.ev { s with fr := needFr s.fr vals (nds1.getD i []) })) ys := by
      exact Go.Abs.evH)
    (hv : vals.getD i .any = .own s.ob.length := by rfl) : CL P ops s nds1 vals (i :: r) [] XL :=
  ⟨_, fun o' ho' => by
    have : o' = o := Option.some.inj (ho'.symm.trans hol)
    subst this
    rw [hv]
    exact CSpec.callO (s := { s with fr := needFr s.fr vals (nds1.getD i []) }) hp hx hg ho hc hsub, k⟩
end
end Go.Abs
/- Rows of the call's own: zeros behind them; cleared. No condition. -/
namespace Go.Abs
set_option linter.unusedVariables false
set_option linter.unusedSectionVars false
set_option linter.unusedSimpArgs false
section
variable {P : Program} {ops : Array Oper} {E : Env} {s s' : AS} {ρ σ : List Value} {B : Nat → Prop} {a : Act} {w w' : World} {o : Oper} {rest : List Oper} {Q : AS → Prop} {R : Exit → AS → Prop}
theorem zc_cells {P : Program} {e : TypeId} {i : TypeInfo} {zv z : Value} (hi : P.info? e = some i) (hzz : i.zero = some zv) (hzc : zc P e = some [z]) : zv.cells = #[z] := by
  simp only [zc, hi, hzz, Option.bind_some] at hzc
  split at hzc <;> simp only [Option.some.injEq, reduceCtorEq] at hzc
  apply Array.ext'; simpa using hzc
theorem rel_reps {W : World} {B1 : Nat → Prop} {bs : Nat} {ρ1 : List Value} (z : Value) : ∀ m : Nat, RelL W B1 bs ρ1 (List.replicate m (AV.val z)) (List.replicate m z)
  | 0 => .nil
  | m + 1 => .cons (.val _) (rel_reps z m)
theorem AOp.clearOwn {T e : TypeId} {x : Operand} {k : Nat} {xs : List AV} {z : Value} (ho : o.op = .call { callee := .builtin .clear, args := #[x], argTypes := #[T] }) (hx : s.ev x = .own k) (hk : s.ob[k]? = some (.row e 1 xs)) (hz : elSz P T = some 1) (he : elT P T = some e)
    (hzc : zc P e = some [z]) (h1 : xs.all AV.one = true) (K : ARun P ops rest (({ s with ob := s.ob.set k (.row e 1 (List.replicate xs.length (.val z))) } : AS).put o.dst .any) Q) : AOp P ops o rest s Q := by
  refine AOp.value (s' := { s with ob := s.ob.set k (.row e 1 (List.replicate xs.length (.val z))) }) (fun E ρ B a w hs => ?_) K
  obtain ⟨e', i, zv, hu, hi, hsz, hzz, hzl, hz1⟩ := elSz_spec hz
  have hee : e' = e := by have := elT_spec he; rw [hu] at this; simpa using this
  subst hee
  have hzv := zc_cells hi hzz hzc
  have h4 : (AV.val z).one = true := hz1 z (by rw [hzv]; simp)
  have hro := hs.rw_.obs k _ hk
  have hxr := hs.ev x
  rw [hx] at hxr
  have hzero : (zeroValue e').run P w = .ok zv w := by simp [zeroValue, typeInfo, hi, hzz]
  by_cases hne : xs = []
  · subst hne
    have hset : s.ob.set k (.row e' 1 (List.replicate ([] : List AV).length (.val z))) = s.ob := by
      apply List.ext_getElem?
      intro j
      by_cases hj : k = j
      · subst hj; rw [List.getElem?_set_self (get_lt hk), hk]; rfl
      · rw [List.getElem?_set_ne hj]
    rw [hset]
    refine ⟨.tuple #[], w, ρ, B, ?_, hs, .any _⟩
    simp only [execOp, ho]
    obtain ⟨_, hv⟩ := hro
    have hcl : ∃ A c, a.eval x = .slice A 0 c := by
      generalize a.eval x = u at hxr
      cases hxr with
      | own hp _ =>
        rcases hv with ⟨_, hv⟩ | ⟨b, cap, vs, ws, fz, hv, _⟩
        · rw [hv] at hp; exact ⟨_, _, (Option.some.inj hp).symm⟩
        · rw [hv] at hp; exact ⟨_, _, (Option.some.inj hp).symm⟩
    obtain ⟨A, c, hcl⟩ := hcl
    have hrun : (Builtin.clear_ #[T] o.type #[.slice A 0 c]).run P w = .ok (.tuple #[]) w := by
      cases A <;> simp [Builtin.clear_, run_underlying hu]
    simp [resolve, invoke, builtin, hcl, hrun]
  · obtain ⟨b, cap, vs, ws, fz, r1, r2, r3, r4, r5, r6⟩ := row1 hro hne h1
    have hlv : vs.length = xs.length := r6.length_eq.symm
    obtain ⟨p1, p2, p3⟩ := hs.rw_.prv k _ _ b hk rfl r1 rfl
    have hst := run_storeCells (P := P) b e' fz 0 (List.replicate xs.length z) 0 (vs ++ ws) w r2 r5 (by simp; omega) (by intro v hv; rw [(List.mem_replicate.1 hv).2]; exact h4)
    have hset : (vs ++ ws).take (0 + 0) ++ List.replicate xs.length z ++ (vs ++ ws).drop (0 + 0 + (List.replicate xs.length z).length) = List.replicate xs.length z ++ ws := by
      rw [List.length_replicate, Nat.zero_add, Nat.zero_add, ← hlv, List.drop_left]; simp
    rw [hset] at hst
    have hB : ∀ b', B b' → (setBlk w b (.cells (List.replicate xs.length z ++ ws).toArray e' fz)).heap[b']? = w.heap[b']? := fun b' hb' => by
      rw [setBlk_get _ _ _ _ p2, if_neg (by rintro rfl; exact p1 hb')]
    have hall : (List.replicate xs.length (AV.val z)).all AV.one = true := by
      rw [List.all_eq_true]; intro c hc; rw [(List.mem_replicate.1 hc).2]; exact h4
    refine ⟨.tuple #[], setBlk w b (.cells (List.replicate xs.length z ++ ws).toArray e' fz), ρ, B, ?_, ?_, .any _⟩
    · simp only [execOp, ho]
      have hxv : a.eval x = .slice (some ⟨b, 0, none⟩) xs.length cap := by
        generalize a.eval x = u at hxr
        cases hxr with
        | own hp _ => rw [r1] at hp; exact (Option.some.inj hp).symm
      have hn0 : xs.length ≠ 0 := fun h => hne (List.length_eq_zero_iff.1 h)
      have hzz2 : Builtin.zeroCells zv.cells xs.length = (List.replicate xs.length z).toArray := zeros_one hzv _
      have hrun : (Builtin.clear_ #[T] o.type #[.slice (some ⟨b, 0, none⟩) xs.length cap]).run P w = .ok (.tuple #[]) (setBlk w b (.cells (List.replicate xs.length z ++ ws).toArray e' fz)) := by
        obtain ⟨m, hm⟩ : ∃ m, xs.length = m + 1 := ⟨xs.length - 1, by omega⟩
        rw [hm] at hzz2 hst ⊢
        simp [Builtin.clear_, run_underlying hu, hzero, hzz2, hst]
      simp [resolve, invoke, builtin, hxv, hrun]
    · refine hs.write (b := b) hk rfl r1 rfl ⟨?_, .inr ⟨b, cap, List.replicate xs.length z, ws, fz, by rw [List.length_replicate]; exact r1, by rw [setBlk_get _ _ _ _ p2, if_pos rfl], by simpa [hlv] using r3, by rw [List.length_replicate]; exact r4, by simpa [hlv] using r5, ?_⟩⟩
      · intro c hc
        have := List.all_eq_true.1 hall c hc
        rw [one_cells this]
        exact ⟨rfl, fun u hu => by simp at hu; subst hu; exact this⟩
      · rw [flat_ones hall]; exact rel_reps z _
theorem ARun2.clearOwnM {T e : TypeId} {x : Operand} {k : Nat} {xs : List AV} {z : Value} {p : List Oper × AS} (K : ARun2 P ops p Q) (ho : o.op = .call { callee := .builtin .clear, args := #[x], argTypes := #[T] } := by rfl) (hg : gd ops s o = some true := by exact Go.Abs.evT)
    (hx : s.ev x = .own k := by exact Go.Abs.evT) (hk : s.ob[k]? = some (.row e 1 xs) := by rfl) (hz : elSz P T = some 1 := by exact Go.Abs.evT) (he : elT P T = some e := by exact Go.Abs.evT) (hzc : zc P e = some [z] := by exact Go.Abs.evT) (h1 : xs.all AV.one = true := by exact Go.Abs.evT)
    (h : srun P ops rest (({ s with ob := s.ob.set k (.row e 1 (List.replicate xs.length (.val z))) } : AS).put o.dst .any) = p := by
        exact Go.Abs.evE) : ARun2 P ops (o :: rest, s) Q := ARun.exec hg (AOp.clearOwn ho hx hk hz he hzc h1 (ARun.srun (h ▸ K)))
/-! ### zeros behind a row -/
end
end Go.Abs
/- Lists of chunks, as abstract values. -/
set_option linter.unusedVariables false
set_option linter.unusedSimpArgs false
namespace Go.Proofs.YtfghmfjbbjapgaaDoor.C
open Go.Abs
def chunksA (b : Bool) (l : List GChunk) : List AV := l.map (chunkA b)
@[push_cast] theorem chunksA_len (b : Bool) (l : List GChunk) : (chunksA b l).length = l.length := by simp [chunksA]
theorem chunksA_at (b : Bool) (l : List GChunk) (i : Nat) (h : i < l.length) : (chunksA b l)[i]? = some (chunkA b l[i]) := by simp [chunksA, h]
@[push_cast] theorem chunksA_nil (b : Bool) : chunksA b [] = [] := rfl
@[push_cast] theorem chunksA_cons (b : Bool) (c : GChunk) (l : List GChunk) : chunksA b (c :: l) = chunkA b c :: chunksA b l := rfl
theorem chunkA_ids (p : Nat → Bool) (b : Bool) (c : GChunk) : (chunkA b c).idsOk p = true := by
  simp only [chunkA, AV.idsOk, AV.idsOkL, bys_ids, nodesA_ids, Bool.and_self]
@[push_cast] theorem chunksA_ids (p : Nat → Bool) (b : Bool) (l : List GChunk) : AV.idsOkL p (chunksA b l) = true := by
  rw [AV.idsOkL_iff]; intro x hx; simp only [chunksA, List.mem_map] at hx; obtain ⟨c, _, rfl⟩ := hx; exact chunkA_ids p b c
@[push_cast] theorem chunksA_hand (ids : List Nat) (b : Bool) (l : List GChunk) : AV.handL ids (chunksA b l) = chunksA false l := by
  rw [AV.handL_map, chunksA, List.map_map]
  exact List.map_congr_left fun c _ => chunkA_hand ids b c
@[push_cast] theorem chunksA_pl (l : List GChunk) : AV.plL (chunksA false l) = true := by
  rw [AV.plL_iff]; intro x hx; simp only [chunksA, List.mem_map] at hx; obtain ⟨c, _, rfl⟩ := hx
  simp only [chunkA, AV.pl, AV.plL, bys_pl, nodesA_pl, Bool.and_self, Bool.not_false, Bool.and_true]
@[push_cast] theorem chunksA_fresh (l : List GChunk) : AV.freshL (chunksA true l) = true := by
  induction l with
  | nil => rfl
  | cons c l ih => simp only [chunksA_cons, chunkA, AV.freshL, AV.fresh, bys_fresh, nodesA_fresh, ih, Bool.and_self]
@[push_cast] theorem chunksA_ren (φ : Nat → Nat) (b : Bool) (l : List GChunk) : AV.renL φ (chunksA b l) = chunksA b l := AV.renL_closed φ _ (chunksA_ids _ b l)
@[push_cast] theorem chunksA_drop (b : Bool) (l : List GChunk) (k : Nat) : (chunksA b l).drop k = chunksA b (l.drop k) := by simp [chunksA]
@[push_cast] theorem chunksA_take (b : Bool) (l : List GChunk) (k : Nat) : (chunksA b l).take k = chunksA b (l.take k) := by simp [chunksA]
end Go.Proofs.YtfghmfjbbjapgaaDoor.C
/- auth: Make, Of, Blank, Input, Needs, Pad. -/
set_option linter.unusedVariables false
set_option linter.unusedSimpArgs false
namespace Go.Proofs.YtfghmfjbbjapgaaDoor.C
open Go.Abs
/-- an auth chunk -/
def authC (k a : Nat) (b : List UInt8) : GChunk := ⟨15, 0, (putB 2 k ++ putB 2 a) ++ b, []⟩
theorem authC_len (k a : Nat) (b : List UInt8) : ((putB 2 k ++ putB 2 a) ++ b).length = 4 + b.length := by simp only [List.length_append, putB_len]
theorem small_auth (k a : Nat) {b : List UInt8} (hb : b.length ≤ 2 ^ 25) : Small (authC k a b) := ⟨by show 15 < 256; decide, by show 0 < 256; decide, by simp only [authC, authC_len]; omega, by show szs [] ≤ _; simp [szs]⟩
theorem amake_c (k a : Nat) (b : List UInt8) (hk : k < 2 ^ 16) (ha : a < 2 ^ 16) (hb : b.length ≤ 2 ^ 25) : PC Tryd.prog 7 [u16 k, u16 a, .sl false 1 (bys b)] (.tup [chunkA true (rightC (authC k a b) true).1, bool (rightC (authC k a b) true).2]) := by
  have hp : PC Tryd.prog 20 [nat 2, .sl false 1 [u32 k, u32 a]] (.sl true 1 (bys (putB 2 k ++ putB 2 a))) := by
    have := wire_put 2 [k, a] (by omega) (by intro x hx; simp at hx; omega) (by simp)
    simpa [u32s, List.flatMap_cons, List.flatMap_nil] using this
  have hj : PC Tryd.prog 19 [.sl false 1 [.sl false 1 (bys (putB 2 k ++ putB 2 a)), .sl false 1 (bys b)]] (.sl true 1 (bys ((putB 2 k ++ putB 2 a) ++ b))) := by
    have := wjoin_c [putB 2 k ++ putB 2 a, b] (by simp only [lens, List.map_cons, List.map_nil, List.sum_cons, List.sum_nil, List.length_append, putB_len]; omega) (by simp)
    have e : [putB 2 k ++ putB 2 a, b].flatten = (putB 2 k ++ putB 2 a) ++ b := by simp
    rw [e] at this
    exact this
  have hck := (small_auth k a hb).check
  refine PC.of_bodyK (by simp only [push_cast]) Tryd.func7 rfl (by rw [Tryd.ntmps7]; simp) ?_
  refine AWp.regionW ?_
  refine AWp.regionM fun K1 hK1 => ?_
  refine ARun2.callM (hp) ?_
  refine ARun2.callM (hj) ?_
  refine ARun2.endm (hK1 _ ?_)
  refine AWp.seqK fun K2 hK2 => ?_
  refine AWp.regionM fun K3 hK3 => ?_
  refine ARun2.callM (hck) ?_
  refine ARun2.endm (hK3 _ ?_)
  refine AWp.condLM (fun c0 => ?_) (fun c0 => ?_)
  · skip
    have hr : rightC (authC k a b) true = (.zero, false) := by unfold rightC; cases h : checkC (authC k a b) == 0 <;> simp_all
    refine AWp.regionW ?_
    refine AWp.ret ?_
    try simp only [thenQ, blockQ, noGo]
    refine bodyQ.m ?_
    clear hK3 K3 hK2 K2 hK1 K1
    rw [hr]
    try simp only [GChunk.zero]
    try simp only [authC]
    first | done | exact Wk.go
  · skip
    have hr : rightC (authC k a b) true = (authC k a b, true) := by unfold rightC; cases h : checkC (authC k a b) == 0 <;> simp_all
    refine AWp.skip ?_
    refine hK2 _ ?_
    refine AWp.regionW ?_
    refine AWp.ret ?_
    try simp only [thenQ, blockQ, noGo]
    refine bodyQ.m ?_
    clear hK3 K3 hK2 K2 hK1 K1
    rw [hr]
    try simp only [GChunk.zero]
    try simp only [authC]
    first | done | exact Wk.go
/-- is it an auth chunk? -/
def isAuth (c : GChunk) : Bool := c.ty == 15 && (checkC c == 0)
theorem auth_form {c : GChunk} (hf : c.flags < 256) (h : isAuth c = true) : 5 ≤ c.data.length ∧ c.data.length ≤ 65531 ∧ c.flags = 0 ∧ c.kids = [] ∧ c.ty = 15 := by
  unfold isAuth at h
  simp only [Bool.and_eq_true, beq_iff_eq] at h
  obtain ⟨h1, h2, h3, h4⟩ := check_zero h.2 (by rw [h.1]; rfl)
  obtain ⟨f1, f2⟩ := fit_len h2
  rw [h.1] at f1 f2 h1 h3
  exact ⟨f1, f2, mask0 hf h1, kk_none h3 rfl, h.1⟩
def codeOf (c : GChunk) : List UInt8 := if isAuth c = true then c.data.drop 4 else []
def keyOf (c : GChunk) : Nat := if isAuth c = true then peekN 2 c.data 0 else 0
def algOf (c : GChunk) : Nat := if isAuth c = true then peekN 2 c.data 2 else 0
theorem bclone_nil : OC Tryd.prog 22 [.sl false 1 []] [] (.own 0) [.row 5 1 []] := by
  refine OC.of_body [0] (by intro k hk; simp at hk) Tryd.func22 rfl (by rw [Tryd.ntmps22]; simp) ?_
  refine AWp.regionW ?_
  refine AWp.seqK fun K1 hK1 => ?_
  refine AWp.regionM fun K2 hK2 => ?_
  refine ARun2.nilSl rfl rfl (.inl rfl) rfl YtfghmfjbbjapgaaDoor.Facts.nk23 (by rw [YtfghmfjbbjapgaaDoor.Facts.nk23]; rfl) (fun b hb => ?_)
  refine ARun2.gom ?_
  refine ARun2.endm (hK2 _ ?_)
  refine AWp.condLM (fun c0 => ?_) (fun c0 => ?_)
  · skip
    refine AWp.regionW ?_
    refine AWp.nilOwn 2 5 1 (by simp only [push_cast, ↓reduceIte, Nat.reduceEqDiff, Nat.reduceLT, Nat.reduceAdd, Nat.reduceSub, Nat.reduceMul, Nat.reduceLeDiff, Nat.reducePow, Int.reduceLT, Int.reduceToNat, reduceCtorEq, Int.reduceNeg, Int.reduceEq, Nat.reduceBEq, Nat.reduceBNe, Int.reduceBEq, Int.reduceBNe, String.reduceEq]) ?_
    simp only [push_cast, ↓reduceIte, Nat.reduceEqDiff, Nat.reduceLT, Nat.reduceAdd, Nat.reduceSub, Nat.reduceMul, Nat.reduceLeDiff, Nat.reducePow, Int.reduceLT, Int.reduceToNat, reduceCtorEq, Int.reduceNeg, Int.reduceEq, Nat.reduceBEq, Nat.reduceBNe, Int.reduceBEq, Int.reduceBNe, String.reduceEq]
    refine AWp.ret ?_
    try simp only [thenQ, blockQ, noGo]
    refine bodyQ.m ?_
    clear hK2 K2 hK1 K1
    refine endO.m ?_ ?_
    · rfl
    · skip
      first | done | exact Hand.go
  · skip
    refine AWp.skip ?_
    refine hK1 _ ?_
    refine AWp.regionM fun K3 hK3 => ?_
    refine ARun2.buildOwnM ?_
    refine ARun2.appendM ?_ ?_ ?_
    · rw [YtfghmfjbbjapgaaDoor.Facts.eb23]; simp
    · simp
    refine ARun2.endm (hK3 _ ?_)
    refine AWp.ret ?_
    try simp only [thenQ, blockQ, noGo]
    refine bodyQ.m ?_
    clear hK3 K3 hK2 K2 hK1 K1
    refine endO.m ?_ ?_
    · rfl
    · skip
      first | done | exact Hand.go
theorem bclone_cons (x : UInt8) (l : List UInt8) (hl : l.length + 1 ≤ 2 ^ 40) : OC Tryd.prog 22 [.sl false 1 (.val (.int .u8 (N x.toNat)) :: bys l)] [] (.own 0) [.row 5 1 (.val (.int .u8 (N x.toNat)) :: bys l)] := by
  refine OC.of_body [0] (by intro k hk; simp at hk) Tryd.func22 rfl (by rw [Tryd.ntmps22]; simp) ?_
  refine AWp.regionW ?_
  refine AWp.seqK fun K1 hK1 => ?_
  refine AWp.regionW ?_
  refine AWp.condF ?_
  refine AWp.skip ?_
  refine hK1 _ ?_
  refine AWp.regionM fun K2 hK2 => ?_
  refine ARun2.buildOwnM ?_
  refine ARun2.appendM ?_ ?_ ?_
  · rw [YtfghmfjbbjapgaaDoor.Facts.eb23]; simp only [List.length_cons, List.length_nil, bys_len]; omega
  · simp only [List.length_cons, List.length_nil, bys_len]; omega
  refine ARun2.endm (hK2 _ ?_)
  refine AWp.ret ?_
  try simp only [thenQ, blockQ, noGo]
  refine bodyQ.m ?_
  clear hK2 K2 hK1 K1
  refine endO.m ?_ ?_
  · rfl
  · skip
    first | done | exact Hand.go
theorem bclone_o (l : List UInt8) (hl : l.length ≤ 2 ^ 40) : OC Tryd.prog 22 [.sl false 1 (bys l)] [] (.own 0) [.row 5 1 (bys l)] := by
  cases l with
  | nil => exact bclone_nil
  | cons x l => exact bclone_cons x l (by simpa using hl)
theorem bclone_c (l : List UInt8) (hl : l.length ≤ 2 ^ 40) : PC Tryd.prog 22 [.sl false 1 (bys l)] (.sl true 1 (bys l)) := PC.of_own (bclone_o l hl)
theorem nums4 (d : List UInt8) (h : 4 ≤ d.length) : numsA 2 (d.take 4) = [peekN 2 d 0, peekN 2 d 2] := by
  have hl : (d.take 4).length = 4 := by rw [List.length_take]; omega
  have e : numsA 2 (d.take 4) = numsOf 2 (d.take 4) := if_pos (by rw [hl])
  rw [e, nums_2a _ hl]
  have h1 := peek_cut d 0 0 4 (by omega) (by omega)
  have h2 := peek_cut d 0 2 4 (by omega) (by omega)
  simp only [Nat.zero_add, List.drop_zero] at h1 h2
  rw [h1, h2]
/-- Of: the code is a row of its own -/
theorem aof_o (c : GChunk) (h : Small c) (hi : isAuth c = true) : OC Tryd.prog 8 [chunkA false c] [] (.tup [u16 (keyOf c), u16 (algOf c), .own 0, bool true]) [.row 5 1 (bys (codeOf c))] := by
  obtain ⟨f1, f2, f3, f4, f5⟩ := auth_form h.flags hi
  have e1 : keyOf c = peekN 2 c.data 0 := if_pos hi
  have e2 : algOf c = peekN 2 c.data 2 := if_pos hi
  have e3 : codeOf c = c.data.drop 4 := if_pos hi
  have b1 := peek2_lt c.data 0
  have b2 := peek2_lt c.data 2
  have hck := h.check
  have hz : checkC c = 0 := by unfold isAuth at hi; simpa [f5] using hi
  rw [hz] at hck
  have hn := numbers_a 2 (c.data.take 4) (by omega) (by rw [List.length_take]; omega)
  rw [nums4 c.data (by omega)] at hn
  have hn' : PC Tryd.prog 21 [nat 2, .sl false 1 ((bys c.data).take 4)] (.sl true 1 [u32 (peekN 2 c.data 0), u32 (peekN 2 c.data 2)]) := by rw [bys_take]; exact hn
  have hb := bclone_o (c.data.drop 4) (by rw [List.length_drop]; omega)
  rw [e1, e2, e3]
  refine OC.of_body [1] (by intro k hk; simp at hk) Tryd.func8 rfl (by rw [Tryd.ntmps8]; simp) ?_
  refine AWp.regionW ?_
  refine AWp.seqK fun K1 hK1 => ?_
  refine AWp.regionA fun K2 hK2 => ?_
  refine ARun.segm 4 fun KS hKS => ?_
  refine ARun2.endm (hKS _ ?_); clear hKS KS
  apply ARun.grpM 3 3 false 13 [1, 10]
  · intro g3 KG hKG
    refine ARun2.gom ?_
    refine ARun2.callM (hck) ?_
    exact ARun2.endm (hKG _ Le.grpM)
  refine ARun2.gom ?_
  refine ARun2.endm (hK2 _ ?_)
  refine AWp.condF ?_ (by rw [f5]; rfl)
  refine AWp.skip ?_
  refine hK1 _ ?_
  refine AWp.regionM fun K3 hK3 => ?_
  refine ARun2.sliceHiM (4) ?_ ?_
  · rw [bys_len]; omega
  refine ARun2.callM (hn) ?_
  refine ARun2.endm (hK3 _ ?_)
  refine AWp.drS [[(6, none)], [(19, some 0)], [(20, some 1)], [(21, some 2)], [(6, none)], [(23, some 4)], [(24, some 5)], [(25, some 6)], [(1, none)], [(27, some 8)], [(28, some 9)], [(31, none)], [(22, some 3)], [(26, some 7)]] fun G hG => ?_
  refine Dr.sim ?_
  try simp only [List.cons_append, List.nil_append]
  refine Dr.idx (0) (u32 (peekN 2 c.data 0)) ?_ ?_
  · exact rfl
  try simp only [List.cons_append, List.nil_append]
  refine Dr.sim ?_
  try simp only [List.cons_append, List.nil_append]
  refine Dr.sim ?_
  try simp only [List.cons_append, List.nil_append]
  refine Dr.sim ?_
  try simp only [List.cons_append, List.nil_append]
  refine Dr.idx (1) (u32 (peekN 2 c.data 2)) ?_ ?_
  · exact rfl
  try simp only [List.cons_append, List.nil_append]
  refine Dr.sim ?_
  try simp only [List.cons_append, List.nil_append]
  refine Dr.sim ?_
  try simp only [List.cons_append, List.nil_append]
  refine Dr.sim ?_
  try simp only [List.cons_append, List.nil_append]
  refine Dr.sim ?_
  try simp only [List.cons_append, List.nil_append]
  refine Dr.sliceLo (4) ?_ ?_
  · rw [bys_len]; omega
  try simp only [List.cons_append, List.nil_append]
  refine Dr.ownS ?_
  try simp only [List.cons_append, List.nil_append]
  refine Dr.sim ?_
  try simp only [List.cons_append, List.nil_append]
  refine Dr.sim ?_
  try simp only [List.cons_append, List.nil_append]
  refine Dr.finCM (n := 14) [11] 2 [[(6, none)], [(19, some 0)], [(20, some 1)], [(21, some 2)], [(6, none)], [(23, some 4)], [(24, some 5)], [(25, some 6)], [(1, none)], [(27, some 8)], [(28, some 9)], [(29, some 10)], [(22, some 3)], [(26, some 7)]] [(30, 11), (2, 12), (3, 13)] [] (CL.callO hb CL.nil) hG YtfghmfjbbjapgaaDoor.Facts.mixed fun KD hKD => ?_
  clear hG G
  refine AAny.one 14 ?_
  refine ARun.opM ?_
  refine ARun2.endm ?_
  refine AAny.one 15 ?_
  refine ARun.opM ?_
  refine ARun2.endm ?_
  refine AAny.fin (hKD _ ?_); clear hKD KD
  refine AWp.ret ?_
  try simp only [thenQ, blockQ, noGo]
  refine bodyQ.m ?_
  clear hK3 K3 hK2 K2 hK1 K1
  refine endO.m ?_ ?_
  · rfl
  · skip
    first | done | exact Hand.go
theorem aof_yes (c : GChunk) (h : Small c) (hi : isAuth c = true) : PC Tryd.prog 8 [chunkA false c] (.tup [u16 (keyOf c), u16 (algOf c), .sl true 1 (bys (codeOf c)), bool true]) := by
  obtain ⟨f1, f2, f3, f4, f5⟩ := auth_form h.flags hi
  have e1 : keyOf c = peekN 2 c.data 0 := if_pos hi
  have e2 : algOf c = peekN 2 c.data 2 := if_pos hi
  have e3 : codeOf c = c.data.drop 4 := if_pos hi
  have b1 := peek2_lt c.data 0
  have b2 := peek2_lt c.data 2
  have hck := h.check
  have hz : checkC c = 0 := by unfold isAuth at hi; simpa [f5] using hi
  rw [hz] at hck
  have hn := numbers_a 2 (c.data.take 4) (by omega) (by rw [List.length_take]; omega)
  rw [nums4 c.data (by omega)] at hn
  have hb := bclone_c (c.data.drop 4) (by rw [List.length_drop]; omega)
  rw [e1, e2, e3]
  refine PC.of_bodyK (by simp only [push_cast]) Tryd.func8 rfl (by rw [Tryd.ntmps8]; simp) ?_
  refine AWp.regionW ?_
  refine AWp.seqK fun K1 hK1 => ?_
  refine AWp.regionA fun K2 hK2 => ?_
  refine ARun.segm 4 fun KS hKS => ?_
  refine ARun2.endm (hKS _ ?_); clear hKS KS
  apply ARun.grpM 3 3 false 13 [1, 10]
  · intro g3 KG hKG
    refine ARun2.gom ?_
    refine ARun2.callM (hck) ?_
    exact ARun2.endm (hKG _ Le.grpM)
  refine ARun2.gom ?_
  refine ARun2.endm (hK2 _ ?_)
  refine AWp.condF ?_ (by rw [f5]; rfl)
  refine AWp.skip ?_
  refine hK1 _ ?_
  refine AWp.regionM fun K3 hK3 => ?_
  refine ARun2.sliceHiM (4) ?_ ?_
  · rw [bys_len]; omega
  refine ARun2.callM (hn) ?_
  refine ARun2.endm (hK3 _ ?_)
  refine AWp.drS [[(6, none)], [(19, some 0)], [(20, some 1)], [(21, some 2)], [(6, none)], [(23, some 4)], [(24, some 5)], [(25, some 6)], [(1, none)], [(27, some 8)], [(28, some 9)], [(29, some 10)], [(22, some 3)], [(26, some 7)], [(30, some 11)], []] fun G hG => ?_
  refine Dr.sim ?_
  try simp only [List.cons_append, List.nil_append]
  refine Dr.idx (0) (u32 (peekN 2 c.data 0)) ?_ ?_
  · exact rfl
  try simp only [List.cons_append, List.nil_append]
  refine Dr.sim ?_
  try simp only [List.cons_append, List.nil_append]
  refine Dr.sim ?_
  try simp only [List.cons_append, List.nil_append]
  refine Dr.sim ?_
  try simp only [List.cons_append, List.nil_append]
  refine Dr.idx (1) (u32 (peekN 2 c.data 2)) ?_ ?_
  · exact rfl
  try simp only [List.cons_append, List.nil_append]
  refine Dr.sim ?_
  try simp only [List.cons_append, List.nil_append]
  refine Dr.sim ?_
  try simp only [List.cons_append, List.nil_append]
  refine Dr.sim ?_
  try simp only [List.cons_append, List.nil_append]
  refine Dr.sim ?_
  try simp only [List.cons_append, List.nil_append]
  refine Dr.sliceLo (4) ?_ ?_
  · rw [bys_len]; omega
  try simp only [List.cons_append, List.nil_append]
  refine Dr.call (hb) ?_
  try simp only [List.cons_append, List.nil_append]
  refine Dr.sim ?_
  try simp only [List.cons_append, List.nil_append]
  refine Dr.sim ?_
  try simp only [List.cons_append, List.nil_append]
  refine Dr.sim ?_
  try simp only [List.cons_append, List.nil_append]
  refine Dr.sim ?_
  try simp only [List.cons_append, List.nil_append]
  refine Dr.finM (n := 16) [(2, 12), (3, 13), (4, 14), (5, 15)] [] hG YtfghmfjbbjapgaaDoor.Facts.mixed fun KD hKD => ?_
  refine ARun2.endm (hKD _ ?_); clear hKD KD hG G
  refine AWp.ret ?_
  try simp only [thenQ, blockQ, noGo]
  refine bodyQ.m ?_
  clear hK3 K3 hK2 K2 hK1 K1
  first | done | exact Wk.go
theorem aof_no (c : GChunk) (h : Small c) (hi : isAuth c = false) : PC Tryd.prog 8 [chunkA false c] (.tup [u16 0, u16 0, .sl true 1 [], bool false]) := by
  have hck := h.check
  refine PC.of_bodyK (by simp only [push_cast]) Tryd.func8 rfl (by rw [Tryd.ntmps8]; simp) ?_
  refine AWp.regionW ?_
  refine AWp.seqK fun K1 hK1 => ?_
  refine AWp.regionA fun K2 hK2 => ?_
  refine ARun.segm 4 fun KS hKS => ?_
  refine ARun2.endm (hKS _ ?_); clear hKS KS
  apply ARun.grpM 3 3 false 13 [1, 10]
  · intro g3 KG hKG
    refine ARun2.gom ?_
    refine ARun2.callM (hck) ?_
    exact ARun2.endm (hKG _ Le.grpM)
  refine ARun2.gom ?_
  refine ARun2.endm (hK2 _ ?_)
  refine AWp.condLM (fun c0 => ?_) (fun c0 => ?_)
  · skip
    refine AWp.regionW ?_
    refine AWp.ret ?_
    try simp only [thenQ, blockQ, noGo]
    refine bodyQ.m ?_
    clear hK2 K2 hK1 K1
    first | done | exact Wk.go
  · skip
    exfalso
    unfold isAuth at hi
    cases h1 : c.ty == 15 <;> cases h2 : checkC c == 0 <;> simp_all
theorem auth_check (k a : Nat) (b : List UInt8) (h1 : 1 ≤ b.length) (h2 : b.length ≤ 65527) : checkC (authC k a b) = 0 := by
  have hl := authC_len k a b
  have hp : preE (authC k a b) = .ok := by
    have e1 : flagsE (authC k a b) (kindOf 15) = .ok := by
      show (if maskBad 0 0 = true then Er.flt 6 1 else .ok) = .ok
      rw [show maskBad 0 0 = false by kernel_rfl]; rfl
    have e2 : dataE (authC k a b) (kindOf 15) = .ok := by
      have : kfitsN (kindOf 15) (authC k a b).data.length = true := by
        show kfitsN (kindOf 15) ((putB 2 k ++ putB 2 a) ++ b).length = true
        rw [hl]; unfold kfitsN; simp [kindOf, kindForms]; omega
      unfold dataE; rw [this]; rfl
    have e3 : kidsE (authC k a b) (kindOf 15) = .ok := rfl
    have e4 : countE (authC k a b) = .ok := rfl
    have e5 : valueE (authC k a b) = .ok := rfl
    show firstE [flagsE (authC k a b) (kindOf 15), dataE (authC k a b) (kindOf 15), kidsE (authC k a b) (kindOf 15), countE (authC k a b), valueE (authC k a b)] = .ok
    simp only [e1, e2, e3, e4, e5, firstE, reduceIte]
  have hs : startC (authC k a b) = 0 := by
    unfold startC
    rw [if_pos (show kindHas (authC k a b).ty = true from rfl), hp]; rfl
  have hz : 4 + (authC k a b).data.length + nSize (authC k a b).kids ≤ 65535 := by
    show 4 + ((putB 2 k ++ putB 2 a) ++ b).length + nSize [] ≤ 65535
    rw [hl]; simp [nSize, nLens, tlvSize, sumUp]; omega
  unfold checkC
  rw [hs, if_neg (by simp), if_neg (by simp [authC, checkL]), if_neg (by omega)]
theorem auth_bad (k a : Nat) : ¬ checkC (authC k a []) = 0 := by
  intro h
  have hi : isAuth (authC k a []) = true := by unfold isAuth; rw [h]; rfl
  have := (auth_form (show 0 < 256 by decide) hi).1
  have hl := authC_len k a []
  have e : (authC k a []).data.length = 4 := by show ((putB 2 k ++ putB 2 a) ++ []).length = 4; rw [hl]; rfl
  omega
/-- the blank chunk -/
def blankC (c : GChunk) : GChunk := authC (keyOf c) (algOf c) (List.replicate (codeOf c).length 0)
theorem code_len {c : GChunk} (hf : c.flags < 256) (h : isAuth c = true) : 1 ≤ (codeOf c).length ∧ (codeOf c).length ≤ 65527 ∧ (codeOf c).length + 4 = c.data.length := by
  obtain ⟨f1, f2, _⟩ := auth_form hf h
  have e3 : codeOf c = c.data.drop 4 := if_pos h
  rw [e3, List.length_drop]; omega
theorem keyOf_lt (c : GChunk) : keyOf c < 2 ^ 16 := by unfold keyOf; split; exact peek2_lt _ _; decide
theorem algOf_lt (c : GChunk) : algOf c < 2 ^ 16 := by unfold algOf; split; exact peek2_lt _ _; decide
theorem ablank_yes (c : GChunk) (h : Small c) (hi : isAuth c = true) : PC Tryd.prog 37 [chunkA false c] (.tup [chunkA true (blankC c), bool true]) := by
  obtain ⟨l1, l2, _⟩ := code_len h.flags hi
  have ho := aof_o c h hi
  have hm := amake_c (keyOf c) (algOf c) (List.replicate (codeOf c).length 0) (keyOf_lt c) (algOf_lt c) (by rw [List.length_replicate]; omega)
  have hr : rightC (authC (keyOf c) (algOf c) (List.replicate (codeOf c).length 0)) true = (blankC c, true) := by
    unfold rightC; rw [auth_check _ _ _ (by rw [List.length_replicate]; omega) (by rw [List.length_replicate]; omega)]; rfl
  rw [hr] at hm
  generalize codeOf c = cd at ho hm
  generalize keyOf c = kk at ho hm
  generalize algOf c = ag at ho hm
  generalize blankC c = bc at hm
  refine PC.of_bodyK (by simp only [push_cast]) Tryd.func37 rfl (by rw [Tryd.ntmps37]; simp) ?_
  refine AWp.regionW ?_
  refine AWp.regionM fun K1 hK1 => ?_
  refine ARun2.callOM [] (ho) ?_
  refine ARun2.endm (hK1 _ ?_)
  refine AWp.seqK fun K2 hK2 => ?_
  refine AWp.regionW ?_
  refine AWp.condF ?_
  refine AWp.skip ?_
  refine hK2 _ ?_
  refine AWp.regionM fun K3 hK3 => ?_
  refine ARun2.clearOwnM ?_
  refine ARun2.endm (hK3 _ ?_)
  refine AWp.regionM fun K4 hK4 => ?_
  refine ARun2.callLendM 2 hm ?_
  refine ARun2.endm (hK4 _ ?_)
  refine AWp.ret ?_
  try simp only [thenQ, blockQ, noGo]
  refine bodyQ.m ?_
  clear hK4 K4 hK3 K3 hK2 K2 hK1 K1
  first | done | exact Wk.go
theorem ainput_len (l : List GChunk) (h : ∀ c ∈ l, (bytesC c).length ≤ 65535) : ((l.map fun c => padB (bytesC c)).flatten).length ≤ l.length * 65540 := by
  induction l with
  | nil => simp
  | cons c l ih =>
    have h1 := h c (by simp)
    have h2 := ih fun d hd => h d (by simp [hd])
    have h3 := padB_len (bytesC c)
    have h4 := gapN_le (bytesC c).length
    simp only [List.map_cons, List.flatten_cons, List.length_append, List.length_cons, upN] at *
    omega
/-- the bytes of chunks, padded, up to the first that is wrong -/
def padsC (l : List GChunk) : List UInt8 := (l.map fun c => padB (bytesC c)).flatten
theorem padsC_snoc (l : List GChunk) (c : GChunk) : padsC (l ++ [c]) = padsC l ++ padB (bytesC c) := by simp [padsC]
def inputC (l : List GChunk) : List UInt8 × Bool := if l.all (fun c => checkC c == 0) = true then (padsC l, true) else ([], false)
theorem inputC_yes {l : List GChunk} (h : ∀ j (hj : j < l.length), checkC l[j] = 0) : inputC l = (padsC l, true) := by
  refine if_pos ?_
  rw [List.all_eq_true]; intro c hc
  obtain ⟨j, hj, rfl⟩ := List.getElem_of_mem hc
  rw [h j hj]; rfl
theorem inputC_no {l : List GChunk} {i : Nat} (hi : i < l.length) (h : ¬ checkC l[i] = 0) : inputC l = ([], false) := by
  refine if_neg ?_
  rw [List.all_eq_true]
  intro hc
  exact h (by simpa using hc _ (List.getElem_mem hi))
theorem mix_at (b : GChunk) (l : List GChunk) (i : Nat) (h : i < (b :: l).length) : ∃ f : Bool, (chunkA true b :: chunksA false l)[i]? = some (chunkA f (b :: l)[i]) := by
  cases i with
  | zero => exact ⟨true, rfl⟩
  | succ i => exact ⟨false, by rw [List.getElem?_cons_succ, chunksA_at _ _ _ (by simpa using h)]; rfl⟩
theorem bytes_small {c : GChunk} (h : checkC c = 0) : (bytesC c).length ≤ 65535 := by rw [bytesC_len]; exact (check_size h).1
def allS (l : List GChunk) : Prop := ∀ c ∈ l, Small c ∧ tysOk c.kids = true
theorem padB_le (l : List UInt8) (h : l.length ≤ 65535) : (padB l).length ≤ 65540 := by
  have h3 := padB_len l
  have h4 := gapN_le l.length
  unfold upN at h3; omega
theorem ainput_run (c bc : GChunk) (l L : List GChunk) (hl : l.length ≤ 2 ^ 24) (hL : L.length = l.length + 1) (hb : PC Tryd.prog 37 [chunkA false c] (.tup [chunkA true bc, bool true]))
    (hall : ∀ j (hj : j < L.length), Small L[j] ∧ tysOk L[j].kids = true) (hat : ∀ i (h : i < L.length), ∃ f : Bool, (chunkA true bc :: chunksA false l)[i]? = some (chunkA f L[i])) :
    PC Tryd.prog 18 [chunkA false c, .sl false 4 (chunksA false l)] (.tup [.sl true 1 (bys (inputC L).1), bool (inputC L).2]) := by
  refine PC.of_bodyK (by simp only [push_cast]) Tryd.func18 rfl (by rw [Tryd.ntmps18]; simp) ?_
  refine AWp.regionW ?_
  refine AWp.regionM fun K1 hK1 => ?_
  refine ARun2.callM (hb) ?_
  refine ARun2.endm (hK1 _ ?_)
  refine AWp.seqK fun K2 hK2 => ?_
  refine AWp.regionW ?_
  refine AWp.condF ?_
  refine AWp.skip ?_
  refine hK2 _ ?_
  refine AWp.regionW ?_
  refine AWp.seqK fun K3 hK3 => ?_
  refine AWp.regionA fun K4 hK4 => ?_
  refine ARun.segm 1 fun KS hKS => ?_
  refine ARun2.endm (hKS _ ?_); clear hKS KS
  refine ARun.ownM ?_
  refine ARun2.gom ?_
  refine ARun2.appendM ?_ ?_ ?_
  · rw [YtfghmfjbbjapgaaDoor.Facts.eb71, chunksA_len, List.length_cons, List.length_nil]; omega
  · rw [chunksA_len, List.length_cons, List.length_nil]; omega
  refine ARun2.pubD 2 ?_
  refine ARun2.endm (hK4 _ ?_)
  refine AWp.block ?_
  -- SLOTS THAT TURN AND ARE NOT TOLD: [8]
  refine AWp.nilOwn 8 5 1 (by simp only [push_cast, ↓reduceIte, Nat.reduceEqDiff, Nat.reduceLT, Nat.reduceAdd, Nat.reduceSub, Nat.reduceMul, Nat.reduceLeDiff, Nat.reducePow, Int.reduceLT, Int.reduceToNat, reduceCtorEq, Int.reduceNeg, Int.reduceEq, Nat.reduceBEq, Nat.reduceBNe, Int.reduceBEq, Int.reduceBNe, String.reduceEq]) ?_
  simp only [push_cast, ↓reduceIte, Nat.reduceEqDiff, Nat.reduceLT, Nat.reduceAdd, Nat.reduceSub, Nat.reduceMul, Nat.reduceLeDiff, Nat.reducePow, Int.reduceLT, Int.reduceToNat, reduceCtorEq, Int.reduceNeg, Int.reduceEq, Nat.reduceBEq, Nat.reduceBNe, Int.reduceBEq, Int.reduceBNe, String.reduceEq]
  refine AWp.loopK [8, 23, 24] (fun (i : Nat) => [(25, nat i)]) (fun i => [.box 27 [u8 c.ty, u8 c.flags, .sl false 1 (bys c.data), .sl false 3 (nodesA false c.kids)], .box 27 [u8 bc.ty, u8 bc.flags, .sl true 1 (bys bc.data), .sl true 3 (nodesA true bc.kids)], .gone, .row 5 1 (bys (padsC (L.take i)))]) (fun i => i ≤ L.length ∧ ∀ j (hj : j < L.length), j < i → checkC L[j] = 0) (fun i => L.length - i) (0) ?_ ⟨Nat.zero_le _, fun j _ hj => by omega⟩ ?_
  · skip
    refine Le.m 4 ?_ ?_
    · first | with_reducible rfl | (simp only [push_cast, ↓reduceIte, Nat.reduceEqDiff, Nat.reduceLT, Nat.reduceAdd, Nat.reduceSub, Nat.reduceMul, Nat.reduceLeDiff, Nat.reducePow, Int.reduceLT, Int.reduceToNat, reduceCtorEq, Int.reduceNeg, Int.reduceEq, Nat.reduceBEq, Nat.reduceBNe, Int.reduceBEq, Int.reduceBNe, String.reduceEq]; first | done | rfl | (simp (disch := omega) only [w_nat, w_add, w_addl, w_addr, w_sub, w_subl, w_mul, w_mull, w_mulr, w_u32, w_u16, w_u8, w_u32a, N_zero]; first | done | rfl))
    · first | (simp only [push_cast, ↓reduceIte, Nat.reduceEqDiff, Nat.reduceLT, Nat.reduceAdd, Nat.reduceSub, Nat.reduceMul, Nat.reduceLeDiff, Nat.reducePow, Int.reduceLT, Int.reduceToNat, reduceCtorEq, Int.reduceNeg, Int.reduceEq, Nat.reduceBEq, Nat.reduceBNe, Int.reduceBEq, Int.reduceBNe, String.reduceEq]; first | done | rfl | (simp (disch := omega) only [w_nat, w_add, w_addl, w_addr, w_sub, w_subl, w_mul, w_mull, w_mulr, w_u32, w_u16, w_u8, w_u32a, N_zero]; first | done | rfl))
  · intro i hi K5 hK5
    refine AWp.regionW ?_
    refine AWp.seqK fun K6 hK6 => ?_
    refine AWp.condLM (fun c1 => ?_) (fun c1 => ?_)
    · skip
      have hil : i < L.length := by rw [hL]; simpa using c1
      obtain ⟨fl, hfl⟩ := hat i hil
      obtain ⟨hsm, htk⟩ := hall i hil
      have hen := cenc_c L[i] hsm htk
      have hpl : (padsC (L.take i)).length ≤ 2 ^ 42 := by
        have h2 := ainput_len (L.take i) (fun x hx => by
          obtain ⟨j, hj, rfl⟩ := List.getElem_of_mem hx
          rw [List.length_take] at hj
          rw [List.getElem_take]
          exact bytes_small (hi.2 j (by omega) (by omega)))
        rw [List.length_take] at h2
        unfold padsC; omega
      obtain ⟨xc, hxc⟩ : ∃ xc, xc = L[i] := ⟨_, rfl⟩
      rw [← hxc] at hfl hen
      refine AWp.skip ?_
      refine hK6 _ ?_
      refine AWp.seqK fun K7 hK7 => ?_
      refine AWp.block ?_
      refine AWp.regionM fun K8 hK8 => ?_
      refine ARun2.indexM (i) (chunkA fl xc) ?_ ?_
      · exact hfl
      refine ARun2.endm (hK8 _ ?_)
      refine AWp.regionM fun K9 hK9 => ?_
      refine ARun2.callM (hen) ?_
      refine ARun2.endm (hK9 _ ?_)
      refine AWp.seqK fun K10 hK10 => ?_
      refine AWp.regionW ?_
      refine AWp.condLM (fun c2 => ?_) (fun c2 => ?_)
      · skip
        have hne : ¬ checkC xc = 0 := by simpa using c2
        have hr := inputC_no hil (by rw [← hxc]; exact hne)
        refine AWp.regionW ?_
        refine AWp.ret ?_
        try simp only [thenQ, blockQ, noGo]
        refine bodyQ.m ?_
        clear hK10 K10 hK9 K9 hK8 K8 hK7 K7 hK6 K6 hK5 K5 hK4 K4 hK3 K3 hK2 K2 hK1 K1
        rw [hr]
        first | done | exact Wk.go
      · skip
        have heq : checkC xc = 0 := by simpa using c2
        have he : encC xc = bytesC xc := if_pos heq
        have hbl := bytes_small heq
        have hpb := padB_le _ hbl
        have hp := padBytes_c (bytesC xc) (by omega)
        rw [he]
        refine AWp.skip ?_
        refine hK10 _ ?_
        refine AWp.regionN fun K11 hK11 => ?_
        refine ARun2.callM (hp) ?_
        refine ARun2.appendM ?_ ?_ ?_
        · rw [YtfghmfjbbjapgaaDoor.Facts.eb23, bys_len, bys_len]; omega
        · rw [bys_len, bys_len]; omega
        refine ARun2.endm (hK11 _ ?_)
        refine hK7 _ ?_
        refine AWp.regionV ?_
        refine hK5 _ (i + 1) (⟨hil, fun j hj hji => (Nat.lt_or_ge j i).elim (fun h => hi.2 j hj h) (fun h => by have e : j = i := (by omega); subst e; rw [← hxc]; exact heq)⟩) (by omega) ?_
        refine Le.m 4 ?_ ?_
        · try simp only [push_cast, ↓reduceIte, Nat.reduceEqDiff, Nat.reduceLT, Nat.reduceAdd, Nat.reduceSub, Nat.reduceMul, Nat.reduceLeDiff, Nat.reducePow, Int.reduceLT, Int.reduceToNat, reduceCtorEq, Int.reduceNeg, Int.reduceEq, Nat.reduceBEq, Nat.reduceBNe, Int.reduceBEq, Int.reduceBNe, String.reduceEq]
          try simp (disch := omega) only [w_nat, w_add, w_addl, w_addr, w_sub, w_subl, w_mul, w_mull, w_mulr, w_u32, w_u16, w_u8, w_u32a, N_zero]
          first | done | skip
          rw [List.take_succ_eq_append_getElem hil, padsC_snoc, ← hxc, bys_append]
        · first | (simp only [push_cast, ↓reduceIte, Nat.reduceEqDiff, Nat.reduceLT, Nat.reduceAdd, Nat.reduceSub, Nat.reduceMul, Nat.reduceLeDiff, Nat.reducePow, Int.reduceLT, Int.reduceToNat, reduceCtorEq, Int.reduceNeg, Int.reduceEq, Nat.reduceBEq, Nat.reduceBNe, Int.reduceBEq, Int.reduceBNe, String.reduceEq]; first | done | rfl | (simp (disch := omega) only [w_nat, w_add, w_addl, w_addr, w_sub, w_subl, w_mul, w_mull, w_mulr, w_u32, w_u16, w_u8, w_u32a, N_zero]; first | done | rfl))
    · skip
      have hil : i = L.length := by have := hi.1; simp at c1; omega
      have hr := inputC_yes (l := L) fun j hj => hi.2 j hj (by omega)
      subst hil
      rw [List.take_length]
      refine AWp.exit ?_
      try simp only [thenQ, blockQ, noGo, reduceIte, Nat.reduceEqDiff]
      refine hK3 _ ?_
      refine AWp.pubD 3 ?_
      refine AWp.regionW ?_
      refine AWp.ret ?_
      try simp only [thenQ, blockQ, noGo]
      refine bodyQ.m ?_
      clear hK6 K6 hK5 K5 hK4 K4 hK3 K3 hK2 K2 hK1 K1
      rw [hr]
      first | done | exact Wk.go
theorem ainput_yes (c : GChunk) (l : List GChunk) (h : Small c) (hi : isAuth c = true) (hl : l.length ≤ 2 ^ 24) (hs : allS l) : PC Tryd.prog 18 [chunkA false c, .sl false 4 (chunksA false l)]
    (.tup [.sl true 1 (bys (inputC (blankC c :: l)).1), bool (inputC (blankC c :: l)).2]) := by
  obtain ⟨l1, l2, _⟩ := code_len h.flags hi
  refine ainput_run c (blankC c) l (blankC c :: l) hl rfl (ablank_yes c h hi) (fun j hj => ?_) (fun i h => mix_at _ l i h)
  rcases List.mem_cons.1 (List.getElem_mem hj) with e | e
  · rw [e]; exact ⟨small_auth _ _ (by rw [List.length_replicate]; omega), rfl⟩
  · exact hs _ e
/-- a pad chunk -/
def padC (n : Nat) : GChunk := ⟨132, 0, List.replicate n 0, []⟩
theorem apad_yes (n : Nat) (h1 : 4 ≤ n) (h2 : n ≤ 65535) : PC Tryd.prog 15 [.val (.int .i64 (N n))] (.tup [chunkA true (padC (n - 4)), bool true]) := by
  refine PC.of_bodyK (by simp only [push_cast]) Tryd.func15 rfl (by rw [Tryd.ntmps15]; simp) ?_
  refine AWp.regionW ?_
  refine AWp.seqK fun K1 hK1 => ?_
  refine AWp.regionA fun K2 hK2 => ?_
  refine ARun.segm 3 fun KS hKS => ?_
  refine ARun2.endm (hKS _ ?_); clear hKS KS
  apply ARun.grpM 2 2 false 8 [0, 2, 6]
  · intro g2 KG hKG
    refine ARun2.gom ?_
    exact ARun2.endm (hKG _ Le.grpM)
  refine ARun2.gom ?_
  refine ARun2.endm (hK2 _ ?_)
  refine AWp.condLM (fun c0 => ?_) (fun c0 => ?_)
  · skip
    exfalso
    revert c0
    simp [N]
    omega
  · skip
    refine AWp.skip ?_
    refine hK1 _ ?_
    refine AWp.regionM fun K3 hK3 => ?_
    refine ARun2.makeM (n - 4) ?_ ?_
    · omega
    refine ARun2.endm (hK3 _ ?_)
    refine AWp.ret ?_
    try simp only [thenQ, blockQ, noGo]
    refine bodyQ.m ?_
    clear hK3 K3 hK2 K2 hK1 K1
    simp only [padC]
    first | done | exact Wk.go
theorem apad_no (z : Int) (h : z < 4 ∨ 65535 < z) : PC Tryd.prog 15 [.val (.int .i64 z)] (.tup [chunkA true .zero, bool false]) := by
  refine PC.of_bodyK (by simp only [push_cast]) Tryd.func15 rfl (by rw [Tryd.ntmps15]; simp) ?_
  refine AWp.regionW ?_
  refine AWp.seqK fun K1 hK1 => ?_
  refine AWp.regionA fun K2 hK2 => ?_
  refine ARun.segm 3 fun KS hKS => ?_
  refine ARun2.endm (hKS _ ?_); clear hKS KS
  apply ARun.grpM 2 2 false 8 [0, 2, 6]
  · intro g2 KG hKG
    refine ARun2.gom ?_
    exact ARun2.endm (hKG _ Le.grpM)
  refine ARun2.gom ?_
  refine ARun2.endm (hK2 _ ?_)
  refine AWp.condLM (fun c0 => ?_) (fun c0 => ?_)
  · skip
    refine AWp.regionW ?_
    refine AWp.ret ?_
    try simp only [thenQ, blockQ, noGo]
    refine bodyQ.m ?_
    clear hK2 K2 hK1 K1
    simp only [GChunk.zero]
    first | done | exact Wk.go
  · skip
    exfalso
    revert c0
    simp
    omega
theorem indexByte_c (l : List UInt8) (t : UInt8) : PC Tryd.prog 25 [.sl false 1 (bys l), .val (.int .u8 (N t.toNat))] (.val (.int .i64 (Lib.indexByte l t))) := by
  have hn : NatOk Tryd.prog 44 Extern.BytealgIndexByte.indexByte := fun vs w => run_callFunc_extern Tryd.func44 (by kernel_rfl) (by kernel_rfl) (by kernel_rfl) (by kernel_rfl) vs w
  have ht : t.toNat.toUInt8 = t := by simp
  refine PC.of_bodyW (by simp only [push_cast]) Tryd.func25 rfl (by rw [Tryd.ntmps25]; simp) ?_
  refine AWp.regionW ?_
  refine AWp.regionM fun K1 hK1 => ?_
  refine ARun2.natByteM hn ?_
  refine ARun2.endm (hK1 _ ?_)
  refine AWp.ret ?_
  try simp only [thenQ, blockQ, noGo]
  refine bodyQ.m ?_
  clear hK1 K1
  rw [ht]
  first | done | exact Hand.go
def needsN (n : GNode) (t : UInt8) : Bool := !(t.toNat == 1 || t.toNat == 2 || t.toNat == 14 || t.toNat == 15) && (n.ty == 32771 && (n.kids.length == 0) && decide (0 ≤ Lib.indexByte n.data t))
theorem aneeds_c (n : GNode) (t : UInt8) : PC Tryd.prog 13 [nodeA false n, .val (.int .u8 (N t.toNat))] (bool (needsN n t)) := by
  have hib := indexByte_c n.data t
  refine PC.of_bodyW (by simp only [push_cast]) Tryd.func13 rfl (by rw [Tryd.ntmps13]; simp) ?_
  refine AWp.regionW ?_
  refine AWp.seqK fun K1 hK1 => ?_
  refine AWp.regionW ?_
  refine AWp.block ?_
  refine AWp.seqK fun K2 hK2 => ?_
  refine AWp.regionW ?_
  refine AWp.condLM (fun c0 => ?_) (fun c0 => ?_)
  · skip
    refine AWp.skip ?_
    refine hK2 _ ?_
    refine AWp.condT ?_
    refine AWp.regionW ?_
    refine AWp.ret ?_
    try simp only [thenQ, blockQ, noGo]
    refine bodyQ.m ?_
    clear hK2 K2 hK1 K1
    simp only [needsN]
    simp only [*, Bool.or_true, Bool.true_or, Bool.or_false, Bool.false_or, Bool.not_true, Bool.not_false, Bool.false_and, Bool.true_and]
    first | done | exact Hand.go
  · skip
    refine AWp.regionW ?_
    refine AWp.condLM (fun c1 => ?_) (fun c1 => ?_)
    · skip
      refine AWp.skip ?_
      refine hK2 _ ?_
      refine AWp.condT ?_
      refine AWp.regionW ?_
      refine AWp.ret ?_
      try simp only [thenQ, blockQ, noGo]
      refine bodyQ.m ?_
      clear hK2 K2 hK1 K1
      simp only [needsN]
      simp only [*, Bool.or_true, Bool.true_or, Bool.or_false, Bool.false_or, Bool.not_true, Bool.not_false, Bool.false_and, Bool.true_and]
      first | done | exact Hand.go
    · skip
      refine AWp.regionW ?_
      refine AWp.condLM (fun c2 => ?_) (fun c2 => ?_)
      · skip
        refine AWp.skip ?_
        refine hK2 _ ?_
        refine AWp.condT ?_
        refine AWp.regionW ?_
        refine AWp.ret ?_
        try simp only [thenQ, blockQ, noGo]
        refine bodyQ.m ?_
        clear hK2 K2 hK1 K1
        simp only [needsN]
        simp only [*, Bool.or_true, Bool.true_or, Bool.or_false, Bool.false_or, Bool.not_true, Bool.not_false, Bool.false_and, Bool.true_and]
        first | done | exact Hand.go
      · skip
        refine AWp.regionV ?_
        refine hK2 _ ?_
        refine AWp.condLM (fun c3 => ?_) (fun c3 => ?_)
        · skip
          refine AWp.regionW ?_
          refine AWp.ret ?_
          try simp only [thenQ, blockQ, noGo]
          refine bodyQ.m ?_
          clear hK2 K2 hK1 K1
          simp only [needsN]
          simp only [*, Bool.or_true, Bool.true_or, Bool.or_false, Bool.false_or, Bool.not_true, Bool.not_false, Bool.false_and, Bool.true_and]
          first | done | exact Hand.go
        · skip
          refine AWp.skip ?_
          refine hK1 _ ?_
          refine AWp.regionA fun K3 hK3 => ?_
          refine ARun.segm 4 fun KS hKS => ?_
          refine ARun2.endm (hKS _ ?_); clear hKS KS
          apply ARun.grpM 4 3 true 18 [1, 2, 14]
          · intro g3 KG hKG
            refine ARun2.gom ?_
            exact ARun2.endm (hKG _ Le.grpM)
          refine ARun.segm 2 fun KS hKS => ?_
          refine ARun2.endm (hKS _ ?_); clear hKS KS
          apply ARun.grpM 5 9 true 25 [20]
          · intro g9 KG hKG
            refine ARun2.gom ?_
            refine ARun2.callM (hib) ?_
            exact ARun2.endm (hKG _ Le.grpM)
          refine ARun2.gom ?_
          refine ARun2.endm (hK3 _ ?_)
          refine AWp.ret ?_
          try simp only [thenQ, blockQ, noGo]
          refine bodyQ.m ?_
          clear hK3 K3 hK2 K2 hK1 K1
          simp only [needsN]
          simp only [*, Bool.or_true, Bool.true_or, Bool.or_false, Bool.false_or, Bool.not_true, Bool.not_false, Bool.false_and, Bool.true_and]
          first | done | exact Hand.go
end Go.Proofs.YtfghmfjbbjapgaaDoor.C
/- wharfref19: Is, Make, Needs, Blank, Input; wharflaw19: awake. -/
set_option linter.unusedVariables false
set_option linter.unusedSimpArgs false
namespace Go.Proofs.YtfghmfjbbjapgaaDoor.C
open Go.Abs
theorem check_flat (t : Nat) (d : List UInt8) (hh : kindHas t = true) (hf : kfitsN (kindOf t) d.length = true) (hm : maskBad 0 (kindOf t).mask = false) (hk : kkidsOk (kindOf t) [] = true) (h3 : ¬ t = 3) (h64 : ¬ t = 64) (h194 : ¬ t = 194) (hl : d.length ≤ 65531) : checkC ⟨t, 0, d, []⟩ = 0 := by
  have hp : preE ⟨t, 0, d, []⟩ = .ok := by
    have e1 : flagsE ⟨t, 0, d, []⟩ (kindOf t) = .ok := if_neg (by simp only; rw [hm]; simp)
    have e2 : dataE ⟨t, 0, d, []⟩ (kindOf t) = .ok := if_neg (by simp only; rw [hf]; simp)
    have e3 : kidsE ⟨t, 0, d, []⟩ (kindOf t) = .ok := if_neg (by simp only; rw [hk]; simp)
    have e4 : countE ⟨t, 0, d, []⟩ = .ok := if_neg (by unfold sackBad; simp [h3])
    have e5 : valueE ⟨t, 0, d, []⟩ = .ok := by unfold valueE oddN; simp [h64, h194]
    show firstE [flagsE ⟨t, 0, d, []⟩ (kindOf t), dataE ⟨t, 0, d, []⟩ (kindOf t), kidsE ⟨t, 0, d, []⟩ (kindOf t), countE ⟨t, 0, d, []⟩, valueE ⟨t, 0, d, []⟩] = .ok
    simp only [e1, e2, e3, e4, e5, firstE, reduceIte]
  have hs : startC ⟨t, 0, d, []⟩ = 0 := by
    unfold startC
    rw [if_pos hh, hp]; rfl
  unfold checkC
  rw [hs, if_neg (by simp), if_neg (by simp [checkL])]
  simp [nSize, nLens, tlvSize, sumUp]
  omega
theorem pad_check (n : Nat) (h : n ≤ 65531) : checkC (padC n) = 0 :=
  check_flat 132 _ rfl (by rw [List.length_replicate]; unfold kfitsN; simp [kindOf, kindForms]; omega) (by kernel_rfl) rfl (by decide) (by decide) (by decide) (by rw [List.length_replicate]; exact h)
theorem small_pad (n : Nat) (h : n ≤ 65531) : Small (padC n) := ⟨by show 132 < 256; decide, by show 0 < 256; decide, by show (List.replicate n (0 : UInt8)).length ≤ _; rw [List.length_replicate]; omega, by show szs [] ≤ _; simp [szs]⟩
theorem auth_is {k a : Nat} {b : List UInt8} (h1 : 1 ≤ b.length) (h2 : b.length ≤ 65527) : isAuth (authC k a b) = true := by
  unfold isAuth; rw [auth_check k a b h1 h2]; rfl
theorem auth_back {k a : Nat} {b : List UInt8} (hk : k < 2 ^ 16) (ha : a < 2 ^ 16) (h1 : 1 ≤ b.length) (h2 : b.length ≤ 65527) : keyOf (authC k a b) = k ∧ algOf (authC k a b) = a ∧ codeOf (authC k a b) = b := by
  have hi := auth_is (k := k) (a := a) h1 h2
  have p1 := peek_put 2 k 0 [] (putB 2 a ++ b) rfl (beN_put2b k hk)
  have p2 := peek_put 2 a 2 (putB 2 k) b (putB_len _ _) (beN_put2b a ha)
  rw [List.nil_append] at p1
  refine ⟨?_, ?_, ?_⟩
  · have : keyOf (authC k a b) = peekN 2 ((putB 2 k ++ putB 2 a) ++ b) 0 := if_pos hi
    rw [this, List.append_assoc]; exact p1
  · have : algOf (authC k a b) = peekN 2 ((putB 2 k ++ putB 2 a) ++ b) 2 := if_pos hi
    rw [this, List.append_assoc]; exact p2
  · have : codeOf (authC k a b) = ((putB 2 k ++ putB 2 a) ++ b).drop 4 := if_pos hi
    rw [this, List.drop_append_of_le_length (by simp [putB_len]), List.drop_of_length_le (by simp [putB_len]), List.nil_append]
theorem lit4 (k a : Nat) : [AV.val (.int .u8 (N (UInt8.ofNat (k / 256)).toNat)), AV.val (.int .u8 (N (UInt8.ofNat k).toNat)), AV.val (.int .u8 (N (UInt8.ofNat (a / 256)).toNat)), AV.val (.int .u8 (N (UInt8.ofNat a).toNat))] = bys (putB 2 k ++ putB 2 a) := by
  rw [putB2, putB2]; rfl
theorem rmake19_c (k a : Nat) (b : List UInt8) (hb : b.length ≤ 2 ^ 25) : PC Tryd.prog 10 [u16 k, u16 a, .sl false 1 (bys b)] (chunkA true (authC k a b)) := by
  have h4 := lit4 k a
  refine PC.of_bodyK (by simp only [push_cast]) Tryd.func10 rfl (by rw [Tryd.ntmps10]; simp) ?_
  refine AWp.regionW ?_
  refine AWp.regionA fun K1 hK1 => ?_
  refine ARun.segm 10 fun KS hKS => ?_
  refine ARun2.endm (hKS _ ?_); clear hKS KS
  refine ARun.ownM ?_
  refine ARun2.gom ?_
  refine ARun2.endm (hK1 _ ?_)
  rw [u8_high, u8_low, u8_high, u8_low, h4]
  refine AWp.regionM fun K2 hK2 => ?_
  refine ARun2.appendM ?_ ?_ ?_
  · rw [YtfghmfjbbjapgaaDoor.Facts.eb23, bys_len, bys_len, List.length_append, putB_len, putB_len]; omega
  · rw [bys_len, bys_len, List.length_append, putB_len, putB_len]; omega
  refine ARun2.pubD 1 ?_
  refine ARun2.endm (hK2 _ ?_)
  refine AWp.ret ?_
  try simp only [thenQ, blockQ, noGo]
  refine bodyQ.m ?_
  clear hK2 K2 hK1 K1
  simp only [authC, bys_append]
  first | done | exact Wk.go
theorem needs_no {n : GNode} {t : UInt8} (h : (n.ty != 32771 || decide (0 < n.kids.length) || t.toNat == 1 || t.toNat == 2 || t.toNat == 14 || t.toNat == 15) = true) : needsN n t = false := by
  unfold needsN
  revert h
  by_cases h1 : n.ty = 32771 <;> by_cases h2 : n.kids.length = 0 <;> by_cases h3 : t.toNat = 1 <;> by_cases h4 : t.toNat = 2 <;> by_cases h5 : t.toNat = 14 <;> by_cases h6 : t.toNat = 15 <;> simp [h1, h2, h3, h4, h5, h6]
theorem needs_yes {n : GNode} {t : UInt8} (h : (n.ty != 32771 || decide (0 < n.kids.length) || t.toNat == 1 || t.toNat == 2 || t.toNat == 14 || t.toNat == 15) = false) : needsN n t = n.data.contains t := by
  unfold needsN
  rw [indexByte_mem]
  revert h
  by_cases h1 : n.ty = 32771 <;> by_cases h2 : n.kids.length = 0 <;> by_cases h3 : t.toNat = 1 <;> by_cases h4 : t.toNat = 2 <;> by_cases h5 : t.toNat = 14 <;> by_cases h6 : t.toNat = 15 <;> simp [h1, h2, h3, h4, h5, h6] <;> omega
theorem rneeds_c (n : GNode) (t : UInt8) (hs : n.sz ≤ 2 ^ 26) : PC Tryd.prog 14 [nodeA false n, .val (.int .u8 (N t.toNat))] (bool (needsN n t)) := by
  have hsz := n.sz_eq
  refine PC.of_bodyW (by simp only [push_cast]) Tryd.func14 rfl (by rw [Tryd.ntmps14]; simp) ?_
  refine AWp.regionW ?_
  refine AWp.seqK fun K1 hK1 => ?_
  refine AWp.regionA fun K2 hK2 => ?_
  refine ARun.segm 4 fun KS hKS => ?_
  refine ARun2.endm (hKS _ ?_); clear hKS KS
  apply ARun.grpM 4 3 false 13 [1, 2, 9]
  · intro g3 KG hKG
    refine ARun2.gom ?_
    exact ARun2.endm (hKG _ Le.grpM)
  refine ARun.segm 2 fun KS hKS => ?_
  refine ARun2.endm (hKS _ ?_); clear hKS KS
  apply ARun.grpM 2 9 false 17 [1, 2, 15]
  · intro g9 KG hKG
    refine ARun2.gom ?_
    exact ARun2.endm (hKG _ Le.grpM)
  refine ARun.segm 2 fun KS hKS => ?_
  refine ARun2.endm (hKS _ ?_); clear hKS KS
  apply ARun.grpM 2 13 false 21 [1, 2, 19]
  · intro g13 KG hKG
    refine ARun2.gom ?_
    exact ARun2.endm (hKG _ Le.grpM)
  refine ARun.segm 2 fun KS hKS => ?_
  refine ARun2.endm (hKS _ ?_); clear hKS KS
  apply ARun.grpM 2 17 false 25 [1, 2, 23]
  · intro g17 KG hKG
    refine ARun2.gom ?_
    exact ARun2.endm (hKG _ Le.grpM)
  refine ARun.segm 2 fun KS hKS => ?_
  refine ARun2.endm (hKS _ ?_); clear hKS KS
  apply ARun.grpM 2 21 false 29 [1, 2, 27]
  · intro g21 KG hKG
    refine ARun2.gom ?_
    exact ARun2.endm (hKG _ Le.grpM)
  refine ARun2.gom ?_
  refine ARun2.endm (hK2 _ ?_)
  refine AWp.condLM (fun c0 => ?_) (fun c0 => ?_)
  · skip
    have hr : needsN n t = false := needs_no (by simpa only [Bool.or_assoc] using c0)
    refine AWp.regionW ?_
    refine AWp.ret ?_
    try simp only [thenQ, blockQ, noGo]
    refine bodyQ.m ?_
    clear hK2 K2 hK1 K1
    rw [hr]
    first | done | exact Hand.go
  · skip
    have hc : needsN n t = n.data.contains t := needs_yes (by simpa only [Bool.or_assoc] using c0)
    refine AWp.skip ?_
    refine hK1 _ ?_
    refine AWp.seqK fun K3 hK3 => ?_
    refine AWp.regionW ?_
    refine AWp.block ?_
    refine AWp.loopK0 [1, 2] (fun (i : Nat) => [(5, nat i)]) (fun i => i ≤ n.data.length ∧ ∀ j (hj : j < n.data.length), j < i → ¬ n.data[j] = t) (fun i => n.data.length - i) (0) ?_ ⟨Nat.zero_le _, fun j _ hj => by omega⟩ ?_
    · skip
      refine Le.m 1 ?_ ?_
      · first | with_reducible rfl | (simp only [push_cast, ↓reduceIte, Nat.reduceEqDiff, Nat.reduceLT, Nat.reduceAdd, Nat.reduceSub, Nat.reduceMul, Nat.reduceLeDiff, Nat.reducePow, Int.reduceLT, Int.reduceToNat, reduceCtorEq, Int.reduceNeg, Int.reduceEq, Nat.reduceBEq, Nat.reduceBNe, Int.reduceBEq, Int.reduceBNe, String.reduceEq]; first | done | rfl | (simp (disch := omega) only [w_nat, w_add, w_addl, w_addr, w_sub, w_subl, w_mul, w_mull, w_mulr, w_u32, w_u16, w_u8, w_u32a, N_zero]; first | done | rfl))
      · first | (simp only [push_cast, ↓reduceIte, Nat.reduceEqDiff, Nat.reduceLT, Nat.reduceAdd, Nat.reduceSub, Nat.reduceMul, Nat.reduceLeDiff, Nat.reducePow, Int.reduceLT, Int.reduceToNat, reduceCtorEq, Int.reduceNeg, Int.reduceEq, Nat.reduceBEq, Nat.reduceBNe, Int.reduceBEq, Int.reduceBNe, String.reduceEq]; first | done | rfl | (simp (disch := omega) only [w_nat, w_add, w_addl, w_addr, w_sub, w_subl, w_mul, w_mull, w_mulr, w_u32, w_u16, w_u8, w_u32a, N_zero]; first | done | rfl))
    · intro i hi K4 hK4
      refine AWp.seqK fun K5 hK5 => ?_
      refine AWp.regionW ?_
      refine AWp.condLM (fun c1 => ?_) (fun c1 => ?_)
      · skip
        have hil : i < n.data.length := by simpa using c1
        refine AWp.skip ?_
        refine hK5 _ ?_
        refine AWp.seqK fun K6 hK6 => ?_
        refine AWp.block ?_
        refine AWp.regionM fun K7 hK7 => ?_
        refine ARun2.indexM (i) (.val (.int .u8 (N n.data[i].toNat))) ?_ ?_
        · exact bys_at _ _ hil
        refine ARun2.endm (hK7 _ ?_)
        refine AWp.condLM (fun c2 => ?_) (fun c2 => ?_)
        · skip
          have he : n.data[i] = t := by
            have : n.data[i].toNat = t.toNat := by simpa using c2
            exact UInt8.toNat_inj.1 this
          have hr : needsN n t = true := by rw [hc, ← he]; simp [List.getElem_mem]
          refine AWp.regionW ?_
          refine AWp.ret ?_
          try simp only [thenQ, blockQ, noGo]
          refine bodyQ.m ?_
          clear hK7 K7 hK6 K6 hK5 K5 hK4 K4 hK3 K3 hK2 K2 hK1 K1
          rw [hr]
          first | done | exact Hand.go
        · skip
          have he : ¬ n.data[i] = t := by
            intro e; rw [e] at c2; simp at c2
          refine AWp.skip ?_
          refine hK6 _ ?_
          refine AWp.regionV ?_
          refine hK4 _ (i + 1) (⟨hil, fun j hj hji => (Nat.lt_or_ge j i).elim (fun h => hi.2 j hj h) (fun h => by have e : j = i := (by omega); subst e; exact he)⟩) (by omega) ?_
          refine Le.m 1 ?_ ?_
          · first | with_reducible rfl | (simp only [push_cast, ↓reduceIte, Nat.reduceEqDiff, Nat.reduceLT, Nat.reduceAdd, Nat.reduceSub, Nat.reduceMul, Nat.reduceLeDiff, Nat.reducePow, Int.reduceLT, Int.reduceToNat, reduceCtorEq, Int.reduceNeg, Int.reduceEq, Nat.reduceBEq, Nat.reduceBNe, Int.reduceBEq, Int.reduceBNe, String.reduceEq]; first | done | rfl | (simp (disch := omega) only [w_nat, w_add, w_addl, w_addr, w_sub, w_subl, w_mul, w_mull, w_mulr, w_u32, w_u16, w_u8, w_u32a, N_zero]; first | done | rfl))
          · first | (simp only [push_cast, ↓reduceIte, Nat.reduceEqDiff, Nat.reduceLT, Nat.reduceAdd, Nat.reduceSub, Nat.reduceMul, Nat.reduceLeDiff, Nat.reducePow, Int.reduceLT, Int.reduceToNat, reduceCtorEq, Int.reduceNeg, Int.reduceEq, Nat.reduceBEq, Nat.reduceBNe, Int.reduceBEq, Int.reduceBNe, String.reduceEq]; first | done | rfl | (simp (disch := omega) only [w_nat, w_add, w_addl, w_addr, w_sub, w_subl, w_mul, w_mull, w_mulr, w_u32, w_u16, w_u8, w_u32a, N_zero]; first | done | rfl))
      · skip
        have hil : i = n.data.length := by have := hi.1; simp at c1; omega
        have hr : needsN n t = false := by
          rw [hc]
          cases hq : n.data.contains t with
          | false => rfl
          | true =>
            have hm : t ∈ n.data := by simpa using hq
            obtain ⟨j, hj, hjt⟩ := List.getElem_of_mem hm
            exact absurd hjt (hi.2 j hj (by omega))
        refine AWp.exit ?_
        try simp only [thenQ, blockQ, noGo, reduceIte, Nat.reduceEqDiff]
        refine hK3 _ ?_
        refine AWp.regionW ?_
        refine AWp.ret ?_
        try simp only [thenQ, blockQ, noGo]
        refine bodyQ.m ?_
        clear hK5 K5 hK4 K4 hK3 K3 hK2 K2 hK1 K1
        rw [hr]
        first | done | exact Hand.go
def ex19 : GChunk := ⟨15, 0, [0, 1, 0, 2, 9], []⟩
theorem ex19_small : Small ex19 := ⟨by decide, by decide, by decide, by decide⟩
set_option maxRecDepth 100000 in
theorem awake19_c : PC Tryd.prog 6 [] (bool true) := by
  have w1 : rightC (authC 1 2 [9]) true = (ex19, true) := by kernel_rfl
  have k1 := amake_c 1 2 [9] (by decide) (by decide) (by decide)
  rw [w1] at k1
  have w2 : isAuth ex19 = true := by kernel_rfl
  have w3 : inputC [blankC ex19] = ([15, 0, 0, 9, 0, 1, 0, 2, 0, 0, 0, 0], true) := by kernel_rfl
  have k2 := ainput_yes ex19 [] ex19_small w2 (by decide) (by intro c hc; simp at hc)
  rw [w3] at k2
  have w4 : keyOf ex19 = 1 := by kernel_rfl
  have w5 : algOf ex19 = 2 := by kernel_rfl
  have w6 : codeOf ex19 = [9] := by kernel_rfl
  have k3 := aof_yes ex19 ex19_small w2
  rw [w4, w5, w6] at k3
  have w7 : rightC (authC 1 2 []) true = (.zero, false) := by kernel_rfl
  have k4 := amake_c 1 2 [] (by decide) (by decide) (by decide)
  rw [w7] at k4
  have k5 := apad_yes 7 (by decide) (by decide)
  have k6 : PC Tryd.prog 11 [.sl false 1 (bys [15, 0, 0, 9, 0, 1, 0, 2, 0, 0, 0, 0]), .sl false 1 (bys [15, 0, 0, 9, 0, 1, 0, 2, 0, 0, 0, 0])] (bool true) := same01_c [15, 0, 0, 9, 0, 1, 0, 2, 0, 0, 0, 0] [15, 0, 0, 9, 0, 1, 0, 2, 0, 0, 0, 0] (by decide)
  have k7 : PC Tryd.prog 11 [.sl false 1 (bys [9]), .sl false 1 (bys [9])] (bool true) := same01_c [9] [9] (by decide)
  have w8 : needsN (.mk 32771 [0] []) 0 = true := by kernel_rfl
  have k8 := aneeds_c (.mk 32771 [0] []) 0
  rw [w8] at k8
  unfold ex19 at k1 k2 k3
  simp only [padC] at k5
  refine PC.of_bodyW (by simp only [push_cast]) Tryd.func6 rfl (by rw [Tryd.ntmps6]; simp) ?_
  refine AWp.regionW ?_
  refine AWp.regionM fun K1 hK1 => ?_
  refine ARun2.callM (k1) ?_
  refine ARun2.endm (hK1 _ ?_)
  refine AWp.regionM fun K2 hK2 => ?_
  refine ARun2.callM (k2) ?_
  refine ARun2.endm (hK2 _ ?_)
  refine AWp.regionM fun K3 hK3 => ?_
  refine ARun2.callM (k3) ?_
  refine ARun2.endm (hK3 _ ?_)
  refine AWp.regionM fun K4 hK4 => ?_
  refine ARun2.callM (k4) ?_
  refine ARun2.endm (hK4 _ ?_)
  refine AWp.regionM fun K5 hK5 => ?_
  refine ARun2.callM (k5) ?_
  refine ARun2.endm (hK5 _ ?_)
  refine AWp.regionM fun K6 hK6 => ?_
  refine ARun2.callM (k6) ?_
  refine ARun2.callM (k7) ?_
  refine ARun2.callM (k8) ?_
  refine ARun2.endm (hK6 _ ?_)
  refine AWp.ret ?_
  try simp only [thenQ, blockQ, noGo]
  refine bodyQ.m ?_
  clear hK6 K6 hK5 K5 hK4 K4 hK3 K3 hK2 K2 hK1 K1
  first | done | exact Hand.go
end Go.Proofs.YtfghmfjbbjapgaaDoor.C
/- wharflaw19: AuthMatchesReference, AuthNeeds, AuthPads. -/
set_option linter.unusedVariables false
set_option linter.unusedSimpArgs false
namespace Go.Proofs.YtfghmfjbbjapgaaDoor.C
open Go.Abs
theorem authMatches_big (k a : Nat) (b : List UInt8) (hb : ¬ b.length ≤ 1000) : PC Tryd.prog 3 [u16 k, u16 a, .sl false 1 (bys b)] (bool true) := by
  refine PC.of_bodyW (by simp only [push_cast]) Tryd.func3 rfl (by rw [Tryd.ntmps3]; simp) ?_
  refine AWp.regionW ?_
  refine AWp.seqK fun K1 hK1 => ?_
  refine AWp.regionM fun K2 hK2 => ?_
  refine ARun2.callM (awake19_c) ?_
  refine ARun2.endm (hK2 _ ?_)
  refine AWp.condLM (fun c0 => ?_) (fun c0 => ?_)
  · skip
    refine AWp.regionM fun K3 hK3 => ?_
    refine ARun2.callM (awake19_c) ?_
    refine ARun2.endm (hK3 _ ?_)
    refine AWp.ret ?_
    try simp only [thenQ, blockQ, noGo]
    refine bodyQ.m ?_
    clear hK3 K3 hK2 K2 hK1 K1
    first | done | exact Hand.go
  · skip
    exfalso
    apply hb
    simpa using c0
theorem authMatches_no (k a : Nat) (hk : k < 2 ^ 16) (ha : a < 2 ^ 16) : PC Tryd.prog 3 [u16 k, u16 a, .sl false 1 (bys [])] (bool true) := by
  have k1 := amake_c k a [] hk ha (by decide)
  have w1 : rightC (authC k a []) true = (.zero, false) := by
    have : (checkC (authC k a []) == 0) = false := by simpa using auth_bad k a
    unfold rightC; rw [this]; rfl
  rw [w1] at k1
  have k2 := aof_no .zero small_zero (by kernel_rfl)
  have k3 : PC Tryd.prog 9 [chunkA false .zero, chunkA false .zero] (bool true) := sameC_self .zero ▸ small_zero.same
  simp only [GChunk.zero] at k1 k2 k3
  refine PC.of_bodyW (by simp only [push_cast]) Tryd.func3 rfl (by rw [Tryd.ntmps3]; simp) ?_
  refine AWp.regionW ?_
  refine AWp.seqK fun K1 hK1 => ?_
  refine AWp.regionM fun K2 hK2 => ?_
  refine ARun2.callM (awake19_c) ?_
  refine ARun2.endm (hK2 _ ?_)
  refine AWp.condF ?_
  refine AWp.skip ?_
  refine hK1 _ ?_
  refine AWp.regionM fun K3 hK3 => ?_
  refine ARun2.callM (k1) ?_
  refine ARun2.endm (hK3 _ ?_)
  refine AWp.regionM fun K4 hK4 => ?_
  refine ARun2.callM (k2) ?_
  refine ARun2.endm (hK4 _ ?_)
  refine AWp.seqK fun K5 hK5 => ?_
  refine AWp.regionW ?_
  refine AWp.condT ?_
  refine AWp.regionM fun K6 hK6 => ?_
  refine ARun2.callM (k3) ?_
  refine ARun2.endm (hK6 _ ?_)
  refine AWp.ret ?_
  try simp only [thenQ, blockQ, noGo]
  refine bodyQ.m ?_
  clear hK6 K6 hK5 K5 hK4 K4 hK3 K3 hK2 K2 hK1 K1
  first | done | exact Hand.go
theorem authMatches_yes (k a : Nat) (b : List UInt8) (hk : k < 2 ^ 16) (ha : a < 2 ^ 16) (h1 : 1 ≤ b.length) (h2 : b.length ≤ 1000) : PC Tryd.prog 3 [u16 k, u16 a, .sl false 1 (bys b)] (bool true) := by
  have hc := auth_check k a b h1 (by omega)
  have k1 := amake_c k a b hk ha (by omega)
  have w1 : rightC (authC k a b) true = (authC k a b, true) := by unfold rightC; rw [hc]; rfl
  rw [w1] at k1
  have hs := small_auth k a (b := b) (by omega)
  have k2 := aof_yes _ hs (auth_is h1 (by omega))
  obtain ⟨e1, e2, e3⟩ := auth_back hk ha h1 (show b.length ≤ 65527 by omega)
  rw [e1, e2, e3] at k2
  have k3 : PC Tryd.prog 9 [chunkA false (authC k a b), chunkA false (authC k a b)] (bool true) := sameC_self _ ▸ hs.same
  have k4 := rmake19_c k a b (by omega)
  have k5 := same01_c b b (by omega)
  rw [decide_eq_true rfl] at k5
  generalize authC k a b = M at k1 k2 k3 k4
  refine PC.of_bodyW (by simp only [push_cast]) Tryd.func3 rfl (by rw [Tryd.ntmps3]; simp) ?_
  refine AWp.regionW ?_
  refine AWp.seqK fun K1 hK1 => ?_
  refine AWp.regionM fun K2 hK2 => ?_
  refine ARun2.callM (awake19_c) ?_
  refine ARun2.endm (hK2 _ ?_)
  refine AWp.condLM (fun c0 => ?_) (fun c0 => ?_)
  · skip
    exfalso
    revert c0
    simp
    omega
  · skip
    refine AWp.skip ?_
    refine hK1 _ ?_
    refine AWp.regionM fun K3 hK3 => ?_
    refine ARun2.callM (k1) ?_
    refine ARun2.endm (hK3 _ ?_)
    refine AWp.regionM fun K4 hK4 => ?_
    refine ARun2.callM (k2) ?_
    refine ARun2.endm (hK4 _ ?_)
    refine AWp.seqK fun K5 hK5 => ?_
    refine AWp.regionW ?_
    refine AWp.condLM (fun c1 => ?_) (fun c1 => ?_)
    · skip
      exfalso
      rw [beq_iff_eq] at c1
      omega
    · skip
      refine AWp.skip ?_
      refine hK5 _ ?_
      refine AWp.drS [[(8, none)], [(49, some 0)], [(7, none), (50, some 1)], [(0, none), (50, some 1)], [(1, none), (50, some 1)], [(2, none), (50, some 1)], [(52, some 3), (53, some 4), (54, some 5), (50, some 1)], [(51, some 2), (55, some 6), (50, some 1)], [(50, some 1), (56, some 7)], [(57, some 8)], [(12, none), (58, some 9)], [(58, some 9), (59, some 10)], [(60, some 11)], [(9, none), (61, some 12)], [(0, none), (61, some 12)], [(62, some 13), (63, some 14), (61, some 12)], [(61, some 12), (64, some 15)], [(65, some 16)], [(10, none), (66, some 17)], [(1, none), (66, some 17)], [(67, some 18), (68, some 19), (66, some 17)], [(66, some 17), (69, some 20)], [(70, some 21)], [(11, none), (71, some 22)], [(2, none), (71, some 22)], [(72, some 23), (73, some 24), (71, some 22)], [(71, some 22), (74, some 25)]] fun G hG => ?_
      refine Dr.sim ?_
      try simp only [List.cons_append, List.nil_append]
      refine Dr.sim ?_
      try simp only [List.cons_append, List.nil_append]
      refine Dr.sim ?_
      try simp only [List.cons_append, List.nil_append]
      refine Dr.sim ?_
      try simp only [List.cons_append, List.nil_append]
      refine Dr.sim ?_
      try simp only [List.cons_append, List.nil_append]
      refine Dr.sim ?_
      try simp only [List.cons_append, List.nil_append]
      refine Dr.call (k4) ?_
      try simp only [List.cons_append, List.nil_append]
      refine Dr.call (k3) ?_
      try simp only [List.cons_append, List.nil_append]
      refine Dr.sim ?_
      try simp only [List.cons_append, List.nil_append]
      refine Dr.sim ?_
      try simp only [List.cons_append, List.nil_append]
      refine Dr.sim ?_
      try simp only [List.cons_append, List.nil_append]
      refine Dr.sim ?_
      try simp only [List.cons_append, List.nil_append]
      refine Dr.sim ?_
      try simp only [List.cons_append, List.nil_append]
      refine Dr.sim ?_
      try simp only [List.cons_append, List.nil_append]
      refine Dr.sim ?_
      try simp only [List.cons_append, List.nil_append]
      refine Dr.sim ?_
      try simp only [List.cons_append, List.nil_append]
      refine Dr.sim ?_
      try simp only [List.cons_append, List.nil_append]
      refine Dr.sim ?_
      try simp only [List.cons_append, List.nil_append]
      refine Dr.sim ?_
      try simp only [List.cons_append, List.nil_append]
      refine Dr.sim ?_
      try simp only [List.cons_append, List.nil_append]
      refine Dr.sim ?_
      try simp only [List.cons_append, List.nil_append]
      refine Dr.sim ?_
      try simp only [List.cons_append, List.nil_append]
      refine Dr.sim ?_
      try simp only [List.cons_append, List.nil_append]
      refine Dr.sim ?_
      try simp only [List.cons_append, List.nil_append]
      refine Dr.sim ?_
      try simp only [List.cons_append, List.nil_append]
      refine Dr.call (k5) ?_
      try simp only [List.cons_append, List.nil_append]
      refine Dr.sim ?_
      try simp only [List.cons_append, List.nil_append]
      refine Dr.finM (n := 27) [(75, 26)] [] hG YtfghmfjbbjapgaaDoor.Facts.mixed fun KD hKD => ?_
      refine ARun2.endm (hKD _ ?_); clear hKD KD hG G
      refine AWp.ret ?_
      try simp only [thenQ, blockQ, noGo]
      refine bodyQ.m ?_
      clear hK5 K5 hK4 K4 hK3 K3 hK2 K2 hK1 K1
      first | done | exact Hand.go
theorem authMatches_c (k a : Nat) (b : List UInt8) (hk : k < 2 ^ 16) (ha : a < 2 ^ 16) : PC Tryd.prog 3 [u16 k, u16 a, .sl false 1 (bys b)] (bool true) := by
  by_cases h2 : b.length ≤ 1000
  · cases b with
    | nil => exact authMatches_no k a hk ha
    | cons x b => exact authMatches_yes k a _ hk ha (by simp) h2
  · exact authMatches_big k a b h2
theorem authNeeds_t (n : GNode) (t : UInt8) (hs : n.sz ≤ 2 ^ 24) : PC Tryd.prog 4 [nodeA false n, .val (.int .u8 (N t.toNat))] (bool true) := by
  have k1 := aneeds_c n t
  have k2 := rneeds_c n t (by omega)
  generalize needsN n t = v at k1 k2
  refine PC.of_bodyW (by simp only [push_cast]) Tryd.func4 rfl (by rw [Tryd.ntmps4]; simp) ?_
  refine AWp.regionW ?_
  refine AWp.seqK fun K1 hK1 => ?_
  refine AWp.regionM fun K2 hK2 => ?_
  refine ARun2.callM (awake19_c) ?_
  refine ARun2.callM (few_c [n] (by simp only [szs]; omega)) ?_
  refine ARun2.endm (hK2 _ ?_)
  refine AWp.condLM (fun c0 => ?_) (fun c0 => ?_)
  · skip
    refine AWp.regionM fun K3 hK3 => ?_
    refine ARun2.callM (awake19_c) ?_
    refine ARun2.endm (hK3 _ ?_)
    refine AWp.ret ?_
    try simp only [thenQ, blockQ, noGo]
    refine bodyQ.m ?_
    clear hK3 K3 hK2 K2 hK1 K1
    first | done | exact Hand.go
  · skip
    refine AWp.skip ?_
    refine hK1 _ ?_
    refine AWp.drS [[(2, none)], [(1, none)], [(14, some 0), (15, some 1)], [(2, none)], [(1, none)], [(17, some 3), (18, some 4)], [(16, some 2), (19, some 5)]] fun G hG => ?_
    refine Dr.sim ?_
    try simp only [List.cons_append, List.nil_append]
    refine Dr.sim ?_
    try simp only [List.cons_append, List.nil_append]
    refine Dr.call (k1) ?_
    try simp only [List.cons_append, List.nil_append]
    refine Dr.sim ?_
    try simp only [List.cons_append, List.nil_append]
    refine Dr.sim ?_
    try simp only [List.cons_append, List.nil_append]
    refine Dr.call (k2) ?_
    try simp only [List.cons_append, List.nil_append]
    refine Dr.boolEqM ?_
    simp only [↓reduceIte, beq_self_eq_true, List.cons_append, List.nil_append]
    refine Dr.finM (n := 7) [(20, 6)] [] hG YtfghmfjbbjapgaaDoor.Facts.mixed fun KD hKD => ?_
    refine ARun2.endm (hKD _ ?_); clear hKD KD hG G
    refine AWp.ret ?_
    try simp only [thenQ, blockQ, noGo]
    refine bodyQ.m ?_
    clear hK2 K2 hK1 K1
    first | done | exact Hand.go
theorem authNeeds_c (n : GNode) (t : Nat) (hs : n.sz ≤ 2 ^ 24) (ht : t < 256) : PC Tryd.prog 4 [nodeA false n, u8 t] (bool true) := by
  have h := authNeeds_t n (UInt8.ofNat t) hs
  rw [u8_nat ht] at h
  exact h
theorem authPads_no (z : Int) (h : z < 4 ∨ 65535 < z) : PC Tryd.prog 5 [.val (.int .i64 z)] (bool true) := by
  have k1 := apad_no z h
  have k3 : PC Tryd.prog 9 [chunkA false .zero, chunkA false .zero] (bool true) := sameC_self .zero ▸ small_zero.same
  simp only [GChunk.zero] at k1 k3
  refine PC.of_bodyW (by simp only [push_cast]) Tryd.func5 rfl (by rw [Tryd.ntmps5]; simp) ?_
  refine AWp.regionW ?_
  refine AWp.seqK fun K1 hK1 => ?_
  refine AWp.regionM fun K2 hK2 => ?_
  refine ARun2.callM (awake19_c) ?_
  refine ARun2.endm (hK2 _ ?_)
  refine AWp.condF ?_
  refine AWp.skip ?_
  refine hK1 _ ?_
  refine AWp.regionM fun K3 hK3 => ?_
  refine ARun2.callM (k1) ?_
  refine ARun2.endm (hK3 _ ?_)
  refine AWp.seqK fun K4 hK4 => ?_
  refine AWp.regionA fun K5 hK5 => ?_
  refine ARun.segm 3 fun KS hKS => ?_
  refine ARun2.endm (hKS _ ?_); clear hKS KS
  apply ARun.grpM 2 2 false 16 [0, 3, 4, 14]
  · intro g2 KG hKG
    refine ARun2.gom ?_
    exact ARun2.endm (hKG _ Le.grpM)
  refine ARun2.gom ?_
  refine ARun2.endm (hK5 _ ?_)
  refine AWp.condLM (fun c1 => ?_) (fun c1 => ?_)
  · skip
    refine AWp.regionM fun K6 hK6 => ?_
    refine ARun2.callM (k3) ?_
    refine ARun2.endm (hK6 _ ?_)
    refine AWp.ret ?_
    try simp only [thenQ, blockQ, noGo]
    refine bodyQ.m ?_
    clear hK6 K6 hK5 K5 hK4 K4 hK3 K3 hK2 K2 hK1 K1
    first | done | exact Hand.go
  · skip
    exfalso
    revert c1
    simp
    omega
theorem authPads_yes (n : Nat) (h1 : 4 ≤ n) (h2 : n ≤ 65535) : PC Tryd.prog 5 [.val (.int .i64 (N n))] (bool true) := by
  have k1 := apad_yes n h1 h2
  have hs := small_pad (n - 4) (by omega)
  have k3 : PC Tryd.prog 9 [chunkA false (padC (n - 4)), chunkA false (padC (n - 4))] (bool true) := sameC_self _ ▸ hs.same
  have k4 := csize_c (padC (n - 4)) (by show (List.replicate (n - 4) (0 : UInt8)).length ≤ _; rw [List.length_replicate]; omega) (by show nSize [] ≤ _; simp [nSize, nLens, tlvSize, sumUp])
  have e4 : 4 + (padC (n - 4)).data.length + nSize (padC (n - 4)).kids = n := by
    show 4 + (List.replicate (n - 4) (0 : UInt8)).length + nSize [] = n
    rw [List.length_replicate]; simp [nSize, nLens, tlvSize, sumUp]; omega
  rw [e4] at k4
  have k5 := hs.check
  rw [pad_check (n - 4) (by omega)] at k5
  simp only [padC] at k1 k3 k4 k5
  refine PC.of_bodyW (by simp only [push_cast]) Tryd.func5 rfl (by rw [Tryd.ntmps5]; simp) ?_
  refine AWp.regionW ?_
  refine AWp.seqK fun K1 hK1 => ?_
  refine AWp.regionM fun K2 hK2 => ?_
  refine ARun2.callM (awake19_c) ?_
  refine ARun2.endm (hK2 _ ?_)
  refine AWp.condF ?_
  refine AWp.skip ?_
  refine hK1 _ ?_
  refine AWp.regionM fun K3 hK3 => ?_
  refine ARun2.callM (k1) ?_
  refine ARun2.endm (hK3 _ ?_)
  refine AWp.seqK fun K4 hK4 => ?_
  refine AWp.regionA fun K5 hK5 => ?_
  refine ARun.segm 3 fun KS hKS => ?_
  refine ARun2.endm (hKS _ ?_); clear hKS KS
  apply ARun.grpM 2 2 false 16 [0, 3, 4, 14]
  · intro g2 KG hKG
    refine ARun2.gom ?_
    exact ARun2.endm (hKG _ Le.grpM)
  refine ARun2.gom ?_
  refine ARun2.endm (hK5 _ ?_)
  refine AWp.condLM (fun c1 => ?_) (fun c1 => ?_)
  · skip
    exfalso
    revert c1
    simp [N]
    omega
  · skip
    refine AWp.skip ?_
    refine hK4 _ ?_
    refine AWp.drS [[(4, none)], [(25, some 0)], [(3, none), (26, some 1)], [(0, none), (26, some 1)], [(28, some 3), (26, some 1)], [(29, some 4), (26, some 1)], [(30, some 5), (26, some 1)], [(27, some 2), (31, some 6), (26, some 1)], [(26, some 1), (32, some 7)], [(33, some 8)], [(3, none), (34, some 9)], [(35, some 10), (34, some 9)], [(0, none), (34, some 9)], [(36, some 11), (37, some 12), (34, some 9)], [(34, some 9), (38, some 13)], [(39, some 14)], [(3, none), (40, some 15)], [(41, some 16), (40, some 15)], [(42, some 17), (40, some 15)], [(40, some 15), (43, some 18)]] fun G hG => ?_
    refine Dr.sim ?_
    try simp only [List.cons_append, List.nil_append]
    refine Dr.sim ?_
    try simp only [List.cons_append, List.nil_append]
    refine Dr.sim ?_
    try simp only [List.cons_append, List.nil_append]
    refine Dr.sim ?_
    try simp only [List.cons_append, List.nil_append]
    refine Dr.sim ?_
    try simp only [List.cons_append, List.nil_append]
    refine Dr.make (n - 4) ?_ ?_
    · omega
    try simp only [List.cons_append, List.nil_append]
    refine Dr.sim ?_
    try simp only [List.cons_append, List.nil_append]
    refine Dr.call (k3) ?_
    try simp only [List.cons_append, List.nil_append]
    refine Dr.sim ?_
    try simp only [List.cons_append, List.nil_append]
    refine Dr.sim ?_
    try simp only [List.cons_append, List.nil_append]
    refine Dr.sim ?_
    try simp only [List.cons_append, List.nil_append]
    refine Dr.call (k4) ?_
    try simp only [List.cons_append, List.nil_append]
    refine Dr.sim ?_
    try simp only [List.cons_append, List.nil_append]
    refine Dr.sim ?_
    try simp only [List.cons_append, List.nil_append]
    refine Dr.sim ?_
    try simp only [List.cons_append, List.nil_append]
    refine Dr.sim ?_
    try simp only [List.cons_append, List.nil_append]
    refine Dr.sim ?_
    try simp only [List.cons_append, List.nil_append]
    refine Dr.call (k5) ?_
    try simp only [List.cons_append, List.nil_append]
    refine Dr.sim ?_
    try simp only [List.cons_append, List.nil_append]
    refine Dr.sim ?_
    try simp only [List.cons_append, List.nil_append]
    refine Dr.finM (n := 20) [(44, 19)] [] hG YtfghmfjbbjapgaaDoor.Facts.mixed fun KD hKD => ?_
    refine ARun2.endm (hKD _ ?_); clear hKD KD hG G
    refine AWp.ret ?_
    try simp only [thenQ, blockQ, noGo]
    refine bodyQ.m ?_
    clear hK5 K5 hK4 K4 hK3 K3 hK2 K2 hK1 K1
    first | done | exact Hand.go
theorem authPads_c (z : Int) : PC Tryd.prog 5 [.val (.int .i64 z)] (bool true) := by
  by_cases h : z < 4 ∨ 65535 < z
  · exact authPads_no z h
  · have e : z = N z.toNat := by unfold N; omega
    rw [e]
    exact authPads_yes z.toNat (by omega) (by omega)
end Go.Proofs.YtfghmfjbbjapgaaDoor.C
/- From the statement's reading to abstract values, and back. No condition. -/
namespace Go.Abs
open Go.ChangeShapes Go.WideShapes Go.RowKit
set_option linter.unusedVariables false
set_option linter.unusedSectionVars false
set_option linter.unusedSimpArgs false
/-- all that is there when the call begins -/
abbrev Old (W : World) : Nat → Prop := fun b => b < W.heap.size
theorem RW.start (W : World) : RW (E0 W.heap.size W (Old W) []) [] [] (Old W) W :=
  { ep := Nat.le_refl _, os := rfl, tape := rfl, output := rfl, size := Nat.le_refl _, block := fun _ _ _ => rfl, pre := fun k v h => by simp at h, bsub := fun _ h => h, bnew := fun _ h => .inl h,
    blt := fun _ h => h, len := rfl, obs := fun k o h => by simp at h, dis := fun i j o o' u v b _ h => by simp at h, prv := fun k o v b h => by simp at h }
theorem PC.answers {P : Program} {f : FuncId} {ys : List AV} {v : Value} (h : PC P f ys (.val v)) {W : World} (hg : Globs W (Old W) []) {args : Array Value} (ha : RelL W (Old W) W.heap.size [] ys args.toList) :
    Calls P f args W fun e W' => e = .returned v ∧ Below W.heap.size W W' := by
  have := h.2 W.heap.size W [] (Old W) args.toList hg (RW.start W) ha (fun e W' => e = .returned v ∧ Below W.heap.size W W') (by
    rintro r' v' τ' ρ' B' w' ⟨rfl, rfl⟩ hw hr
    cases hr
    exact ⟨rfl, ⟨hw.os, hw.tape, hw.output, hw.size, fun k hk => hw.block k hk ⟨fun ⟨u, hu, _⟩ => by simp at hu, fun h => by cases h⟩⟩⟩)
  simpa using this
section
variable {H : Type} {enc : TypeId × Value → H} {P : Program} {W W' : World}
theorem trodAll_stays (hl : laidOutB P = true) (hb : Below W.heap.size W W') {sp' : Nat → Bool} : ∀ {ts : List TypeId} {vs : List Value} {ds : List (DataW H)} {ps : List MemPlace}, (∀ t ∈ ts, P.readableRec t = true ∧ t < P.types.size) →
    DataW.TrodAll enc P W 0 (fun _ => true) true ts vs ds ps → (∀ p ∈ ps, p.block < W.heap.size) → (∀ p ∈ ps, sp' p.block = true) → DataW.TrodAll enc P W' 0 sp' true ts vs ds ps
  | [], _, _, _, _, h, _, _ => by
    obtain ⟨rfl, rfl, rfl⟩ := trodAll_nil h
    rfl
  | t :: ts, _, _, _, ht, h, hlt, hs => by
    obtain ⟨v, vs1, d, ds1, a, b, rfl, rfl, rfl, h1, h2⟩ := trodAll_cons h
    have := ht t (by simp)
    exact ⟨a, b, WideElems.Trod_stays hl this.1 this.2 h1 (fun x hx => hb.same (hlt x (by simp [hx]))) (fun x hx => hs x (by simp [hx])),
      trodAll_stays hl hb (fun u hu => ht u (by simp [hu])) h2 (fun x hx => hlt x (by simp [hx])) (fun x hx => hs x (by simp [hx])), rfl⟩
/-- a law holds: it answers true, and all that was there is as it was -/
theorem post_true {f : Func} {s : ChangeSpec} {fresh : Bool} {args : Array Value} {ds gs : List (DataW H)} {before : List MemPlace} {tb : TypeId}
    (hW : DataW.Whole enc P f.params.toList s.vars false W args.toList ds gs before) (hv : s.vars = []) (hs : s.fn H (ds ++ gs) = { results := [.lit (.bool true)], args := ds }) (hr : f.resultTypes = #[tb]) (hb : P.underlying tb = some .bool)
    (hl : laidOutB P = true) (ht : (f.params.toList.all fun t => P.readableRec t && decide (t < P.types.size)) = true) (hB : Below W.heap.size W W') :
    s.post enc P f false fresh false false W args (.bool true) W' := by
  have hW0 := hW
  obtain ⟨p, q, hA, hV, rfl, hfz, _⟩ := hW
  rw [hv] at hV
  have hg : gs = [] ∧ q = [] := by
    cases gs with
    | nil => exact ⟨rfl, hV⟩
    | cons g gs => exact hV.elim
  obtain ⟨rfl, rfl⟩ := hg
  have hlt : ∀ x ∈ p ++ [], x.block < W.heap.size := fun x hx => by simpa using hW0.lt x hx
  refine ⟨ds, [], p ++ [], [], p, [], hW0, ?_, ?_, ?_, ?_, fun h => by cases h⟩
  · rw [hs, hr]
    exact trodAll_cons_mk (p := []) (p' := []) (shut_bool hb _) trodAll_mk0
  · rw [hs]
    refine trodAll_stays hl hB (fun t h => ?_) hA (fun x hx => hlt x (by simp [hx])) (fun x hx => by simpa using hlt x (by simp [hx]))
    have := List.all_eq_true.1 ht t h
    simpa using this
  · rw [hs, hv]; exact rfl
  · refine ⟨hB.os, hB.output, fun i hi => ?_⟩
    rw [hB.block i hi]
    cases W.heap[i]? with
    | none => rfl
    | some o => cases o <;> simp
theorem addr_of_cell {w : World} {a : Addr} {v : Value} (h : w.cell? a = some v) : a.spot = none := by
  unfold World.cell? at h
  split at h
  · split at h
    · cases h
    · rename_i hs; cases hh : a.spot <;> simp_all
  · cases h
/-- a slice of numbers, read -/
theorem rel_ints0 {t e : TypeId} {k : IntKind} {v : Value} {d : DataW H} {ps : List MemPlace} {fuel : Nat} (ht : P.underlying t = some (.slice e)) (he : P.underlying e = some (.int k)) (hc : P.cellsOf e = 1)
    (hf : DataW.trod enc P W 0 (fun _ => true) true fuel t [v] = some (d, ps)) :
    ∃ (zs : List Int), Rel W (Old W) W.heap.size [] (.sl false 1 (zs.map fun n => .val (.int k n))) v ∧ (∀ n ∈ zs, (Lit.int k n).wf = true) ∧ ((d = .nil ∧ zs = []) ∨ ∃ rest, d = .slice (lits k zs) rest) := by
  rcases open_ints ht he hc hf with ⟨h1, h2⟩ | ⟨a, len, cap, zs, h1, h2, h3, h4, h5, h6, h7, h8⟩
  · simp only [List.cons.injEq, and_true] at h1
    subst h1
    exact ⟨[], .slE _ _ _ _, by simp, .inl ⟨congrArg Prod.fst h2, rfl⟩⟩
  · simp only [List.cons.injEq, and_true] at h1
    subst h1
    simp only [if_true] at h5
    refine ⟨zs.take len, ?_, fun n hn => h8 n (List.mem_of_mem_take hn), .inr ⟨_, congrArg Prod.fst h6⟩⟩
    have hlen : (zs.take len).length = len := by rw [List.length_take]; omega
    cases hq : zs.take len with
    | nil =>
      rw [hq] at hlen
      simp at hlen
      subst hlen
      exact .slE _ _ _ _
    | cons z l =>
      have hpos : 0 < zs.length := by rw [hq] at hlen; simp at hlen; omega
      have h0 := h7 0 hpos
      have hsp : a.spot = none := addr_of_cell (show W.cell? a = _ from h0)
      obtain ⟨b, o, sp⟩ := a
      simp only at hsp
      subst hsp
      have hblk : b < W.heap.size := by
        have := World.block_lt_of_cell? W _ h0
        simpa [Addr.add] using this
      rw [hq] at hlen
      simp only [List.length_cons] at hlen
      subst hlen
      have hrow := RelRow.mk (w := W) (B := Old W) (bs := W.heap.size) (ρ := []) (nw := false) (b := b) (sz := 1) (o := o) (xs := (z :: l).map fun n => AV.val (.int k n)) (vs := (z :: l).map fun n => Value.int k n) hblk (fun h => by cases h) ?_ ?_ ?_
      · have := Rel.sl (cap := cap) (by simpa using hrow) (by simpa using h3)
        simpa using this
      · have : (((z :: l).map fun n => AV.val (.int k n)).flatMap AV.cells) = ((z :: l).map fun n => Value.int k n).map AV.val := by
          generalize z :: l = m
          induction m with
          | nil => rfl
          | cons x m ih => simp only [List.map_cons, List.flatMap_cons, ih]; rfl
        rw [this]
        have key : ∀ l : List Value, RelL W (Old W) W.heap.size [] (l.map AV.val) l := fun l => by induction l with
          | nil => exact .nil
          | cons x l ih => exact .cons (.val x) ih
        exact key _
      · intro x hx
        simp only [List.mem_map] at hx
        obtain ⟨n, _, rfl⟩ := hx
        exact ⟨rfl, fun c hc => by simp [AV.cells] at hc; subst hc; rfl⟩
      · intro j v hj
        rw [← hq, List.getElem?_map, List.getElem?_take] at hj
        split at hj
        · rename_i hjl
          simp only [Option.map_eq_some_iff] at hj
          obtain ⟨n, hn, rfl⟩ := hj
          have hlt : j < zs.length := by have := List.getElem?_eq_some_iff.1 hn; exact this.1
          have := h7 j hlt
          rw [addr_add] at this
          rw [this, List.getD_eq_getElem?_getD, hn]; rfl
        · simp at hj
end
end Go.Abs
/- Nodes, read. -/
set_option linter.unusedVariables false
set_option linter.unusedSimpArgs false
namespace Go.Proofs.YtfghmfjbbjapgaaDoor.C
open Go.Abs Go.ChangeShapes Go.WideShapes Go.ChangeAt Go.RowKit
theorem own : ownKnob Tryd.prog.godebug = none := by kernel_rfl
theorem laidOut : laidOutB Tryd.prog = true := by kernel_rfl
theorem nat_of {n : Int} {m : Nat} (h : 0 ≤ n ∧ n ≤ m) : ∃ x : Nat, n = N x ∧ x < m + 1 := ⟨n.toNat, by unfold N; omega, by omega⟩
theorem u8_of {n : Int} (h : (Lit.int .u8 n).wf = true) : ∃ m : Nat, n = N m ∧ m < 2 ^ 8 := nat_of (m := 255) (by simpa [Lit.wf, IntKind.min, IntKind.max, IntKind.signed, IntKind.bits] using h)
theorem u16_of {n : Int} (h : (Lit.int .u16 n).wf = true) : ∃ m : Nat, n = N m ∧ m < 2 ^ 16 := nat_of (m := 65535) (by simpa [Lit.wf, IntKind.min, IntKind.max, IntKind.signed, IntKind.bits] using h)
theorem int_bounds {k : IntKind} {n : Int} (h : (Lit.int k n).wf = true) : k.min ≤ n ∧ n ≤ k.max := by simpa [Lit.wf] using h
theorem bys_of {zs : List Int} (h : ∀ n ∈ zs, (Lit.int .u8 n).wf = true) : (zs.map fun n => AV.val (.int .u8 n)) = bys (zs.map fun n => UInt8.ofNat n.toNat) := by
  unfold bys
  rw [List.map_map]
  refine List.map_congr_left fun n hn => ?_
  have h2 : 0 ≤ n ∧ n ≤ 255 := by simpa [Lit.wf, IntKind.min, IntKind.max, IntKind.signed, IntKind.bits] using h n hn
  have h3 : N (UInt8.ofNat n.toNat).toNat = n := by
    rw [UInt8.toNat_ofNat']; unfold N; omega
  show AV.val (.int .u8 n) = .val (.int .u8 (N (UInt8.ofNat n.toNat).toNat))
  rw [h3]
theorem bulk_one {H : Type} (d : DataW H) : 1 ≤ Rows.uptoBulk d := by
  cases d with
  | lit l => cases l <;> simp [Rows.uptoBulk]
  | _ => simp [Rows.uptoBulk]
theorem bulk_len {H : Type} : ∀ l : List (DataW H), l.length ≤ Rows.uptoBulkAll l
  | [] => by simp [Rows.uptoBulkAll]
  | x :: r => by
    have h1 := bulk_one x
    have h2 := bulk_len r
    simp only [Rows.uptoBulkAll, List.length_cons]; omega
theorem bulk_lits' {H : Type} (k : IntKind) (zs : List Int) (rest : List (DataW H)) : zs.length + 1 ≤ Rows.uptoBulk (.slice (lits k zs) rest : DataW H) := by
  have := bulk_len (lits k zs : List (DataW H))
  simp only [lits, List.length_map] at this
  simp only [Rows.uptoBulk, lits]
  omega
section
variable {H : Type} {enc : TypeId × Value → H} {W : World}
/-- bytes -/
theorem rel_bytes0 {v : Value} {d : DataW H} {ps : List MemPlace} {fuel : Nat} (hf : DataW.trod enc Tryd.prog W 0 (fun _ => true) true fuel 23 [v] = some (d, ps)) :
    ∃ l : List UInt8, Rel W (Old W) W.heap.size [] (.sl false 1 (bys l)) v ∧ l.length ≤ Rows.uptoBulk d := by
  have hc : Tryd.prog.cellsOf 5 = 1 := by kernel_rfl
  obtain ⟨zs, k0, k1, k2⟩ := rel_ints0 Tryd.underlying23 Tryd.underlying5 hc hf
  rw [bys_of k1] at k0
  refine ⟨_, k0, ?_⟩
  rw [List.length_map]
  rcases k2 with ⟨_, rfl⟩ | ⟨rest, rfl⟩
  · simp
  · have := bulk_lits' .u8 zs rest; omega
theorem nodeA_one (n : GNode) : ∀ c ∈ (nodeA false n).cells, c.one = true := by
  rw [nodeA_eq]; simp [AV.cells, AV.one, Value.oneCell']
theorem node_fields : ∃ f0 f1 f2 : Field, Tryd.prog.underlying 37 = some (.struct #[f0, f1, f2]) ∧ f0.type = 22 ∧ f0.offset = 0 ∧ f1.type = 23 ∧ f1.offset = 1 ∧ f2.type = 25 ∧ f2.offset = 2 :=
  ⟨_, _, _, Tryd.underlying37, rfl, rfl, rfl, rfl, rfl, rfl⟩
set_option maxRecDepth 100000 in
theorem rel_node0 : ∀ (fuel : Nat),
    (∀ (cs : List Value) (d : DataW H) (ps : List MemPlace), DataW.trod enc Tryd.prog W 0 (fun _ => true) true fuel 37 cs = some (d, ps) → ∃ n : GNode, RelL W (Old W) W.heap.size [] (nodeA false n).cells cs ∧ n.sz ≤ Rows.uptoBulk d ∧ n.tyOk = true) ∧
    (∀ (v : Value) (d : DataW H) (ps : List MemPlace), DataW.trod enc Tryd.prog W 0 (fun _ => true) true fuel 25 [v] = some (d, ps) → ∃ l : List GNode, Rel W (Old W) W.heap.size [] (.sl false 3 (nodesA false l)) v ∧ szs l ≤ Rows.uptoBulk d ∧ tysOk l = true) := by
  have c16 : Tryd.prog.cellsOf 22 = 1 := by kernel_rfl
  have c8 : Tryd.prog.cellsOf 23 = 1 := by kernel_rfl
  have cn : Tryd.prog.cellsOf 25 = 1 := by kernel_rfl
  have c3 : Tryd.prog.cellsOf 37 = 3 := by kernel_rfl
  intro fuel
  induction fuel with
  | zero => exact ⟨fun cs d ps h => by simp [DataW.trod] at h, fun v d ps h => by simp [DataW.trod] at h⟩
  | succ fuel ih =>
    refine ⟨?_, ?_⟩
    · intro cs d ps h
      obtain ⟨f0, f1, f2, hs, a0, b0, a1, b1, a2, b2⟩ := node_fields
      obtain ⟨xs, m, hm, hx, hl, hlen, hall⟩ := DataW.trod_struct hs h
      have hm' : m = fuel := by omega
      subst hm'
      have e0 := hall 0 f0 rfl
      have e1 := hall 1 f1 rfl
      have e2 := hall 2 f2 rfl
      rw [a0, b0, c16] at e0
      rw [a1, b1, c8] at e1
      rw [a2, b2, cn] at e2
      rw [c3] at hl
      match xs, hlen, cs, hl with
      | [y0, y1, y2], _, [v0, v1, v2], _ =>
        simp only [List.drop_zero, List.take_succ_cons, List.take_zero, List.drop_succ_cons, List.getElem?_cons_zero, List.getElem?_cons_succ] at e0 e1 e2
        obtain ⟨n0, h0, hy0, hw0⟩ := DataW.trod_int Tryd.underlying22 e0
        obtain ⟨l1, r1, s1⟩ := rel_bytes0 (d := y1.1) (ps := y1.2) e1
        obtain ⟨l2, r2, s2, t2⟩ := ih.2 v2 y2.1 y2.2 e2
        have hb := int_bounds hw0
        have hn : N n0.toNat = n0 := by
          have : (0 : Int) ≤ n0 := hb.1
          unfold N; omega
        have hle : n0 ≤ 65535 := hb.2
        refine ⟨.mk n0.toNat l1 l2, ?_, ?_, by rw [GNode.tyOk, t2]; simp; omega⟩
        · rw [nodeA_eq]
          simp only [List.cons.injEq, and_true] at h0
          subst h0
          have := Rel.val (w := W) (B := Old W) (bs := W.heap.size) (ρ := []) (.int .u16 (N n0.toNat))
          rw [hn] at this
          exact .cons (by show Rel _ _ _ _ (.val (.int .u16 (N n0.toNat))) _; rw [hn]; exact this) (.cons r1 (.cons r2 .nil))
        · have hd : d = .agg [y0.1, y1.1, y2.1] := congrArg Prod.fst hx
          rw [hd]
          have := bulk_one y0.1
          simp only [GNode.sz, Rows.uptoBulk, Rows.uptoBulkAll]
          omega
    · intro v d ps h
      rcases DataW.trod_slice Tryd.underlying25 h with ⟨h1, h2⟩ | ⟨a, len, cap, elems, rest, m, hm, h1, h2, _, hlc, hcm, hlen, hel, _, _⟩
      · simp only [List.cons.injEq, and_true] at h1
        subst h1
        refine ⟨[], by simpa [nodesA] using Rel.slE false 3 none 0, by simp [szs], rfl⟩
      · have hm' : m = fuel := by omega
        subst hm'
        simp only [List.cons.injEq, and_true] at h1
        subst h1
        rw [c3] at hel
        -- every element is a node
        have each : ∀ i (hi : i < elems.length), ∃ (n : GNode) (cs : List Value), cs.length = 3 ∧ (∀ j, j < 3 → W.cell? ((a.add (i * 3)).add j) = cs[j]?) ∧ RelL W (Old W) W.heap.size [] (nodeA false n).cells cs ∧ n.sz ≤ Rows.uptoBulk elems[i].1 ∧ n.tyOk = true := by
          intro i hi
          have hk := hel i (by omega)
          rw [List.getElem?_eq_getElem hi] at hk
          obtain ⟨cs, hcs, hy⟩ := Option.bind_eq_some_iff.1 hk
          obtain ⟨_, hl3, hcell⟩ := World.cells?_some hcs
          obtain ⟨n, r, s, tt⟩ := ih.1 cs elems[i].1 elems[i].2 hy
          exact ⟨n, cs, hl3, hcell, r, s, tt⟩
        cases hq : elems with
        | nil =>
          rw [hq] at hlen
          simp at hlen
          subst hlen
          exact ⟨[], by simpa [nodesA] using Rel.slE false 3 (some a) cap, by simp [szs], rfl⟩
        | cons x r =>
          have hpos : 0 < elems.length := by rw [hq]; simp
          obtain ⟨n0, cs0, hl0, hc0, _, _, _⟩ := each 0 hpos
          have hcell0 := hc0 0 (by omega)
          simp only [Nat.zero_mul] at hcell0
          rw [List.getElem?_eq_getElem (by omega)] at hcell0
          have hsp : a.spot = none := addr_of_cell (show W.cell? a = _ from hcell0)
          obtain ⟨b, o, sp⟩ := a
          simp only at hsp
          subst hsp
          have hblk : b < W.heap.size := by
            have := World.block_lt_of_cell? W _ hcell0
            simpa [Addr.add] using this
          have rows : ∀ k, k ≤ elems.length → ∃ l : List GNode, l.length = k ∧ RelRow W (Old W) W.heap.size [] false b 3 (o + (elems.length - k) * 3) (nodesA false l) ∧ szs l ≤ Rows.uptoBulkAll ((elems.drop (elems.length - k)).map (·.1)) ∧ tysOk l = true := by
            intro k
            induction k with
            | zero => exact fun _ => ⟨[], rfl, by simpa [nodesA] using RelRow.nil, by simp [szs], rfl⟩
            | succ k ihk =>
              intro hk
              obtain ⟨l, p1, p2, p3, p4⟩ := ihk (by omega)
              have hi : elems.length - (k + 1) < elems.length := by omega
              obtain ⟨n, cs, q1, q2, q3, q4, q5⟩ := each _ hi
              have hd : elems.drop (elems.length - (k + 1)) = elems[elems.length - (k + 1)] :: elems.drop (elems.length - k) := by
                rw [List.drop_eq_getElem_cons hi, show elems.length - (k + 1) + 1 = elems.length - k by omega]
              refine ⟨n :: l, by simp [p1], ?_, ?_, by rw [tysOk, q5, p4]; rfl⟩
              · rw [nodesA_cons]
                refine .cons (RelCells.mk (B := Old W) (bs := W.heap.size) (nw := false) hblk (fun h => by cases h) q3 (nodeA_one n) ?_) (by rw [nodeA_eq]; rfl) ?_
                · intro j v hj
                  have hj3 : j < 3 := by rw [← q1]; exact (List.getElem?_eq_some_iff.1 hj).1
                  have := q2 j hj3
                  rw [addr_add, addr_add] at this
                  rw [this, hj]
                · have e : o + (elems.length - (k + 1)) * 3 + 3 = o + (elems.length - k) * 3 := by omega
                  rw [e]; exact p2
              · rw [hd]
                simp only [szs, List.map_cons, Rows.uptoBulkAll]
                omega
          obtain ⟨l, p1, p2, p3, p4⟩ := rows elems.length (Nat.le_refl _)
          rw [Nat.sub_self] at p2 p3
          have hd : d = .slice (elems.map (·.1)) (rest.map (·.1)) := congrArg Prod.fst h2
          refine ⟨l, ?_, ?_, p4⟩
          · match l, p1 with
            | n :: l, p1 =>
              rw [nodesA_cons] at p2 ⊢
              have := Rel.sl (cap := cap) (by simpa using p2) (by rw [nodesA_len]; simp at p1; omega)
              rw [nodesA_len] at this
              have e : l.length + 1 = len := by simp at p1; omega
              rw [e] at this
              exact this
            | [], p1 => simp at p1; omega
          · rw [hd]
            simp only [Rows.uptoBulk, List.drop_zero] at *
            omega
set_option maxRecDepth 100000 in
/-- a node, read -/
theorem rel_nodeT {r : Reach} {b0 : Nat} {v : Value} {d : DataW H} {ps : List MemPlace} (hval : Value.okWide Tryd.prog W r b0 37 v) (hd : DataW.Trod enc Tryd.prog W 0 (fun _ => true) true 37 v d ps) :
    ∃ n : GNode, Rel W (Old W) W.heap.size [] (nodeA false n) v ∧ n.sz ≤ Rows.uptoBulk d ∧ n.tyOk = true := by
  obtain ⟨f0, f1, f2, hs, _⟩ := node_fields
  obtain ⟨cs, rfl, _⟩ := okWide_struct hs hval
  obtain ⟨fuel, hf⟩ := hd
  obtain ⟨n, h1, h2, h3⟩ := (rel_node0 fuel).1 _ d ps hf
  refine ⟨n, ?_, h2, h3⟩
  have := Rel.agg h1
  rw [nodeA_eq] at this ⊢
  simpa [AV.cells, Value.cells] using this
set_option maxRecDepth 100000 in
theorem rel_node {r : Reach} {b0 : Nat} {v : Value} {d : DataW H} {ps : List MemPlace} (hval : Value.okWide Tryd.prog W r b0 37 v) (hd : DataW.Trod enc Tryd.prog W 0 (fun _ => true) true 37 v d ps) :
    ∃ n : GNode, Rel W (Old W) W.heap.size [] (nodeA false n) v ∧ n.sz ≤ Rows.uptoBulk d := by
  obtain ⟨n, h1, h2, _⟩ := rel_nodeT hval hd; exact ⟨n, h1, h2⟩
set_option maxRecDepth 100000 in
/-- bytes, read -/
theorem rel_bytes {r : Reach} {b0 : Nat} {v : Value} {d : DataW H} {ps : List MemPlace} (hval : Value.okWide Tryd.prog W r b0 23 v) (hd : DataW.Trod enc Tryd.prog W 0 (fun _ => true) true 23 v d ps) :
    ∃ l : List UInt8, Rel W (Old W) W.heap.size [] (.sl false 1 (bys l)) v ∧ l.length ≤ Rows.uptoBulk d := by
  obtain ⟨A, len0, cap0, rfl⟩ := okWide_slice Tryd.underlying23 hval
  obtain ⟨fuel, hf⟩ := hd
  exact rel_bytes0 hf
end
end Go.Proofs.YtfghmfjbbjapgaaDoor.C
/- What a datum of numbers and texts says of the cells that read as it. -/
set_option linter.unusedVariables false
set_option linter.unusedSimpArgs false
namespace Go.Proofs.YtfghmfjbbjapgaaDoor.C
mutual
def flatD : DataW Unit → List Value
  | .lit (.int k n) => [.int k n]
  | .lit (.string s) => [.string ⟨s.toArray⟩]
  | .agg ps => flatDs ps
  | _ => []
def flatDs : List (DataW Unit) → List Value
  | [] => []
  | d :: r => flatD d ++ flatDs r
end
theorem flatDs_flatMap : ∀ l : List (DataW Unit), flatDs l = l.flatMap flatD
  | [] => rfl
  | d :: r => by rw [flatDs, flatDs_flatMap r, List.flatMap_cons]
section
variable {P : Program} {W : World}
/-- what reads as a datum is its cells -/
def Flat (P : Program) (W : World) (t : TypeId) : Prop := ∀ (fuel : Nat) (cs : List Value) (x : DataW Unit × List MemPlace), DataW.trod (fun _ => ()) P W 0 (fun _ => true) false fuel t cs = some x → cs = flatD x.1
theorem flat_int {t : TypeId} {k : IntKind} (h : P.underlying t = some (.int k)) : Flat P W t := by
  intro fuel cs x hx
  obtain ⟨n, rfl, rfl, _⟩ := DataW.trod_int h hx
  rfl
theorem flat_string {t : TypeId} (h : P.underlying t = some .string) : Flat P W t := by
  intro fuel cs x hx
  obtain ⟨s, rfl, rfl, _⟩ := DataW.trod_string h hx
  simp [flatD]
theorem blocks_flat (f : DataW Unit × List MemPlace → List Value) (m : Nat) : ∀ (xs : List (DataW Unit × List MemPlace)) (cs : List Value), cs.length = xs.length * m → (∀ i x, xs[i]? = some x → (cs.drop (i * m)).take m = f x) → cs = xs.flatMap f
  | [], cs, h, _ => by simpa using h
  | x :: r, cs, h, hk => by
    have h0 := hk 0 x rfl
    rw [Nat.zero_mul, List.drop_zero] at h0
    have ih := blocks_flat f m r (cs.drop m) (by rw [List.length_drop, h, List.length_cons, Nat.succ_mul]; omega) fun i y hy => by
      have := hk (i + 1) y hy
      rwa [Nat.succ_mul, Nat.add_comm, ← List.drop_drop] at this
    rw [List.flatMap_cons, ← h0, ← ih, List.take_append_drop]
theorem flat_of_parts {xs : List (DataW Unit × List MemPlace)} : flatD (.agg (xs.map (·.1))) = xs.flatMap fun x => flatD x.1 := by
  rw [flatD, flatDs_flatMap, List.flatMap_map]
theorem flat_array {t e : TypeId} {n : Nat} (ht : P.underlying t = some (.array n e)) (hc : P.cellsOf t = n * P.cellsOf e) (he : Flat P W e) : Flat P W t := by
  intro fuel cs x hx
  obtain ⟨xs, m, rfl, rfl, hl, hn, hk⟩ := DataW.trod_array ht hx
  show cs = flatD (.agg (xs.map (·.1)))
  rw [flat_of_parts]
  refine blocks_flat _ (P.cellsOf e) xs cs (by rw [hl, hc, hn]) fun i y hy => ?_
  have hi : i < n := by rw [← hn]; exact (List.getElem?_eq_some_iff.1 hy).1
  have := hk i hi
  rw [hy] at this
  exact he _ _ _ this
theorem flat_struct {t : TypeId} {fs : Array Field} (ht : P.underlying t = some (.struct fs)) (hc : P.cellsOf t = fs.size) (hf : ∀ (i : Nat) (f : Field), fs[i]? = some f → f.offset = i ∧ P.cellsOf f.type = 1 ∧ Flat P W f.type) : Flat P W t := by
  intro fuel cs x hx
  obtain ⟨xs, m, rfl, rfl, hl, hn, hk⟩ := DataW.trod_struct ht hx
  show cs = flatD (.agg (xs.map (·.1)))
  rw [flat_of_parts]
  refine blocks_flat _ 1 xs cs (by rw [hl, hc, hn, Nat.mul_one]) fun i y hy => ?_
  have hi : i < fs.size := by rw [← hn]; exact (List.getElem?_eq_some_iff.1 hy).1
  obtain ⟨h1, h2, h3⟩ := hf i fs[i] (Array.getElem?_eq_getElem hi)
  have := hk i fs[i] (Array.getElem?_eq_getElem hi)
  rw [hy, h1, h2] at this
  rw [Nat.mul_one]
  exact h3 _ _ _ this
/-- a listed variable's cells -/
theorem laid_cells {l : List (String × DataW Unit)} (h : laidMet P l W) {n : String} {d : DataW Unit} {g : Nat} {t : TypeId} {L : List Value} (hm : (n, d) ∈ l) (hg : P.globalNamed n = some g) (ht : (P.globals[g]?).map (·.type) = some t) (hf : Flat P W t) (hd : flatD d = L) :
    ∀ (i : Nat) (v : Value), L[i]? = some v → W.cell? ⟨g, i, none⟩ = some v := by
  obtain ⟨ps, hv, _⟩ := h
  have key : ∀ {l : List (String × DataW Unit)} {ps : List MemPlace}, DataW.LaidVars P W l ps → (n, d) ∈ l → ∃ cs fuel p, W.var? P n = some cs ∧ DataW.trod (fun _ => ()) P W 0 (fun _ => true) false fuel t cs.toList = some (d, p) := by
    intro l
    induction l with
    | nil => intro ps _ hm; cases hm
    | cons y r ih =>
      intro ps hv hm
      obtain ⟨g', t', cs, fuel, p, q, h1, h2, h3, h4, h5, _⟩ := hv
      rcases List.mem_cons.1 hm with e | e
      · cases e
        obtain rfl := Option.some.inj (hg.symm.trans h1)
        obtain rfl := Option.some.inj (ht.symm.trans h2)
        exact ⟨cs, fuel, p, h3, h4⟩
      · exact ih h5 e
  obtain ⟨cs, fuel, p, h1, h2⟩ := key hv hm
  have h3 : cs.toList = L := (hf _ _ _ h2).trans hd
  intro i v hi
  rw [World.var?_cell hg h1 i, ← Array.getElem?_toList, h3]
  exact hi
end
end Go.Proofs.YtfghmfjbbjapgaaDoor.C
/- What the rows' list of package-level variables gives: the tables of kinds, the cell of errors.errorType; a world that meets the list. -/
set_option linter.unusedVariables false
set_option linter.unusedSimpArgs false
namespace Go.Proofs.YtfghmfjbbjapgaaDoor.C
open Go.Abs Go.ChangeShapes Go.WideShapes Go.ChangeAt Go.RowKit
def laidL : List (String × DataW Unit) := [("errors.errorType", Rows.laid_errors_errorType), ("wharf/kind.table", Rows.laid_wharf_kind_table), ("wharf/kind.inside", Rows.laid_wharf_kind_inside)]
def etCells : List Value := [.iface 138 (.agg #[.pointer (some ⟨4, 43, none⟩)])]
theorem etG : Tryd.prog.globalNamed "errors.errorType" = some 3 := by kernel_rfl
theorem etRt : (Tryd.prog.cutTypes.find? (·.1 == "internal/reflectlite.rtype")).map (·.2) = some 138 := by kernel_rfl
theorem etRow : ((List.range Tryd.prog.types.size).filter fun t => Tryd.prog.rowNamed t [101, 114, 114, 111, 114]) = [43] := by kernel_rfl
theorem etHandle : typeHandle Tryd.prog 43 = .pointer (some ⟨4, 43, none⟩) := by kernel_rfl
theorem laid_parts {W : World} (h : laidMetH Tryd.prog laidL W) : laidMet Tryd.prog [("wharf/kind.table", Rows.laid_wharf_kind_table), ("wharf/kind.inside", Rows.laid_wharf_kind_inside)] W ∧ handlesMet Tryd.prog [("errors.errorType", Rows.laid_errors_errorType)] W := h
theorem handle_of_laid {W : World} (h : laidMetH Tryd.prog laidL W) : W.cell? ⟨3, 0, none⟩ = some (.iface 138 (.agg #[.pointer (some ⟨4, 43, none⟩)])) := by
  have h' := laid_parts h
  obtain ⟨name, u, ty, e1, e2, e3, e4, e5⟩ := h'.2 _ (List.mem_singleton.2 rfl)
  have en : name = [101, 114, 114, 111, 114] := (Option.some.inj e1).symm
  subst en
  obtain rfl := Option.some.inj (etRt.symm.trans e2)
  have hm : ty ∈ (List.range Tryd.prog.types.size).filter fun t => Tryd.prog.rowNamed t [101, 114, 114, 111, 114] := List.mem_filter.2 ⟨List.mem_range.2 e3, e4⟩
  rw [etRow] at hm
  obtain rfl := List.mem_singleton.1 hm
  rw [etHandle] at e5
  simpa using World.var?_cell etG e5 0
theorem cell_lt {W : World} {b i : Nat} {v : Value} (h : W.cell? ⟨b, i, none⟩ = some v) : b < W.heap.size := by
  rcases Nat.lt_or_ge b W.heap.size with h' | h'
  · exact h'
  · simp [World.cell?, Array.getElem?_eq_none h'] at h
theorem flat_kinds (W : World) : Flat Tryd.prog W 87 := by
  have h1 : Flat Tryd.prog W 5 := flat_int Tryd.underlying5
  have h2 : Flat Tryd.prog W 3 := flat_int Tryd.underlying3
  have h3 : Flat Tryd.prog W 9 := flat_string Tryd.underlying9
  refine flat_array Tryd.underlying87 (by kernel_rfl) (flat_struct Tryd.underlying60 (by kernel_rfl) fun i f hf => ?_)
  match i, hf with
  | 0, hf => simp at hf; subst hf; exact ⟨rfl, by kernel_rfl, h1⟩
  | 1, hf => simp at hf; subst hf; exact ⟨rfl, by kernel_rfl, h3⟩
  | 2, hf => simp at hf; subst hf; exact ⟨rfl, by kernel_rfl, h1⟩
  | 3, hf => simp at hf; subst hf; exact ⟨rfl, by kernel_rfl, h2⟩
  | 4, hf => simp at hf; subst hf; exact ⟨rfl, by kernel_rfl, h2⟩
  | 5, hf => simp at hf; subst hf; exact ⟨rfl, by kernel_rfl, h2⟩
  | 6, hf => simp at hf; subst hf; exact ⟨rfl, by kernel_rfl, h2⟩
  | i + 7, hf => simp at hf
theorem flat_inside (W : World) : Flat Tryd.prog W 90 :=
  flat_array Tryd.underlying90 (by kernel_rfl) (flat_array Tryd.underlying89 (by kernel_rfl) (flat_int Tryd.underlying3))
theorem cells_table {W : World} (h : laidMetH Tryd.prog laidL W) : GlobC W 0 kcells :=
  laid_cells (laid_parts h).1 (.head _) (by kernel_rfl) (by kernel_rfl) (flat_kinds W) (by kernel_rfl)
theorem cells_inside {W : World} (h : laidMetH Tryd.prog laidL W) : GlobC W 1 icells :=
  laid_cells (laid_parts h).1 (.tail _ (.head _)) (by kernel_rfl) (by kernel_rfl) (flat_inside W) (by kernel_rfl)
theorem cells_et {W : World} (h : laidMetH Tryd.prog laidL W) : GlobC W 3 etCells := by
  intro i v hi
  match i with
  | 0 => simp [etCells] at hi; subst hi; exact handle_of_laid h
  | i + 1 => simp [etCells] at hi
theorem glb_eq : glb = [(0, kcells), (1, icells), (3, etCells)] := by kernel_rfl
theorem globs_of_laid {W : World} (h : laidMetH Tryd.prog laidL W) : Globs W (Old W) [] := by
  intro p hp
  rw [glb_eq] at hp
  simp only [List.mem_cons, List.not_mem_nil, or_false] at hp
  rcases hp with rfl | rfl | rfl
  · exact ⟨cell_lt (cells_table h 0 _ rfl), fun v hv => (by cases hv), cells_table h⟩
  · exact ⟨cell_lt (cells_inside h 0 _ rfl), fun v hv => (by cases hv), cells_inside h⟩
  · exact ⟨cell_lt (handle_of_laid h), fun v hv => (by cases hv), cells_et h⟩
def setCells (cs : List Value) : Obj → Obj
  | .cells _ t frozen => .cells cs.toArray t frozen
  | o => o
noncomputable def laidWorld (os : Os) : World :=
  let w0 := World.holding Tryd.prog os ⟨#[], #[], []⟩
  { w0 with heap := ((w0.heap.modify 0 (setCells kcells)).modify 1 (setCells icells)).modify 3 (setCells etCells) }
theorem laid_met (os : Os) (args : Array Value) : laidMetH Tryd.prog laidL ((laidWorld os).forCall (fun _ _ => 0) ⟨#[], args, []⟩).memory :=
  laidMetH_of_parts (laidMet_of_run' 8 (by kernel_rfl) (by kernel_rfl)) (by kernel_rfl)
end Go.Proofs.YtfghmfjbbjapgaaDoor.C
/- Lists of numbers, read. -/
set_option linter.unusedVariables false
set_option linter.unusedSimpArgs false
namespace Go.Proofs.YtfghmfjbbjapgaaDoor.C
open Go.Abs Go.ChangeShapes Go.WideShapes Go.ChangeAt Go.RowKit
section
variable {H : Type} {enc : TypeId × Value → H} {W : World}
end
end Go.Proofs.YtfghmfjbbjapgaaDoor.C
