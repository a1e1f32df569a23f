/- node: Size. -/
import Derived.Test.YtmcedkcehcacpaaCshape2
set_option linter.unusedVariables false
set_option linter.unusedSimpArgs false
namespace Go.Abs
mutual
def GNode.wt : GNode → Nat
  | .mk _ _ k => wts k + 1
def wts : List GNode → Nat
  | [] => 0
  | n :: l => n.wt + wts l
end
theorem GNode.wt_eq (n : GNode) : n.wt = wts n.kids + 1 := by cases n; simp [GNode.wt, GNode.kids]
theorem wts_mem : ∀ {l : List GNode} {n : GNode}, n ∈ l → n.wt ≤ wts l
  | [], n, h => by simp at h
  | m :: l, n, h => by
    rcases List.mem_cons.1 h with h | h
    · subst h; simp only [wts]; omega
    · have := wts_mem h; simp only [wts]; omega
theorem kids_lt {l : List GNode} {n : GNode} (h : n ∈ l) : wts n.kids < wts l := by
  have := wts_mem h; rw [GNode.wt_eq] at this; omega
end Go.Abs

namespace Go.Proofs.Ytmcedkcehcacpaa.C
open Go.Abs
mutual
/-- the length of a node's value -/
def vlen : GNode → Nat
  | .mk _ d k => d.length + tlvSize (nLens k)
def nLens : List GNode → List Nat
  | [] => []
  | n :: l => vlen n :: nLens l
end
/-- the size of a list of nodes -/
def nSize (l : List GNode) : Nat := tlvSize (nLens l)
theorem nLens_map : ∀ l : List GNode, nLens l = l.map vlen
  | [] => by simp [nLens]
  | n :: l => by simp [nLens, nLens_map l]
theorem vlen_eq (n : GNode) : vlen n = n.data.length + nSize n.kids := by cases n; simp [vlen, nSize, GNode.data, GNode.kids]

theorem sumUp_mem : ∀ {l : List Nat} {s n : Nat}, n ∈ l → n ≤ sumUp s l
  | [], s, n, h => by simp at h
  | m :: l, s, n, h => by
    simp only [sumUp]
    rcases List.mem_cons.1 h with h | h
    · subst h; exact Nat.le_trans (by omega) (le_sumUp l _)
    · exact sumUp_mem h
theorem sumUp_len : ∀ (l : List Nat) (s : Nat), s + 4 * l.length ≤ sumUp s (l.map (4 + ·))
  | [], s => by simp [sumUp]
  | n :: l, s => by
    have := sumUp_len l (upN s + (4 + n))
    simp only [List.map_cons, sumUp, List.length_cons, upN] at *
    omega
theorem tlvSize_mem {l : List Nat} {n : Nat} (h : n ∈ l) : 4 + n ≤ tlvSize l := sumUp_mem (List.mem_map.2 ⟨n, h, rfl⟩)
theorem tlvSize_len (l : List Nat) : 4 * l.length ≤ tlvSize l := by have := sumUp_len l 0; simpa [tlvSize] using this
theorem vlen_mem {l : List GNode} {n : GNode} (h : n ∈ l) : 4 + vlen n ≤ nSize l := tlvSize_mem (by rw [nLens_map]; exact List.mem_map.2 ⟨n, h, rfl⟩)
theorem nSize_len (l : List GNode) : 4 * l.length ≤ nSize l := by have := tlvSize_len (nLens l); rw [nLens_map, List.length_map] at this; rw [nSize, nLens_map]; exact this
theorem nSize_kids {l : List GNode} {n : GNode} (h : n ∈ l) : nSize n.kids ≤ nSize l := by have := vlen_mem h; rw [vlen_eq] at this; omega

/-- a frame of zeros in place of a node -/
def zf (n : GNode) : Frm := ⟨0, List.replicate (vlen n) 0⟩

theorem size_step (w : Nat) (ih : ∀ l : List GNode, wts l < w → nSize l ≤ 2 ^ 30 → PC Try.prog 60 [.sl false 3 (nodesA false l)] (nat (nSize l))) (l : List GNode) (hw : wts l ≤ w) (hs : nSize l ≤ 2 ^ 30) :
    PC Try.prog 60 [.sl false 3 (nodesA false l)] (nat (nSize l)) := by
  have hlen := nSize_len l
  refine PC.of_bodyW (by simp only [push_cast]) Try.func60 rfl (by rw [Try.ntmps60]; simp) ?_
  refine AWp.regionW ?_
  refine AWp.regionW ?_
  refine AWp.seqK fun K1 hK1 => ?_
  refine AWp.regionW ?_
  refine AWp.block ?_
  -- SLOTS THAT TURN AND ARE NOT TOLD: [3]
  refine AWp.nilOwn 3 105 2 (by simp only [push_cast, reduceIte, Nat.reduceEqDiff, Nat.reduceLT, Nat.reduceAdd, Nat.reduceSub, Nat.reduceMul, Nat.reduceLeDiff, Nat.reducePow, Int.reduceLT, Int.reduceToNat, reduceCtorEq, Int.reduceNeg, Int.reduceEq, Nat.reduceBEq, Nat.reduceBNe, Int.reduceBEq, Int.reduceBNe, String.reduceEq]) ?_
  simp only [push_cast, reduceIte, Nat.reduceEqDiff, Nat.reduceLT, Nat.reduceAdd, Nat.reduceSub, Nat.reduceMul, Nat.reduceLeDiff, Nat.reducePow, Int.reduceLT, Int.reduceToNat, reduceCtorEq, Int.reduceNeg, Int.reduceEq, Nat.reduceBEq, Nat.reduceBNe, Int.reduceBEq, Int.reduceBNe, String.reduceEq]
  refine AWp.loopK [3, 6, 7] (fun (i : Nat) => [(8, nat i)]) (fun i => [.row 105 2 (frmsA true ((l.take i).map zf))]) (fun i => i ≤ l.length) (fun i => l.length - i) (0) ?_ (Nat.zero_le _) ?_
  · skip
    refine Le.m 1 ?_ ?_
    · try simp only [push_cast, reduceIte, Nat.reduceEqDiff, Nat.reduceLT, Nat.reduceAdd, Nat.reduceSub, Nat.reduceMul, Nat.reduceLeDiff, Nat.reducePow, Int.reduceLT, Int.reduceToNat, reduceCtorEq, Int.reduceNeg, Int.reduceEq, Nat.reduceBEq, Nat.reduceBNe, Int.reduceBEq, Int.reduceBNe, String.reduceEq]
      try simp (disch := omega) only [w_nat, w_add, w_addl, w_addr, w_sub, w_subl, w_mul, w_mull, w_mulr, w_u32, w_u16, w_u8, w_u32a, N_zero]
      first | done | skip
      rfl
    · first | (simp only [push_cast, reduceIte, Nat.reduceEqDiff, Nat.reduceLT, Nat.reduceAdd, Nat.reduceSub, Nat.reduceMul, Nat.reduceLeDiff, Nat.reducePow, Int.reduceLT, Int.reduceToNat, reduceCtorEq, Int.reduceNeg, Int.reduceEq, Nat.reduceBEq, Nat.reduceBNe, Int.reduceBEq, Int.reduceBNe, String.reduceEq]; first | done | rfl | (simp (disch := omega) only [w_nat, w_add, w_addl, w_addr, w_sub, w_subl, w_mul, w_mull, w_mulr, w_u32, w_u16, w_u8, w_u32a, N_zero]; first | done | rfl))
  · intro i hi K2 hK2
    refine AWp.regionW ?_
    refine AWp.seqK fun K3 hK3 => ?_
    refine AWp.condLM (fun c0 => ?_) (fun c0 => ?_)
    · skip
      have hil : i < l.length := by simpa using c0
      have hm := List.getElem_mem hil
      have hv := vlen_mem hm
      have he := vlen_eq l[i]
      have hk := nSize_kids hm
      refine AWp.skip ?_
      refine hK3 _ ?_
      refine AWp.seqK fun K4 hK4 => ?_
      refine AWp.block ?_
      refine AWp.regionM fun K5 hK5 => ?_
      refine ARun2.indexM (i) (nodeA false l[i]) ?_ ?_
      · exact nodesA_at _ _ _ hil
      refine ARun2.endm (hK5 _ ?_)
      refine AWp.drE [[(3, none)], [(5, none)], [(13, some 1)], [(14, some 2)], [(5, none)], [(16, some 4)], [(17, some 5)], [(15, some 3), (18, some 6)], [(19, some 7)], [(20, some 8)], [(21, some 9)]] fun G hG => ?_
      refine Dr.sim ?_
      refine Dr.sim ?_
      refine Dr.sim ?_
      refine Dr.sim ?_
      refine Dr.sim ?_
      refine Dr.sim ?_
      refine Dr.call (ih l[i].kids (by have := kids_lt hm; omega) (by omega)) ?_
      refine Dr.sim ?_
      rw [← he]
      refine Dr.make (vlen l[i]) ?_ ?_
      · omega
      refine Dr.sim ?_
      refine Dr.build ?_
      refine Dr.finN (n := 11) [(12, 0), (22, 10)] [6, 7, 8] hG Ytmcedkcehcacpaa.Facts.mixed fun KD hKD => ?_
      refine ARun2.appendM ?_ ?_ ?_
      · rw [Ytmcedkcehcacpaa.Facts.eb103, frmsA_len, List.length_map, List.length_take, List.length_cons, List.length_nil]; omega
      · rw [frmsA_len, List.length_map, List.length_take, List.length_cons, List.length_nil]; omega
      refine ARun2.endm (hKD _ ?_); clear hKD KD hG G
      refine hK4 _ ?_
      refine AWp.regionV ?_
      refine hK2 _ (i + 1) (by omega) (by omega) ?_
      refine Le.m 1 ?_ ?_
      · try simp only [push_cast, reduceIte, Nat.reduceEqDiff, Nat.reduceLT, Nat.reduceAdd, Nat.reduceSub, Nat.reduceMul, Nat.reduceLeDiff, Nat.reducePow, Int.reduceLT, Int.reduceToNat, reduceCtorEq, Int.reduceNeg, Int.reduceEq, Nat.reduceBEq, Nat.reduceBNe, Int.reduceBEq, Int.reduceBNe, String.reduceEq]
        try simp (disch := omega) only [w_nat, w_add, w_addl, w_addr, w_sub, w_subl, w_mul, w_mull, w_mulr, w_u32, w_u16, w_u8, w_u32a, N_zero]
        first | done | skip
        rw [List.take_succ_eq_append_getElem hil, List.map_append]; simp [frmsA, frmA, zf, N]
      · first | (simp only [push_cast, reduceIte, Nat.reduceEqDiff, Nat.reduceLT, Nat.reduceAdd, Nat.reduceSub, Nat.reduceMul, Nat.reduceLeDiff, Nat.reducePow, Int.reduceLT, Int.reduceToNat, reduceCtorEq, Int.reduceNeg, Int.reduceEq, Nat.reduceBEq, Nat.reduceBNe, Int.reduceBEq, Int.reduceBNe, String.reduceEq]; first | done | rfl | (simp (disch := omega) only [w_nat, w_add, w_addl, w_addr, w_sub, w_subl, w_mul, w_mull, w_mulr, w_u32, w_u16, w_u8, w_u32a, N_zero]; first | done | rfl))
    · skip
      have hil : i = l.length := by simp at c0; omega
      subst hil
      refine AWp.exit ?_
      simp only [thenQ, blockQ, reduceIte, Nat.reduceEqDiff]
      refine hK1 _ ?_
      refine AWp.pub 0 rfl (Nat.le_refl _) ?_
      simp only [push_cast, reduceIte, Nat.reduceEqDiff, Nat.reduceLT, Nat.reduceAdd, Nat.reduceSub, Nat.reduceMul, Nat.reduceLeDiff, Nat.reducePow, Int.reduceLT, Int.reduceToNat, reduceCtorEq, Int.reduceNeg, Int.reduceEq, Nat.reduceBEq, Nat.reduceBNe, Int.reduceBEq, Int.reduceBNe, String.reduceEq, List.take_length]
      refine AWp.regionM fun K6 hK6 => ?_
      have hz : tlvSize ((l.map zf).map fun f => f.val.length) = nSize l := by rw [nSize, nLens_map]; simp [List.map_map, Function.comp_def, zf]
      refine ARun2.callM (tlvSize_c (l.map zf) (by have := hz; omega) (by rw [List.length_map]; omega) (by intro f hf; obtain ⟨n, hn, rfl⟩ := List.mem_map.1 hf; have := vlen_mem hn; simp [zf]; omega)) ?_
      refine ARun2.endm (hK6 _ ?_)
      refine AWp.ret ?_
      try simp only [thenQ, blockQ]
      refine bodyQ.m ?_
      clear hK6 K6 hK3 K3 hK2 K2 hK1 K1
      rw [hz]
      first | done | exact Hand.go

theorem size_w : ∀ (w : Nat) (l : List GNode), wts l ≤ w → nSize l ≤ 2 ^ 30 → PC Try.prog 60 [.sl false 3 (nodesA false l)] (nat (nSize l)) := by
  intro w
  induction w with
  | zero => exact size_step 0 (fun l h => by omega)
  | succ w ih => exact size_step (w + 1) (fun l h => ih l (by omega))
theorem size_c (l : List GNode) (hs : nSize l ≤ 2 ^ 30) : PC Try.prog 60 [.sl false 3 (nodesA false l)] (nat (nSize l)) := size_w _ l (Nat.le_refl _) hs
end Go.Proofs.Ytmcedkcehcacpaa.C
