/- wire: Collect, Numbers. -/
import Derived.Test.YtmcedkcehcacpaaCiter
set_option linter.unusedVariables false
set_option linter.unusedSimpArgs false
namespace Go.Proofs.Ytmcedkcehcacpaa.C
open Go.Abs

theorem u32s_snoc (l : List Nat) (n : Nat) : u32s l ++ [.val (.int .u32 (N n))] = u32s (l ++ [n]) := by simp [u32s]
theorem numYs_ps (l : List Nat) : ∀ x ∈ (l.map fun n => [u32 n]), x.length = 1 := by
  intro x hx
  simp only [List.mem_map] at hx
  obtain ⟨n, _, rfl⟩ := hx
  rfl

theorem appendSeq_c {f : FuncId} {cap cap' : List AV} {l : List Nat} (hl : l.length ≤ 2 ^ 40) (hit : IterC Try.prog f cap' (l.map fun n => [u32 n])) (hc : callable Try.prog f = true) (hcap : HandL [] cap cap') (hcl : AV.idsOkL (fun _ => false) cap = true) :
    PC Try.prog 51 [.val (.slice none 0 0), .fn (.func f) [] cap] (.sl true 1 (u32s l)) := by
  refine PC.of_body (by simp only [push_cast]) Try.func51 rfl (by rw [Try.ntmps51]; simp) ?_
  refine AWp.regionW ?_
  refine AWp.seqK fun K1 hK1 => ?_
  refine AWp.regionW ?_
  refine AWp.block ?_
  refine AWp.nilBox 0 0 23 1 rfl rfl ?_
  refine AWp.rangeFuncM (hit) [2] (fun pre ob tr go => ob = [.box 56 [.own 1], .row 23 1 (u32s (l.take pre.length))]) (fun _ _ _ _ => False) ?_ ?_ ?_ ?_ ?_
  · exact numYs_ps l
  · rfl
  · rintro pre x post ob tr go hxs rfl
    have hpl : pre.length < l.length := by
      have := congrArg List.length hxs
      simp at this; omega
    have hx : (l.map fun n => [u32 n])[pre.length]? = some x := by rw [hxs]; simp
    simp only [List.getElem?_map, List.getElem?_eq_getElem hpl, Option.map_some, Option.some.injEq] at hx
    subst hx
    refine AWp.regionV ?_
    change AWp _ _ _ _
    refine AWp.block ?_
    refine AWp.regionN fun K2 hK2 => ?_
    refine ARun2.appendM ?_ ?_ ?_
    · rw [Ytmcedkcehcacpaa.Facts.eb56, u32s_len, List.length_take, List.length_cons, List.length_nil]; omega
    · rw [u32s_len, List.length_take, List.length_cons, List.length_nil]; omega
    refine ARun2.endm (hK2 _ ?_)
    refine ⟨_, Le.refl _, ?_⟩
    have e : u32s (l.take (pre ++ [[u32 l[pre.length]]]).length) = u32s (l.take pre.length) ++ [u32 l[pre.length]] := by
      rw [List.length_append, List.length_cons, List.length_nil, List.take_succ_eq_append_getElem hpl, ← u32s_snoc]
    exact (congrArg (fun z => [Ob.box 56 [AV.own 1], Ob.row 23 1 z]) e).symm
  · rintro ob tr go df rfl
    refine hK1 _ ?_
    refine AWp.regionW ?_
    refine AWp.pub 1 rfl (Nat.zero_le _) ?_
    simp only [push_cast, reduceIte, Nat.reduceEqDiff, Nat.reduceLT, Nat.reduceAdd, Nat.reduceSub, Nat.reduceMul, Nat.reduceLeDiff, Nat.reducePow, Int.reduceLT, Int.reduceToNat, reduceCtorEq, Int.reduceNeg, Int.reduceEq, Nat.reduceBEq, Nat.reduceBNe, Int.reduceBEq, Int.reduceBNe, String.reduceEq]
    rw [List.take_length]
    refine AWp.ret ?_
    try simp only [thenQ, blockQ]
    refine bodyQ.m ?_
    clear hK1 K1
    rfl
  · rintro e ob tr go df h
    exact h.elim

theorem collect_c {f : FuncId} {cap cap' : List AV} {l : List Nat} (hl : l.length ≤ 2 ^ 40) (hit : IterC Try.prog f cap' (l.map fun n => [u32 n])) (hc : callable Try.prog f = true) (hcap : HandL [] cap cap') (hcl : AV.idsOkL (fun _ => false) cap = true) (hx : HandL [] cap cap) :
    PC Try.prog 42 [.fn (.func f) [] cap] (.sl true 1 (u32s l)) := by
  refine PC.of_body (by simp only [push_cast]) Try.func42 rfl (by rw [Try.ntmps42]; simp) ?_
  refine AWp.regionW ?_
  refine AWp.regionM fun K1 hK1 => ?_
  refine ARun2.callM (appendSeq_c hl hit hc hcap hcl) ?_
  refine ARun2.endm (hK1 _ ?_)
  refine AWp.ret ?_
  try simp only [thenQ, blockQ]
  refine bodyQ.m ?_
  clear hK1 K1
  rfl

theorem numbers_n (k : Nat) (l : List UInt8) (hk : k = 1 ∨ k = 2 ∨ k = 4) (hl : l.length ≤ 2 ^ 40) (hm : l.length % k = 0) :
    PC Try.prog 29 [nat k, .sl false 1 (bys l)] (.sl true 1 (u32s (numsOf k l))) := by
  have hk0 : 0 < k := by omega
  have hr : (k == 1 || k == 2 || k == 4) = true := by rcases hk with rfl | rfl | rfl <;> rfl
  refine PC.of_body (by simp only [push_cast]) Try.func29 rfl (by rw [Try.ntmps29]; simp) ?_
  refine AWp.regionW ?_
  refine AWp.seqK fun K1 hK1 => ?_
  refine AWp.regionM fun K2 hK2 => ?_
  refine ARun2.callM (hr ▸ wire_right k) ?_
  refine ARun2.endm (hK2 _ ?_)
  refine AWp.condF ?_ (by simp only [push_cast, reduceIte, Nat.reduceEqDiff, Nat.reduceLT, Nat.reduceAdd, Nat.reduceSub, Nat.reduceMul, Nat.reduceLeDiff, Nat.reducePow, Int.reduceLT, Int.reduceToNat, reduceCtorEq, Int.reduceNeg, Int.reduceEq, Nat.reduceBEq, Nat.reduceBNe, Int.reduceBEq, Int.reduceBNe, String.reduceEq, hm])
  refine AWp.skip ?_
  refine hK1 _ ?_
  refine AWp.regionM fun K3 hK3 => ?_
  refine ARun2.callM (numbers_c k l) ?_
  refine ARun2.callM (collect_c (l := numsOf k l) (cap := [.ref false (.agg [.sl false 1 (bys l)]), .ref false (.agg [nat k])]) (by rw [nums_len]; exact Nat.le_trans (Nat.div_le_self _ _) hl) (numbers_iter k l hk hl) rfl Hand.goL (by simp only [push_cast]) Hand.goL) ?_
  refine ARun2.endm (hK3 _ ?_)
  refine AWp.ret ?_
  try simp only [thenQ, blockQ]
  refine bodyQ.m ?_
  clear hK3 K3 hK2 K2 hK1 K1
  rfl

theorem numbers_none (k : Nat) (l : List UInt8) (hk : k = 1 ∨ k = 2 ∨ k = 4) (hl : l.length ≤ 2 ^ 40) (hm : l.length % k ≠ 0) :
    PC Try.prog 29 [nat k, .sl false 1 (bys l)] (.sl true 1 []) := by
  have hk0 : 0 < k := by omega
  have hr : (k == 1 || k == 2 || k == 4) = true := by rcases hk with rfl | rfl | rfl <;> rfl
  have hm' : (l.length % k != 0) = true := by simpa using hm
  refine PC.of_bodyW (by simp only [push_cast]) Try.func29 rfl (by rw [Try.ntmps29]; simp) ?_
  refine AWp.regionW ?_
  refine AWp.seqK fun K1 hK1 => ?_
  refine AWp.regionM fun K2 hK2 => ?_
  refine ARun2.callM (hr ▸ wire_right k) ?_
  refine ARun2.endm (hK2 _ ?_)
  refine AWp.condT ?_ (by simp only [push_cast, reduceIte, Nat.reduceEqDiff, Nat.reduceLT, Nat.reduceAdd, Nat.reduceSub, Nat.reduceMul, Nat.reduceLeDiff, Nat.reducePow, Int.reduceLT, Int.reduceToNat, reduceCtorEq, Int.reduceNeg, Int.reduceEq, Nat.reduceBEq, Nat.reduceBNe, Int.reduceBEq, Int.reduceBNe, String.reduceEq, hm'])
  refine AWp.regionW ?_
  refine AWp.ret ?_
  try simp only [thenQ, blockQ]
  refine bodyQ.m ?_
  clear hK2 K2 hK1 K1
  exact Hand.nil
end Go.Proofs.Ytmcedkcehcacpaa.C
