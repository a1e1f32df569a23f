/- wire: the cursor. -/
import Derived.Test.YtmcedkcehcacpaaCshape
set_option linter.unusedVariables false
set_option linter.unusedSimpArgs false
namespace Go.Proofs.Ytmcedkcehcacpaa.C
open Go.Abs

/-- a cursor: its bytes, and how many were read -/
abbrev cur (l : List UInt8) (i : Nat) : Ob := .box 111 [.sl false 1 (bys l), nat i]

theorem new_c (l : List UInt8) (hl : l.length ≤ 2 ^ 40) : OC Try.prog 63 [.sl false 1 (bys l)] [] (.ptr 0 0) [cur l 0] := by
  refine OC.of_body [0] (by intro k hk; simp at hk) Try.func63 rfl (by rw [Try.ntmps63]; simp) ?_
  refine AWp.regionW ?_
  refine AWp.regionM fun K1 hK1 => ?_
  refine ARun2.callM (clone_c l hl) ?_
  refine ARun2.endm (hK1 _ ?_)
  refine AWp.ret ?_
  try simp only [thenQ, blockQ]
  refine bodyQ.m ?_
  clear hK1 K1
  refine endO.m ?_ ?_
  · rfl
  · skip
    first | done | exact Hand.go

theorem left_c (l : List UInt8) (i : Nat) (hi : i ≤ l.length) (hl : l.length ≤ 2 ^ 40) : OC Try.prog 69 [.ptr 0 0] [cur l i] (nat (l.length - i)) [cur l i] := by
  refine OC.of_body [0] (by intro k hk; simp at hk; subst hk; rfl) Try.func69 rfl (by rw [Try.ntmps69]; simp) ?_
  refine AWp.regionW ?_
  refine AWp.seqK fun K1 hK1 => ?_
  refine AWp.regionW ?_
  refine AWp.condF ?_
  refine AWp.skip ?_
  refine hK1 _ ?_
  refine AWp.drS [[(0, none)], [(5, some 0)], [(6, some 1)], [(7, some 2)], [(8, some 3)], [(0, none)], [(10, some 5)], [(11, some 6)], [(12, some 7)], [(9, some 4), (13, some 8)], [(14, some 9)]] fun G hG => ?_
  refine Dr.sim ?_
  refine Dr.sim ?_
  refine Dr.sim ?_
  refine Dr.sim ?_
  refine Dr.sim ?_
  refine Dr.sim ?_
  refine Dr.sim ?_
  refine Dr.sim ?_
  refine Dr.sim ?_
  refine Dr.sim ?_
  refine Dr.sim ?_
  refine Dr.finM (n := 11) [(2, 10)] [] hG Ytmcedkcehcacpaa.Facts.mixed fun KD hKD => ?_
  refine ARun2.endm (hKD _ ?_); clear hKD KD hG G
  refine AWp.ret ?_
  try simp only [thenQ, blockQ]
  refine bodyQ.m ?_
  clear hK1 K1
  refine endO.m ?_ ?_
  · rfl
  · skip
    try simp only [bys_len]
    first | done | exact Hand.go

/-- the next number of a cursor -/
def peekN (k : Nat) (l : List UInt8) (i : Nat) : Nat := if i + k ≤ l.length then beN ((l.drop i).take k) else 0

theorem peek_c (k : Nat) (l : List UInt8) (i : Nat) (hk : k = 1 ∨ k = 2 ∨ k = 4) (hi : i ≤ l.length) (hl : l.length ≤ 2 ^ 40) :
    OC Try.prog 67 [.ptr 0 0, nat k] [cur l i] (.tup [u32 (peekN k l i), bool (decide (i + k ≤ l.length))]) [cur l i] := by
  have hr : (k == 1 || k == 2 || k == 4) = true := by rcases hk with rfl | rfl | rfl <;> rfl
  have hil : (l.drop i).length = l.length - i := List.length_drop
  refine OC.of_body [0] (by intro k hk; simp at hk; subst hk; rfl) Try.func67 rfl (by rw [Try.ntmps67]; simp) ?_
  refine AWp.regionW ?_
  refine AWp.seqK fun K1 hK1 => ?_
  refine AWp.regionM fun K2 hK2 => ?_
  refine ARun2.callM (hr ▸ wire_right k) ?_
  refine ARun2.callOM [0] (left_c l i hi hl) ?_
  refine ARun2.endm (hK2 _ ?_)
  refine AWp.condLM (fun c0 => ?_) (fun c0 => ?_)
  · skip
    have hno : ¬ i + k ≤ l.length := by simp at c0; omega
    refine AWp.regionW ?_
    refine AWp.ret ?_
    try simp only [thenQ, blockQ]
    refine bodyQ.m ?_
    clear hK2 K2 hK1 K1
    refine endO.m ?_ ?_
    · rfl
    · skip
      simp only [peekN, hno, if_false, decide_false]
      first | done | exact Hand.go
  · skip
    have hyes : i + k ≤ l.length := by simp at c0; omega
    have hpos : 0 < (l.drop i).length / k := by rw [hil]; exact Nat.div_pos (by omega) (by omega)
    refine AWp.skip ?_
    refine hK1 _ ?_
    refine AWp.seqK fun K3 hK3 => ?_
    refine AWp.drS [[(1, none)], [(0, none)], [(17, some 1)], [(18, some 2)], [(19, some 3)], [(0, none)], [(21, some 5)], [(22, some 6)], [(23, some 7)], [(20, some 4), (24, some 8)], [(16, some 0), (25, some 9)]] fun G hG => ?_
    refine Dr.sim ?_
    refine Dr.sim ?_
    refine Dr.sim ?_
    refine Dr.sim ?_
    refine Dr.sim ?_
    refine Dr.sim ?_
    refine Dr.sim ?_
    refine Dr.sim ?_
    refine Dr.sim ?_
    refine Dr.sliceLo (i) ?_ ?_
    · rw [bys_len]; omega
    refine Dr.call (numbers_c k (l.drop i)) ?_
    refine Dr.finM (n := 11) [(26, 10)] [4, 5] hG Ytmcedkcehcacpaa.Facts.mixed fun KD hKD => ?_
    refine ARun2.endm (hKD _ ?_); clear hKD KD hG G
    refine AWp.block ?_
    refine AWp.rangeFuncM (numbers_iter k (l.drop i) hk (by omega)) [4, 5] (fun pre ob tr go => pre = [] ∧ ob = [cur l i, .box 23 [.val (.int .u32 0)], .box 4 [.val (.bool false)]]) (fun e ob tr go => e = .ret ∧ ob = [cur l i, .box 23 [u32 (beN ((l.drop i).take k))], .box 4 [.val (.bool true)]]) ?_ ?_ ?_ ?_ ?_
    · exact numYs_ps _
    · exact ⟨rfl, rfl⟩
    · rintro pre x post ob tr go hxs ⟨rfl, rfl⟩
      have hx : (numYs k (l.drop i))[0]? = some x := by rw [hxs]; rfl
      rw [numYs_get hpos] at hx
      simp only [Option.some.injEq, Nat.zero_mul, List.drop_zero] at hx
      subst hx
      refine AWp.regionV ?_
      change AWp _ _ _ _
      refine AWp.block ?_
      refine AWp.regionW ?_
      refine AWp.ret ?_
      try simp only [thenQ, blockQ]
      refine ⟨_, Le.refl _, ?_⟩
      exact ⟨rfl, rfl⟩
    · rintro ob tr go df ⟨h, _⟩
      have := congrArg List.length h
      rw [numYs_len, nums_len] at this
      simp at this
      omega
    · rintro e ob tr go df ⟨rfl, rfl⟩
      refine bodyQ.m ?_
      refine endO.m ?_ ?_
      · rfl
      · simp only [peekN, hyes, if_true, decide_true]
        exact Hand.go

/-- a number is read -/
theorem number_c (k : Nat) (l : List UInt8) (i : Nat) (hk : k = 1 ∨ k = 2 ∨ k = 4) (hi : i ≤ l.length) (hl : l.length ≤ 2 ^ 40) :
    OC Try.prog 64 [.ptr 0 0, nat k] [cur l i] (.tup [u32 (peekN k l i), bool (decide (i + k ≤ l.length))]) [cur l (if i + k ≤ l.length then i + k else i)] := by
  refine OC.of_body [0] (by intro k hk; simp at hk; subst hk; rfl) Try.func64 rfl (by rw [Try.ntmps64]; simp) ?_
  refine AWp.regionW ?_
  refine AWp.regionM fun K1 hK1 => ?_
  refine ARun2.callOM [0] (peek_c k l i hk hi hl) ?_
  refine ARun2.endm (hK1 _ ?_)
  refine AWp.seqK fun K2 hK2 => ?_
  refine AWp.regionW ?_
  refine AWp.condLM (fun c0 => ?_) (fun c0 => ?_)
  · skip
    have hyes : i + k ≤ l.length := of_decide_eq_true c0
    refine AWp.regionV ?_
    refine hK2 _ ?_
    refine AWp.regionW ?_
    refine AWp.ret ?_
    try simp only [thenQ, blockQ]
    refine bodyQ.m ?_
    clear hK2 K2 hK1 K1
    refine endO.m ?_ ?_
    · first | (rw [if_pos (by assumption)]) | (rw [if_neg (by assumption)])
    · skip
      first | done | exact Hand.go
  · skip
    have hno : ¬ i + k ≤ l.length := of_decide_eq_false c0
    refine AWp.skip ?_
    refine hK2 _ ?_
    refine AWp.regionW ?_
    refine AWp.ret ?_
    try simp only [thenQ, blockQ]
    refine bodyQ.m ?_
    clear hK2 K2 hK1 K1
    refine endO.m ?_ ?_
    · first | (rw [if_pos (by assumption)]) | (rw [if_neg (by assumption)])
    · skip
      first | done | exact Hand.go
end Go.Proofs.Ytmcedkcehcacpaa.C
