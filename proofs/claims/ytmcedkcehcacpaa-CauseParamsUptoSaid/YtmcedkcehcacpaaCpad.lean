/- pad: contracts. -/
import Derived.Test.YtmcedkcehcacpaaFacts
set_option linter.unusedVariables false
set_option linter.unusedSimpArgs false
namespace Go.Abs

def gapN (n : Nat) : Nat := (4 - n % 4) % 4
def upN (n : Nat) : Nat := n + gapN n

theorem gap_val (n : Nat) (h : n < 2 ^ 62) : bitsV .and .i64 (IntKind.i64.wrap (0 - N n)) 3 = N (gapN n) := by
  unfold N
  have hw : IntKind.i64.wrap (0 - (n : Int)) = -(n : Int) := by rw [IntKind.wrap_i64]; omega
  rw [hw]
  have h3 : BitVec.ofInt 64 3 = 3#64 := rfl
  have hx : (BitVec.ofInt 64 (-(n : Int)) &&& 3#64).toNat = gapN n := by
    rw [BitVec.toNat_and]
    have : (3#64).toNat = 2 ^ 2 - 1 := rfl
    rw [this, Nat.and_two_pow_sub_one_eq_mod, BitVec.toNat_ofInt]
    unfold gapN
    omega
  show IntKind.i64.wrap ((BitVec.ofInt 64 (-(n : Int)) &&& BitVec.ofInt 64 3).toNat : Nat) = _
  rw [h3, hx, IntKind.wrap_i64]
  unfold gapN
  omega

theorem w64 {a : Int} (h0 : -2 ^ 63 ≤ a) (h : a < 2 ^ 63) : IntKind.i64.wrap a = a := by rw [IntKind.wrap_i64]; omega
theorem gapN_le (n : Nat) : gapN n ≤ 3 := by unfold gapN; omega

/-- a number -/
abbrev nat (n : Nat) : AV := .val (.int .i64 (N n))

attribute [push_cast] nat

/-- the sum, as Sizes has it -/
def sumUp (s : Nat) : List Nat → Nat
  | [] => s
  | n :: l => sumUp (upN s + n) l

theorem le_sumUp : ∀ (l : List Nat) (s : Nat), s ≤ sumUp s l
  | [], s => Nat.le_refl s
  | n :: l, s => by have := le_sumUp l (upN s + n); simp only [sumUp, upN] at *; omega

theorem sumUp_append (n : Nat) : ∀ (l : List Nat) (s : Nat), sumUp s (l ++ [n]) = upN (sumUp s l) + n
  | [], s => rfl
  | m :: l, s => sumUp_append n l _

theorem sumUp_take : ∀ (l : List Nat) (i : Nat) {s : Nat}, sumUp s (l.take i) ≤ sumUp s l
  | [], i, s => by simp
  | n :: l, 0, s => by simpa [sumUp] using le_sumUp (n :: l) s
  | n :: l, i + 1, s => by simp only [List.take_succ_cons, sumUp]; exact sumUp_take l i

def nats (l : List Nat) : List AV := l.map nat
@[push_cast] theorem nats_hand (ids : List Nat) (l : List Nat) : AV.handL ids (nats l) = nats l := by
  rw [AV.handL_map]; simp [nats, AV.hand]
@[push_cast] theorem nats_len (l : List Nat) : (nats l).length = l.length := by simp [nats]
theorem nats_get (l : List Nat) (i : Nat) : (nats l)[i]? = l[i]?.map nat := by simp [nats]
@[push_cast] theorem nats_pl (l : List Nat) : AV.plL (nats l) = true := by
  rw [AV.plL_iff]; intro x hx; simp only [nats, List.mem_map] at hx; obtain ⟨b, _, rfl⟩ := hx; rfl
@[push_cast] theorem nats_ids (p : Nat → Bool) (l : List Nat) : AV.idsOkL p (nats l) = true := by
  rw [AV.idsOkL_iff]; intro x hx; simp only [nats, List.mem_map] at hx; obtain ⟨b, _, rfl⟩ := hx; rfl
end Go.Abs

namespace Go.Proofs.Ytmcedkcehcacpaa.C
open Go.Abs

theorem pad_gap (n : Nat) (h : n < 2 ^ 62) : PC Try.prog 72 [nat n] (nat (gapN n)) := by
  refine PC.of_bodyW (by simp only [push_cast]) Try.func72 rfl (by rw [Try.ntmps72]; simp) ?_
  refine AWp.regionW ?_
  refine AWp.regionW ?_
  refine AWp.ret ?_
  try simp only [thenQ, blockQ]
  refine bodyQ.m ?_
  rw [gap_val n h]
  first | done | exact Hand.go

theorem pad_up (n : Nat) (h : n < 2 ^ 62) : PC Try.prog 71 [nat n] (nat (upN n)) := by
  have hg := gapN_le n
  refine PC.of_bodyW (by simp only [push_cast]) Try.func71 rfl (by rw [Try.ntmps71]; simp) ?_
  refine AWp.regionW ?_
  refine AWp.regionM fun K1 hK1 => ?_
  refine ARun2.callM (pad_gap n h) ?_
  refine ARun2.endm (hK1 _ ?_)
  refine AWp.ret ?_
  try simp only [thenQ, blockQ]
  refine bodyQ.m ?_
  clear hK1 K1
  rw [upN]
  first | done | exact Hand.go

theorem pad_sizes1 (m n : Nat) (h : m < 2 ^ 61) (h2 : n < 2 ^ 61) : OC Try.prog 70 [nat n, .ptr 0 0] [.box 3 [nat m]] (.tup []) [.box 3 [nat (upN m + n)]] := by
  have hg := gapN_le m
  have hu : upN m < 2 ^ 62 := by unfold upN; omega
  refine OC.of_body [0] (by intro k hk; simp at hk; subst hk; rfl) Try.func70 rfl (by rw [Try.ntmps70]; simp) ?_
  refine AWp.regionN fun K1 hK1 => ?_
  refine ARun2.callM (pad_up m (by omega)) ?_
  refine ARun2.endm (hK1 _ ?_)
  try simp only [thenQ, blockQ]
  refine bodyQ.n ?_
  clear hK1 K1
  refine endO.m ?_ ?_
  · rfl
  · skip
    first | done | exact Hand.go

theorem pad_sizes (l : List Nat) (h : sumUp 0 l < 2 ^ 61) (hl : l.length < 2 ^ 61) : PC Try.prog 68 [.sl false 1 (nats l)] (nat (sumUp 0 l)) := by
  refine PC.of_bodyW (by simp only [push_cast]) Try.func68 rfl (by rw [Try.ntmps68]; simp) ?_
  refine AWp.regionW ?_
  refine AWp.regionW ?_
  refine AWp.regionW ?_
  refine AWp.seqK fun K1 hK1 => ?_
  refine AWp.regionW ?_
  refine AWp.block ?_
  refine AWp.loopK [3, 4, 8, 9] (fun (i : Nat) => [(10, nat i)]) (fun i => [.box 3 [nat (sumUp 0 (l.take i))]]) (fun i => i ≤ l.length) (fun i => l.length - i) (0) ?_ (Nat.zero_le _) ?_
  · skip
    refine Le.m 1 ?_ ?_
    · first | with_reducible rfl | (simp only [push_cast, reduceIte, Nat.reduceEqDiff, Nat.reduceLT, Nat.reduceAdd, Nat.reduceSub, Nat.reduceMul, Nat.reduceLeDiff, Nat.reducePow, Int.reduceLT, Int.reduceToNat, reduceCtorEq, Int.reduceNeg, Int.reduceEq, Nat.reduceBEq, Nat.reduceBNe, Int.reduceBEq, Int.reduceBNe, String.reduceEq]; first | done | rfl | (simp (disch := omega) only [w_nat, w_add, w_addl, w_addr, w_sub, w_subl, w_mul, w_mull, w_mulr, w_u32, w_u16, w_u8, w_u32a, N_zero]; first | done | rfl))
    · first | (simp only [push_cast, reduceIte, Nat.reduceEqDiff, Nat.reduceLT, Nat.reduceAdd, Nat.reduceSub, Nat.reduceMul, Nat.reduceLeDiff, Nat.reducePow, Int.reduceLT, Int.reduceToNat, reduceCtorEq, Int.reduceNeg, Int.reduceEq, Nat.reduceBEq, Nat.reduceBNe, Int.reduceBEq, Int.reduceBNe, String.reduceEq]; first | done | rfl | (simp (disch := omega) only [w_nat, w_add, w_addl, w_addr, w_sub, w_subl, w_mul, w_mull, w_mulr, w_u32, w_u16, w_u8, w_u32a, N_zero]; first | done | rfl))
  · intro i hi K2 hK2
    refine AWp.regionW ?_
    refine AWp.seqK fun K3 hK3 => ?_
    refine AWp.condLM (fun c0 => ?_) (fun c0 => ?_)
    · skip
      have hil : i < l.length := by simpa using c0
      have hs : sumUp 0 (l.take (i + 1)) = upN (sumUp 0 (l.take i)) + l[i] := by rw [List.take_succ_eq_append_getElem hil, sumUp_append]
      have hle : sumUp 0 (l.take (i + 1)) ≤ sumUp 0 l := sumUp_take l (i + 1)
      refine AWp.skip ?_
      refine hK3 _ ?_
      refine AWp.seqK fun K4 hK4 => ?_
      refine AWp.block ?_
      refine AWp.regionM fun K5 hK5 => ?_
      refine ARun2.indexM (i) (nat l[i]) ?_ ?_
      · rw [nats_get, List.getElem?_eq_getElem hil]; rfl
      refine ARun2.endm (hK5 _ ?_)
      refine AWp.regionN fun K6 hK6 => ?_
      refine ARun2.callOM [0] (pad_sizes1 (sumUp 0 (l.take i)) l[i] (by simp only [upN] at hs; omega) (by omega)) ?_
      refine ARun2.endm (hK6 _ ?_)
      refine hK4 _ ?_
      refine AWp.regionV ?_
      refine hK2 _ (i + 1) (by omega) (by omega) ?_
      refine Le.m 1 ?_ ?_
      · try simp only [push_cast, reduceIte, Nat.reduceEqDiff, Nat.reduceLT, Nat.reduceAdd, Nat.reduceSub, Nat.reduceMul, Nat.reduceLeDiff, Nat.reducePow, Int.reduceLT, Int.reduceToNat, reduceCtorEq, Int.reduceNeg, Int.reduceEq, Nat.reduceBEq, Nat.reduceBNe, Int.reduceBEq, Int.reduceBNe, String.reduceEq]
        try simp (disch := omega) only [w_nat, w_add, w_addl, w_addr, w_sub, w_subl, w_mul, w_mull, w_mulr, w_u32, w_u16, w_u8, w_u32a, N_zero]
        first | done | skip
        rw [hs]
      · first | (simp only [push_cast, reduceIte, Nat.reduceEqDiff, Nat.reduceLT, Nat.reduceAdd, Nat.reduceSub, Nat.reduceMul, Nat.reduceLeDiff, Nat.reducePow, Int.reduceLT, Int.reduceToNat, reduceCtorEq, Int.reduceNeg, Int.reduceEq, Nat.reduceBEq, Nat.reduceBNe, Int.reduceBEq, Int.reduceBNe, String.reduceEq]; first | done | rfl | (simp (disch := omega) only [w_nat, w_add, w_addl, w_addr, w_sub, w_subl, w_mul, w_mull, w_mulr, w_u32, w_u16, w_u8, w_u32a, N_zero]; first | done | rfl))
    · skip
      have hie : i = l.length := by simp at c0; omega
      subst hie
      refine AWp.exit ?_
      simp only [thenQ, blockQ, reduceIte, Nat.reduceEqDiff]
      refine hK1 _ ?_
      refine AWp.regionW ?_
      refine AWp.ret ?_
      try simp only [thenQ, blockQ]
      refine bodyQ.m ?_
      clear hK3 K3 hK2 K2 hK1 K1
      rw [List.take_length]
      first | done | exact Hand.go
end Go.Proofs.Ytmcedkcehcacpaa.C
