/- Lists of frames: tlv.Split, tlv.All, tlv.Put, tlv.Join. -/
import Derived.Test.YtmcedkcehcacpaaDoorM3
import Derived.WalkKit
import Derived.ProofKit
import Derived.OpenShut
import Derived.JoinedCond
import Derived.Carry
import Derived.ChangeSlices
import Derived.Test.YtmcedkcehcacpaaDoorRows
import Derived.Deep.Strs
import Derived.Test.YtmcedkcehcacpaaDoorCards
import Derived.Test.YtmcedkcehcacpaaDoorTie
import Derived.LaidLaws
import Derived.LaidHandle
import Derived.Stop.Joined
import Derived.Deep.DeepHandedRow
import Derived.Lib.LaidTab
set_option linter.unusedVariables false
set_option linter.unusedSimpArgs false
namespace Go.Proofs.YtmcedkcehcacpaaDoor.C
open Go.Abs
theorem nextN_le {b : List UInt8} {n : Nat} (h : (nextN b n).isSome = true) : n ≤ (nextN b n).getD 0 ∧ (nextN b n).getD 0 ≤ b.length := by
  unfold nextN at h ⊢
  split at h
  · rename_i hc; rw [if_pos hc]; exact ⟨by simp [upN], hc.2.1⟩
  · simp at h
theorem readN_next {b : List UInt8} {i : Nat} (h : (readN b i).2.2 = .ok) : i + 4 ≤ (readN b i).2.1 ∧ (readN b i).2.1 ≤ b.length := by
  unfold readN at h ⊢
  split at h
  · rename_i hc
    rw [if_pos hc]
    split at h
    · rename_i he; rw [if_pos he]; exact ⟨by show i + 4 ≤ i + _; omega, by show i + _ ≤ _; omega⟩
    · rename_i he
      rw [if_neg he]
      split at h
      · rename_i hs
        rw [if_pos hs]
        have := nextN_le hs.1
        exact ⟨by show i + 4 ≤ Option.getD _ 0; omega, this.2⟩
      · cases h
  · cases h
/-- the frames from an offset on, with their offsets, up to an error -/
def scan (b : List UInt8) : Nat → Nat → List (Nat × Frm) × Er
  | 0, _ => ([], .ok)
  | k + 1, i => if i < b.length then
      match (readN b i).2.2 with
      | .ok => ((i, (readN b i).1) :: (scan b k (readN b i).2.1).1, (scan b k (readN b i).2.1).2)
      | e => ([], e)
    else ([], .ok)
def scanInv (b : List UInt8) (p : List (Nat × Frm)) (k i : Nat) : Prop :=
  i ≤ b.length ∧ b.length - i ≤ k ∧ scan b b.length 0 = (p ++ (scan b k i).1, (scan b k i).2) ∧ p.length ≤ i
theorem scanInv_0 (b : List UInt8) : scanInv b [] b.length 0 := ⟨Nat.zero_le _, by omega, rfl, Nat.zero_le _⟩
theorem scanInv_step {b : List UInt8} {p : List (Nat × Frm)} {k i : Nat} (h : scanInv b p k i) (hi : i < b.length) (he : (readN b i).2.2 = .ok) : scanInv b (p ++ [(i, (readN b i).1)]) (k - 1) (readN b i).2.1 := by
  obtain ⟨h1, h2, h3, h4⟩ := h
  obtain ⟨n1, n2⟩ := readN_next he
  cases k with
  | zero => omega
  | succ k =>
    refine ⟨n2, by simp only [Nat.add_sub_cancel]; omega, ?_, by simp; omega⟩
    rw [h3, scan, if_pos hi, he]
    simp
theorem scanInv_err {b : List UInt8} {p : List (Nat × Frm)} {k i : Nat} (h : scanInv b p k i) (hi : i < b.length) (he : (readN b i).2.2 ≠ .ok) : scan b b.length 0 = (p, (readN b i).2.2) := by
  obtain ⟨h1, h2, h3, h4⟩ := h
  cases k with
  | zero => omega
  | succ k =>
    rw [h3, scan, if_pos hi]
    cases hq : (readN b i).2.2 with
    | ok => exact absurd hq he
    | code c => simp
    | flt c j => simp
theorem scanInv_end {b : List UInt8} {p : List (Nat × Frm)} {k i : Nat} (h : scanInv b p k i) (hi : ¬ i < b.length) : scan b b.length 0 = (p, .ok) := by
  obtain ⟨h1, h2, h3, h4⟩ := h
  rw [h3]
  cases k with
  | zero => simp [scan]
  | succ k => simp [scan, hi]
theorem scan_split {b : List UInt8} {p : List (Nat × Frm)} {k i : Nat} (h : scanInv b p k i) (hi : i < b.length) (he : (readN b i).2.2 = .ok) : ∃ r, (scan b b.length 0).1 = p ++ (i, (readN b i).1) :: r := by
  obtain ⟨h1, h2, h3, h4⟩ := h
  cases k with
  | zero => omega
  | succ k =>
    rw [h3, scan, if_pos hi, he]
    exact ⟨_, rfl⟩
@[push_cast] theorem frmsA_nil (b : Bool) : frmsA b [] = [] := rfl
theorem frmsA_snoc (b : Bool) (l : List Frm) (f : Frm) : frmsA b (l ++ [f]) = frmsA b l ++ [frmA b f] := by simp [frmsA]
/-- the frames of a list of bytes, or its error -/
def splitN (b : List UInt8) : List Frm × Er := if (scan b b.length 0).2 = .ok then ((scan b b.length 0).1.map (·.2), .ok) else ([], (scan b b.length 0).2)
theorem isOk_iff (e : Er) : e.isOk = true ↔ e = .ok := by cases e <;> simp [Er.isOk]
theorem split_c (b : List UInt8) (hl : b.length ≤ 2 ^ 40) : PC Tryd.prog 41 [.sl false 1 (bys b)] (.tup [.sl true 2 (frmsA true (splitN b).1), erA (splitN b).2]) := by
  refine PC.of_bodyK (by simp only [push_cast]) Tryd.func41 rfl (by rw [Tryd.ntmps41]; simp) ?_
  refine AWp.regionW ?_
  refine AWp.regionW ?_
  refine AWp.seqK fun K1 hK1 => ?_
  refine AWp.regionW ?_
  refine AWp.block ?_
  -- SLOTS THAT TURN AND ARE NOT TOLD: [4]
  refine AWp.nilOwn 4 69 2 (by simp only [push_cast, reduceIte, Nat.reduceEqDiff, Nat.reduceLT, Nat.reduceAdd, Nat.reduceSub, Nat.reduceMul, Nat.reduceLeDiff, Nat.reducePow, Int.reduceLT, Int.reduceToNat, reduceCtorEq, Int.reduceNeg, Int.reduceEq, Nat.reduceBEq, Nat.reduceBNe, Int.reduceBEq, Int.reduceBNe, String.reduceEq]) ?_
  simp only [push_cast, reduceIte, Nat.reduceEqDiff, Nat.reduceLT, Nat.reduceAdd, Nat.reduceSub, Nat.reduceMul, Nat.reduceLeDiff, Nat.reducePow, Int.reduceLT, Int.reduceToNat, reduceCtorEq, Int.reduceNeg, Int.reduceEq, Nat.reduceBEq, Nat.reduceBNe, Int.reduceBEq, Int.reduceBNe, String.reduceEq]
  refine AWp.loopK [0, 4] (fun (g : List (Nat × Frm) × Nat × Nat) => [(5, nat g.2.2)]) (fun g => [.row 69 2 (frmsA true (g.1.map (·.2)))]) (fun g => scanInv b g.1 g.2.1 g.2.2) (fun g => b.length - g.2.2) (([], b.length, 0)) ?_ (scanInv_0 b) ?_
  · skip
    refine Le.m 1 ?_ ?_
    · first | with_reducible rfl | (simp only [push_cast, reduceIte, Nat.reduceEqDiff, Nat.reduceLT, Nat.reduceAdd, Nat.reduceSub, Nat.reduceMul, Nat.reduceLeDiff, Nat.reducePow, Int.reduceLT, Int.reduceToNat, reduceCtorEq, Int.reduceNeg, Int.reduceEq, Nat.reduceBEq, Nat.reduceBNe, Int.reduceBEq, Int.reduceBNe, String.reduceEq]; first | done | rfl | (simp (disch := omega) only [w_nat, w_add, w_addl, w_addr, w_sub, w_subl, w_mul, w_mull, w_mulr, w_u32, w_u16, w_u8, w_u32a, N_zero]; first | done | rfl))
    · first | (simp only [push_cast, reduceIte, Nat.reduceEqDiff, Nat.reduceLT, Nat.reduceAdd, Nat.reduceSub, Nat.reduceMul, Nat.reduceLeDiff, Nat.reducePow, Int.reduceLT, Int.reduceToNat, reduceCtorEq, Int.reduceNeg, Int.reduceEq, Nat.reduceBEq, Nat.reduceBNe, Int.reduceBEq, Int.reduceBNe, String.reduceEq]; first | done | rfl | (simp (disch := omega) only [w_nat, w_add, w_addl, w_addr, w_sub, w_subl, w_mul, w_mull, w_mulr, w_u32, w_u16, w_u8, w_u32a, N_zero]; first | done | rfl))
  · intro g hg K2 hK2
    obtain ⟨p, k, i⟩ := g
    dsimp only at hg ⊢
    refine AWp.seqK fun K3 hK3 => ?_
    refine AWp.regionW ?_
    refine AWp.condLM (fun c0 => ?_) (fun c0 => ?_)
    · skip
      have hil : i < b.length := by simpa using c0
      refine AWp.skip ?_
      refine hK3 _ ?_
      refine AWp.block ?_
      refine AWp.regionM fun K4 hK4 => ?_
      refine ARun2.callM (read_c b i (by omega) hl) ?_
      refine ARun2.endm (hK4 _ ?_)
      refine AWp.seqK fun K5 hK5 => ?_
      refine AWp.regionW ?_
      refine AWp.condLM (fun c1 => ?_) (fun c1 => ?_)
      · skip
        have he : (readN b i).2.2 ≠ .ok := by intro h; rw [h] at c1; simp [Er.isOk] at c1
        have hr : splitN b = ([], (readN b i).2.2) := by unfold splitN; rw [scanInv_err hg hil he]; rw [if_neg he]
        refine AWp.regionW ?_
        refine AWp.ret ?_
        try simp only [thenQ, blockQ, noGo]
        refine bodyQ.m ?_
        clear hK5 K5 hK4 K4 hK3 K3 hK2 K2 hK1 K1
        rw [hr]
        first | done | exact Wk.go
      · skip
        have he : (readN b i).2.2 = .ok := by rw [← isOk_iff]; simpa using c1
        have hst := scanInv_step hg hil he
        have hpl := hg.2.2.2
        refine AWp.skip ?_
        refine hK5 _ ?_
        refine AWp.regionM fun K6 hK6 => ?_
        refine ARun2.appendM ?_ ?_ ?_
        · rw [YtmcedkcehcacpaaDoor.Facts.eb57, frmsA_len, List.length_map, List.length_cons, List.length_nil]; omega
        · rw [frmsA_len, List.length_map, List.length_cons, List.length_nil]; omega
        refine ARun2.endm (hK6 _ ?_)
        refine AWp.regionV ?_
        refine hK2 _ ((p ++ [(i, (readN b i).1)], k - 1, (readN b i).2.1)) (hst) (by have := readN_next he; show b.length - (readN b i).2.1 < b.length - i; omega) ?_
        refine Le.m 1 ?_ ?_
        · try simp only [push_cast, reduceIte, Nat.reduceEqDiff, Nat.reduceLT, Nat.reduceAdd, Nat.reduceSub, Nat.reduceMul, Nat.reduceLeDiff, Nat.reducePow, Int.reduceLT, Int.reduceToNat, reduceCtorEq, Int.reduceNeg, Int.reduceEq, Nat.reduceBEq, Nat.reduceBNe, Int.reduceBEq, Int.reduceBNe, String.reduceEq]
          try simp (disch := omega) only [w_nat, w_add, w_addl, w_addr, w_sub, w_subl, w_mul, w_mull, w_mulr, w_u32, w_u16, w_u8, w_u32a, N_zero]
          first | done | skip
          rw [List.map_append, List.map_cons, List.map_nil, frmsA_snoc]; rfl
        · first | (simp only [push_cast, reduceIte, Nat.reduceEqDiff, Nat.reduceLT, Nat.reduceAdd, Nat.reduceSub, Nat.reduceMul, Nat.reduceLeDiff, Nat.reducePow, Int.reduceLT, Int.reduceToNat, reduceCtorEq, Int.reduceNeg, Int.reduceEq, Nat.reduceBEq, Nat.reduceBNe, Int.reduceBEq, Int.reduceBNe, String.reduceEq]; first | done | rfl | (simp (disch := omega) only [w_nat, w_add, w_addl, w_addr, w_sub, w_subl, w_mul, w_mull, w_mulr, w_u32, w_u16, w_u8, w_u32a, N_zero]; first | done | rfl))
    · skip
      have hil : ¬ i < b.length := by simpa using c0
      have hr : splitN b = (p.map (·.2), .ok) := by unfold splitN; rw [scanInv_end hg hil]; rw [if_pos rfl]
      refine AWp.exit ?_
      try simp only [thenQ, blockQ, noGo, reduceIte, Nat.reduceEqDiff]
      refine hK1 _ ?_
      refine AWp.pubD 0 ?_
      refine AWp.regionW ?_
      refine AWp.ret ?_
      try simp only [thenQ, blockQ, noGo]
      refine bodyQ.m ?_
      clear hK3 K3 hK2 K2 hK1 K1
      rw [hr]
      first | done | exact Wk.go
def ysOf (l : List (Nat × Frm)) : List (List AV) := l.map fun p => [nat p.1, frmA true p.2]
theorem all_iter (d : List UInt8) (hl : d.length ≤ 2 ^ 40) : IterC Tryd.prog 57 [.ref false (.agg [.sl false 1 (bys d)])] (ysOf (scan d d.length 0).1) := by
  refine IterC.of_body Tryd.func57 rfl (by rw [Tryd.ntmps57]; simp) fun lb => ?_
  refine AWp.scope ?_
  refine AWp.seq (AWp.label ?_)
  refine AWp.regionW ?_
  refine AWp.block ?_
  refine AWp.loopKT [0, 1] (fun (g : List (Nat × Frm) × Nat × Nat) => [(3, nat g.2.2)]) (fun g => []) (fun g => ysOf g.1) (fun g => scanInv d g.1 g.2.1 g.2.2) (fun g => d.length - g.2.2) (([], d.length, 0)) ?_ (scanInv_0 d) ?_
  · skip
    refine Le.m 0 ?_ ?_ ?_
    · first | with_reducible rfl | (simp only [push_cast, reduceIte, Nat.reduceEqDiff, Nat.reduceLT, Nat.reduceAdd, Nat.reduceSub, Nat.reduceMul, Nat.reduceLeDiff, Nat.reducePow, Int.reduceLT, Int.reduceToNat, reduceCtorEq, Int.reduceNeg, Int.reduceEq, Nat.reduceBEq, Nat.reduceBNe, Int.reduceBEq, Int.reduceBNe, String.reduceEq]; first | done | rfl | (simp (disch := omega) only [w_nat, w_add, w_addl, w_addr, w_sub, w_subl, w_mul, w_mull, w_mulr, w_u32, w_u16, w_u8, w_u32a, N_zero]; first | done | rfl))
    · first | (simp only [push_cast, reduceIte, Nat.reduceEqDiff, Nat.reduceLT, Nat.reduceAdd, Nat.reduceSub, Nat.reduceMul, Nat.reduceLeDiff, Nat.reducePow, Int.reduceLT, Int.reduceToNat, reduceCtorEq, Int.reduceNeg, Int.reduceEq, Nat.reduceBEq, Nat.reduceBNe, Int.reduceBEq, Int.reduceBNe, String.reduceEq]; first | done | rfl | (simp (disch := omega) only [w_nat, w_add, w_addl, w_addr, w_sub, w_subl, w_mul, w_mull, w_mulr, w_u32, w_u16, w_u8, w_u32a, N_zero]; first | done | rfl))
    · exact ⟨rfl, rfl, rfl, rfl, rfl, rfl⟩
  · intro g hg K1 hK1
    obtain ⟨p, k, i⟩ := g
    dsimp only at hg ⊢
    refine AWp.seqK fun K2 hK2 => ?_
    refine AWp.regionW ?_
    refine AWp.condLM (fun c0 => ?_) (fun c0 => ?_)
    · skip
      have hil : i < d.length := by simpa using c0
      refine AWp.skip ?_
      refine hK2 _ ?_
      refine AWp.block ?_
      refine AWp.regionM fun K3 hK3 => ?_
      refine ARun2.callM (read_c d i (by omega) hl) ?_
      refine ARun2.endm (hK3 _ ?_)
      refine AWp.seqK fun K4 hK4 => ?_
      refine AWp.block ?_
      refine AWp.regionW ?_
      refine AWp.condLM (fun c1 => ?_) (fun c1 => ?_)
      · skip
        have he : (readN d i).2.2 ≠ .ok := by intro h; rw [h] at c1; simp [Er.isOk] at c1
        have hr := scanInv_err hg hil he
        refine AWp.exit ?_
        try simp only [thenQ, blockQ, noGo, reduceIte, Nat.reduceEqDiff]
        try simp only [noGo]
        try simp only [thenQ, blockQ, noGo]
        refine bodyQ.n ?_
        clear hK4 K4 hK3 K3 hK2 K2 hK1 K1
        exact ⟨fun _ => (by show ysOf p = _; rw [hr]), fun h => (by cases h)⟩
      · skip
        have he : (readN d i).2.2 = .ok := by rw [← isOk_iff]; simpa using c1
        have hst := scanInv_step hg hil he
        obtain ⟨r, hsp⟩ := scan_split hg hil he
        have hsp2 : ysOf (scan d d.length 0).1 = ysOf p ++ [nat i, frmA true (readN d i).1] :: ysOf r := by rw [hsp]; simp [ysOf]
        refine AWp.regionM fun K5 hK5 => ?_
        refine ARun2.yieldM (ysOf r) (hsp2) fun b => ?_
        refine ARun2.endm (hK5 _ ?_)
        refine AWp.condLM (fun c2 => ?_) (fun c2 => ?_)
        · skip
          have hb : b = false := by simpa using c2
          subst hb
          refine AWp.exit ?_
          try simp only [thenQ, blockQ, noGo, reduceIte, Nat.reduceEqDiff]
          try simp only [noGo]
          try simp only [thenQ, blockQ, noGo]
          refine bodyQ.n ?_
          clear hK5 K5 hK4 K4 hK3 K3 hK2 K2 hK1 K1
          exact ⟨fun h => (by cases h), fun _ => ⟨ysOf r, hsp2.trans (by simp [AS.lit, frmA])⟩⟩
        · skip
          have hb : b = true := by simpa using c2
          subst hb
          refine AWp.skip ?_
          refine hK4 _ ?_
          refine AWp.regionV ?_
          refine hK1 _ ((p ++ [(i, (readN d i).1)], k - 1, (readN d i).2.1)) (hst) (by have := readN_next he; show d.length - (readN d i).2.1 < d.length - i; omega) ?_
          refine Le.m 0 ?_ ?_ ?_
          · first | with_reducible rfl | (simp only [push_cast, reduceIte, Nat.reduceEqDiff, Nat.reduceLT, Nat.reduceAdd, Nat.reduceSub, Nat.reduceMul, Nat.reduceLeDiff, Nat.reducePow, Int.reduceLT, Int.reduceToNat, reduceCtorEq, Int.reduceNeg, Int.reduceEq, Nat.reduceBEq, Nat.reduceBNe, Int.reduceBEq, Int.reduceBNe, String.reduceEq]; first | done | rfl | (simp (disch := omega) only [w_nat, w_add, w_addl, w_addr, w_sub, w_subl, w_mul, w_mull, w_mulr, w_u32, w_u16, w_u8, w_u32a, N_zero]; first | done | rfl))
          · first | (simp only [push_cast, reduceIte, Nat.reduceEqDiff, Nat.reduceLT, Nat.reduceAdd, Nat.reduceSub, Nat.reduceMul, Nat.reduceLeDiff, Nat.reducePow, Int.reduceLT, Int.reduceToNat, reduceCtorEq, Int.reduceNeg, Int.reduceEq, Nat.reduceBEq, Nat.reduceBNe, Int.reduceBEq, Int.reduceBNe, String.reduceEq]; first | done | rfl | (simp (disch := omega) only [w_nat, w_add, w_addl, w_addr, w_sub, w_subl, w_mul, w_mull, w_mulr, w_u32, w_u16, w_u8, w_u32a, N_zero]; first | done | rfl))
          · refine ⟨rfl, rfl, rfl, rfl, ?_, rfl⟩
            show ysOf (p ++ [(i, (readN d i).1)]) = ysOf p ++ [_]
            simp [ysOf, frmA]
    · skip
      have hil : ¬ i < d.length := by simpa using c0
      have hr := scanInv_end hg hil
      refine AWp.exit ?_
      try simp only [thenQ, blockQ, noGo, reduceIte, Nat.reduceEqDiff]
      try simp only [noGo]
      try simp only [thenQ, blockQ, noGo]
      refine bodyQ.n ?_
      clear hK2 K2 hK1 K1
      exact ⟨fun _ => (by show ysOf p = _; rw [hr]), fun h => (by cases h)⟩
end Go.Proofs.YtmcedkcehcacpaaDoor.C
/- Frames written: tlv.All (the iterator itself), tlv.Put, tlv.Join; nodes written: frames, Encode. -/
set_option linter.unusedVariables false
set_option linter.unusedSimpArgs false
namespace Go.Proofs.YtmcedkcehcacpaaDoor.C
open Go.Abs
theorem all_c (b : List UInt8) : PC Tryd.prog 43 [.sl false 1 (bys b)] (.fn (.func 57) [] [.ref true (.agg [.sl false 1 (bys b)])]) := by
  refine PC.of_body (by simp only [push_cast]) Tryd.func43 rfl (by rw [Tryd.ntmps43]; simp) ?_
  refine AWp.regionW ?_
  refine AWp.regionW ?_
  refine AWp.pubBox 0 rfl (Nat.le_refl _) rfl (by simp) ?_
  simp only [push_cast, reduceIte, Nat.reduceEqDiff, Nat.reduceLT, Nat.reduceAdd, Nat.reduceSub, Nat.reduceMul, Nat.reduceLeDiff, Nat.reducePow, Int.reduceLT, Int.reduceToNat, reduceCtorEq, Int.reduceNeg, Int.reduceEq, Nat.reduceBEq, Nat.reduceBNe, Int.reduceBEq, Int.reduceBNe, String.reduceEq]
  refine AWp.ret ?_
  try simp only [thenQ, blockQ, noGo]
  refine bodyQ.m ?_
  rfl
/-- a frame's bytes -/
def putF (f : Frm) : List UInt8 := putB 2 f.ty ++ putB 2 (4 + f.val.length) ++ f.val
theorem putF_len (f : Frm) : (putF f).length = 4 + f.val.length := by simp [putF, putB_len]; omega
def fitF (f : Frm) : Bool := decide (f.val.length ≤ 65531)
theorem put_c (f : Frm) (ht : f.ty < 65536) (hl : f.val.length ≤ 2 ^ 38) : PC Tryd.prog 38 [frmA false f] (.tup [.sl true 1 (bys (if fitF f = true then putF f else [])), bool (fitF f)]) := by
  refine PC.of_bodyK (by simp only [push_cast]) Tryd.func38 rfl (by rw [Tryd.ntmps38]; simp) ?_
  refine AWp.regionW ?_
  refine AWp.seqK fun K1 hK1 => ?_
  refine AWp.regionW ?_
  refine AWp.condLM (fun c0 => ?_) (fun c0 => ?_)
  · skip
    have hf : fitF f = false := by simp at c0; unfold fitF; exact decide_eq_false (by omega)
    refine AWp.regionW ?_
    refine AWp.ret ?_
    try simp only [thenQ, blockQ, noGo]
    refine bodyQ.m ?_
    clear hK1 K1
    rw [hf]; simp only [if_true, if_false, reduceCtorEq, Bool.false_eq_true]
    first | done | exact Wk.go
  · skip
    have hle : f.val.length ≤ 65531 := by simp at c0; exact c0
    have hf : fitF f = true := decide_eq_true hle
    have hp := wire_put 2 [f.ty, 4 + f.val.length] (by omega) (by intro x hx; simp at hx; omega) (by simp)
    rw [show [f.ty, 4 + f.val.length].flatMap (putB 2) = putB 2 f.ty ++ putB 2 (4 + f.val.length) by simp] at hp
    have hj := wjoin_c [putB 2 f.ty ++ putB 2 (4 + f.val.length), f.val] (by simp [lens, putB_len]; omega) (by simp)
    rw [show [putB 2 f.ty ++ putB 2 (4 + f.val.length), f.val].flatten = putF f by simp [putF]] at hj
    refine AWp.skip ?_
    refine hK1 _ ?_
    refine AWp.drS [[(1, none)], [(8, some 0)], [(9, some 1)], [(1, none)], [(11, some 3)], [(12, some 4)], [(13, some 5)], [(14, some 6)], [(10, some 2), (15, some 7)], [(16, some 8)], [(1, none)], [(18, some 10)], [(17, some 9), (19, some 11)], [(20, some 12)], [(21, some 13)], []] fun G hG => ?_
    refine Dr.sim ?_
    try simp only [List.cons_append, List.nil_append]
    refine Dr.sim ?_
    try simp only [List.cons_append, List.nil_append]
    refine Dr.sim ?_
    try simp only [List.cons_append, List.nil_append]
    refine Dr.sim ?_
    try simp only [List.cons_append, List.nil_append]
    refine Dr.sim ?_
    try simp only [List.cons_append, List.nil_append]
    refine Dr.sim ?_
    try simp only [List.cons_append, List.nil_append]
    refine Dr.sim ?_
    try simp only [List.cons_append, List.nil_append]
    refine Dr.sim ?_
    try simp only [List.cons_append, List.nil_append]
    refine Dr.build ?_
    try simp only [List.cons_append, List.nil_append]
    refine Dr.call (hp) ?_
    try simp only [List.cons_append, List.nil_append]
    refine Dr.sim ?_
    try simp only [List.cons_append, List.nil_append]
    refine Dr.sim ?_
    try simp only [List.cons_append, List.nil_append]
    refine Dr.build ?_
    try simp only [List.cons_append, List.nil_append]
    refine Dr.call (hj) ?_
    try simp only [List.cons_append, List.nil_append]
    refine Dr.sim ?_
    try simp only [List.cons_append, List.nil_append]
    refine Dr.sim ?_
    try simp only [List.cons_append, List.nil_append]
    refine Dr.finM (n := 16) [(2, 14), (3, 15)] [] hG YtmcedkcehcacpaaDoor.Facts.mixed fun KD hKD => ?_
    refine ARun2.endm (hKD _ ?_); clear hKD KD hG G
    refine AWp.ret ?_
    try simp only [thenQ, blockQ, noGo]
    refine bodyQ.m ?_
    clear hK1 K1
    rw [hf]; simp only [if_true, if_false, reduceCtorEq, Bool.false_eq_true]
    first | done | exact Wk.go
/-- the bytes of frames, one behind the other -/
def joinF (l : List Frm) : List UInt8 := l.foldl (fun out f => padB out ++ putF f) []
theorem joinF_snoc (l : List Frm) (f : Frm) : joinF (l ++ [f]) = padB (joinF l) ++ putF f := by simp [joinF]
theorem joinF_len_aux : ∀ (l : List Frm) (acc : List UInt8), (l.foldl (fun out f => padB out ++ putF f) acc).length = sumUp acc.length ((l.map fun f => f.val.length).map (4 + ·))
  | [], acc => rfl
  | f :: l, acc => by
    rw [List.foldl_cons, joinF_len_aux l, List.length_append, padB_len, putF_len]
    rfl
theorem joinF_len (l : List Frm) : (joinF l).length = tlvSize (l.map fun f => f.val.length) := joinF_len_aux l []
theorem tlvSize_take (l : List Nat) (i : Nat) : tlvSize (l.take i) ≤ tlvSize l := by
  unfold tlvSize; rw [List.map_take]; exact sumUp_take _ _
def joinX (l : List Frm) : List UInt8 := if l.all fitF = true then joinF l else []
theorem join_c (l : List Frm) (ht : ∀ f ∈ l, f.ty < 65536) (hs : tlvSize (l.map fun f => f.val.length) ≤ 2 ^ 36) (hl : l.length ≤ 2 ^ 40) : PC Tryd.prog 24 [.sl false 2 (frmsA false l)] (.tup [.sl true 1 (bys (joinX l)), bool (l.all fitF)]) := by
  refine PC.of_bodyK (by simp only [push_cast]) Tryd.func24 rfl (by rw [Tryd.ntmps24]; simp) ?_
  refine AWp.regionW ?_
  refine AWp.regionW ?_
  refine AWp.seqK fun K1 hK1 => ?_
  refine AWp.regionW ?_
  refine AWp.block ?_
  refine AWp.nilSl 4 true 1 ?_
  refine AWp.loopK0 [9, 10] (fun (i : Nat) => [(4, .sl true 1 (bys (joinF (l.take i)))), (11, nat i)]) (fun i => i ≤ l.length ∧ (l.take i).all fitF = true) (fun i => l.length - i) (0) ?_ ⟨Nat.zero_le _, rfl⟩ ?_
  · skip
    refine Le.m 0 ?_ ?_
    · first | with_reducible rfl | (simp only [push_cast, reduceIte, Nat.reduceEqDiff, Nat.reduceLT, Nat.reduceAdd, Nat.reduceSub, Nat.reduceMul, Nat.reduceLeDiff, Nat.reducePow, Int.reduceLT, Int.reduceToNat, reduceCtorEq, Int.reduceNeg, Int.reduceEq, Nat.reduceBEq, Nat.reduceBNe, Int.reduceBEq, Int.reduceBNe, String.reduceEq]; first | done | rfl | (simp (disch := omega) only [w_nat, w_add, w_addl, w_addr, w_sub, w_subl, w_mul, w_mull, w_mulr, w_u32, w_u16, w_u8, w_u32a, N_zero]; first | done | rfl))
    · first | (simp only [push_cast, reduceIte, Nat.reduceEqDiff, Nat.reduceLT, Nat.reduceAdd, Nat.reduceSub, Nat.reduceMul, Nat.reduceLeDiff, Nat.reducePow, Int.reduceLT, Int.reduceToNat, reduceCtorEq, Int.reduceNeg, Int.reduceEq, Nat.reduceBEq, Nat.reduceBNe, Int.reduceBEq, Int.reduceBNe, String.reduceEq]; first | done | rfl | (simp (disch := omega) only [w_nat, w_add, w_addl, w_addr, w_sub, w_subl, w_mul, w_mull, w_mulr, w_u32, w_u16, w_u8, w_u32a, N_zero]; first | done | rfl))
  · intro i hi K2 hK2
    refine AWp.regionW ?_
    refine AWp.seqK fun K3 hK3 => ?_
    refine AWp.condLM (fun c0 => ?_) (fun c0 => ?_)
    · skip
      have hil : i < l.length := by simpa using c0
      have hti := ht l[i] (List.getElem_mem hil)
      have hsi := tlvSize_mem (l := l.map fun f => f.val.length) (List.mem_map.2 ⟨l[i], List.getElem_mem hil, rfl⟩)
      have hj := joinF_len (l.take (i + 1))
      rw [List.map_take] at hj
      have hj2 := tlvSize_take (l.map fun f => f.val.length) (i + 1)
      rw [List.take_succ_eq_append_getElem hil, joinF_snoc, List.length_append] at hj
      have hu := padB_len (joinF (l.take i))
      have hu2 : (joinF (l.take i)).length ≤ upN (joinF (l.take i)).length := by unfold upN; omega
      refine AWp.skip ?_
      refine hK3 _ ?_
      refine AWp.seqK fun K4 hK4 => ?_
      refine AWp.block ?_
      refine AWp.regionM fun K5 hK5 => ?_
      refine ARun2.indexM (i) (frmA false l[i]) ?_ ?_
      · exact frmsA_at _ _ _ hil
      refine ARun2.endm (hK5 _ ?_)
      refine AWp.regionM fun K6 hK6 => ?_
      refine ARun2.callM (put_c l[i] hti (by omega)) ?_
      refine ARun2.endm (hK6 _ ?_)
      refine AWp.seqK fun K7 hK7 => ?_
      refine AWp.regionW ?_
      refine AWp.condLM (fun c1 => ?_) (fun c1 => ?_)
      · skip
        have hf : fitF l[i] = false := by simpa using c1
        have hr : l.all fitF = false := by rw [List.all_eq_false]; exact ⟨l[i], List.getElem_mem hil, by simp [hf]⟩
        have hr2 : joinX l = [] := by unfold joinX; rw [hr]; rfl
        refine AWp.regionW ?_
        refine AWp.ret ?_
        try simp only [thenQ, blockQ, noGo]
        refine bodyQ.m ?_
        clear hK7 K7 hK6 K6 hK5 K5 hK4 K4 hK3 K3 hK2 K2 hK1 K1
        rw [hr, hr2]
        first | done | exact Wk.go
      · skip
        have hf : fitF l[i] = true := by simpa using c1
        rw [hf, if_pos rfl]
        refine AWp.skip ?_
        refine hK7 _ ?_
        refine AWp.regionN fun K8 hK8 => ?_
        refine ARun2.callOM [] (padBytes_o (joinF (l.take i)) (by omega)) ?_
        refine ARun2.appendM ?_ ?_ ?_
        · rw [YtmcedkcehcacpaaDoor.Facts.eb24, bys_len, bys_len]; omega
        · rw [bys_len, bys_len]; omega
        refine ARun2.endm (hK8 _ ?_)
        refine hK4 _ ?_
        refine AWp.pubD 1 ?_
        refine AWp.regionV ?_
        refine hK2 _ (i + 1) (⟨hil, by rw [List.take_succ_eq_append_getElem hil, List.all_append, hi.2]; simp [hf]⟩) (by omega) ?_
        refine Le.m 0 ?_ ?_
        · first | with_reducible rfl | (simp only [push_cast, reduceIte, Nat.reduceEqDiff, Nat.reduceLT, Nat.reduceAdd, Nat.reduceSub, Nat.reduceMul, Nat.reduceLeDiff, Nat.reducePow, Int.reduceLT, Int.reduceToNat, reduceCtorEq, Int.reduceNeg, Int.reduceEq, Nat.reduceBEq, Nat.reduceBNe, Int.reduceBEq, Int.reduceBNe, String.reduceEq]; first | done | rfl | (simp (disch := omega) only [w_nat, w_add, w_addl, w_addr, w_sub, w_subl, w_mul, w_mull, w_mulr, w_u32, w_u16, w_u8, w_u32a, N_zero]; first | done | rfl))
        · simp only [push_cast, reduceIte, Nat.reduceEqDiff, Nat.reduceLT, Nat.reduceAdd, Nat.reduceSub, Nat.reduceMul, Nat.reduceLeDiff, Nat.reducePow, Int.reduceLT, Int.reduceToNat, reduceCtorEq, Int.reduceNeg, Int.reduceEq, Nat.reduceBEq, Nat.reduceBNe, Int.reduceBEq, Int.reduceBNe, String.reduceEq]
          try simp (disch := omega) only [w_nat, w_add, w_addl, w_addr, w_sub, w_subl, w_mul, w_mull, w_mulr, w_u32, w_u16, w_u8, w_u32a, N_zero]
          rw [List.take_succ_eq_append_getElem hil, joinF_snoc, bys_append]
    · skip
      have hil : i = l.length := by have := hi.1; simp at c0; omega
      subst hil
      have hr : l.all fitF = true := by have := hi.2; rwa [List.take_length] at this
      have hr2 : joinX l = joinF l := by unfold joinX; rw [if_pos hr]
      rw [List.take_length]
      refine AWp.exit ?_
      try simp only [thenQ, blockQ, noGo, reduceIte, Nat.reduceEqDiff]
      refine hK1 _ ?_
      refine AWp.regionW ?_
      refine AWp.ret ?_
      try simp only [thenQ, blockQ, noGo]
      refine bodyQ.m ?_
      clear hK3 K3 hK2 K2 hK1 K1
      rw [hr, hr2]
      first | done | exact Wk.go
end Go.Proofs.YtmcedkcehcacpaaDoor.C
/- node: Clone, Same. -/
set_option linter.unusedVariables false
set_option linter.unusedSimpArgs false
namespace Go.Abs
theorem nodesA_snoc (b : Bool) (l : List GNode) (n : GNode) : nodesA b (l ++ [n]) = nodesA b l ++ [nodeA b n] := by rw [nodesA_map, nodesA_map, List.map_append]; rfl
mutual
/-- all that a node holds -/
def GNode.sz : GNode → Nat
  | .mk _ d k => d.length + szs k + 1
def szs : List GNode → Nat
  | [] => 0
  | n :: l => n.sz + szs l
end
theorem GNode.sz_eq (n : GNode) : n.sz = n.data.length + szs n.kids + 1 := by cases n; simp [GNode.sz, GNode.kids, GNode.data]
theorem szs_mem : ∀ {l : List GNode} {n : GNode}, n ∈ l → n.sz ≤ szs l
  | [], n, h => by simp at h
  | m :: l, n, h => by
    rcases List.mem_cons.1 h with h | h
    · subst h; simp only [szs]; omega
    · have := szs_mem h; simp only [szs]; omega
theorem szs_len : ∀ l : List GNode, l.length ≤ szs l
  | [] => by simp [szs]
  | n :: l => by
    have := szs_len l
    have := n.sz_eq
    simp only [szs, List.length_cons]; omega
theorem szs_lt {n m : GNode} (h : m ∈ n.kids) : m.sz < n.sz := by
  have := szs_mem h; rw [GNode.sz_eq n]; omega
mutual
/-- are two nodes the same? -/
def sameN : GNode → GNode → Bool
  | .mk t d k, .mk t' d' k' => t == t' && (decide (d = d') && sameL k k')
def sameL : List GNode → List GNode → Bool
  | [], [] => true
  | n :: l, m :: r => sameN n m && sameL l r
  | _, _ => false
end
theorem sameN_eq (n m : GNode) : sameN n m = (n.ty == m.ty && (decide (n.data = m.data) && sameL n.kids m.kids)) := by cases n; cases m; rw [sameN]; rfl
mutual
theorem sameN_iff : ∀ n m : GNode, sameN n m = true ↔ n = m
  | .mk t d k, .mk t' d' k' => by
    have := sameL_iff k k'
    simp [sameN, this]
theorem sameL_iff : ∀ l r : List GNode, sameL l r = true ↔ l = r
  | [], [] => by simp [sameL]
  | n :: l, m :: r => by
    have h1 := sameN_iff n m
    have h2 := sameL_iff l r
    simp [sameL, h1, h2]
  | [], m :: r => by simp [sameL]
  | n :: l, [] => by simp [sameL]
end
theorem sameL_len {l r : List GNode} (h : l.length ≠ r.length) : sameL l r = false := by
  cases hs : sameL l r with
  | false => rfl
  | true => rw [sameL_iff] at hs; subst hs; simp at h
theorem sameL_take {l r : List GNode} {i : Nat} (hl : i < l.length) (hr : i < r.length) (h0 : sameL (l.take i) (r.take i) = true) (h : sameN l[i] r[i] = true) : sameL (l.take (i + 1)) (r.take (i + 1)) = true := by
  rw [sameL_iff] at *
  rw [sameN_iff] at h
  rw [List.take_succ_eq_append_getElem hl, List.take_succ_eq_append_getElem hr, h0, h]
theorem sameL_at {l r : List GNode} {i : Nat} (hl : i < l.length) (hr : i < r.length) (h : sameN l[i] r[i] = false) : sameL l r = false := by
  cases hs : sameL l r with
  | false => rfl
  | true =>
    rw [sameL_iff] at hs; subst hs
    have : sameN l[i] l[i] = true := (sameN_iff _ _).2 rfl
    rw [this] at h; cases h
end Go.Abs
namespace Go.Proofs.YtmcedkcehcacpaaDoor.C
open Go.Abs
theorem equalFunc_c (l r : List GNode) (hl : l.length ≤ 2 ^ 40) (ih : ∀ n ∈ l, ∀ m ∈ r, PC Tryd.prog 22 [nodeA false n, nodeA false m] (bool (sameN n m))) :
    PC Tryd.prog 37 [.sl false 3 (nodesA false l), .sl false 3 (nodesA false r), .fn (.func 22) [] []] (bool (sameL l r)) := by
  refine PC.of_bodyW (by simp only [push_cast]) Tryd.func37 rfl (by rw [Tryd.ntmps37]; simp) ?_
  refine AWp.regionW ?_
  refine AWp.seqK fun K1 hK1 => ?_
  refine AWp.regionW ?_
  refine AWp.condLM (fun c0 => ?_) (fun c0 => ?_)
  · skip
    have hne : l.length ≠ r.length := by simpa using c0
    refine AWp.regionW ?_
    refine AWp.ret ?_
    try simp only [thenQ, blockQ, noGo]
    refine bodyQ.m ?_
    clear hK1 K1
    rw [sameL_len hne]
    first | done | exact Hand.go
  · skip
    have he : l.length = r.length := by simpa using c0
    refine AWp.skip ?_
    refine hK1 _ ?_
    refine AWp.seqK fun K2 hK2 => ?_
    refine AWp.regionW ?_
    refine AWp.block ?_
    refine AWp.loopK0 [1, 2, 15, 16] (fun (i : Nat) => [(17, nat i)]) (fun i => i ≤ l.length ∧ sameL (l.take i) (r.take i) = true) (fun i => l.length - i) (0) ?_ ⟨Nat.zero_le _, rfl⟩ ?_
    · skip
      refine Le.m 0 ?_ ?_
      · first | with_reducible rfl | (simp only [push_cast, reduceIte, Nat.reduceEqDiff, Nat.reduceLT, Nat.reduceAdd, Nat.reduceSub, Nat.reduceMul, Nat.reduceLeDiff, Nat.reducePow, Int.reduceLT, Int.reduceToNat, reduceCtorEq, Int.reduceNeg, Int.reduceEq, Nat.reduceBEq, Nat.reduceBNe, Int.reduceBEq, Int.reduceBNe, String.reduceEq]; first | done | rfl | (simp (disch := omega) only [w_nat, w_add, w_addl, w_addr, w_sub, w_subl, w_mul, w_mull, w_mulr, w_u32, w_u16, w_u8, w_u32a, N_zero]; first | done | rfl))
      · first | (simp only [push_cast, reduceIte, Nat.reduceEqDiff, Nat.reduceLT, Nat.reduceAdd, Nat.reduceSub, Nat.reduceMul, Nat.reduceLeDiff, Nat.reducePow, Int.reduceLT, Int.reduceToNat, reduceCtorEq, Int.reduceNeg, Int.reduceEq, Nat.reduceBEq, Nat.reduceBNe, Int.reduceBEq, Int.reduceBNe, String.reduceEq]; first | done | rfl | (simp (disch := omega) only [w_nat, w_add, w_addl, w_addr, w_sub, w_subl, w_mul, w_mull, w_mulr, w_u32, w_u16, w_u8, w_u32a, N_zero]; first | done | rfl))
    · intro i hi K3 hK3
      refine AWp.regionW ?_
      refine AWp.seqK fun K4 hK4 => ?_
      refine AWp.condLM (fun c1 => ?_) (fun c1 => ?_)
      · skip
        have hil : i < l.length := by simpa using c1
        have hir : i < r.length := by omega
        refine AWp.skip ?_
        refine hK4 _ ?_
        refine AWp.seqK fun K5 hK5 => ?_
        refine AWp.block ?_
        refine AWp.regionM fun K6 hK6 => ?_
        refine ARun2.indexM (i) (nodeA false l[i]) ?_ ?_
        · exact nodesA_at _ _ _ hil
        refine ARun2.endm (hK6 _ ?_)
        refine AWp.regionM fun K7 hK7 => ?_
        refine ARun2.indexM (i) (nodeA false r[i]) ?_ ?_
        · exact nodesA_at _ _ _ hir
        refine ARun2.endm (hK7 _ ?_)
        refine AWp.regionM fun K8 hK8 => ?_
        refine ARun2.callVM (ih l[i] (List.getElem_mem hil) r[i] (List.getElem_mem hir)) ?_
        refine ARun2.endm (hK8 _ ?_)
        refine AWp.condLM (fun c2 => ?_) (fun c2 => ?_)
        · skip
          have h5 : sameN l[i] r[i] = false := by simpa using c2
          refine AWp.regionW ?_
          refine AWp.ret ?_
          try simp only [thenQ, blockQ, noGo]
          refine bodyQ.m ?_
          clear hK8 K8 hK7 K7 hK6 K6 hK5 K5 hK4 K4 hK3 K3 hK2 K2 hK1 K1
          rw [sameL_at hil hir h5]
          first | done | exact Hand.go
        · skip
          have h5 : sameN l[i] r[i] = true := by simpa using c2
          refine AWp.skip ?_
          refine hK5 _ ?_
          refine AWp.regionV ?_
          refine hK3 _ (i + 1) (⟨by omega, sameL_take hil hir hi.2 h5⟩) (by omega) ?_
          refine Le.m 0 ?_ ?_
          · first | with_reducible rfl | (simp only [push_cast, reduceIte, Nat.reduceEqDiff, Nat.reduceLT, Nat.reduceAdd, Nat.reduceSub, Nat.reduceMul, Nat.reduceLeDiff, Nat.reducePow, Int.reduceLT, Int.reduceToNat, reduceCtorEq, Int.reduceNeg, Int.reduceEq, Nat.reduceBEq, Nat.reduceBNe, Int.reduceBEq, Int.reduceBNe, String.reduceEq]; first | done | rfl | (simp (disch := omega) only [w_nat, w_add, w_addl, w_addr, w_sub, w_subl, w_mul, w_mull, w_mulr, w_u32, w_u16, w_u8, w_u32a, N_zero]; first | done | rfl))
          · first | (simp only [push_cast, reduceIte, Nat.reduceEqDiff, Nat.reduceLT, Nat.reduceAdd, Nat.reduceSub, Nat.reduceMul, Nat.reduceLeDiff, Nat.reducePow, Int.reduceLT, Int.reduceToNat, reduceCtorEq, Int.reduceNeg, Int.reduceEq, Nat.reduceBEq, Nat.reduceBNe, Int.reduceBEq, Int.reduceBNe, String.reduceEq]; first | done | rfl | (simp (disch := omega) only [w_nat, w_add, w_addl, w_addr, w_sub, w_subl, w_mul, w_mull, w_mulr, w_u32, w_u16, w_u8, w_u32a, N_zero]; first | done | rfl))
      · skip
        have hil : i = l.length := by have := hi.1; simp at c1; omega
        have hs : sameL l r = true := by have := hi.2; rwa [hil, List.take_length, he, List.take_length] at this
        refine AWp.exit ?_
        try simp only [thenQ, blockQ, noGo, reduceIte, Nat.reduceEqDiff]
        refine hK2 _ ?_
        refine AWp.regionW ?_
        refine AWp.ret ?_
        try simp only [thenQ, blockQ, noGo]
        refine bodyQ.m ?_
        clear hK4 K4 hK3 K3 hK2 K2 hK1 K1
        rw [hs]
        first | done | exact Hand.go
theorem same_step (n m : GNode) (hs : n.sz ≤ 2 ^ 40) (ih : ∀ a b : GNode, a.sz < n.sz → PC Tryd.prog 22 [nodeA false a, nodeA false b] (bool (sameN a b))) : PC Tryd.prog 22 [nodeA false n, nodeA false m] (bool (sameN n m)) := by
  have hsz := n.sz_eq
  have hlen := szs_len n.kids
  have hq := equalFunc_c n.kids m.kids (by omega) (fun a ha b hb => ih a b (szs_lt ha))
  refine PC.of_bodyW (by simp only [push_cast]) Tryd.func22 rfl (by rw [Tryd.ntmps22]; simp) ?_
  refine AWp.regionW ?_
  refine AWp.regionA fun K1 hK1 => ?_
  refine ARun.segm 6 fun KS hKS => ?_
  refine ARun2.endm (hKS _ ?_); clear hKS KS
  apply ARun.grpM 5 5 true 15 [2, 3, 10]
  · intro g5 KG hKG
    refine ARun2.gom ?_
    refine ARun2.callM (equal_c n.data m.data) ?_
    exact ARun2.endm (hKG _ Le.grpM)
  refine ARun.segm 2 fun KS hKS => ?_
  refine ARun2.endm (hKS _ ?_); clear hKS KS
  apply ARun.grpM 5 12 true 22 [17]
  · intro g12 KG hKG
    refine ARun2.gom ?_
    refine ARun2.callM (hq) ?_
    exact ARun2.endm (hKG _ Le.grpM)
  refine ARun2.gom ?_
  refine ARun2.endm (hK1 _ ?_)
  refine AWp.ret ?_
  try simp only [thenQ, blockQ, noGo]
  refine bodyQ.m ?_
  clear hK1 K1
  simp only [sameN_eq, Bool.and_assoc]
  first | done | exact Hand.go
theorem same_w : ∀ (w : Nat) (n m : GNode), n.sz ≤ w → n.sz ≤ 2 ^ 40 → PC Tryd.prog 22 [nodeA false n, nodeA false m] (bool (sameN n m)) := by
  intro w
  induction w with
  | zero => intro n m h; have := n.sz_eq; omega
  | succ w ih => exact fun n m hw hs => same_step n m hs (fun a b h => ih a b (by omega) (by omega))
theorem same_c (n m : GNode) (hs : n.sz ≤ 2 ^ 40) : PC Tryd.prog 22 [nodeA false n, nodeA false m] (bool (sameN n m)) := same_w _ n m (Nat.le_refl _) hs
theorem nclone_step (n : GNode) (hs : n.sz ≤ 2 ^ 40) (ih : ∀ a : GNode, a.sz < n.sz → PC Tryd.prog 20 [nodeA false a] (nodeA false a)) : PC Tryd.prog 20 [nodeA false n] (nodeA false n) := by
  have hsz := n.sz_eq
  have hlen := szs_len n.kids
  refine PC.of_bodyW (by simp only [push_cast]) Tryd.func20 rfl (by rw [Tryd.ntmps20]; simp) ?_
  refine AWp.regionW ?_
  refine AWp.drS [[(1, none)], [(6, some 0)], [(1, none)], [(8, some 2)], [(9, some 3)], [(7, some 1), (10, some 4)], []] fun G hG => ?_
  refine Dr.sim ?_
  try simp only [List.cons_append, List.nil_append]
  refine Dr.sim ?_
  try simp only [List.cons_append, List.nil_append]
  refine Dr.sim ?_
  try simp only [List.cons_append, List.nil_append]
  refine Dr.sim ?_
  try simp only [List.cons_append, List.nil_append]
  refine Dr.call (clone_c n.data (by omega)) ?_
  try simp only [List.cons_append, List.nil_append]
  refine Dr.sim ?_
  try simp only [List.cons_append, List.nil_append]
  refine Dr.al ?_
  try simp only [List.cons_append, List.nil_append]
  refine Dr.finA (n := 7) 6 [(11, 5), (3, 6)] [1, 2] hG YtmcedkcehcacpaaDoor.Facts.mixed fun KD hKD => ?_
  refine ARun2.endm (hKD _ ?_); clear hKD KD hG G
  refine AWp.seqK fun K1 hK1 => ?_
  refine AWp.regionW ?_
  refine AWp.block ?_
  refine AWp.nilBox 2 2 27 3 rfl rfl ?_
  simp only [push_cast, reduceIte, Nat.reduceEqDiff, Nat.reduceLT, Nat.reduceAdd, Nat.reduceSub, Nat.reduceMul, Nat.reduceLeDiff, Nat.reducePow, Int.reduceLT, Int.reduceToNat, reduceCtorEq, Int.reduceNeg, Int.reduceEq, Nat.reduceBEq, Nat.reduceBNe, Int.reduceBEq, Int.reduceBNe, String.reduceEq]
  refine AWp.loopK [2, 3, 13, 14] (fun (i : Nat) => [(15, nat i)]) (fun i => [.box 27 [u16 n.ty, .sl false 1 (bys n.data), .sl false 3 (nodesA false n.kids)], .box 27 [.val (.int .u16 0), .val (.slice none 0 0), .val (.slice none 0 0)], .box 27 [u16 n.ty, .sl true 1 (bys n.data), .own 3], .row 27 3 (nodesA false (n.kids.take i))]) (fun i => i ≤ n.kids.length) (fun i => n.kids.length - i) (0) ?_ (Nat.zero_le _) ?_
  · skip
    refine Le.m 4 ?_ ?_
    · first | with_reducible rfl | (simp only [push_cast, reduceIte, Nat.reduceEqDiff, Nat.reduceLT, Nat.reduceAdd, Nat.reduceSub, Nat.reduceMul, Nat.reduceLeDiff, Nat.reducePow, Int.reduceLT, Int.reduceToNat, reduceCtorEq, Int.reduceNeg, Int.reduceEq, Nat.reduceBEq, Nat.reduceBNe, Int.reduceBEq, Int.reduceBNe, String.reduceEq]; first | done | rfl | (simp (disch := omega) only [w_nat, w_add, w_addl, w_addr, w_sub, w_subl, w_mul, w_mull, w_mulr, w_u32, w_u16, w_u8, w_u32a, N_zero]; first | done | rfl))
    · first | (simp only [push_cast, reduceIte, Nat.reduceEqDiff, Nat.reduceLT, Nat.reduceAdd, Nat.reduceSub, Nat.reduceMul, Nat.reduceLeDiff, Nat.reducePow, Int.reduceLT, Int.reduceToNat, reduceCtorEq, Int.reduceNeg, Int.reduceEq, Nat.reduceBEq, Nat.reduceBNe, Int.reduceBEq, Int.reduceBNe, String.reduceEq]; first | done | rfl | (simp (disch := omega) only [w_nat, w_add, w_addl, w_addr, w_sub, w_subl, w_mul, w_mull, w_mulr, w_u32, w_u16, w_u8, w_u32a, N_zero]; first | done | rfl))
  · intro i hi K2 hK2
    refine AWp.regionW ?_
    refine AWp.seqK fun K3 hK3 => ?_
    refine AWp.condLM (fun c0 => ?_) (fun c0 => ?_)
    · skip
      have hil : i < n.kids.length := by simpa using c0
      refine AWp.skip ?_
      refine hK3 _ ?_
      refine AWp.seqK fun K4 hK4 => ?_
      refine AWp.block ?_
      refine AWp.regionM fun K5 hK5 => ?_
      refine ARun2.indexM (i) (nodeA false n.kids[i]) ?_ ?_
      · exact nodesA_at _ _ _ hil
      refine ARun2.endm (hK5 _ ?_)
      refine AWp.drE [[(3, none)], [(19, some 0)], [(5, none)], [(21, some 2)], [(22, some 3)]] fun G hG => ?_
      refine Dr.sim ?_
      try simp only [List.cons_append, List.nil_append]
      refine Dr.sim ?_
      try simp only [List.cons_append, List.nil_append]
      refine Dr.sim ?_
      try simp only [List.cons_append, List.nil_append]
      refine Dr.call (ih n.kids[i] (szs_lt (List.getElem_mem hil))) ?_
      try simp only [List.cons_append, List.nil_append]
      refine Dr.build ?_
      try simp only [List.cons_append, List.nil_append]
      refine Dr.finN (n := 5) [(20, 1), (23, 4)] [2, 3, 13, 14, 15] hG YtmcedkcehcacpaaDoor.Facts.mixed fun KD hKD => ?_
      refine ARun2.appendM ?_ ?_ ?_
      · rw [YtmcedkcehcacpaaDoor.Facts.eb25, nodesA_len, List.length_take, List.length_cons, List.length_nil]; omega
      · rw [nodesA_len, List.length_take, List.length_cons, List.length_nil]; omega
      refine ARun2.endm (hKD _ ?_); clear hKD KD hG G
      refine hK4 _ ?_
      refine AWp.regionV ?_
      refine hK2 _ (i + 1) (by omega) (by omega) ?_
      refine Le.m 4 ?_ ?_
      · try simp only [push_cast, reduceIte, Nat.reduceEqDiff, Nat.reduceLT, Nat.reduceAdd, Nat.reduceSub, Nat.reduceMul, Nat.reduceLeDiff, Nat.reducePow, Int.reduceLT, Int.reduceToNat, reduceCtorEq, Int.reduceNeg, Int.reduceEq, Nat.reduceBEq, Nat.reduceBNe, Int.reduceBEq, Int.reduceBNe, String.reduceEq]
        try simp (disch := omega) only [w_nat, w_add, w_addl, w_addr, w_sub, w_subl, w_mul, w_mull, w_mulr, w_u32, w_u16, w_u8, w_u32a, N_zero]
        first | done | skip
        rw [List.take_succ_eq_append_getElem hil, nodesA_snoc, nodeA_eq]
      · first | (simp only [push_cast, reduceIte, Nat.reduceEqDiff, Nat.reduceLT, Nat.reduceAdd, Nat.reduceSub, Nat.reduceMul, Nat.reduceLeDiff, Nat.reducePow, Int.reduceLT, Int.reduceToNat, reduceCtorEq, Int.reduceNeg, Int.reduceEq, Nat.reduceBEq, Nat.reduceBNe, Int.reduceBEq, Int.reduceBNe, String.reduceEq]; first | done | rfl | (simp (disch := omega) only [w_nat, w_add, w_addl, w_addr, w_sub, w_subl, w_mul, w_mull, w_mulr, w_u32, w_u16, w_u8, w_u32a, N_zero]; first | done | rfl))
    · skip
      have hil : i = n.kids.length := by simp at c0; omega
      subst hil
      refine AWp.exit ?_
      try simp only [thenQ, blockQ, noGo, reduceIte, Nat.reduceEqDiff]
      refine hK1 _ ?_
      refine AWp.pubD 3 ?_
      refine AWp.regionW ?_
      refine AWp.ret ?_
      try simp only [thenQ, blockQ, noGo]
      refine bodyQ.m ?_
      clear hK3 K3 hK2 K2 hK1 K1
      rw [List.take_length]
      first | done | exact Hand.go
theorem nclone_w : ∀ (w : Nat) (n : GNode), n.sz ≤ w → n.sz ≤ 2 ^ 40 → PC Tryd.prog 20 [nodeA false n] (nodeA false n) := by
  intro w
  induction w with
  | zero => intro n h; have := n.sz_eq; omega
  | succ w ih => exact fun n hw hs => nclone_step n hs (fun a h => ih a (by omega) (by omega))
theorem nclone_c (n : GNode) (hs : n.sz ≤ 2 ^ 40) : PC Tryd.prog 20 [nodeA false n] (nodeA false n) := nclone_w _ n (Nat.le_refl _) hs
end Go.Proofs.YtmcedkcehcacpaaDoor.C
namespace Go.Abs
mutual
/-- types of nodes are numbers of 16 bits -/
def GNode.tyOk : GNode → Bool
  | .mk t _ k => decide (t < 65536) && tysOk k
def tysOk : List GNode → Bool
  | [] => true
  | n :: l => n.tyOk && tysOk l
end
theorem GNode.tyOk_eq (n : GNode) : n.tyOk = (decide (n.ty < 65536) && tysOk n.kids) := by cases n; rw [GNode.tyOk]; rfl
theorem tysOk_mem : ∀ {l : List GNode}, tysOk l = true → ∀ n ∈ l, n.tyOk = true
  | [], _, n, h => by simp at h
  | m :: l, h, n, hm => by
    simp only [tysOk, Bool.and_eq_true] at h
    rcases List.mem_cons.1 hm with rfl | hm
    · exact h.1
    · exact tysOk_mem h.2 n hm
theorem GNode.tyOk_kids {n : GNode} (h : n.tyOk = true) : tysOk n.kids = true := by rw [GNode.tyOk_eq] at h; simp at h; exact h.2
theorem GNode.tyOk_ty {n : GNode} (h : n.tyOk = true) : n.ty < 65536 := by rw [GNode.tyOk_eq] at h; simp at h; exact h.1
end Go.Abs
/- Nodes read: one, parse, Parse. -/
set_option linter.unusedVariables false
set_option linter.unusedSimpArgs false
namespace Go.Proofs.YtmcedkcehcacpaaDoor.C
open Go.Abs
/-- the nodes of frames -/
def goF (one : Frm → Nat → GNode × Er) (i : Nat) : List (Nat × Frm) → List GNode × Er
  | [] => ([], .ok)
  | p :: l => if (one p.2 (i + p.1)).2 = .ok then (if (goF one i l).2 = .ok then ((one p.2 (i + p.1)).1 :: (goF one i l).1, .ok) else ([], (goF one i l).2)) else ([], (one p.2 (i + p.1)).2)
theorem goF_snoc {one : Frm → Nat → GNode × Er} {i : Nat} {p : Nat × Frm} : ∀ {l : List (Nat × Frm)}, (goF one i l).2 = .ok → (one p.2 (i + p.1)).2 = .ok → goF one i (l ++ [p]) = ((goF one i l).1 ++ [(one p.2 (i + p.1)).1], .ok)
  | [], h, h2 => by simp [goF, h2]
  | q :: l, h, h2 => by
    simp only [goF] at h
    split at h
    · rename_i hq
      split at h
      · rename_i hl
        simp only [List.cons_append, goF, hq, if_true, hl, goF_snoc hl h2]
      · rename_i hl; exact absurd h hl
    · rename_i hq; exact absurd h hq
theorem goF_err {one : Frm → Nat → GNode × Er} {i : Nat} {p : Nat × Frm} {r : List (Nat × Frm)} : ∀ {l : List (Nat × Frm)}, (goF one i l).2 = .ok → (one p.2 (i + p.1)).2 ≠ .ok → goF one i (l ++ p :: r) = ([], (one p.2 (i + p.1)).2)
  | [], h, h2 => by simp [goF, h2]
  | q :: l, h, h2 => by
    simp only [goF] at h
    split at h
    · rename_i hq
      split at h
      · rename_i hl
        simp only [List.cons_append, goF, hq, if_true, goF_err (r := r) hl h2, if_neg h2]
      · rename_i hl; exact absurd h hl
    · rename_i hq; exact absurd h hq
/-- the bytes of a frame that are a node's own -/
def dataOf (c : Nat) (f : Frm) : List UInt8 := if (shapeOf c f.ty).kids ≠ 0 ∧ (shapeOf c f.ty).least ≤ f.val.length then f.val.take (shapeOf c f.ty).least else f.val
/-- the node of a frame; rec: the nodes inside, one deeper -/
def oneF (rec : Nat → List UInt8 → Nat → List GNode × Er) (c : Nat) (f : Frm) (i : Nat) : GNode × Er :=
  if shapeHas c f.ty = false then (.mk f.ty f.val [], .ok)
  else if fitsN (shapeOf c f.ty) (dataOf c f).length = false then (.zero, .flt 7 i)
  else if countedN c f.ty (dataOf c f) = true then (.zero, .flt 8 (i + 4))
  else if (shapeOf c f.ty).kids = 0 then (.mk f.ty (dataOf c f) [], .ok)
  else if (rec (insideN (shapeOf c f.ty).kids).1 (f.val.drop (shapeOf c f.ty).least) (i + 4 + (shapeOf c f.ty).least)).2 ≠ .ok then
    (.zero, (rec (insideN (shapeOf c f.ty).kids).1 (f.val.drop (shapeOf c f.ty).least) (i + 4 + (shapeOf c f.ty).least)).2)
  else if kidsOk (shapeOf c f.ty) (rec (insideN (shapeOf c f.ty).kids).1 (f.val.drop (shapeOf c f.ty).least) (i + 4 + (shapeOf c f.ty).least)).1 = false then (.zero, .flt 7 i)
  else (.mk f.ty (dataOf c f) (rec (insideN (shapeOf c f.ty).kids).1 (f.val.drop (shapeOf c f.ty).least) (i + 4 + (shapeOf c f.ty).least)).1, .ok)
/-- the nodes of a list of bytes, m levels deep -/
def parseF : Nat → Nat → List UInt8 → Nat → List GNode × Er
  | m, c, b, i => if (scan b b.length 0).2 = .ok then goF (fun f i => match m with
      | 0 => (.zero, .flt 9 i)
      | m + 1 => oneF (parseF m) c f i) i (scan b b.length 0).1
    else ([], (scan b b.length 0).2.shift i)
def oneD (m c : Nat) (f : Frm) (i : Nat) : GNode × Er := match m with
  | 0 => (.zero, .flt 9 i)
  | m + 1 => oneF (parseF m) c f i
theorem parseF_eq (m c : Nat) (b : List UInt8) (i : Nat) : parseF m c b i = if (scan b b.length 0).2 = .ok then goF (oneD m c) i (scan b b.length 0).1 else ([], (scan b b.length 0).2.shift i) := by
  rw [parseF]; rfl
theorem one_deep (c d : Nat) (f : Frm) (i : Nat) (hd : 4 < d) (hd2 : d < 2 ^ 60) : PC Tryd.prog 44 [nat c, frmA false f, nat i, nat d] (.tup [nodeA false .zero, erA (.flt 9 i)]) := by
  refine PC.of_bodyW (by simp only [push_cast]) Tryd.func44 rfl (by rw [Tryd.ntmps44]; simp) ?_
  refine AWp.regionW ?_
  refine AWp.seqK fun K1 hK1 => ?_
  refine AWp.regionW ?_
  refine AWp.condT ?_ (by simp only [push_cast]; simp; omega)
  refine AWp.regionM fun K2 hK2 => ?_
  refine ARun2.callM (fnew_c 9 i) ?_
  refine ARun2.endm (hK2 _ ?_)
  refine AWp.ret ?_
  try simp only [thenQ, blockQ, noGo]
  refine bodyQ.m ?_
  clear hK2 K2 hK1 K1
  simp only [GNode.zero, nodeA, nodesA]
  first | done | exact Hand.go
theorem shape_kids4 (c t : Nat) : (shapeOf c t).kids ≤ 4 := by
  have key : ∀ l : List ShForm, (∀ f ∈ l, f.kids ≤ 4) → (((l.find? fun f => f.ty == t).map fun f => { f with cls := c }).getD zeroForm).kids ≤ 4 := by
    intro l hl
    cases hf : l.find? (fun f => f.ty == t) with
    | none => simp [zeroForm]
    | some f => simpa using hl f (List.mem_of_find?_eq_some hf)
  refine key (formsN c) ?_
  match c with
  | 0 => intro f hf; simp [formsN] at hf
  | 1 => decide
  | 2 => decide
  | _ + 3 => intro f hf; simp [formsN] at hf
theorem inside_cls {k : Nat} (h4 : k ≤ 4) (h0 : k ≠ 0) : (insideN k).1 = 1 ∨ (insideN k).1 = 2 := by
  have : k = 1 ∨ k = 2 ∨ k = 3 ∨ k = 4 := by omega
  rcases this with rfl | rfl | rfl | rfl <;> simp [insideN]
theorem fits_least {f : ShForm} {n : Nat} (h : fitsN f n = true) : f.least ≤ n := by
  unfold fitsN at h; simp at h; exact h.1.1
theorem dataOf_len (c : Nat) (f : Frm) : (dataOf c f).length ≤ f.val.length := by
  unfold dataOf; split
  · rw [List.length_take]; omega
  · exact Nat.le_refl _
theorem readN_fit {b : List UInt8} {i : Nat} (hi : i < b.length) (h : (readN b i).2.2 = .ok) : i + 4 + (readN b i).1.val.length ≤ b.length := by
  unfold readN at h ⊢
  split at h
  · rename_i hc
    rw [if_pos hc]
    split at h
    · rename_i he; rw [if_pos he]; simp only [List.length_take, List.length_drop]; omega
    · rename_i he
      rw [if_neg he]
      split at h
      · rename_i hs; rw [if_pos hs]; simp only [List.length_take, List.length_drop]; omega
      · cases h
  · cases h
theorem readN_ty (b : List UInt8) (i : Nat) : (readN b i).1.ty < 65536 := by
  unfold readN
  split
  · split
    · exact peek2_lt _ _
    · split
      · exact peek2_lt _ _
      · simp [frm0]
  · simp [frm0]
theorem scan_fit (b : List UInt8) : ∀ (k i : Nat), ∀ p ∈ (scan b k i).1, p.1 + 4 + p.2.val.length ≤ b.length ∧ p.2.ty < 65536
  | 0, i, p, h => by simp [scan] at h
  | k + 1, i, p, h => by
    rw [scan] at h
    split at h
    · rename_i hi
      cases he : (readN b i).2.2 with
      | ok =>
        simp only [he] at h
        rcases List.mem_cons.1 h with rfl | h
        · exact ⟨readN_fit hi he, readN_ty b i⟩
        · exact scan_fit b k _ p h
      | code c => simp [he] at h
      | flt c j => simp [he] at h
    · simp at h
theorem one_step (m c d : Nat) (hc : c = 1 ∨ c = 2) (hd : d ≤ 4) (f : Frm) (i : Nat) (hi : i + 4 + f.val.length ≤ 2 ^ 40)
    (ih : ∀ (c : Nat) (b : List UInt8) (i : Nat), (c = 1 ∨ c = 2) → i + b.length ≤ 2 ^ 40 → PC Tryd.prog 26 [nat c, .sl false 1 (bys b), nat i, nat (d + 1)] (.tup [.sl false 3 (nodesA false (parseF m c b i).1), erA (parseF m c b i).2]))
    (ihl : ∀ (c : Nat) (b : List UInt8) (i : Nat), (parseF m c b i).1.length ≤ b.length) :
    PC Tryd.prog 44 [nat c, frmA false f, nat i, nat d] (.tup [nodeA false (oneF (parseF m) c f i).1, erA (oneF (parseF m) c f i).2]) := by
  obtain ⟨S, hS⟩ : ∃ S, S = shapeOf c f.ty := ⟨_, rfl⟩
  have h4 := shape_kids4 c f.ty
  have hk60 := form_kids c f.ty
  have hdl := dataOf_len c f
  have hO : oneF (parseF m) c f i = oneF (parseF m) c f i := rfl
  conv at hO => rhs; unfold oneF
  rw [← hS] at h4 hk60 hO
  have hdo : dataOf c f = if S.kids ≠ 0 ∧ S.least ≤ f.val.length then f.val.take S.least else f.val := by unfold dataOf; rw [hS]
  have hof := of_c c f.ty hc
  rw [← hS] at hof
  have hfo := form_ok c f.ty
  rw [← hS] at hfo
  generalize oneF (parseF m) c f i = O at hO
  refine PC.of_bodyW (by simp only [push_cast]) Tryd.func44 rfl (by rw [Tryd.ntmps44]; simp) ?_
  refine AWp.regionW ?_
  refine AWp.seqK fun K1 hK1 => ?_
  refine AWp.regionW ?_
  refine AWp.condF ?_ (by simp only [push_cast]; simp; omega)
  refine AWp.skip ?_
  refine hK1 _ ?_
  refine AWp.regionW ?_
  refine AWp.regionM fun K2 hK2 => ?_
  refine ARun2.callM (hof) ?_
  refine ARun2.endm (hK2 _ ?_)
  refine AWp.seqK fun K3 hK3 => ?_
  refine AWp.regionW ?_
  refine AWp.condLM (fun c1 => ?_) (fun c1 => ?_)
  · skip
    have hh : shapeHas c f.ty = false := by simpa using c1
    rw [if_pos hh] at hO
    refine AWp.regionW ?_
    refine AWp.ret ?_
    try simp only [thenQ, blockQ, noGo]
    refine bodyQ.m ?_
    clear hK3 K3 hK2 K2 hK1 K1
    subst hO; simp only [GNode.zero]
    first | done | exact Hand.go
  · skip
    have hh : shapeHas c f.ty = true := by simpa using c1
    rw [if_neg (by rw [hh]; simp)] at hO
    obtain ⟨u1, u2, u3⟩ := hfo hh
    refine AWp.skip ?_
    refine hK3 _ ?_
    refine AWp.seqK fun K4 hK4 => ?_
    refine AWp.regionA fun K5 hK5 => ?_
    refine ARun.segm 4 fun KS hKS => ?_
    refine ARun2.endm (hKS _ ?_); clear hKS KS
    apply ARun.grpM 6 3 true 47 [0, 2, 3, 5, 8, 10, 11, 41]
    · intro g3 KG hKG
      refine ARun2.gom ?_
      exact ARun2.endm (hKG _ Le.grpM)
    refine ARun2.gom ?_
    refine ARun2.endm (hK5 _ ?_)
    refine AWp.condLM (fun c2 => ?_) (fun c2 => ?_)
    · skip
      have hd0 : dataOf c f = f.val.take S.least := by rw [hdo, if_pos (by simp at c2; exact c2)]
      have hle : S.least ≤ f.val.length := by simp at c2; exact c2.2
      refine AWp.regionN fun K6 hK6 => ?_
      refine ARun2.sliceHi3M S.least (by rw [bys_len]; exact hle) ?_
      refine ARun2.endm (hK6 _ ?_)
      rw [← hd0]
      refine hK4 _ ?_
      refine AWp.seqK fun K7 hK7 => ?_
      refine AWp.block ?_
      refine AWp.regionM fun K8 hK8 => ?_
      refine ARun2.callM (fits_c S (dataOf c f).length (by omega) u3 u1 u2) ?_
      refine ARun2.endm (hK8 _ ?_)
      refine AWp.condLM (fun c3 => ?_) (fun c3 => ?_)
      · skip
        have hf : fitsN S (dataOf c f).length = false := by simpa using c3
        rw [if_pos hf] at hO
        refine AWp.regionM fun K9 hK9 => ?_
        refine ARun2.callM (fnew_c 7 i) ?_
        refine ARun2.endm (hK9 _ ?_)
        refine AWp.ret ?_
        try simp only [thenQ, blockQ, noGo]
        refine bodyQ.m ?_
        clear hK9 K9 hK8 K8 hK7 K7 hK6 K6 hK5 K5 hK4 K4 hK3 K3 hK2 K2 hK1 K1
        subst hO; simp only [GNode.zero]
        first | done | exact Hand.go
      · skip
        have hf : fitsN S (dataOf c f).length = true := by simpa using c3
        rw [if_neg (by rw [hf]; simp)] at hO
        refine AWp.regionM fun K10 hK10 => ?_
        refine ARun2.callM (counted_c c f.ty (dataOf c f) (by omega)) ?_
        refine ARun2.endm (hK10 _ ?_)
        refine AWp.condLM (fun c4 => ?_) (fun c4 => ?_)
        · skip
          have hcn := c4
          rw [if_pos hcn] at hO
          refine AWp.regionM fun K11 hK11 => ?_
          refine ARun2.callM (fnew_c 8 (i + 4)) ?_
          refine ARun2.endm (hK11 _ ?_)
          refine AWp.ret ?_
          try simp only [thenQ, blockQ, noGo]
          refine bodyQ.m ?_
          clear hK11 K11 hK10 K10 hK8 K8 hK7 K7 hK6 K6 hK5 K5 hK4 K4 hK3 K3 hK2 K2 hK1 K1
          subst hO; simp only [GNode.zero]
          first | done | exact Hand.go
        · skip
          have hcn := c4
          rw [if_neg (by rw [hcn]; simp)] at hO
          refine AWp.regionW ?_
          refine AWp.condLM (fun c5 => ?_) (fun c5 => ?_)
          · skip
            have hk0 : S.kids = 0 := by simpa using c5
            rw [if_pos hk0] at hO
            refine AWp.regionW ?_
            refine AWp.ret ?_
            try simp only [thenQ, blockQ, noGo]
            refine bodyQ.m ?_
            clear hK10 K10 hK8 K8 hK7 K7 hK6 K6 hK5 K5 hK4 K4 hK3 K3 hK2 K2 hK1 K1
            subst hO; simp only [GNode.zero]
            first | done | exact Hand.go
          · skip
            have hk0 : S.kids ≠ 0 := by simpa using c5
            rw [if_neg hk0] at hO
            have ihr := ih (insideN S.kids).1 (f.val.drop S.least) (i + 4 + S.least) (inside_cls h4 hk0) (by rw [List.length_drop]; omega)
            have ihn := ihl (insideN S.kids).1 (f.val.drop S.least) (i + 4 + S.least)
            rw [List.length_drop] at ihn
            obtain ⟨r, hr⟩ : ∃ r, r = parseF m (insideN S.kids).1 (f.val.drop S.least) (i + 4 + S.least) := ⟨_, rfl⟩
            rw [← hr] at hO ihr ihn
            refine AWp.skip ?_
            refine hK7 _ ?_
            refine AWp.regionM fun K12 hK12 => ?_
            refine ARun2.callM (inside_c S.kids hk60) ?_
            refine ARun2.endm (hK12 _ ?_)
            refine AWp.drS [[(13, none)], [(5, none)], [(92, some 1)], [(11, none)], [(94, some 3)], [(93, some 2), (95, some 4)], [(2, none)], [(97, some 6)], [(11, none)], [(99, some 8)], [(98, some 7), (100, some 9)], [(3, none)], [(102, some 11)], [(91, some 0), (96, some 5), (101, some 10), (103, some 12)], [(104, some 13)], [(90, some 14)], [(90, some 14)], [(105, some 15)], [(106, some 16)]] fun G hG => ?_
            refine Dr.sim ?_
            try simp only [List.cons_append, List.nil_append]
            refine Dr.sim ?_
            try simp only [List.cons_append, List.nil_append]
            refine Dr.sim ?_
            try simp only [List.cons_append, List.nil_append]
            refine Dr.sim ?_
            try simp only [List.cons_append, List.nil_append]
            refine Dr.sim ?_
            try simp only [List.cons_append, List.nil_append]
            refine Dr.sliceLo (S.least) ?_ ?_
            · rw [bys_len]; exact hle
            try simp only [List.cons_append, List.nil_append]
            refine Dr.sim ?_
            try simp only [List.cons_append, List.nil_append]
            refine Dr.sim ?_
            try simp only [List.cons_append, List.nil_append]
            refine Dr.sim ?_
            try simp only [List.cons_append, List.nil_append]
            refine Dr.sim ?_
            try simp only [List.cons_append, List.nil_append]
            refine Dr.sim ?_
            try simp only [List.cons_append, List.nil_append]
            refine Dr.sim ?_
            try simp only [List.cons_append, List.nil_append]
            refine Dr.sim ?_
            try simp only [List.cons_append, List.nil_append]
            refine Dr.call (ihr) ?_
            try simp only [List.cons_append, List.nil_append]
            refine Dr.sim ?_
            try simp only [List.cons_append, List.nil_append]
            refine Dr.sim ?_
            try simp only [List.cons_append, List.nil_append]
            refine Dr.sim ?_
            try simp only [List.cons_append, List.nil_append]
            refine Dr.sim ?_
            try simp only [List.cons_append, List.nil_append]
            refine Dr.sim ?_
            try simp only [List.cons_append, List.nil_append]
            refine Dr.finM (n := 19) [(16, 17), (17, 18)] [2, 8, 10, 11] hG YtmcedkcehcacpaaDoor.Facts.mixed fun KD hKD => ?_
            refine ARun2.endm (hKD _ ?_); clear hKD KD hG G
            refine AWp.seqK fun K13 hK13 => ?_
            refine AWp.regionW ?_
            refine AWp.condLM (fun c6 => ?_) (fun c6 => ?_)
            · skip
              have he : r.2 ≠ .ok := by intro h; rw [h] at c6; cases c6
              rw [if_pos he] at hO
              refine AWp.regionW ?_
              refine AWp.ret ?_
              try simp only [thenQ, blockQ, noGo]
              refine bodyQ.m ?_
              clear hK13 K13 hK12 K12 hK10 K10 hK8 K8 hK7 K7 hK6 K6 hK5 K5 hK4 K4 hK3 K3 hK2 K2 hK1 K1
              subst hO; simp only [GNode.zero]
              first | done | exact Hand.go
            · skip
              have he : r.2 = .ok := by rw [← isOk_iff]; simpa using c6
              rw [if_neg (by simpa using he)] at hO
              refine AWp.skip ?_
              refine hK13 _ ?_
              refine AWp.regionW ?_
              refine AWp.seqK fun K14 hK14 => ?_
              refine AWp.regionM fun K15 hK15 => ?_
              refine ARun2.callM (kids_c S r.1 (by omega) hk60) ?_
              refine ARun2.endm (hK15 _ ?_)
              refine AWp.condLM (fun c7 => ?_) (fun c7 => ?_)
              · skip
                have hkk : kidsOk S r.1 = false := by simpa using c7
                rw [if_pos hkk] at hO
                refine AWp.regionM fun K16 hK16 => ?_
                refine ARun2.callM (fnew_c 7 i) ?_
                refine ARun2.endm (hK16 _ ?_)
                refine AWp.ret ?_
                try simp only [thenQ, blockQ, noGo]
                refine bodyQ.m ?_
                clear hK16 K16 hK15 K15 hK14 K14 hK13 K13 hK12 K12 hK10 K10 hK8 K8 hK7 K7 hK6 K6 hK5 K5 hK4 K4 hK3 K3 hK2 K2 hK1 K1
                subst hO; simp only [GNode.zero]
                first | done | exact Hand.go
              · skip
                have hkk : kidsOk S r.1 = true := by simpa using c7
                rw [if_neg (by rw [hkk]; simp)] at hO
                refine AWp.skip ?_
                refine hK14 _ ?_
                refine AWp.regionW ?_
                refine AWp.ret ?_
                try simp only [thenQ, blockQ, noGo]
                refine bodyQ.m ?_
                clear hK15 K15 hK14 K14 hK13 K13 hK12 K12 hK10 K10 hK8 K8 hK7 K7 hK6 K6 hK5 K5 hK4 K4 hK3 K3 hK2 K2 hK1 K1
                subst hO; simp only [GNode.zero]
                first | done | exact Hand.go
    · skip
      have hd0 : dataOf c f = f.val := by rw [hdo, if_neg (by simp at c2; intro h; have := c2 h.1; omega)]
      rw [hd0] at hO
      refine AWp.skip ?_
      refine hK4 _ ?_
      refine AWp.seqK fun K17 hK17 => ?_
      refine AWp.block ?_
      refine AWp.regionM fun K18 hK18 => ?_
      refine ARun2.callM (fits_c S f.val.length (by omega) u3 u1 u2) ?_
      refine ARun2.endm (hK18 _ ?_)
      refine AWp.condLM (fun c3 => ?_) (fun c3 => ?_)
      · skip
        have hf : fitsN S f.val.length = false := by simpa using c3
        rw [if_pos hf] at hO
        refine AWp.regionM fun K19 hK19 => ?_
        refine ARun2.callM (fnew_c 7 i) ?_
        refine ARun2.endm (hK19 _ ?_)
        refine AWp.ret ?_
        try simp only [thenQ, blockQ, noGo]
        refine bodyQ.m ?_
        clear hK19 K19 hK18 K18 hK17 K17 hK5 K5 hK4 K4 hK3 K3 hK2 K2 hK1 K1
        subst hO; simp only [GNode.zero]
        first | done | exact Hand.go
      · skip
        have hf : fitsN S f.val.length = true := by simpa using c3
        rw [if_neg (by rw [hf]; simp)] at hO
        refine AWp.regionM fun K20 hK20 => ?_
        refine ARun2.callM (counted_c c f.ty f.val (by omega)) ?_
        refine ARun2.endm (hK20 _ ?_)
        refine AWp.condLM (fun c4 => ?_) (fun c4 => ?_)
        · skip
          have hcn := c4
          rw [if_pos hcn] at hO
          refine AWp.regionM fun K21 hK21 => ?_
          refine ARun2.callM (fnew_c 8 (i + 4)) ?_
          refine ARun2.endm (hK21 _ ?_)
          refine AWp.ret ?_
          try simp only [thenQ, blockQ, noGo]
          refine bodyQ.m ?_
          clear hK21 K21 hK20 K20 hK18 K18 hK17 K17 hK5 K5 hK4 K4 hK3 K3 hK2 K2 hK1 K1
          subst hO; simp only [GNode.zero]
          first | done | exact Hand.go
        · skip
          have hcn := c4
          rw [if_neg (by rw [hcn]; simp)] at hO
          refine AWp.regionW ?_
          refine AWp.condLM (fun c5 => ?_) (fun c5 => ?_)
          · skip
            have hk0 : S.kids = 0 := by simpa using c5
            rw [if_pos hk0] at hO
            refine AWp.regionW ?_
            refine AWp.ret ?_
            try simp only [thenQ, blockQ, noGo]
            refine bodyQ.m ?_
            clear hK20 K20 hK18 K18 hK17 K17 hK5 K5 hK4 K4 hK3 K3 hK2 K2 hK1 K1
            subst hO; simp only [GNode.zero]
            first | done | exact Hand.go
          · skip
            have hk0 : S.kids ≠ 0 := by simpa using c5
            have hle := fits_least hf
            simp at c2
            have := c2 hk0
            omega
theorem splitN_er (b : List UInt8) : (splitN b).2 = (scan b b.length 0).2 := by
  unfold splitN; split
  · rename_i h; exact h.symm
  · rfl
theorem readN_at (b : List UInt8) (i : Nat) (hi : i ≤ b.length) : (readN b i).2.2.atOf.1 ≤ b.length := by
  unfold readN
  split
  · split
    · exact Nat.zero_le _
    · split
      · exact Nat.zero_le _
      · show i + _ ≤ _; omega
  · exact hi
theorem scan_at (b : List UInt8) : ∀ (k i : Nat), (scan b k i).2.atOf.1 ≤ b.length
  | 0, i => Nat.zero_le _
  | k + 1, i => by
    rw [scan]
    split
    · rename_i hi
      have h := readN_at b i (by omega)
      cases he : (readN b i).2.2 with
      | ok => exact scan_at b k _
      | code c => rw [he] at h; exact h
      | flt c j => rw [he] at h; exact h
    · exact Nat.zero_le _
theorem scan_len (b : List UInt8) : ∀ (k i : Nat), i ≤ b.length → (scan b k i).1.length ≤ b.length - i
  | 0, i, _ => Nat.zero_le _
  | k + 1, i, hle => by
    rw [scan]
    split
    · rename_i hi
      cases he : (readN b i).2.2 with
      | ok =>
        obtain ⟨n1, n2⟩ := readN_next he
        have := scan_len b k (readN b i).2.1 n2
        simp only [List.length_cons]; omega
      | code c => exact Nat.zero_le _
      | flt c j => exact Nat.zero_le _
    · exact Nat.zero_le _
theorem goF_len (one : Frm → Nat → GNode × Er) (i : Nat) : ∀ l : List (Nat × Frm), (goF one i l).1.length ≤ l.length
  | [] => Nat.zero_le _
  | p :: l => by
    have := goF_len one i l
    simp only [goF]
    split
    · split
      · simp only [List.length_cons]; omega
      · exact Nat.zero_le _
    · exact Nat.zero_le _
theorem parseF_len (m c : Nat) (b : List UInt8) (i : Nat) : (parseF m c b i).1.length ≤ b.length := by
  rw [parseF_eq]
  split
  · exact Nat.le_trans (goF_len _ _ _) (by have := scan_len b b.length 0 (Nat.zero_le _); omega)
  · exact Nat.zero_le _
theorem ysOf_len (l : List (Nat × Frm)) : (ysOf l).length = l.length := by simp [ysOf]
theorem parse_step (m c d : Nat) (hc : c = 1 ∨ c = 2) (hd : d < 2 ^ 60) (b : List UInt8) (i : Nat) (hi : i + b.length ≤ 2 ^ 40)
    (hone : ∀ (f : Frm) (j : Nat), j + 4 + f.val.length ≤ 2 ^ 40 → PC Tryd.prog 44 [nat c, frmA false f, nat j, nat d] (.tup [nodeA false (oneD m c f j).1, erA (oneD m c f j).2])) :
    PC Tryd.prog 26 [nat c, .sl false 1 (bys b), nat i, nat d] (.tup [.sl false 3 (nodesA false (parseF m c b i).1), erA (parseF m c b i).2]) := by
  have hsat := scan_at b b.length 0
  have hsf := scan_fit b b.length 0
  have hsl := scan_len b b.length 0 (Nat.zero_le _)
  have hsp := splitN_er b
  have hall := all_iter b (by omega)
  have hO := parseF_eq m c b i
  generalize parseF m c b i = O at hO
  generalize hfe : (scan b b.length 0).1 = fs at hsf hsl hall hO
  generalize (scan b b.length 0).2 = er at hsat hsp hO
  refine PC.of_bodyW (by simp only [push_cast]) Tryd.func26 rfl (by rw [Tryd.ntmps26]; simp) ?_
  refine AWp.regionW ?_
  refine AWp.seqK fun K1 hK1 => ?_
  refine AWp.regionM fun K2 hK2 => ?_
  refine ARun2.callM (split_c b (by omega)) ?_
  refine ARun2.endm (hK2 _ ?_)
  rw [hsp]
  refine AWp.regionW ?_
  refine AWp.condLM (fun c0 => ?_) (fun c0 => ?_)
  · skip
    have he : er ≠ .ok := by intro h; rw [h] at c0; cases c0
    rw [if_neg he] at hO
    refine AWp.regionM fun K3 hK3 => ?_
    refine ARun2.callM (shift_c er i (by omega) (by omega)) ?_
    refine ARun2.endm (hK3 _ ?_)
    refine AWp.ret ?_
    try simp only [thenQ, blockQ, noGo]
    refine bodyQ.m ?_
    clear hK3 K3 hK2 K2 hK1 K1
    subst hO; try rw [hk1]
    first | done | exact Hand.go
  · skip
    have he : er = .ok := by rw [← isOk_iff]; simpa using c0
    rw [if_pos he] at hO
    refine AWp.skip ?_
    refine hK1 _ ?_
    refine AWp.regionW ?_
    refine AWp.nilBox 5 0 27 3 rfl rfl ?_
    simp only [push_cast, reduceIte, Nat.reduceEqDiff, Nat.reduceLT, Nat.reduceAdd, Nat.reduceSub, Nat.reduceMul, Nat.reduceLeDiff, Nat.reducePow, Int.reduceLT, Int.reduceToNat, reduceCtorEq, Int.reduceNeg, Int.reduceEq, Nat.reduceBEq, Nat.reduceBNe, Int.reduceBEq, Int.reduceBNe, String.reduceEq]
    refine AWp.seqK fun K4 hK4 => ?_
    refine AWp.regionM fun K5 hK5 => ?_
    refine ARun2.callM (all_c b) ?_
    refine ARun2.endm (hK5 _ ?_)
    refine AWp.block ?_
    refine AWp.rangeFuncM (hall) [4, 6, 7, 8, 9, 12] (fun pre ob tr go => (goF (oneD m c) i (fs.take pre.length)).2 = .ok ∧ pre.length ≤ fs.length ∧ ob = [.box 3 [nat c], .box 3 [nat i], .box 3 [nat d], .box 25 [.val (.slice none 0 0)], .box 29 [.val .nilIface], .box 25 [.own 6], .row 27 3 (nodesA false (goF (oneD m c) i (fs.take pre.length)).1)]) (fun e ob tr go => e = .ret ∧ ∃ er l, O = ([], er) ∧ ob = [.box 3 [nat c], .box 3 [nat i], .box 3 [nat d], .box 25 [.val (.slice none 0 0)], .box 29 [erA er], .box 25 [.own 6], .row 27 3 l]) ?_ ?_ ?_ ?_ ?_
    · intro x hx
      simp only [ysOf, List.mem_map] at hx
      obtain ⟨q, _, rfl⟩ := hx
      rfl
    · exact ⟨rfl, Nat.zero_le _, rfl⟩
    · rintro pre x post ob tr go hxs ⟨hk1, hk2, rfl⟩
      have hpl : pre.length < fs.length := by rw [← ysOf_len fs, hxs]; simp
      have hx : (ysOf fs)[pre.length]? = some x := by rw [hxs]; simp
      rw [ysOf, List.getElem?_map, List.getElem?_eq_getElem hpl] at hx
      simp only [Option.map_some, Option.some.injEq] at hx
      subst hx
      obtain ⟨hp1, hp2⟩ := hsf fs[pre.length] (List.getElem_mem hpl)
      have hfd : fs = fs.take pre.length ++ fs[pre.length] :: fs.drop (pre.length + 1) := by rw [← List.drop_eq_getElem_cons hpl, List.take_append_drop]
      have hgl := goF_len (oneD m c) i (fs.take pre.length)
      rw [List.length_take] at hgl
      obtain ⟨q, hqe⟩ : ∃ q, fs[pre.length] = q := ⟨_, rfl⟩
      rw [hqe] at hfd hp1 hp2 ⊢
      refine AWp.regionW ?_
      refine AWp.regionV ?_
      change AWp _ _ _ _
      refine AWp.block ?_
      refine AWp.regionM fun K6 hK6 => ?_
      refine ARun2.callM (hone q.2 (i + q.1) (by omega)) ?_
      refine ARun2.endm (hK6 _ ?_)
      refine AWp.seqK fun K7 hK7 => ?_
      refine AWp.regionW ?_
      refine AWp.condLM (fun c1 => ?_) (fun c1 => ?_)
      · skip
        have hne : (oneD m c q.2 (i + q.1)).2 ≠ .ok := by intro h; rw [h] at c1; cases c1
        have hr : O = ([], (oneD m c q.2 (i + q.1)).2) := by rw [hO, hfd]; exact goF_err hk1 hne
        refine AWp.regionW ?_
        refine AWp.ret ?_
        try simp only [thenQ, blockQ, noGo]
        refine ⟨_, (Le.keep (fr' := []) trivial).trans (Le.cut 7 (by first | exact Nat.le_refl _ | decide) rfl (by simp only [push_cast, reduceIte, Nat.reduceEqDiff, Nat.reduceLT, Nat.reduceAdd, Nat.reduceSub, Nat.reduceMul, Nat.reduceLeDiff, Nat.reducePow, Int.reduceLT, Int.reduceToNat, reduceCtorEq, Int.reduceNeg, Int.reduceEq, Nat.reduceBEq, Nat.reduceBNe, Int.reduceBEq, Int.reduceBNe, String.reduceEq])), ?_⟩
        exact ⟨rfl, _, _, hr, rfl⟩
      · skip
        have heq : (oneD m c q.2 (i + q.1)).2 = .ok := by rw [← isOk_iff]; simpa using c1
        refine AWp.skip ?_
        refine hK7 _ ?_
        refine AWp.drE [[(12, none)], [(15, none)], [(44, some 0)], []] fun G hG => ?_
        refine Dr.sim ?_
        try simp only [List.cons_append, List.nil_append]
        refine Dr.sim ?_
        try simp only [List.cons_append, List.nil_append]
        refine Dr.sim ?_
        try simp only [List.cons_append, List.nil_append]
        refine Dr.build ?_
        try simp only [List.cons_append, List.nil_append]
        refine Dr.finTN (n := 4) 4 [(44, 0), (45, 1), (46, 2), (47, 3)] [8, 9, 12] hG YtmcedkcehcacpaaDoor.Facts.mixed fun KD hKD => ?_
        clear hG G
        refine AAny.one 4 ?_
        refine ARun.opM ?_
        refine ARun2.appendM ?_ ?_ ?_
        · rw [YtmcedkcehcacpaaDoor.Facts.eb25, nodesA_len, List.length_cons, List.length_nil]; omega
        · rw [nodesA_len, List.length_cons, List.length_nil]; omega
        refine ARun2.endm ?_
        refine AAny.two 5 7 ?_ ?_
        ·
          refine ARun.opM ?_
          refine ARun2.indexZM (xs := nodesA false (goF (oneD m c) i (fs.take pre.length)).1 ++ [.agg [.val (.int .u16 0), .val (.slice none 0 0), .val (.slice none 0 0)]]) (goF (oneD m c) i (fs.take pre.length)).1.length (by rw [List.length_append, nodesA_len]; simp) ?_
          refine ARun2.endm ?_
          refine AAny.two 6 7 ?_ ?_
          ·
            refine ARun.opM ?_
            refine ARun2.storeZM (nodesA false (goF (oneD m c) i (fs.take pre.length)).1 ++ [.agg [.val (.int .u16 0), .val (.slice none 0 0), .val (.slice none 0 0)]]) (goF (oneD m c) i (fs.take pre.length)).1.length (nodeA false (oneD m c q.2 (i + q.1)).1) (nodesA false (goF (oneD m c) i (fs.take pre.length)).1 ++ [nodeA false (oneD m c q.2 (i + q.1)).1]) (by rw [List.length_append, nodesA_len]; simp) (by rw [List.set_append_right _ _ (by rw [nodesA_len]; exact Nat.le_refl _), nodesA_len, Nat.sub_self, List.set_cons_zero]) ?_
            refine ARun2.endm ?_
            refine AAny.one 7 ?_
            refine ARun.opM ?_
            refine ARun2.endm ?_
            refine AAny.fin (hKD _ ?_); clear hKD KD
            refine ⟨_, (Le.keep (fr' := []) trivial).trans (Le.cut 7 (by first | exact Nat.le_refl _ | decide) rfl (by simp only [push_cast, reduceIte, Nat.reduceEqDiff, Nat.reduceLT, Nat.reduceAdd, Nat.reduceSub, Nat.reduceMul, Nat.reduceLeDiff, Nat.reducePow, Int.reduceLT, Int.reduceToNat, reduceCtorEq, Int.reduceNeg, Int.reduceEq, Nat.reduceBEq, Nat.reduceBNe, Int.reduceBEq, Int.reduceBNe, String.reduceEq])), ?_⟩
            have ht : fs.take (pre ++ [[nat q.1, frmA true q.2]]).length = fs.take pre.length ++ [q] := by
              rw [List.length_append, List.length_cons, List.length_nil, List.take_succ_eq_append_getElem hpl, hqe]
            have hs := goF_snoc hk1 heq
            rw [← ht] at hs
            refine ⟨by rw [hs], by rw [List.length_append]; simp; omega, ?_⟩
            rw [hs, nodesA_snoc, nodeA_eq]
            rfl
          ·
            refine ARun.opM ?_
            refine ARun2.endm ?_
            refine AAny.one 6 ?_
            refine ARun.opM ?_
            refine ARun2.storeZM (nodesA false (goF (oneD m c) i (fs.take pre.length)).1 ++ [.agg [.val (.int .u16 0), .val (.slice none 0 0), .val (.slice none 0 0)]]) (goF (oneD m c) i (fs.take pre.length)).1.length (nodeA false (oneD m c q.2 (i + q.1)).1) (nodesA false (goF (oneD m c) i (fs.take pre.length)).1 ++ [nodeA false (oneD m c q.2 (i + q.1)).1]) (by rw [List.length_append, nodesA_len]; simp) (by rw [List.set_append_right _ _ (by rw [nodesA_len]; exact Nat.le_refl _), nodesA_len, Nat.sub_self, List.set_cons_zero]) ?_
            refine ARun2.endm ?_
            refine AAny.fin (hKD _ ?_); clear hKD KD
            refine ⟨_, (Le.keep (fr' := []) trivial).trans (Le.cut 7 (by first | exact Nat.le_refl _ | decide) rfl (by simp only [push_cast, reduceIte, Nat.reduceEqDiff, Nat.reduceLT, Nat.reduceAdd, Nat.reduceSub, Nat.reduceMul, Nat.reduceLeDiff, Nat.reducePow, Int.reduceLT, Int.reduceToNat, reduceCtorEq, Int.reduceNeg, Int.reduceEq, Nat.reduceBEq, Nat.reduceBNe, Int.reduceBEq, Int.reduceBNe, String.reduceEq])), ?_⟩
            have ht : fs.take (pre ++ [[nat q.1, frmA true q.2]]).length = fs.take pre.length ++ [q] := by
              rw [List.length_append, List.length_cons, List.length_nil, List.take_succ_eq_append_getElem hpl, hqe]
            have hs := goF_snoc hk1 heq
            rw [← ht] at hs
            refine ⟨by rw [hs], by rw [List.length_append]; simp; omega, ?_⟩
            rw [hs, nodesA_snoc, nodeA_eq]
            rfl
        ·
          refine ARun.opM ?_
          refine ARun2.endm ?_
          refine AAny.one 5 ?_
          refine ARun.opM ?_
          refine ARun2.indexZM (xs := nodesA false (goF (oneD m c) i (fs.take pre.length)).1 ++ [.agg [.val (.int .u16 0), .val (.slice none 0 0), .val (.slice none 0 0)]]) (goF (oneD m c) i (fs.take pre.length)).1.length (by rw [List.length_append, nodesA_len]; simp) ?_
          refine ARun2.endm ?_
          refine AAny.one 6 ?_
          refine ARun.opM ?_
          refine ARun2.storeZM (nodesA false (goF (oneD m c) i (fs.take pre.length)).1 ++ [.agg [.val (.int .u16 0), .val (.slice none 0 0), .val (.slice none 0 0)]]) (goF (oneD m c) i (fs.take pre.length)).1.length (nodeA false (oneD m c q.2 (i + q.1)).1) (nodesA false (goF (oneD m c) i (fs.take pre.length)).1 ++ [nodeA false (oneD m c q.2 (i + q.1)).1]) (by rw [List.length_append, nodesA_len]; simp) (by rw [List.set_append_right _ _ (by rw [nodesA_len]; exact Nat.le_refl _), nodesA_len, Nat.sub_self, List.set_cons_zero]) ?_
          refine ARun2.endm ?_
          refine AAny.fin (hKD _ ?_); clear hKD KD
          refine ⟨_, (Le.keep (fr' := []) trivial).trans (Le.cut 7 (by first | exact Nat.le_refl _ | decide) rfl (by simp only [push_cast, reduceIte, Nat.reduceEqDiff, Nat.reduceLT, Nat.reduceAdd, Nat.reduceSub, Nat.reduceMul, Nat.reduceLeDiff, Nat.reducePow, Int.reduceLT, Int.reduceToNat, reduceCtorEq, Int.reduceNeg, Int.reduceEq, Nat.reduceBEq, Nat.reduceBNe, Int.reduceBEq, Int.reduceBNe, String.reduceEq])), ?_⟩
          have ht : fs.take (pre ++ [[nat q.1, frmA true q.2]]).length = fs.take pre.length ++ [q] := by
            rw [List.length_append, List.length_cons, List.length_nil, List.take_succ_eq_append_getElem hpl, hqe]
          have hs := goF_snoc hk1 heq
          rw [← ht] at hs
          refine ⟨by rw [hs], by rw [List.length_append]; simp; omega, ?_⟩
          rw [hs, nodesA_snoc, nodeA_eq]
          rfl
    · rintro ob tr go df ⟨hk1, _, rfl⟩
      rw [ysOf_len, List.take_length] at hk1 ⊢
      refine hK4 _ ?_
      refine AWp.pubD 6 ?_
      refine AWp.regionW ?_
      refine AWp.ret ?_
      try simp only [thenQ, blockQ, noGo]
      refine bodyQ.m ?_
      clear hK5 K5 hK4 K4 hK2 K2 hK1 K1
      subst hO; try rw [hk1]
      first | done | exact Hand.go
    · rintro e ob tr go df ⟨rfl, er, l, hr, rfl⟩
      try simp only [thenQ, blockQ, noGo]
      refine bodyQ.m ?_
      rw [hr]
      first | done | exact Hand.go
theorem parse_all : ∀ (m d c : Nat) (b : List UInt8) (i : Nat), d + m = 5 → (c = 1 ∨ c = 2) → i + b.length ≤ 2 ^ 40 →
    PC Tryd.prog 26 [nat c, .sl false 1 (bys b), nat i, nat d] (.tup [.sl false 3 (nodesA false (parseF m c b i).1), erA (parseF m c b i).2]) := by
  intro m
  induction m with
  | zero =>
    intro d c b i hdm hc hi
    refine parse_step 0 c d hc (by omega) b i hi fun f j hj => ?_
    exact one_deep c d f j (by omega) (by omega)
  | succ m ih =>
    intro d c b i hdm hc hi
    refine parse_step (m + 1) c d hc (by omega) b i hi fun f j hj => ?_
    exact one_step m c d hc (by omega) f j hj (fun c b i hc hi => ih (d + 1) c b i (by omega) hc hi) (fun c b i => parseF_len m c b i)
theorem parse_c (c : Nat) (b : List UInt8) (hc : c = 1 ∨ c = 2) (hl : b.length ≤ 2 ^ 40) : PC Tryd.prog 9 [nat c, .sl false 1 (bys b)] (.tup [.sl false 3 (nodesA false (parseF 4 c b 0).1), erA (parseF 4 c b 0).2]) := by
  have h := parse_all 4 1 c b 0 rfl hc (by omega)
  refine PC.of_bodyW (by simp only [push_cast]) Tryd.func9 rfl (by rw [Tryd.ntmps9]; simp) ?_
  refine AWp.regionW ?_
  refine AWp.regionM fun K1 hK1 => ?_
  refine ARun2.callM (h) ?_
  refine ARun2.endm (hK1 _ ?_)
  refine AWp.ret ?_
  try simp only [thenQ, blockQ, noGo]
  refine bodyQ.m ?_
  clear hK1 K1
  first | done | exact Hand.go
end Go.Proofs.YtmcedkcehcacpaaDoor.C
/- Nodes written: frames, Encode. -/
set_option linter.unusedVariables false
set_option linter.unusedSimpArgs false
namespace Go.Proofs.YtmcedkcehcacpaaDoor.C
open Go.Abs
mutual
def frameN : GNode → Frm
  | .mk t d k => ⟨t, d ++ joinX (framesN k)⟩
def framesN : List GNode → List Frm
  | [] => []
  | n :: l => frameN n :: framesN l
end
theorem framesN_map : ∀ l : List GNode, framesN l = l.map frameN
  | [] => rfl
  | n :: l => by rw [framesN, framesN_map l]; rfl
theorem frameN_eq (n : GNode) : frameN n = ⟨n.ty, n.data ++ joinX (framesN n.kids)⟩ := by cases n; rw [frameN]; rfl
theorem framesN_len (l : List GNode) : (framesN l).length = l.length := by rw [framesN_map]; simp
theorem upN_mono {a b : Nat} (h : a ≤ b) : upN a ≤ upN b := by unfold upN gapN; omega
theorem sumUp_mono {α : Type} (f g : α → Nat) : ∀ (l : List α) (s s' : Nat), s ≤ s' → (∀ x ∈ l, f x ≤ g x) → sumUp s (l.map f) ≤ sumUp s' (l.map g)
  | [], s, s', h, _ => h
  | x :: l, s, s', h, hl => by
    simp only [List.map_cons, sumUp]
    refine sumUp_mono f g l _ _ ?_ fun y hy => hl y (by simp [hy])
    have := upN_mono h
    have := hl x (by simp)
    omega
theorem framesT_of {l : List GNode} (h : ∀ x ∈ l, (frameN x).val.length ≤ vlen x) : tlvSize ((framesN l).map fun f => f.val.length) ≤ nSize l := by
  unfold nSize tlvSize
  rw [framesN_map, nLens_map, List.map_map, List.map_map, List.map_map]
  exact sumUp_mono _ _ l 0 0 (Nat.le_refl _) fun x hx => by simp only [Function.comp]; have := h x hx; omega
theorem joinX_le (l : List Frm) : (joinX l).length ≤ tlvSize (l.map fun f => f.val.length) := by
  unfold joinX
  split
  · rw [joinF_len]; exact Nat.le_refl _
  · simp
mutual
theorem frameN_le : ∀ n : GNode, (frameN n).val.length ≤ vlen n
  | .mk t d k => by
    have h1 := framesT_of (framesL_le k)
    have h2 := joinX_le (framesN k)
    simp only [frameN, vlen, List.length_append]
    unfold nSize at h1
    omega
theorem framesL_le : ∀ (l : List GNode), ∀ x ∈ l, (frameN x).val.length ≤ vlen x
  | [], x, h => by simp at h
  | n :: l, x, h => (List.mem_cons.1 h).elim (fun e => e ▸ frameN_le n) (fun h => framesL_le l x h)
end
theorem framesT_le (l : List GNode) : tlvSize ((framesN l).map fun f => f.val.length) ≤ nSize l := framesT_of (framesL_le l)
theorem framesN_le (l : List GNode) : (joinX (framesN l)).length ≤ nSize l := Nat.le_trans (joinX_le _) (framesT_le l)
theorem framesN_snoc (l : List GNode) (n : GNode) : framesN (l ++ [n]) = framesN l ++ [frameN n] := by rw [framesN_map, framesN_map]; simp
@[push_cast] theorem errA_zero : errA 0 = .val .nilIface := rfl
theorem frameN_ty (n : GNode) : (frameN n).ty = n.ty := by rw [frameN_eq]
theorem frames_step (w : Nat) (ih : ∀ l : List GNode, wts l < w → nSize l ≤ 2 ^ 30 → tysOk l = true → PC Tryd.prog 25 [.sl false 3 (nodesA false l)] (.sl true 2 (frmsA true (framesN l)))) (l : List GNode) (hw : wts l ≤ w) (hs : nSize l ≤ 2 ^ 30) (ht : tysOk l = true) :
    PC Tryd.prog 25 [.sl false 3 (nodesA false l)] (.sl true 2 (frmsA true (framesN l))) := by
  have hlen := nSize_len l
  refine PC.of_bodyK (by simp only [push_cast]) Tryd.func25 rfl (by rw [Tryd.ntmps25]; simp) ?_
  refine AWp.regionW ?_
  refine AWp.regionW ?_
  refine AWp.seqK fun K1 hK1 => ?_
  refine AWp.regionW ?_
  refine AWp.block ?_
  -- SLOTS THAT TURN AND ARE NOT TOLD: [3]
  refine AWp.nilOwn 3 69 2 (by simp only [push_cast, reduceIte, Nat.reduceEqDiff, Nat.reduceLT, Nat.reduceAdd, Nat.reduceSub, Nat.reduceMul, Nat.reduceLeDiff, Nat.reducePow, Int.reduceLT, Int.reduceToNat, reduceCtorEq, Int.reduceNeg, Int.reduceEq, Nat.reduceBEq, Nat.reduceBNe, Int.reduceBEq, Int.reduceBNe, String.reduceEq]) ?_
  simp only [push_cast, reduceIte, Nat.reduceEqDiff, Nat.reduceLT, Nat.reduceAdd, Nat.reduceSub, Nat.reduceMul, Nat.reduceLeDiff, Nat.reducePow, Int.reduceLT, Int.reduceToNat, reduceCtorEq, Int.reduceNeg, Int.reduceEq, Nat.reduceBEq, Nat.reduceBNe, Int.reduceBEq, Int.reduceBNe, String.reduceEq]
  refine AWp.loopK [3, 8, 9] (fun (i : Nat) => [(10, nat i)]) (fun i => [.row 69 2 (frmsA true (framesN (l.take i)))]) (fun i => i ≤ l.length) (fun i => l.length - i) (0) ?_ (Nat.zero_le _) ?_
  · skip
    refine Le.m 1 ?_ ?_
    · try simp only [push_cast, reduceIte, Nat.reduceEqDiff, Nat.reduceLT, Nat.reduceAdd, Nat.reduceSub, Nat.reduceMul, Nat.reduceLeDiff, Nat.reducePow, Int.reduceLT, Int.reduceToNat, reduceCtorEq, Int.reduceNeg, Int.reduceEq, Nat.reduceBEq, Nat.reduceBNe, Int.reduceBEq, Int.reduceBNe, String.reduceEq]
      try simp (disch := omega) only [w_nat, w_add, w_addl, w_addr, w_sub, w_subl, w_mul, w_mull, w_mulr, w_u32, w_u16, w_u8, w_u32a, N_zero]
      first | done | skip
      rfl
    · first | (simp only [push_cast, reduceIte, Nat.reduceEqDiff, Nat.reduceLT, Nat.reduceAdd, Nat.reduceSub, Nat.reduceMul, Nat.reduceLeDiff, Nat.reducePow, Int.reduceLT, Int.reduceToNat, reduceCtorEq, Int.reduceNeg, Int.reduceEq, Nat.reduceBEq, Nat.reduceBNe, Int.reduceBEq, Int.reduceBNe, String.reduceEq]; first | done | rfl | (simp (disch := omega) only [w_nat, w_add, w_addl, w_addr, w_sub, w_subl, w_mul, w_mull, w_mulr, w_u32, w_u16, w_u8, w_u32a, N_zero]; first | done | rfl))
  · intro i hi K2 hK2
    refine AWp.regionW ?_
    refine AWp.seqK fun K3 hK3 => ?_
    refine AWp.condLM (fun c0 => ?_) (fun c0 => ?_)
    · skip
      have hil : i < l.length := by simpa using c0
      have hm := List.getElem_mem hil
      have hv := vlen_mem hm
      have he := vlen_eq l[i]
      have hk := nSize_kids hm
      have hkl := nSize_len l[i].kids
      have hkt := GNode.tyOk_kids (tysOk_mem ht _ hm)
      have hfl := framesN_le l[i].kids
      refine AWp.skip ?_
      refine hK3 _ ?_
      refine AWp.seqK fun K4 hK4 => ?_
      refine AWp.block ?_
      refine AWp.regionM fun K5 hK5 => ?_
      refine ARun2.indexM (i) (nodeA false l[i]) ?_ ?_
      · exact nodesA_at _ _ _ hil
      refine ARun2.endm (hK5 _ ?_)
      refine AWp.regionM fun K6 hK6 => ?_
      refine ARun2.callM (ih l[i].kids (by have := kids_lt hm; omega) (by omega) hkt) ?_
      refine ARun2.callM (join_c (framesN l[i].kids) (by intro f hf; rw [framesN_map] at hf; obtain ⟨n, hn, rfl⟩ := List.mem_map.1 hf; rw [frameN_ty]; exact GNode.tyOk_ty (tysOk_mem hkt _ hn)) (by have := framesT_le l[i].kids; omega) (by rw [framesN_len]; omega)) ?_
      refine ARun2.endm (hK6 _ ?_)
      have hj := wjoin_c [l[i].data, joinX (framesN l[i].kids)] (by simp [lens]; omega) (by simp)
      rw [show [l[i].data, joinX (framesN l[i].kids)].flatten = l[i].data ++ joinX (framesN l[i].kids) by simp] at hj
      refine AWp.drE [[(3, none)], [(5, none)], [(22, some 1)], [(5, none)], [(24, some 3)], [(6, none)], [(25, some 4), (26, some 5)], [(27, some 6)], [(23, some 2), (28, some 7)], [(29, some 8)]] fun G hG => ?_
      refine Dr.sim ?_
      try simp only [List.cons_append, List.nil_append]
      refine Dr.sim ?_
      try simp only [List.cons_append, List.nil_append]
      refine Dr.sim ?_
      try simp only [List.cons_append, List.nil_append]
      refine Dr.sim ?_
      try simp only [List.cons_append, List.nil_append]
      refine Dr.sim ?_
      try simp only [List.cons_append, List.nil_append]
      refine Dr.sim ?_
      try simp only [List.cons_append, List.nil_append]
      refine Dr.build ?_
      try simp only [List.cons_append, List.nil_append]
      refine Dr.call (hj) ?_
      try simp only [List.cons_append, List.nil_append]
      refine Dr.sim ?_
      try simp only [List.cons_append, List.nil_append]
      refine Dr.build ?_
      try simp only [List.cons_append, List.nil_append]
      refine Dr.finN (n := 10) [(21, 0), (30, 9)] [8, 9, 10] hG YtmcedkcehcacpaaDoor.Facts.mixed fun KD hKD => ?_
      refine ARun2.appendM ?_ ?_ ?_
      · rw [YtmcedkcehcacpaaDoor.Facts.eb57, frmsA_len, framesN_len, List.length_take, List.length_cons, List.length_nil]; omega
      · rw [frmsA_len, framesN_len, List.length_take, List.length_cons, List.length_nil]; omega
      refine ARun2.endm (hKD _ ?_); clear hKD KD hG G
      refine hK4 _ ?_
      refine AWp.regionV ?_
      refine hK2 _ (i + 1) (by omega) (by omega) ?_
      refine Le.m 1 ?_ ?_
      · try simp only [push_cast, reduceIte, Nat.reduceEqDiff, Nat.reduceLT, Nat.reduceAdd, Nat.reduceSub, Nat.reduceMul, Nat.reduceLeDiff, Nat.reducePow, Int.reduceLT, Int.reduceToNat, reduceCtorEq, Int.reduceNeg, Int.reduceEq, Nat.reduceBEq, Nat.reduceBNe, Int.reduceBEq, Int.reduceBNe, String.reduceEq]
        try simp (disch := omega) only [w_nat, w_add, w_addl, w_addr, w_sub, w_subl, w_mul, w_mull, w_mulr, w_u32, w_u16, w_u8, w_u32a, N_zero]
        first | done | skip
        rw [List.take_succ_eq_append_getElem hil, framesN_snoc, frmsA_snoc, frameN_eq l[i]]; rfl
      · first | (simp only [push_cast, reduceIte, Nat.reduceEqDiff, Nat.reduceLT, Nat.reduceAdd, Nat.reduceSub, Nat.reduceMul, Nat.reduceLeDiff, Nat.reducePow, Int.reduceLT, Int.reduceToNat, reduceCtorEq, Int.reduceNeg, Int.reduceEq, Nat.reduceBEq, Nat.reduceBNe, Int.reduceBEq, Int.reduceBNe, String.reduceEq]; first | done | rfl | (simp (disch := omega) only [w_nat, w_add, w_addl, w_addr, w_sub, w_subl, w_mul, w_mull, w_mulr, w_u32, w_u16, w_u8, w_u32a, N_zero]; first | done | rfl))
    · skip
      have hil : i = l.length := by simp at c0; omega
      subst hil
      refine AWp.exit ?_
      try simp only [thenQ, blockQ, noGo, reduceIte, Nat.reduceEqDiff]
      refine hK1 _ ?_
      refine AWp.pubD 0 ?_
      refine AWp.regionW ?_
      refine AWp.ret ?_
      try simp only [thenQ, blockQ, noGo]
      refine bodyQ.m ?_
      clear hK3 K3 hK2 K2 hK1 K1
      rw [List.take_length]
      first | done | exact Wk.go
theorem frames_w : ∀ (w : Nat) (l : List GNode), wts l ≤ w → nSize l ≤ 2 ^ 30 → tysOk l = true → PC Tryd.prog 25 [.sl false 3 (nodesA false l)] (.sl true 2 (frmsA true (framesN l))) := by
  intro w
  induction w with
  | zero => exact frames_step 0 (fun l h => by omega)
  | succ w ih => exact frames_step (w + 1) (fun l h => ih l (by omega))
theorem frames_c (l : List GNode) (hs : nSize l ≤ 2 ^ 30) (ht : tysOk l = true) : PC Tryd.prog 25 [.sl false 3 (nodesA false l)] (.sl true 2 (frmsA true (framesN l))) := frames_w _ l (Nat.le_refl _) hs ht
/-- the bytes of nodes -/
def encN (l : List GNode) : List UInt8 := joinX (framesN l)
theorem encode_c (c : Nat) (l : List GNode) (hc : c = 1 ∨ c = 2) (hs : nSize l ≤ 2 ^ 30) (ht : tysOk l = true) : PC Tryd.prog 8 [nat c, .sl false 3 (nodesA false l)]
    (.tup [.sl true 1 (bys (if checkL c 1 l = 0 then encN l else [])), errA (checkL c 1 l)]) := by
  have hlen := nSize_len l
  refine PC.of_bodyK (by simp only [push_cast]) Tryd.func8 rfl (by rw [Tryd.ntmps8]; simp) ?_
  refine AWp.regionW ?_
  refine AWp.seqK fun K1 hK1 => ?_
  refine AWp.regionW ?_
  refine AWp.block ?_
  refine AWp.loopK0 [0, 1, 11, 12] (fun (i : Nat) => [(13, nat i)]) (fun i => i ≤ l.length ∧ checkL c 1 (l.take i) = 0) (fun i => l.length - i) (0) ?_ ⟨Nat.zero_le _, rfl⟩ ?_
  · skip
    refine Le.m 0 ?_ ?_
    · first | with_reducible rfl | (simp only [push_cast, reduceIte, Nat.reduceEqDiff, Nat.reduceLT, Nat.reduceAdd, Nat.reduceSub, Nat.reduceMul, Nat.reduceLeDiff, Nat.reducePow, Int.reduceLT, Int.reduceToNat, reduceCtorEq, Int.reduceNeg, Int.reduceEq, Nat.reduceBEq, Nat.reduceBNe, Int.reduceBEq, Int.reduceBNe, String.reduceEq]; first | done | rfl | (simp (disch := omega) only [w_nat, w_add, w_addl, w_addr, w_sub, w_subl, w_mul, w_mull, w_mulr, w_u32, w_u16, w_u8, w_u32a, N_zero]; first | done | rfl))
    · first | (simp only [push_cast, reduceIte, Nat.reduceEqDiff, Nat.reduceLT, Nat.reduceAdd, Nat.reduceSub, Nat.reduceMul, Nat.reduceLeDiff, Nat.reducePow, Int.reduceLT, Int.reduceToNat, reduceCtorEq, Int.reduceNeg, Int.reduceEq, Nat.reduceBEq, Nat.reduceBNe, Int.reduceBEq, Int.reduceBNe, String.reduceEq]; first | done | rfl | (simp (disch := omega) only [w_nat, w_add, w_addl, w_addr, w_sub, w_subl, w_mul, w_mull, w_mulr, w_u32, w_u16, w_u8, w_u32a, N_zero]; first | done | rfl))
  · intro i hi K2 hK2
    refine AWp.regionW ?_
    refine AWp.seqK fun K3 hK3 => ?_
    refine AWp.condLM (fun c0 => ?_) (fun c0 => ?_)
    · skip
      have hil : i < l.length := by simpa using c0
      have hm := List.getElem_mem hil
      have hn1 := nSize_one hm
      refine AWp.skip ?_
      refine hK3 _ ?_
      refine AWp.seqK fun K4 hK4 => ?_
      refine AWp.block ?_
      refine AWp.regionM fun K5 hK5 => ?_
      refine ARun2.indexM (i) (nodeA false l[i]) ?_ ?_
      · exact nodesA_at _ _ _ hil
      refine ARun2.endm (hK5 _ ?_)
      refine AWp.regionM fun K6 hK6 => ?_
      refine ARun2.callM (check_c c l[i] hc (by omega)) ?_
      refine ARun2.endm (hK6 _ ?_)
      refine AWp.regionW ?_
      refine AWp.condLM (fun c1 => ?_) (fun c1 => ?_)
      · skip
        have hne : checkN c 1 l[i] ≠ 0 := by simpa using c1
        have hr := checkL_at c 1 l i hil hi.2 hne
        have hr2 : (if checkL c 1 l = 0 then encN l else []) = [] := by rw [hr, if_neg hne]
        refine AWp.regionW ?_
        refine AWp.ret ?_
        try simp only [thenQ, blockQ, noGo]
        refine bodyQ.m ?_
        clear hK6 K6 hK5 K5 hK4 K4 hK3 K3 hK2 K2 hK1 K1
        rw [hr2, hr]; try rw [encN]
        first | done | exact Wk.go
      · skip
        have heq : checkN c 1 l[i] = 0 := by simpa using c1
        refine AWp.skip ?_
        refine hK4 _ ?_
        refine AWp.regionV ?_
        refine hK2 _ (i + 1) (⟨hil, by rw [List.take_succ_eq_append_getElem hil, checkL_snoc, hi.2]; simpa using heq⟩) (by omega) ?_
        refine Le.m 0 ?_ ?_
        · first | with_reducible rfl | (simp only [push_cast, reduceIte, Nat.reduceEqDiff, Nat.reduceLT, Nat.reduceAdd, Nat.reduceSub, Nat.reduceMul, Nat.reduceLeDiff, Nat.reducePow, Int.reduceLT, Int.reduceToNat, reduceCtorEq, Int.reduceNeg, Int.reduceEq, Nat.reduceBEq, Nat.reduceBNe, Int.reduceBEq, Int.reduceBNe, String.reduceEq]; first | done | rfl | (simp (disch := omega) only [w_nat, w_add, w_addl, w_addr, w_sub, w_subl, w_mul, w_mull, w_mulr, w_u32, w_u16, w_u8, w_u32a, N_zero]; first | done | rfl))
        · first | (simp only [push_cast, reduceIte, Nat.reduceEqDiff, Nat.reduceLT, Nat.reduceAdd, Nat.reduceSub, Nat.reduceMul, Nat.reduceLeDiff, Nat.reducePow, Int.reduceLT, Int.reduceToNat, reduceCtorEq, Int.reduceNeg, Int.reduceEq, Nat.reduceBEq, Nat.reduceBNe, Int.reduceBEq, Int.reduceBNe, String.reduceEq]; first | done | rfl | (simp (disch := omega) only [w_nat, w_add, w_addl, w_addr, w_sub, w_subl, w_mul, w_mull, w_mulr, w_u32, w_u16, w_u8, w_u32a, N_zero]; first | done | rfl))
    · skip
      have hil : i = l.length := by have := hi.1; simp at c0; omega
      subst hil
      have hr : checkL c 1 l = 0 := by have := hi.2; rwa [List.take_length] at this
      have hr2 : (if checkL c 1 l = 0 then encN l else []) = encN l := if_pos hr
      refine AWp.exit ?_
      try simp only [thenQ, blockQ, noGo, reduceIte, Nat.reduceEqDiff]
      refine hK1 _ ?_
      refine AWp.regionM fun K7 hK7 => ?_
      refine ARun2.callM (frames_c l hs ht) ?_
      refine ARun2.callM (join_c (framesN l) (by intro f hf; rw [framesN_map] at hf; obtain ⟨n, hn, rfl⟩ := List.mem_map.1 hf; rw [frameN_ty]; exact GNode.tyOk_ty (tysOk_mem ht _ hn)) (by have := framesT_le l; omega) (by rw [framesN_len]; omega)) ?_
      refine ARun2.endm (hK7 _ ?_)
      refine AWp.regionW ?_
      refine AWp.ret ?_
      try simp only [thenQ, blockQ, noGo]
      refine bodyQ.m ?_
      clear hK7 K7 hK3 K3 hK2 K2 hK1 K1
      rw [hr2, hr]; try rw [encN]
      first | done | exact Wk.go
end Go.Proofs.YtmcedkcehcacpaaDoor.C
/- Two values of an interface compared, where one holds a number. No condition. -/
namespace Go.Abs
set_option linter.unusedVariables false
set_option linter.unusedSectionVars false
set_option linter.unusedSimpArgs false
/-- a type of numbers that may be compared -/
def isIn (P : Program) (T : TypeId) : Bool := match P.underlying T, P.info? T with
  | some (.int _), some i => i.comparable
  | _, _ => false
def isIf (P : Program) (T : TypeId) : Bool := match P.underlying T with
  | some (.interface _) => true
  | _ => false
def ifcEq (e : AV) (t : TypeId) (k : IntKind) (n : Int) : Option Bool := match e with
  | .val .nilIface => some false
  | .ifc t' u => if t' = t then (match u with
    | .val (.int k' m) => if k' = k then some (m == n) else none
    | _ => none) else some false
  | _ => none
section
variable {P : Program} {ops : Array Oper} {E : Env} {s s' : AS} {ρ : List Value} {B : Nat → Prop} {a : Act} {w w' : World} {o : Oper} {rest : List Oper} {Q : AS → Prop} {R : Exit → AS → Prop} {nds : List (List (Nat × Option Nat))} {vals : List AV} {G : Prop}
theorem isIn_spec {T : TypeId} (h : isIn P T = true) : ∃ k i, P.underlying T = some (.int k) ∧ P.info? T = some i ∧ i.comparable = true := by
  unfold isIn at h
  split at h
  · rename_i k i h1 h2; exact ⟨k, i, h1, h2, h⟩
  · cases h
theorem isIf_spec {T : TypeId} (h : isIf P T = true) : ∃ ms, P.underlying T = some (.interface ms) := by
  unfold isIf at h
  split at h
  · rename_i ms hm; exact ⟨ms, hm⟩
  · cases h
theorem ifcEq_run {T t : TypeId} {k : IntKind} {n : Int} {e : AV} {v : Value} {b : Bool} (hT : isIf P T = true) (ht : isIn P t = true) (hv : Rel w B E.bs ρ e v) (he : ifcEq e t k n = some b) : (Op.equal T v (.iface t (.int k n))).run P w = .ok b w := by
  obtain ⟨ms, hu⟩ := isIf_spec hT
  obtain ⟨kk, i, h1, h2, h3⟩ := isIn_spec ht
  have key : ∀ d, (Op.equalIn (d + 2) T v (.iface t (.int k n))).run P w = .ok b w := by
    intro d
    unfold ifcEq at he
    split at he
    · cases he
      have : v = .nilIface := hv.val_eq
      subst this
      simp [Op.equalIn, run_underlying hu]
    · rename_i t' u
      cases hv with
      | ifc hv =>
        rename_i v'
        by_cases htt : t' = t
        · subst htt
          rw [if_pos rfl] at he
          split at he
          · rename_i k' m
            split at he
            · rename_i hkk
              subst hkk
              cases he
              have : v' = .int k' m := hv.val_eq
              subst this
              simp [Op.equalIn, run_underlying hu, run_underlying h1, typeInfo, h2, h3]
            · cases he
          · cases he
        · rw [if_neg htt] at he
          cases he
          simp [Op.equalIn, run_underlying hu, htt]
    · cases he
  exact key 9998
theorem AOp.ifcEq {op : BinOp} {T X t : TypeId} {k : IntKind} {n : Int} {e : AV} {x y : Operand} {b : Bool} (ho : o.op = .binOp op T x y X) (hop : op = .eql ∨ op = .neq) (hT : isIf P T = true) (ht : isIn P t = true) (hx : s.ev x = e) (hy : s.ev y = .ifc t (.val (.int k n))) (he : Abs.ifcEq e t k n = some b)
    (K : ARun P ops rest (s.put o.dst (.val (.bool (if op = .eql then b else !b)))) Q) : AOp P ops o rest s Q := by
  refine AOp.pure1 (fun E ρ B a w hs => ⟨.bool (if op = .eql then b else !b), ?_, .val _⟩) K
  have e1 := hx ▸ hs.ev x
  have e2 : a.eval y = .iface t (.int k n) := by
    have key : ∀ u, Rel w B E.bs ρ (.ifc t (.val (.int k n))) u → u = .iface t (.int k n) := by
      intro u h
      cases h with
      | ifc h => rw [h.val_eq]
    exact key _ (hy ▸ hs.ev y)
  have hq := ifcEq_run (E := E) hT ht e1 he
  have hg : (eqGuard op T x y (a.eval x) (.iface t (.int k n))).run P w = .ok () w := by
    rcases hop with rfl | rfl <;> (cases a.eval x <;> simp [eqGuard])
  have hb : ∀ v, (∃ b, Abs.ifcEq e t k n = some b) → Rel w B E.bs ρ e v → (binOp .eql T v (.iface t (.int k n)) = (do pure (.bool (← Op.equal T v (.iface t (.int k n))))) ∧ binOp .neq T v (.iface t (.int k n)) = (do pure (.bool (!(← Op.equal T v (.iface t (.int k n))))))) := by
    intro v hb hv
    cases v <;> first | exact ⟨rfl, rfl⟩ | skip
  obtain ⟨b1, b2⟩ := hb (a.eval x) ⟨b, he⟩ e1
  simp only [execOp, ho, e2]
  rcases hop with rfl | rfl
  · simp [b1, hg, hq]
  · simp [b2, hg, hq]
theorem ARun2.ifcEqM {op : BinOp} {T X t : TypeId} {k : IntKind} {n : Int} {e : AV} {x y : Operand} {p : List Oper × AS} (b : Bool) (he : Abs.ifcEq e t k n = some b) (K : ARun2 P ops p Q) (ho : o.op = .binOp op T x y X := by rfl) (hop : op = .eql ∨ op = .neq := by first | exact .inl rfl | exact .inr rfl) (hT : isIf P T = true := by kernel_rfl) (ht : isIn P t = true := by kernel_rfl)
    (hg : gd ops s o = some true := by first | with_reducible rfl | (simp only [push_cast, reduceIte, Nat.reduceEqDiff, Nat.reduceLT, Nat.reduceAdd, Nat.reduceSub, Nat.reduceMul, Nat.reduceLeDiff, Nat.reducePow, Int.reduceLT, Int.reduceToNat, reduceCtorEq, Int.reduceNeg, Int.reduceEq, Nat.reduceBEq, Nat.reduceBNe, Int.reduceBEq, Int.reduceBNe, String.reduceEq]; first | done | rfl | (simp (disch := omega) only [w_nat, w_add, w_addl, w_addr, w_sub, w_subl, w_mul, w_mull, w_mulr, w_u32, w_u16, w_u8, w_u32a, N_zero]; first | done | rfl | (simp only [push_cast, reduceIte, Nat.reduceEqDiff, Nat.reduceLT, Nat.reduceAdd, Nat.reduceSub, Nat.reduceMul, Nat.reduceLeDiff, Nat.reducePow, Int.reduceLT, Int.reduceToNat, reduceCtorEq, Int.reduceNeg, Int.reduceEq, Nat.reduceBEq, Nat.reduceBNe, Int.reduceBEq, Int.reduceBNe, String.reduceEq]; first | done | rfl)))) (hx : s.ev x = e := by first | with_reducible rfl | (simp only [push_cast, reduceIte, Nat.reduceEqDiff, Nat.reduceLT, Nat.reduceAdd, Nat.reduceSub, Nat.reduceMul, Nat.reduceLeDiff, Nat.reducePow, Int.reduceLT, Int.reduceToNat, reduceCtorEq, Int.reduceNeg, Int.reduceEq, Nat.reduceBEq, Nat.reduceBNe, Int.reduceBEq, Int.reduceBNe, String.reduceEq]; first | done | rfl | (simp (disch := omega) only [w_nat, w_add, w_addl, w_addr, w_sub, w_subl, w_mul, w_mull, w_mulr, w_u32, w_u16, w_u8, w_u32a, N_zero]; first | done | rfl | (simp only [push_cast, reduceIte, Nat.reduceEqDiff, Nat.reduceLT, Nat.reduceAdd, Nat.reduceSub, Nat.reduceMul, Nat.reduceLeDiff, Nat.reducePow, Int.reduceLT, Int.reduceToNat, reduceCtorEq, Int.reduceNeg, Int.reduceEq, Nat.reduceBEq, Nat.reduceBNe, Int.reduceBEq, Int.reduceBNe, String.reduceEq]; first | done | rfl)))) (hy : s.ev y = .ifc t (.val (.int k n)) := by first | with_reducible rfl | (simp only [push_cast, reduceIte, Nat.reduceEqDiff, Nat.reduceLT, Nat.reduceAdd, Nat.reduceSub, Nat.reduceMul, Nat.reduceLeDiff, Nat.reducePow, Int.reduceLT, Int.reduceToNat, reduceCtorEq, Int.reduceNeg, Int.reduceEq, Nat.reduceBEq, Nat.reduceBNe, Int.reduceBEq, Int.reduceBNe, String.reduceEq]; first | done | rfl | (simp (disch := omega) only [w_nat, w_add, w_addl, w_addr, w_sub, w_subl, w_mul, w_mull, w_mulr, w_u32, w_u16, w_u8, w_u32a, N_zero]; first | done | rfl | (simp only [push_cast, reduceIte, Nat.reduceEqDiff, Nat.reduceLT, Nat.reduceAdd, Nat.reduceSub, Nat.reduceMul, Nat.reduceLeDiff, Nat.reducePow, Int.reduceLT, Int.reduceToNat, reduceCtorEq, Int.reduceNeg, Int.reduceEq, Nat.reduceBEq, Nat.reduceBNe, Int.reduceBEq, Int.reduceBNe, String.reduceEq]; first | done | rfl))))
    (h : srun P ops rest (s.put o.dst (.val (.bool (if op = .eql then b else !b)))) = p := by
        try simp only [push_cast, reduceIte, Nat.reduceEqDiff, Nat.reduceLT, Nat.reduceAdd, Nat.reduceSub, Nat.reduceMul, Nat.reduceLeDiff, Nat.reducePow, Int.reduceLT, Int.reduceToNat, reduceCtorEq, Int.reduceNeg, Int.reduceEq, Nat.reduceBEq, Nat.reduceBNe, Int.reduceBEq, Int.reduceBNe, String.reduceEq]
        try simp (disch := omega) only [w_nat, w_add, w_addl, w_addr, w_sub, w_subl, w_mul, w_mull, w_mulr, w_u32, w_u16, w_u8, w_u32a, N_zero]
        try simp only [push_cast, reduceIte, Nat.reduceEqDiff, Nat.reduceLT, Nat.reduceAdd, Nat.reduceSub, Nat.reduceMul, Nat.reduceLeDiff, Nat.reducePow, Int.reduceLT, Int.reduceToNat, reduceCtorEq, Int.reduceNeg, Int.reduceEq, Nat.reduceBEq, Nat.reduceBNe, Int.reduceBEq, Int.reduceBNe, String.reduceEq]
        rfl) : ARun2 P ops (o :: rest, s) Q :=
  ARun.exec hg (AOp.ifcEq ho hop hT ht hx hy he (ARun.srun (h ▸ K)))
/-- the same, in a drawn head -/
theorem NSpec.boolEq {op : BinOp} {T X : TypeId} {x y : Operand} {b c : Bool} (hgd : gd ops s o = some true) (ho : o.op = .binOp op T x y X) (hop : op = .eql ∨ op = .neq) (hT : isBl P T = true) (hx : s.ev x = .val (.bool b)) (hy : s.ev y = .val (.bool c)) :
    NSpec P ops o s (.val (.bool (if op = .eql then b == c else b != c))) := by
  refine NSpec.pure1 hgd fun E ρ B a w ob hs => ⟨.bool (if op = .eql then b == c else b != c), ?_, .val _⟩
  have hev : AS.ev { s with ob := s.ob ++ ob } = s.ev := funext fun y => by cases y <;> rfl
  have hu := isBl_spec hT
  have e1 : a.eval x = .bool b := by have h := hs.ev x; rw [hev, hx] at h; exact h.val_eq
  have e2 : a.eval y = .bool c := by have h := hs.ev y; rw [hev, hy] at h; exact h.val_eq
  have he : (Op.equal T (.bool b) (.bool c)).run P w = .ok (b == c) w := equal_run fun d => by simp [Op.equalIn, run_underlying hu]
  have hg : (eqGuard op T x y (.bool b) (.bool c)).run P w = .ok () w := by rcases hop with rfl | rfl <;> simp [eqGuard]
  simp only [execOp, ho, e1, e2]
  rcases hop with rfl | rfl
  · simp [binOp, hg, he]
  · simp [binOp, hg, he, bne]
theorem Dr.boolEqM {op : BinOp} {T X : TypeId} {x y : Operand} {b c : Bool} (k : Dr P ops s nds (vals ++ [.val (.bool (if op = .eql then b == c else b != c))]) G) (hn : ndsB nds = true := by first | rfl | decide) (hol : ops[vals.length]? = some o := by first | with_reducible rfl | (simp only [push_cast, reduceIte, Nat.reduceEqDiff, Nat.reduceLT, Nat.reduceAdd, Nat.reduceSub, Nat.reduceMul, Nat.reduceLeDiff, Nat.reducePow, Int.reduceLT, Int.reduceToNat, reduceCtorEq, Int.reduceNeg, Int.reduceEq, Nat.reduceBEq, Nat.reduceBNe, Int.reduceBEq, Int.reduceBNe, String.reduceEq]; first | done | rfl | (simp (disch := omega) only [w_nat, w_add, w_addl, w_addr, w_sub, w_subl, w_mul, w_mull, w_mulr, w_u32, w_u16, w_u8, w_u32a, N_zero]; first | done | rfl | (simp only [push_cast, reduceIte, Nat.reduceEqDiff, Nat.reduceLT, Nat.reduceAdd, Nat.reduceSub, Nat.reduceMul, Nat.reduceLeDiff, Nat.reducePow, Int.reduceLT, Int.reduceToNat, reduceCtorEq, Int.reduceNeg, Int.reduceEq, Nat.reduceBEq, Nat.reduceBNe, Int.reduceBEq, Int.reduceBNe, String.reduceEq]; first | done | rfl))))
    (ho : o.op = .binOp op T x y X := by rfl) (hg : gd ops { s with fr := needFr s.fr vals (nds.getD vals.length []) } o = some true := by first | with_reducible rfl | (simp only [push_cast, reduceIte, Nat.reduceEqDiff, Nat.reduceLT, Nat.reduceAdd, Nat.reduceSub, Nat.reduceMul, Nat.reduceLeDiff, Nat.reducePow, Int.reduceLT, Int.reduceToNat, reduceCtorEq, Int.reduceNeg, Int.reduceEq, Nat.reduceBEq, Nat.reduceBNe, Int.reduceBEq, Int.reduceBNe, String.reduceEq]; first | done | rfl | (simp (disch := omega) only [w_nat, w_add, w_addl, w_addr, w_sub, w_subl, w_mul, w_mull, w_mulr, w_u32, w_u16, w_u8, w_u32a, N_zero]; first | done | rfl | (simp only [push_cast, reduceIte, Nat.reduceEqDiff, Nat.reduceLT, Nat.reduceAdd, Nat.reduceSub, Nat.reduceMul, Nat.reduceLeDiff, Nat.reducePow, Int.reduceLT, Int.reduceToNat, reduceCtorEq, Int.reduceNeg, Int.reduceEq, Nat.reduceBEq, Nat.reduceBNe, Int.reduceBEq, Int.reduceBNe, String.reduceEq]; first | done | rfl)))) (hop : op = .eql ∨ op = .neq := by first | exact .inl rfl | exact .inr rfl) (hT : isBl P T = true := by kernel_rfl)
    (hx : AS.ev { s with fr := needFr s.fr vals (nds.getD vals.length []) } x = .val (.bool b) := by first | with_reducible rfl | (simp only [push_cast, reduceIte, Nat.reduceEqDiff, Nat.reduceLT, Nat.reduceAdd, Nat.reduceSub, Nat.reduceMul, Nat.reduceLeDiff, Nat.reducePow, Int.reduceLT, Int.reduceToNat, reduceCtorEq, Int.reduceNeg, Int.reduceEq, Nat.reduceBEq, Nat.reduceBNe, Int.reduceBEq, Int.reduceBNe, String.reduceEq]; first | done | rfl | (simp (disch := omega) only [w_nat, w_add, w_addl, w_addr, w_sub, w_subl, w_mul, w_mull, w_mulr, w_u32, w_u16, w_u8, w_u32a, N_zero]; first | done | rfl | (simp only [push_cast, reduceIte, Nat.reduceEqDiff, Nat.reduceLT, Nat.reduceAdd, Nat.reduceSub, Nat.reduceMul, Nat.reduceLeDiff, Nat.reducePow, Int.reduceLT, Int.reduceToNat, reduceCtorEq, Int.reduceNeg, Int.reduceEq, Nat.reduceBEq, Nat.reduceBNe, Int.reduceBEq, Int.reduceBNe, String.reduceEq]; first | done | rfl)))) (hy : AS.ev { s with fr := needFr s.fr vals (nds.getD vals.length []) } y = .val (.bool c) := by first | with_reducible rfl | (simp only [push_cast, reduceIte, Nat.reduceEqDiff, Nat.reduceLT, Nat.reduceAdd, Nat.reduceSub, Nat.reduceMul, Nat.reduceLeDiff, Nat.reducePow, Int.reduceLT, Int.reduceToNat, reduceCtorEq, Int.reduceNeg, Int.reduceEq, Nat.reduceBEq, Nat.reduceBNe, Int.reduceBEq, Int.reduceBNe, String.reduceEq]; first | done | rfl | (simp (disch := omega) only [w_nat, w_add, w_addl, w_addr, w_sub, w_subl, w_mul, w_mull, w_mulr, w_u32, w_u16, w_u8, w_u32a, N_zero]; first | done | rfl | (simp only [push_cast, reduceIte, Nat.reduceEqDiff, Nat.reduceLT, Nat.reduceAdd, Nat.reduceSub, Nat.reduceMul, Nat.reduceLeDiff, Nat.reducePow, Int.reduceLT, Int.reduceToNat, reduceCtorEq, Int.reduceNeg, Int.reduceEq, Nat.reduceBEq, Nat.reduceBNe, Int.reduceBEq, Int.reduceBNe, String.reduceEq]; first | done | rfl)))) : Dr P ops s nds vals G :=
  Dr.step hn hol (NSpec.boolEq hg ho hop hT hx hy) k
end
end Go.Abs
/- cause: right, Number, Value, Missing, Types, Chunk. -/
set_option linter.unusedVariables false
set_option linter.unusedSimpArgs false
namespace Go.Abs
@[push_cast] theorem GNode.ty_mk (t : Nat) (d : List UInt8) (k : List GNode) : (GNode.mk t d k).ty = t := rfl
@[push_cast] theorem GNode.data_mk (t : Nat) (d : List UInt8) (k : List GNode) : (GNode.mk t d k).data = d := rfl
@[push_cast] theorem GNode.kids_mk (t : Nat) (d : List UInt8) (k : List GNode) : (GNode.mk t d k).kids = k := rfl
@[push_cast] theorem GNode.zero_mk : GNode.zero = .mk 0 [] [] := rfl
end Go.Abs
namespace Go.Proofs.YtmcedkcehcacpaaDoor.C
open Go.Abs
end Go.Proofs.YtmcedkcehcacpaaDoor.C
/- cause: Value, Missing, Types, Chunk. -/
set_option linter.unusedVariables false
set_option linter.unusedSimpArgs false
namespace Go.Proofs.YtmcedkcehcacpaaDoor.C
open Go.Abs
@[push_cast] theorem plL_app (l m : List AV) : AV.plL (l ++ m) = (AV.plL l && AV.plL m) := by
  rw [Bool.eq_iff_iff, Bool.and_eq_true, AV.plL_iff, AV.plL_iff, AV.plL_iff]
  simp only [List.mem_append]
  exact ⟨fun h => ⟨fun x hx => h x (.inl hx), fun x hx => h x (.inr hx)⟩, fun h x hx => hx.elim (h.1 x) (h.2 x)⟩
end Go.Proofs.YtmcedkcehcacpaaDoor.C
/- cause: Missing, Types, Chunk. -/
set_option linter.unusedVariables false
set_option linter.unusedSimpArgs false
namespace Go.Proofs.YtmcedkcehcacpaaDoor.C
open Go.Abs
end Go.Proofs.YtmcedkcehcacpaaDoor.C
/- The reference: Same, Missing. -/
set_option linter.unusedVariables false
set_option linter.unusedSimpArgs false
namespace Go.Proofs.YtmcedkcehcacpaaDoor.C
open Go.Abs
theorem take_step {α : Type} {l m : List α} {i : Nat} (hl : i < l.length) (hm : i < m.length) (h0 : l.take i = m.take i) (h : l[i] = m[i]) : l.take (i + 1) = m.take (i + 1) := by
  rw [List.take_succ_eq_append_getElem hl, List.take_succ_eq_append_getElem hm, h0, h]
theorem ne_at {α : Type} {l m : List α} {i : Nat} (hl : i < l.length) (hm : i < m.length) (h : l[i] ≠ m[i]) : l ≠ m := by
  rintro rfl; exact h rfl
theorem bys_at (l : List UInt8) (i : Nat) (h : i < l.length) : (bys l)[i]? = some (.val (.int .u8 (N l[i].toNat))) := by simp [bys, h]
theorem same01_c (l m : List UInt8) (hl : l.length ≤ 2 ^ 40) : PC Tryd.prog 23 [.sl false 1 (bys l), .sl false 1 (bys m)] (bool (decide (l = m))) := by
  refine PC.of_bodyW (by simp only [push_cast]) Tryd.func23 rfl (by rw [Tryd.ntmps23]; simp) ?_
  refine AWp.regionW ?_
  refine AWp.seqK fun K1 hK1 => ?_
  refine AWp.regionW ?_
  refine AWp.condLM (fun c0 => ?_) (fun c0 => ?_)
  · skip
    have hne : decide (l = m) = false := decide_eq_false (by rintro rfl; simp at c0)
    refine AWp.regionW ?_
    refine AWp.ret ?_
    try simp only [thenQ, blockQ, noGo]
    refine bodyQ.m ?_
    clear hK1 K1
    rw [hne]
    first | done | exact Hand.go
  · skip
    have he : l.length = m.length := by simpa using c0
    refine AWp.skip ?_
    refine hK1 _ ?_
    refine AWp.seqK fun K2 hK2 => ?_
    refine AWp.regionW ?_
    refine AWp.block ?_
    refine AWp.loopK0 [0, 1] (fun (i : Nat) => [(5, nat i)]) (fun i => i ≤ l.length ∧ l.take i = m.take i) (fun i => l.length - i) (0) ?_ ⟨Nat.zero_le _, rfl⟩ ?_
    · skip
      refine Le.m 0 ?_ ?_
      · first | with_reducible rfl | (simp only [push_cast, reduceIte, Nat.reduceEqDiff, Nat.reduceLT, Nat.reduceAdd, Nat.reduceSub, Nat.reduceMul, Nat.reduceLeDiff, Nat.reducePow, Int.reduceLT, Int.reduceToNat, reduceCtorEq, Int.reduceNeg, Int.reduceEq, Nat.reduceBEq, Nat.reduceBNe, Int.reduceBEq, Int.reduceBNe, String.reduceEq]; first | done | rfl | (simp (disch := omega) only [w_nat, w_add, w_addl, w_addr, w_sub, w_subl, w_mul, w_mull, w_mulr, w_u32, w_u16, w_u8, w_u32a, N_zero]; first | done | rfl))
      · first | (simp only [push_cast, reduceIte, Nat.reduceEqDiff, Nat.reduceLT, Nat.reduceAdd, Nat.reduceSub, Nat.reduceMul, Nat.reduceLeDiff, Nat.reducePow, Int.reduceLT, Int.reduceToNat, reduceCtorEq, Int.reduceNeg, Int.reduceEq, Nat.reduceBEq, Nat.reduceBNe, Int.reduceBEq, Int.reduceBNe, String.reduceEq]; first | done | rfl | (simp (disch := omega) only [w_nat, w_add, w_addl, w_addr, w_sub, w_subl, w_mul, w_mull, w_mulr, w_u32, w_u16, w_u8, w_u32a, N_zero]; first | done | rfl))
    · intro i hi K3 hK3
      refine AWp.seqK fun K4 hK4 => ?_
      refine AWp.regionW ?_
      refine AWp.condLM (fun c1 => ?_) (fun c1 => ?_)
      · skip
        have hil : i < l.length := by simpa using c1
        have hir : i < m.length := by omega
        refine AWp.skip ?_
        refine hK4 _ ?_
        refine AWp.seqK fun K5 hK5 => ?_
        refine AWp.block ?_
        refine AWp.drS [[(0, none)], [(5, none)], [(17, some 0), (18, some 1)], [(19, some 2)], [(1, none)], [(5, none)], [(21, some 4), (22, some 5)], [(23, some 6)], [(20, some 3), (24, some 7)]] fun G hG => ?_
        refine Dr.sim ?_
        try simp only [List.cons_append, List.nil_append]
        refine Dr.sim ?_
        try simp only [List.cons_append, List.nil_append]
        refine Dr.idx (i) (.val (.int .u8 (N l[i].toNat))) ?_ ?_
        · exact bys_at _ _ hil
        try simp only [List.cons_append, List.nil_append]
        refine Dr.sim ?_
        try simp only [List.cons_append, List.nil_append]
        refine Dr.sim ?_
        try simp only [List.cons_append, List.nil_append]
        refine Dr.sim ?_
        try simp only [List.cons_append, List.nil_append]
        refine Dr.idx (i) (.val (.int .u8 (N m[i].toNat))) ?_ ?_
        · exact bys_at _ _ hir
        try simp only [List.cons_append, List.nil_append]
        refine Dr.sim ?_
        try simp only [List.cons_append, List.nil_append]
        refine Dr.sim ?_
        try simp only [List.cons_append, List.nil_append]
        refine Dr.finM (n := 9) [(25, 8)] [0, 1, 5] hG YtmcedkcehcacpaaDoor.Facts.mixed fun KD hKD => ?_
        refine ARun2.endm (hKD _ ?_); clear hKD KD hG G
        refine AWp.condLM (fun c2 => ?_) (fun c2 => ?_)
        · skip
          have hne : decide (l = m) = false := decide_eq_false (ne_at hil hir (by intro e; rw [e] at c2; simp at c2))
          refine AWp.regionW ?_
          refine AWp.ret ?_
          try simp only [thenQ, blockQ, noGo]
          refine bodyQ.m ?_
          clear hK5 K5 hK4 K4 hK3 K3 hK2 K2 hK1 K1
          rw [hne]
          first | done | exact Hand.go
        · skip
          have hx : l[i] = m[i] := by apply UInt8.toNat_inj.1; simpa using c2
          refine AWp.skip ?_
          refine hK5 _ ?_
          refine AWp.regionV ?_
          refine hK3 _ (i + 1) (⟨by omega, take_step hil hir hi.2 hx⟩) (by omega) ?_
          refine Le.m 0 ?_ ?_
          · first | with_reducible rfl | (simp only [push_cast, reduceIte, Nat.reduceEqDiff, Nat.reduceLT, Nat.reduceAdd, Nat.reduceSub, Nat.reduceMul, Nat.reduceLeDiff, Nat.reducePow, Int.reduceLT, Int.reduceToNat, reduceCtorEq, Int.reduceNeg, Int.reduceEq, Nat.reduceBEq, Nat.reduceBNe, Int.reduceBEq, Int.reduceBNe, String.reduceEq]; first | done | rfl | (simp (disch := omega) only [w_nat, w_add, w_addl, w_addr, w_sub, w_subl, w_mul, w_mull, w_mulr, w_u32, w_u16, w_u8, w_u32a, N_zero]; first | done | rfl))
          · first | (simp only [push_cast, reduceIte, Nat.reduceEqDiff, Nat.reduceLT, Nat.reduceAdd, Nat.reduceSub, Nat.reduceMul, Nat.reduceLeDiff, Nat.reducePow, Int.reduceLT, Int.reduceToNat, reduceCtorEq, Int.reduceNeg, Int.reduceEq, Nat.reduceBEq, Nat.reduceBNe, Int.reduceBEq, Int.reduceBNe, String.reduceEq]; first | done | rfl | (simp (disch := omega) only [w_nat, w_add, w_addl, w_addr, w_sub, w_subl, w_mul, w_mull, w_mulr, w_u32, w_u16, w_u8, w_u32a, N_zero]; first | done | rfl))
      · skip
        have hil : i = l.length := by have := hi.1; simp at c1; omega
        have hq : decide (l = m) = true := decide_eq_true (by have := hi.2; rwa [hil, List.take_length, he, List.take_length] at this)
        refine AWp.exit ?_
        try simp only [thenQ, blockQ, noGo, reduceIte, Nat.reduceEqDiff]
        refine hK2 _ ?_
        refine AWp.regionW ?_
        refine AWp.ret ?_
        try simp only [thenQ, blockQ, noGo]
        refine bodyQ.m ?_
        clear hK4 K4 hK3 K3 hK2 K2 hK1 K1
        rw [hq]
        first | done | exact Hand.go
theorem same08_step (l r : List GNode) (hs : szs l ≤ 2 ^ 40) (ih : ∀ a ∈ l, ∀ b : GNode, PC Tryd.prog 18 [.sl false 3 (nodesA false a.kids), .sl false 3 (nodesA false b.kids)] (bool (sameL a.kids b.kids))) :
    PC Tryd.prog 18 [.sl false 3 (nodesA false l), .sl false 3 (nodesA false r)] (bool (sameL l r)) := by
  have hlen := szs_len l
  refine PC.of_bodyW (by simp only [push_cast]) Tryd.func18 rfl (by rw [Tryd.ntmps18]; simp) ?_
  refine AWp.regionW ?_
  refine AWp.seqK fun K1 hK1 => ?_
  refine AWp.regionW ?_
  refine AWp.condLM (fun c0 => ?_) (fun c0 => ?_)
  · skip
    have hne : l.length ≠ r.length := by simpa using c0
    refine AWp.regionW ?_
    refine AWp.ret ?_
    try simp only [thenQ, blockQ, noGo]
    refine bodyQ.m ?_
    clear hK1 K1
    rw [sameL_len hne]
    first | done | exact Hand.go
  · skip
    have he : l.length = r.length := by simpa using c0
    refine AWp.skip ?_
    refine hK1 _ ?_
    refine AWp.seqK fun K2 hK2 => ?_
    refine AWp.regionW ?_
    refine AWp.block ?_
    refine AWp.loopK0 [0, 1] (fun (i : Nat) => [(5, nat i)]) (fun i => i ≤ l.length ∧ sameL (l.take i) (r.take i) = true) (fun i => l.length - i) (0) ?_ ⟨Nat.zero_le _, rfl⟩ ?_
    · skip
      refine Le.m 0 ?_ ?_
      · first | with_reducible rfl | (simp only [push_cast, reduceIte, Nat.reduceEqDiff, Nat.reduceLT, Nat.reduceAdd, Nat.reduceSub, Nat.reduceMul, Nat.reduceLeDiff, Nat.reducePow, Int.reduceLT, Int.reduceToNat, reduceCtorEq, Int.reduceNeg, Int.reduceEq, Nat.reduceBEq, Nat.reduceBNe, Int.reduceBEq, Int.reduceBNe, String.reduceEq]; first | done | rfl | (simp (disch := omega) only [w_nat, w_add, w_addl, w_addr, w_sub, w_subl, w_mul, w_mull, w_mulr, w_u32, w_u16, w_u8, w_u32a, N_zero]; first | done | rfl))
      · first | (simp only [push_cast, reduceIte, Nat.reduceEqDiff, Nat.reduceLT, Nat.reduceAdd, Nat.reduceSub, Nat.reduceMul, Nat.reduceLeDiff, Nat.reducePow, Int.reduceLT, Int.reduceToNat, reduceCtorEq, Int.reduceNeg, Int.reduceEq, Nat.reduceBEq, Nat.reduceBNe, Int.reduceBEq, Int.reduceBNe, String.reduceEq]; first | done | rfl | (simp (disch := omega) only [w_nat, w_add, w_addl, w_addr, w_sub, w_subl, w_mul, w_mull, w_mulr, w_u32, w_u16, w_u8, w_u32a, N_zero]; first | done | rfl))
    · intro i hi K3 hK3
      refine AWp.seqK fun K4 hK4 => ?_
      refine AWp.regionW ?_
      refine AWp.condLM (fun c1 => ?_) (fun c1 => ?_)
      · skip
        have hil : i < l.length := by simpa using c1
        have hir : i < r.length := by omega
        have hm := List.getElem_mem hil
        have hsz := szs_mem hm
        have hse := GNode.sz_eq l[i]
        refine AWp.skip ?_
        refine hK4 _ ?_
        refine AWp.seqK fun K5 hK5 => ?_
        refine AWp.block ?_
        refine AWp.drS [[(0, none)], [(5, none)], [(17, some 0), (18, some 1)], [(19, some 2)], [(20, some 3)], [(1, none)], [(5, none)], [(22, some 5), (23, some 6)], [(24, some 7)], [(25, some 8)], [(21, some 4), (26, some 9)], [(27, some 10)], [(0, none), (28, some 11)], [(5, none), (28, some 11)], [(29, some 12), (30, some 13), (28, some 11)], [(31, some 14), (28, some 11)], [(32, some 15), (28, some 11)], [(1, none), (28, some 11)], [(5, none), (28, some 11)], [(34, some 17), (35, some 18), (28, some 11)], [(36, some 19), (28, some 11)], [(37, some 20), (28, some 11)], [(33, some 16), (38, some 21), (28, some 11)], [(39, some 22), (28, some 11)], [(28, some 11), (40, some 23)], [(41, some 24)], [(0, none), (42, some 25)], [(5, none), (42, some 25)], [(43, some 26), (44, some 27), (42, some 25)], [(45, some 28), (42, some 25)], [(46, some 29), (42, some 25)], [(1, none), (42, some 25)], [(5, none), (42, some 25)], [(48, some 31), (49, some 32), (42, some 25)], [(50, some 33), (42, some 25)], [(51, some 34), (42, some 25)], [(47, some 30), (52, some 35), (42, some 25)], [(53, some 36), (42, some 25)], [(42, some 25), (54, some 37)]] fun G hG => ?_
        refine Dr.sim ?_
        try simp only [List.cons_append, List.nil_append]
        refine Dr.sim ?_
        try simp only [List.cons_append, List.nil_append]
        refine Dr.idx (i) (nodeA false l[i]) ?_ ?_
        · exact nodesA_at _ _ _ hil
        try simp only [List.cons_append, List.nil_append]
        refine Dr.sim ?_
        try simp only [List.cons_append, List.nil_append]
        refine Dr.sim ?_
        try simp only [List.cons_append, List.nil_append]
        refine Dr.sim ?_
        try simp only [List.cons_append, List.nil_append]
        refine Dr.sim ?_
        try simp only [List.cons_append, List.nil_append]
        refine Dr.idx (i) (nodeA false r[i]) ?_ ?_
        · exact nodesA_at _ _ _ hir
        try simp only [List.cons_append, List.nil_append]
        refine Dr.sim ?_
        try simp only [List.cons_append, List.nil_append]
        refine Dr.sim ?_
        try simp only [List.cons_append, List.nil_append]
        refine Dr.sim ?_
        try simp only [List.cons_append, List.nil_append]
        refine Dr.sim ?_
        try simp only [List.cons_append, List.nil_append]
        refine Dr.simg ?_
        try simp only [List.cons_append, List.nil_append]
        refine Dr.simg ?_
        try simp only [List.cons_append, List.nil_append]
        refine Dr.idxg (i) (nodeA false l[i]) ?_ ?_
        · intro g11
          exact nodesA_at _ _ _ hil
        try simp only [List.cons_append, List.nil_append]
        refine Dr.simg ?_
        try simp only [List.cons_append, List.nil_append]
        refine Dr.simg ?_
        try simp only [List.cons_append, List.nil_append]
        refine Dr.simg ?_
        try simp only [List.cons_append, List.nil_append]
        refine Dr.simg ?_
        try simp only [List.cons_append, List.nil_append]
        refine Dr.idxg (i) (nodeA false r[i]) ?_ ?_
        · intro g11
          exact nodesA_at _ _ _ hir
        try simp only [List.cons_append, List.nil_append]
        refine Dr.simg ?_
        try simp only [List.cons_append, List.nil_append]
        refine Dr.simg ?_
        try simp only [List.cons_append, List.nil_append]
        refine Dr.callg (fun g11 => same01_c l[i].data r[i].data (by omega)) ?_
        try simp only [List.cons_append, List.nil_append]
        refine Dr.simg ?_
        try simp only [List.cons_append, List.nil_append]
        refine Dr.sim ?_
        try simp only [List.cons_append, List.nil_append]
        refine Dr.sim ?_
        try simp only [List.cons_append, List.nil_append]
        refine Dr.simg ?_
        try simp only [List.cons_append, List.nil_append]
        refine Dr.simg ?_
        try simp only [List.cons_append, List.nil_append]
        refine Dr.idxg (i) (nodeA false l[i]) ?_ ?_
        · intro g25
          exact nodesA_at _ _ _ hil
        try simp only [List.cons_append, List.nil_append]
        refine Dr.simg ?_
        try simp only [List.cons_append, List.nil_append]
        refine Dr.simg ?_
        try simp only [List.cons_append, List.nil_append]
        refine Dr.simg ?_
        try simp only [List.cons_append, List.nil_append]
        refine Dr.simg ?_
        try simp only [List.cons_append, List.nil_append]
        refine Dr.idxg (i) (nodeA false r[i]) ?_ ?_
        · intro g25
          exact nodesA_at _ _ _ hir
        try simp only [List.cons_append, List.nil_append]
        refine Dr.simg ?_
        try simp only [List.cons_append, List.nil_append]
        refine Dr.simg ?_
        try simp only [List.cons_append, List.nil_append]
        refine Dr.callg (fun g25 => ih l[i] hm r[i]) ?_
        try simp only [List.cons_append, List.nil_append]
        refine Dr.simg ?_
        try simp only [List.cons_append, List.nil_append]
        refine Dr.sim ?_
        try simp only [List.cons_append, List.nil_append]
        refine Dr.finM (n := 39) [(55, 38)] [0, 1, 5] hG YtmcedkcehcacpaaDoor.Facts.mixed fun KD hKD => ?_
        refine ARun2.endm (hKD _ ?_); clear hKD KD hG G
        refine AWp.condLM (fun c2 => ?_) (fun c2 => ?_)
        · skip
          have h5 : sameN l[i] r[i] = false := by rw [sameN_eq]; revert c2; cases h1 : l[i].ty == r[i].ty <;> cases h2 : decide (l[i].data = r[i].data) <;> cases h3 : sameL l[i].kids r[i].kids <;> simp_all
          refine AWp.regionW ?_
          refine AWp.ret ?_
          try simp only [thenQ, blockQ, noGo]
          refine bodyQ.m ?_
          clear hK5 K5 hK4 K4 hK3 K3 hK2 K2 hK1 K1
          rw [sameL_at hil hir h5]
          first | done | exact Hand.go
        · skip
          have h5 : sameN l[i] r[i] = true := by rw [sameN_eq]; revert c2; cases h1 : l[i].ty == r[i].ty <;> cases h2 : decide (l[i].data = r[i].data) <;> cases h3 : sameL l[i].kids r[i].kids <;> simp_all
          refine AWp.skip ?_
          refine hK5 _ ?_
          refine AWp.regionV ?_
          refine hK3 _ (i + 1) (⟨by omega, sameL_take hil hir hi.2 h5⟩) (by omega) ?_
          refine Le.m 0 ?_ ?_
          · first | with_reducible rfl | (simp only [push_cast, reduceIte, Nat.reduceEqDiff, Nat.reduceLT, Nat.reduceAdd, Nat.reduceSub, Nat.reduceMul, Nat.reduceLeDiff, Nat.reducePow, Int.reduceLT, Int.reduceToNat, reduceCtorEq, Int.reduceNeg, Int.reduceEq, Nat.reduceBEq, Nat.reduceBNe, Int.reduceBEq, Int.reduceBNe, String.reduceEq]; first | done | rfl | (simp (disch := omega) only [w_nat, w_add, w_addl, w_addr, w_sub, w_subl, w_mul, w_mull, w_mulr, w_u32, w_u16, w_u8, w_u32a, N_zero]; first | done | rfl))
          · first | (simp only [push_cast, reduceIte, Nat.reduceEqDiff, Nat.reduceLT, Nat.reduceAdd, Nat.reduceSub, Nat.reduceMul, Nat.reduceLeDiff, Nat.reducePow, Int.reduceLT, Int.reduceToNat, reduceCtorEq, Int.reduceNeg, Int.reduceEq, Nat.reduceBEq, Nat.reduceBNe, Int.reduceBEq, Int.reduceBNe, String.reduceEq]; first | done | rfl | (simp (disch := omega) only [w_nat, w_add, w_addl, w_addr, w_sub, w_subl, w_mul, w_mull, w_mulr, w_u32, w_u16, w_u8, w_u32a, N_zero]; first | done | rfl))
      · skip
        have hil : i = l.length := by have := hi.1; simp at c1; omega
        have hs : sameL l r = true := by have := hi.2; rwa [hil, List.take_length, he, List.take_length] at this
        refine AWp.exit ?_
        try simp only [thenQ, blockQ, noGo, reduceIte, Nat.reduceEqDiff]
        refine hK2 _ ?_
        refine AWp.regionW ?_
        refine AWp.ret ?_
        try simp only [thenQ, blockQ, noGo]
        refine bodyQ.m ?_
        clear hK4 K4 hK3 K3 hK2 K2 hK1 K1
        rw [hs]
        first | done | exact Hand.go
theorem same08_w : ∀ (w : Nat) (l r : List GNode), szs l ≤ w → szs l ≤ 2 ^ 40 → PC Tryd.prog 18 [.sl false 3 (nodesA false l), .sl false 3 (nodesA false r)] (bool (sameL l r)) := by
  have kl : ∀ (a : GNode) (l : List GNode), a ∈ l → szs a.kids < szs l := by
    intro a l ha
    have := szs_mem ha; rw [GNode.sz_eq] at this; omega
  intro w
  induction w with
  | zero => exact fun l r hw hs => same08_step l r hs (fun a ha b => by have := kl a l ha; omega)
  | succ w ih => exact fun l r hw hs => same08_step l r hs (fun a ha b => by have := kl a l ha; exact ih _ _ (by omega) (by omega))
theorem same08_c (l r : List GNode) (hs : szs l ≤ 2 ^ 40) : PC Tryd.prog 18 [.sl false 3 (nodesA false l), .sl false 3 (nodesA false r)] (bool (sameL l r)) := same08_w _ l r (Nat.le_refl _) hs
end Go.Proofs.YtmcedkcehcacpaaDoor.C
/- wharflaw08: coded, told, node.Walk (the iterator itself), awake. -/
set_option linter.unusedVariables false
set_option linter.unusedSimpArgs false
namespace Go.Proofs.YtmcedkcehcacpaaDoor.C
open Go.Abs
theorem ifcEq_err (e c : Nat) (hc : c ≠ 0) : ifcEq (errA e) 62 .i64 (N c) = some (e == c) := by
  unfold errA
  by_cases he : e = 0
  · subst he
    have : (0 == c) = false := by simpa using Ne.symm hc
    rw [this]; rfl
  · have h1 : (e == 0) = false := by simpa using he
    rw [h1]
    simp only [cond_false, ifcEq, if_true, Option.some.injEq, N]
    rw [Bool.eq_iff_iff]; simp; omega
theorem coded_c (e c : Nat) : PC Tryd.prog 11 [errA e, nat c] (bool (e == c)) := by
  refine PC.of_bodyW (by simp only [push_cast]) Tryd.func11 rfl (by rw [Tryd.ntmps11]; simp) ?_
  refine AWp.regionW ?_
  refine AWp.seqK fun K1 hK1 => ?_
  refine AWp.regionW ?_
  refine AWp.condLM (fun c0 => ?_) (fun c0 => ?_)
  · skip
    have hc : c = 0 := by simpa using c0
    subst hc
    refine AWp.regionW ?_
    refine AWp.ret ?_
    try simp only [thenQ, blockQ, noGo]
    refine bodyQ.m ?_
    clear hK1 K1
    first | done | exact Hand.go
  · skip
    have hc : c ≠ 0 := by simpa using c0
    refine AWp.skip ?_
    refine hK1 _ ?_
    refine AWp.regionM fun K2 hK2 => ?_
    refine ARun2.ifcEqM (e == c) (ifcEq_err e c hc) ?_
    refine ARun2.endm (hK2 _ ?_)
    refine AWp.ret ?_
    try simp only [thenQ, blockQ, noGo]
    refine bodyQ.m ?_
    clear hK2 K2 hK1 K1
    first | done | exact Hand.go
def toldN (e : Er) (c i : Nat) : Bool := bif c == 0 then e.isOk else (e.codeOf.2 && e.codeOf.1 == c && e.atOf.2 && e.atOf.1 == i)
theorem told_c (e : Er) (c i : Nat) : PC Tryd.prog 12 [erA e, nat c, nat i] (bool (toldN e c i)) := by
  have hT : toldN e c i = toldN e c i := rfl
  conv at hT => rhs; unfold toldN
  generalize toldN e c i = T at hT
  have h1 := code_c e
  have h2 := at_c e
  generalize e.codeOf.1 = x at h1 hT
  generalize e.codeOf.2 = y at h1 hT
  generalize e.atOf.1 = u at h2 hT
  generalize e.atOf.2 = v at h2 hT
  refine PC.of_bodyW (by simp only [push_cast]) Tryd.func12 rfl (by rw [Tryd.ntmps12]; simp) ?_
  refine AWp.regionW ?_
  refine AWp.seqK fun K1 hK1 => ?_
  refine AWp.regionW ?_
  refine AWp.condLM (fun c0 => ?_) (fun c0 => ?_)
  · skip
    have hc : (c == 0) = true := by simpa using c0
    rw [hc] at hT
    refine AWp.regionW ?_
    refine AWp.ret ?_
    try simp only [thenQ, blockQ, noGo]
    refine bodyQ.m ?_
    clear hK1 K1
    subst hT; simp only [cond_true, cond_false]
    first | done | exact Hand.go
  · skip
    have hc : (c == 0) = false := by simpa using c0
    rw [hc] at hT
    refine AWp.skip ?_
    refine hK1 _ ?_
    refine AWp.regionM fun K2 hK2 => ?_
    refine ARun2.callM (h1) ?_
    refine ARun2.endm (hK2 _ ?_)
    refine AWp.regionM fun K3 hK3 => ?_
    refine ARun2.callM (h2) ?_
    refine ARun2.endm (hK3 _ ?_)
    refine AWp.regionA fun K4 hK4 => ?_
    refine ARun.segm 2 fun KS hKS => ?_
    refine ARun2.endm (hKS _ ?_); clear hKS KS
    apply ARun.grpM 3 1 true 29 [2, 9, 10, 26]
    · intro g1 KG hKG
      refine ARun2.gom ?_
      exact ARun2.endm (hKG _ Le.grpM)
    refine ARun.segm 2 fun KS hKS => ?_
    refine ARun2.endm (hKS _ ?_); clear hKS KS
    apply ARun.grpM 1 6 true 32 [2, 9, 31]
    · intro g6 KG hKG
      refine ARun2.gom ?_
      exact ARun2.endm (hKG _ Le.grpM)
    refine ARun.segm 2 fun KS hKS => ?_
    refine ARun2.endm (hKS _ ?_); clear hKS KS
    apply ARun.grpM 3 9 true 37 [34]
    · intro g9 KG hKG
      refine ARun2.gom ?_
      exact ARun2.endm (hKG _ Le.grpM)
    refine ARun2.gom ?_
    refine ARun2.endm (hK4 _ ?_)
    refine AWp.ret ?_
    try simp only [thenQ, blockQ, noGo]
    refine bodyQ.m ?_
    clear hK4 K4 hK3 K3 hK2 K2 hK1 K1
    subst hT; simp only [cond_true, cond_false]
    first | done | exact Hand.go
theorem nwalk_c (l : List GNode) : PC Tryd.prog 17 [.sl false 3 (nodesA false l)] (.fn (.func 33) [] [.ref true (.agg [.sl false 3 (nodesA false l)])]) := by
  refine PC.of_body (by simp only [push_cast]) Tryd.func17 rfl (by rw [Tryd.ntmps17]; simp) ?_
  refine AWp.regionW ?_
  refine AWp.regionW ?_
  refine AWp.pubBox 0 rfl (Nat.le_refl _) rfl (by simp) ?_
  simp only [push_cast, reduceIte, Nat.reduceEqDiff, Nat.reduceLT, Nat.reduceAdd, Nat.reduceSub, Nat.reduceMul, Nat.reduceLeDiff, Nat.reducePow, Int.reduceLT, Int.reduceToNat, reduceCtorEq, Int.reduceNeg, Int.reduceEq, Nat.reduceBEq, Nat.reduceBNe, Int.reduceBEq, Int.reduceBNe, String.reduceEq]
  refine AWp.ret ?_
  try simp only [thenQ, blockQ, noGo]
  refine bodyQ.m ?_
  rfl
theorem awake08_c : PC Tryd.prog 7 [] (bool true) := by
  have e1 : PC Tryd.prog 8 [nat 1, .sl false 3 (nodesA false [.mk 8 [] [.mk 32768 [] []]])] (.tup [.sl true 1 (bys [0, 8, 0, 8, 128, 0, 0, 4]), .val .nilIface]) := encode_c 1 [.mk 8 [] [.mk 32768 [] []]] (.inl rfl) (by decide) (by decide)
  have e2 : PC Tryd.prog 9 [nat 1, .sl false 1 (bys [0, 8, 0, 8, 128, 0, 0, 4])] (.tup [.sl false 3 (nodesA false [.mk 8 [] [.mk 32768 [] []]]), .val .nilIface]) := by
    have h := parse_c 1 [0, 8, 0, 8, 128, 0, 0, 4] (.inl rfl) (by decide)
    have p : parseF 4 1 [0, 8, 0, 8, 128, 0, 0, 4] 0 = ([.mk 8 [] [.mk 32768 [] []]], .ok) := by kernel_rfl
    rw [p] at h
    exact h
  have e3 : PC Tryd.prog 9 [nat 1, .sl false 1 [u8 0, u8 8, u8 0, u8 4]] (.tup [.sl false 3 [], erA (.flt 7 0)]) := by
    have h := parse_c 1 [0, 8, 0, 4] (.inl rfl) (by decide)
    have p : parseF 4 1 [0, 8, 0, 4] 0 = ([], .flt 7 0) := by kernel_rfl
    rw [p] at h
    exact h
  have e4 : PC Tryd.prog 23 [.sl false 1 (bys [0, 8, 0, 8, 128, 0, 0, 4]), .sl false 1 [u8 0, u8 8, u8 0, u8 8, u8 128, u8 0, u8 0, u8 4]] (bool true) := same01_c [0, 8, 0, 8, 128, 0, 0, 4] [0, 8, 0, 8, 128, 0, 0, 4] (by decide)
  have e5 : PC Tryd.prog 22 [nodeA false (.mk 8 [] [.mk 32768 [] []]), nodeA false (.mk 8 [] [.mk 32768 [] []])] (bool true) := same_c (.mk 8 [] [.mk 32768 [] []]) (.mk 8 [] [.mk 32768 [] []]) (by decide)
  have e6 : PC Tryd.prog 12 [erA (.flt 7 0), nat 7, nat 0] (bool true) := told_c (.flt 7 0) 7 0
  have e7 : PC Tryd.prog 13 [nat 1, nodeA false (.mk 8 [] [.mk 32768 [] []])] (.val .nilIface) := check_c 1 (.mk 8 [] [.mk 32768 [] []]) (.inl rfl) (by decide)
  have e8 : PC Tryd.prog 13 [nat 1, nodeA false (.mk 5 [] [])] (errA 7) := check_c 1 (.mk 5 [] []) (.inl rfl) (by decide)
  have e9 : PC Tryd.prog 11 [errA 7, nat 7] (bool true) := coded_c 7 7
  have e10 : PC Tryd.prog 14 [.sl false 3 (nodesA false [.mk 8 [] [.mk 32768 [] []]])] (nat 8) := size_c [.mk 8 [] [.mk 32768 [] []]] (by decide)
  have e11 : PC Tryd.prog 20 [nodeA false (.mk 8 [] [.mk 32768 [] []])] (nodeA false (.mk 8 [] [.mk 32768 [] []])) := nclone_c _ (by decide)
  have e12 := nwalk_c [.mk 8 [] [.mk 32768 [] []]]
  refine PC.of_bodyW (by simp only [push_cast]) Tryd.func7 rfl (by rw [Tryd.ntmps7]; simp) ?_
  refine AWp.regionW ?_
  refine AWp.regionW ?_
  refine AWp.regionM fun K1 hK1 => ?_
  refine ARun2.callM (e1) ?_
  refine ARun2.endm (hK1 _ ?_)
  refine AWp.regionM fun K2 hK2 => ?_
  refine ARun2.callM (e2) ?_
  refine ARun2.endm (hK2 _ ?_)
  refine AWp.regionM fun K3 hK3 => ?_
  refine ARun2.callM (e3) ?_
  refine ARun2.endm (hK3 _ ?_)
  refine AWp.seqK fun K4 hK4 => ?_
  refine AWp.regionW ?_
  refine AWp.condF ?_
  refine AWp.skip ?_
  refine hK4 _ ?_
  refine AWp.drS [[(2, none)], [], [(30, some 0), (31, some 1)], [(32, some 2)], [(3, none), (33, some 3)], [(34, some 4), (33, some 3)], [(33, some 3), (35, some 5)], [(36, some 6)], [(5, none), (37, some 7)], [(38, some 8), (37, some 7)], [(37, some 7), (39, some 9)], [(40, some 10)], [(4, none), (41, some 11)], [(42, some 12), (41, some 11)], [(43, some 13), (41, some 11)], [(1, none), (41, some 11)], [(44, some 14), (45, some 15), (41, some 11)], [(41, some 11), (46, some 16)], [(47, some 17)], [(7, none), (48, some 18)], [(49, some 19), (48, some 18)], [(48, some 18), (50, some 20)], [(51, some 21)], [(1, none), (52, some 22)], [(53, some 23), (52, some 22)], [(54, some 24), (52, some 22)], [(52, some 22), (55, some 25)], [(56, some 26)], [(57, some 27)], [(58, some 28), (57, some 27)], [(59, some 29), (57, some 27)], [(57, some 27), (60, some 30)], [(61, some 31)], [(1, none), (62, some 32)], [(63, some 33), (62, some 32)], [(64, some 34), (62, some 32)], [(65, some 35), (62, some 32)], [(62, some 32), (66, some 36)], [(67, some 37)], [(1, none), (68, some 38)], [(69, some 39), (68, some 38)], [(1, none), (68, some 38)], [(70, some 40), (71, some 41), (68, some 38)], [(68, some 38), (72, some 42)], [(73, some 43)], [(1, none), (74, some 44)], [(75, some 45), (74, some 44)], [(76, some 46), (74, some 44)], [(77, some 47), (74, some 44)], [(74, some 44), (78, some 48)], [(79, some 49)]] fun G hG => ?_
  refine Dr.sim ?_
  try simp only [List.cons_append, List.nil_append]
  refine Dr.build ?_
  try simp only [List.cons_append, List.nil_append]
  refine Dr.call (e4) ?_
  try simp only [List.cons_append, List.nil_append]
  refine Dr.sim ?_
  try simp only [List.cons_append, List.nil_append]
  refine Dr.sim ?_
  try simp only [List.cons_append, List.nil_append]
  refine Dr.sim ?_
  try simp only [List.cons_append, List.nil_append]
  refine Dr.sim ?_
  try simp only [List.cons_append, List.nil_append]
  refine Dr.sim ?_
  try simp only [List.cons_append, List.nil_append]
  refine Dr.sim ?_
  try simp only [List.cons_append, List.nil_append]
  refine Dr.sim ?_
  try simp only [List.cons_append, List.nil_append]
  refine Dr.sim ?_
  try simp only [List.cons_append, List.nil_append]
  refine Dr.sim ?_
  try simp only [List.cons_append, List.nil_append]
  refine Dr.sim ?_
  try simp only [List.cons_append, List.nil_append]
  refine Dr.idx (0) (nodeA false (.mk 8 [] [.mk 32768 [] []])) ?_ ?_
  · exact rfl
  try simp only [List.cons_append, List.nil_append]
  refine Dr.sim ?_
  try simp only [List.cons_append, List.nil_append]
  refine Dr.sim ?_
  try simp only [List.cons_append, List.nil_append]
  refine Dr.call (e5) ?_
  try simp only [List.cons_append, List.nil_append]
  refine Dr.sim ?_
  try simp only [List.cons_append, List.nil_append]
  refine Dr.sim ?_
  try simp only [List.cons_append, List.nil_append]
  refine Dr.sim ?_
  try simp only [List.cons_append, List.nil_append]
  refine Dr.call (e6) ?_
  try simp only [List.cons_append, List.nil_append]
  refine Dr.sim ?_
  try simp only [List.cons_append, List.nil_append]
  refine Dr.sim ?_
  try simp only [List.cons_append, List.nil_append]
  refine Dr.sim ?_
  try simp only [List.cons_append, List.nil_append]
  refine Dr.call (e7) ?_
  try simp only [List.cons_append, List.nil_append]
  refine Dr.sim ?_
  try simp only [List.cons_append, List.nil_append]
  refine Dr.sim ?_
  try simp only [List.cons_append, List.nil_append]
  refine Dr.sim ?_
  try simp only [List.cons_append, List.nil_append]
  refine Dr.sim ?_
  try simp only [List.cons_append, List.nil_append]
  refine Dr.call (e8) ?_
  try simp only [List.cons_append, List.nil_append]
  refine Dr.call (e9) ?_
  try simp only [List.cons_append, List.nil_append]
  refine Dr.sim ?_
  try simp only [List.cons_append, List.nil_append]
  refine Dr.sim ?_
  try simp only [List.cons_append, List.nil_append]
  refine Dr.sim ?_
  try simp only [List.cons_append, List.nil_append]
  refine Dr.build ?_
  try simp only [List.cons_append, List.nil_append]
  refine Dr.call (e10) ?_
  try simp only [List.cons_append, List.nil_append]
  refine Dr.sim ?_
  try simp only [List.cons_append, List.nil_append]
  refine Dr.sim ?_
  try simp only [List.cons_append, List.nil_append]
  refine Dr.sim ?_
  try simp only [List.cons_append, List.nil_append]
  refine Dr.sim ?_
  try simp only [List.cons_append, List.nil_append]
  refine Dr.call (e11) ?_
  try simp only [List.cons_append, List.nil_append]
  refine Dr.sim ?_
  try simp only [List.cons_append, List.nil_append]
  refine Dr.call (e5) ?_
  try simp only [List.cons_append, List.nil_append]
  refine Dr.sim ?_
  try simp only [List.cons_append, List.nil_append]
  refine Dr.sim ?_
  try simp only [List.cons_append, List.nil_append]
  refine Dr.sim ?_
  try simp only [List.cons_append, List.nil_append]
  refine Dr.build ?_
  try simp only [List.cons_append, List.nil_append]
  refine Dr.call (e12) ?_
  try simp only [List.cons_append, List.nil_append]
  refine Dr.sim ?_
  try simp only [List.cons_append, List.nil_append]
  refine Dr.sim ?_
  try simp only [List.cons_append, List.nil_append]
  refine Dr.sim ?_
  try simp only [List.cons_append, List.nil_append]
  refine Dr.finM (n := 51) [(0, 50)] [] hG YtmcedkcehcacpaaDoor.Facts.mixed fun KD hKD => ?_
  refine ARun2.endm (hKD _ ?_); clear hKD KD hG G
  refine AWp.ret ?_
  try simp only [thenQ, blockQ, noGo]
  refine bodyQ.m ?_
  clear hK4 K4 hK3 K3 hK2 K2 hK1 K1
  first | done | exact Hand.go
end Go.Proofs.YtmcedkcehcacpaaDoor.C
/- Plain laws on causes. -/
set_option linter.unusedVariables false
set_option linter.unusedSimpArgs false
namespace Go.Proofs.YtmcedkcehcacpaaDoor.C
open Go.Abs
end Go.Proofs.YtmcedkcehcacpaaDoor.C
/- The reference: Gap, Number, Counted, Inside, Fits, wanted, Table, Of. -/
set_option linter.unusedVariables false
set_option linter.unusedSimpArgs false
namespace Go.Proofs.YtmcedkcehcacpaaDoor.C
open Go.Abs
end Go.Proofs.YtmcedkcehcacpaaDoor.C
/- The reference: wanted, Table, Of, Size. -/
set_option linter.unusedVariables false
set_option linter.unusedSimpArgs false
namespace Go.Proofs.YtmcedkcehcacpaaDoor.C
open Go.Abs
end Go.Proofs.YtmcedkcehcacpaaDoor.C
/- The reference: Check, Count, Value, Types. -/
set_option linter.unusedVariables false
set_option linter.unusedSimpArgs false
namespace Go.Proofs.YtmcedkcehcacpaaDoor.C
open Go.Abs
end Go.Proofs.YtmcedkcehcacpaaDoor.C
/- The reference: Count, Few, Value, Types. -/
set_option linter.unusedVariables false
set_option linter.unusedSimpArgs false
namespace Go.Proofs.YtmcedkcehcacpaaDoor.C
open Go.Abs
/-- the loop of Count -/
def cntL (g : GNode → Nat) : List GNode → Nat → Nat
  | [], s => s
  | n :: l, s => if s < 1000 then cntL g l (s + 1 + n.data.length / 1000 + g n) else s
/-- how many nodes there are, up to a bound; f: how much deeper it may go -/
def countF : Nat → List GNode → Nat
  | 0, _ => 1000
  | f + 1, l => cntL (fun n => countF f n.kids) l 0
theorem cntL_le (g : GNode → Nat) (hg : ∀ n, g n ≤ 1000 + 2000 * szs n.kids) : ∀ (l : List GNode) (s : Nat), cntL g l s ≤ s + 2000 * szs l
  | [], s => by simp [cntL, szs]
  | n :: l, s => by
    have h1 := n.sz_eq
    have h2 := hg n
    have h3 := cntL_le g hg l (s + 1 + n.data.length / 1000 + g n)
    simp only [cntL, szs]
    split <;> omega
theorem countF_le : ∀ (f : Nat) (l : List GNode), countF f l ≤ 1000 + 2000 * szs l
  | 0, l => by simp [countF]
  | f + 1, l => by
    have := cntL_le (fun n => countF f n.kids) (fun n => countF_le f n.kids) l 0
    simp only [countF]; omega
theorem szs_take (l : List GNode) (i : Nat) (h : i < l.length) : szs (l.take (i + 1)) = szs (l.take i) + l[i].sz := by
  rw [List.take_succ_eq_append_getElem h]
  generalize l.take i = a
  induction a with
  | nil => simp [szs]
  | cons x a ih => simp only [List.cons_append, szs, ih]; omega
theorem count_step (f dp : Nat) (hf : f + dp = 21) (l : List GNode) (hs : szs l ≤ 2 ^ 30) (ih : ∀ a ∈ l, 0 < f → PC Tryd.prog 32 [.sl false 3 (nodesA false a.kids), nat (dp + 1)] (nat (countF (f - 1) a.kids))) :
    PC Tryd.prog 32 [.sl false 3 (nodesA false l), nat dp] (nat (countF f l)) := by
  have hlen := szs_len l
  refine PC.of_bodyW (by simp only [push_cast]) Tryd.func32 rfl (by rw [Tryd.ntmps32]; simp) ?_
  refine AWp.regionW ?_
  refine AWp.regionW ?_
  refine AWp.seqK fun K1 hK1 => ?_
  refine AWp.regionW ?_
  refine AWp.condLM (fun c0 => ?_) (fun c0 => ?_)
  · skip
    have h0 : f = 0 := by have := of_decide_eq_true c0; omega
    refine AWp.regionW ?_
    refine AWp.ret ?_
    try simp only [thenQ, blockQ, noGo]
    refine bodyQ.m ?_
    clear hK1 K1
    rw [h0, countF]
    first | done | exact Hand.go
  · skip
    obtain ⟨e, rfl⟩ : ∃ e, f = e + 1 := ⟨f - 1, by have : ¬ 20 < dp := of_decide_eq_false c0; omega⟩
    rw [Nat.add_sub_cancel] at ih
    have hq : countF (e + 1) l = cntL (fun n => countF e n.kids) l 0 := rfl
    refine AWp.skip ?_
    refine hK1 _ ?_
    refine AWp.seqK fun K2 hK2 => ?_
    refine AWp.regionW ?_
    refine AWp.block ?_
    refine AWp.loopK0 [0, 1] (fun (x : Nat × Nat) => [(6, nat x.1), (5, nat x.2)]) (fun x => x.1 ≤ l.length ∧ cntL (fun n => countF e n.kids) (l.drop x.1) x.2 = countF (e + 1) l ∧ x.2 ≤ 2000 * szs (l.take x.1)) (fun x => l.length - x.1) ((0, 0)) ?_ ⟨Nat.zero_le _, rfl, Nat.zero_le _⟩ ?_
    · skip
      refine Le.m 0 ?_ ?_
      · first | with_reducible rfl | (simp only [push_cast, reduceIte, Nat.reduceEqDiff, Nat.reduceLT, Nat.reduceAdd, Nat.reduceSub, Nat.reduceMul, Nat.reduceLeDiff, Nat.reducePow, Int.reduceLT, Int.reduceToNat, reduceCtorEq, Int.reduceNeg, Int.reduceEq, Nat.reduceBEq, Nat.reduceBNe, Int.reduceBEq, Int.reduceBNe, String.reduceEq]; first | done | rfl | (simp (disch := omega) only [w_nat, w_add, w_addl, w_addr, w_sub, w_subl, w_mul, w_mull, w_mulr, w_u32, w_u16, w_u8, w_u32a, N_zero]; first | done | rfl))
      · first | (simp only [push_cast, reduceIte, Nat.reduceEqDiff, Nat.reduceLT, Nat.reduceAdd, Nat.reduceSub, Nat.reduceMul, Nat.reduceLeDiff, Nat.reducePow, Int.reduceLT, Int.reduceToNat, reduceCtorEq, Int.reduceNeg, Int.reduceEq, Nat.reduceBEq, Nat.reduceBNe, Int.reduceBEq, Int.reduceBNe, String.reduceEq]; first | done | rfl | (simp (disch := omega) only [w_nat, w_add, w_addl, w_addr, w_sub, w_subl, w_mul, w_mull, w_mulr, w_u32, w_u16, w_u8, w_u32a, N_zero]; first | done | rfl))
    · intro x hx K3 hK3
      obtain ⟨i, s⟩ := x
      obtain ⟨hi, hc, hb⟩ := hx
      simp only at hi hc hb
      refine AWp.seqK fun K4 hK4 => ?_
      refine AWp.regionA fun K5 hK5 => ?_
      refine ARun.segm 5 fun KS hKS => ?_
      refine ARun2.endm (hKS _ ?_); clear hKS KS
      apply ARun.grpM 2 4 true 15 [0, 1, 5, 6, 13]
      · intro g4 KG hKG
        refine ARun2.gom ?_
        exact ARun2.endm (hKG _ Le.grpM)
      refine ARun2.gom ?_
      refine ARun2.endm (hK5 _ ?_)
      refine AWp.condLM (fun c1 => ?_) (fun c1 => ?_)
      · skip
        have h1 : i < l.length ∧ s < 1000 := by simpa using c1
        have hil := h1.1
        have hm := List.getElem_mem hil
        have hsm := szs_mem hm
        have hse := GNode.sz_eq l[i]
        have hcl := countF_le e l[i].kids
        have hst := szs_take l i hil
        have hd : l.drop i = l[i] :: l.drop (i + 1) := List.drop_eq_getElem_cons hil
        refine AWp.skip ?_
        refine hK4 _ ?_
        refine AWp.seqK fun K6 hK6 => ?_
        refine AWp.block ?_
        refine AWp.drE [[(5, none)], [(19, some 0)], [(0, none)], [(6, none)], [(21, some 2), (22, some 3)], [(23, some 4)], [(24, some 5)], [(25, some 6)], [(26, some 7)], [(20, some 1), (27, some 8)], [(0, none)], [(6, none)], [(29, some 10), (30, some 11)], [(31, some 12)], [(32, some 13)], [(1, none)], [(34, some 15)], [(33, some 14), (35, some 16)], [(28, some 9), (36, some 17)], [(37, some 18)]] fun G hG => ?_
        refine Dr.sim ?_
        try simp only [List.cons_append, List.nil_append]
        refine Dr.sim ?_
        try simp only [List.cons_append, List.nil_append]
        refine Dr.sim ?_
        try simp only [List.cons_append, List.nil_append]
        refine Dr.sim ?_
        try simp only [List.cons_append, List.nil_append]
        refine Dr.idx (i) (nodeA false l[i]) ?_ ?_
        · exact nodesA_at _ _ _ hil
        try simp only [List.cons_append, List.nil_append]
        refine Dr.sim ?_
        try simp only [List.cons_append, List.nil_append]
        refine Dr.sim ?_
        try simp only [List.cons_append, List.nil_append]
        refine Dr.sim ?_
        try simp only [List.cons_append, List.nil_append]
        refine Dr.sim ?_
        try simp only [List.cons_append, List.nil_append]
        refine Dr.sim ?_
        try simp only [List.cons_append, List.nil_append]
        refine Dr.sim ?_
        try simp only [List.cons_append, List.nil_append]
        refine Dr.sim ?_
        try simp only [List.cons_append, List.nil_append]
        refine Dr.idx (i) (nodeA false l[i]) ?_ ?_
        · exact nodesA_at _ _ _ hil
        try simp only [List.cons_append, List.nil_append]
        refine Dr.sim ?_
        try simp only [List.cons_append, List.nil_append]
        refine Dr.sim ?_
        try simp only [List.cons_append, List.nil_append]
        refine Dr.sim ?_
        try simp only [List.cons_append, List.nil_append]
        refine Dr.sim ?_
        try simp only [List.cons_append, List.nil_append]
        refine Dr.call (ih l[i] hm (by omega)) ?_
        try simp only [List.cons_append, List.nil_append]
        refine Dr.sim ?_
        try simp only [List.cons_append, List.nil_append]
        refine Dr.sim ?_
        try simp only [List.cons_append, List.nil_append]
        refine Dr.finN (n := 20) [(5, 19)] [0, 1, 6] hG YtmcedkcehcacpaaDoor.Facts.mixed fun KD hKD => ?_
        refine ARun2.endm (hKD _ ?_); clear hKD KD hG G
        refine hK6 _ ?_
        refine AWp.regionV ?_
        refine hK3 _ ((i + 1, s + 1 + l[i].data.length / 1000 + countF e l[i].kids)) (⟨hil, by rw [← hc, hd, cntL, if_pos h1.2], by simp only; omega⟩) (by simp only; omega) ?_
        refine Le.m 0 ?_ ?_
        · first | with_reducible rfl | (simp only [push_cast, reduceIte, Nat.reduceEqDiff, Nat.reduceLT, Nat.reduceAdd, Nat.reduceSub, Nat.reduceMul, Nat.reduceLeDiff, Nat.reducePow, Int.reduceLT, Int.reduceToNat, reduceCtorEq, Int.reduceNeg, Int.reduceEq, Nat.reduceBEq, Nat.reduceBNe, Int.reduceBEq, Int.reduceBNe, String.reduceEq]; first | done | rfl | (simp (disch := omega) only [w_nat, w_add, w_addl, w_addr, w_sub, w_subl, w_mul, w_mull, w_mulr, w_u32, w_u16, w_u8, w_u32a, N_zero]; first | done | rfl))
        · first | (simp only [push_cast, reduceIte, Nat.reduceEqDiff, Nat.reduceLT, Nat.reduceAdd, Nat.reduceSub, Nat.reduceMul, Nat.reduceLeDiff, Nat.reducePow, Int.reduceLT, Int.reduceToNat, reduceCtorEq, Int.reduceNeg, Int.reduceEq, Nat.reduceBEq, Nat.reduceBNe, Int.reduceBEq, Int.reduceBNe, String.reduceEq]; first | done | rfl | (simp (disch := omega) only [w_nat, w_add, w_addl, w_addr, w_sub, w_subl, w_mul, w_mull, w_mulr, w_u32, w_u16, w_u8, w_u32a, N_zero]; first | done | rfl))
      · skip
        have h1 : ¬ (i < l.length ∧ s < 1000) := by intro h; simp [h.1, h.2] at c1
        have hr : countF (e + 1) l = s := by
          rw [← hc]
          rcases Nat.lt_or_ge i l.length with h | h
          · rw [List.drop_eq_getElem_cons h, cntL, if_neg (fun h2 => h1 ⟨h, h2⟩)]
          · rw [List.drop_of_length_le h, cntL]
        refine AWp.exit ?_
        try simp only [thenQ, blockQ, noGo, reduceIte, Nat.reduceEqDiff]
        refine hK2 _ ?_
        refine AWp.regionW ?_
        refine AWp.ret ?_
        try simp only [thenQ, blockQ, noGo]
        refine bodyQ.m ?_
        clear hK5 K5 hK4 K4 hK3 K3 hK2 K2 hK1 K1
        rw [hr]
        first | done | exact Hand.go
theorem count_w : ∀ (f dp : Nat) (l : List GNode), f + dp = 21 → szs l ≤ 2 ^ 30 → PC Tryd.prog 32 [.sl false 3 (nodesA false l), nat dp] (nat (countF f l)) := by
  intro f
  induction f with
  | zero => exact fun dp l h hs => count_step 0 dp h l hs (fun a _ h => by omega)
  | succ f ih => exact fun dp l h hs => count_step (f + 1) dp h l hs (fun a ha _ => ih (dp + 1) a.kids (by omega) (by have := szs_mem ha; rw [GNode.sz_eq] at this; omega))
/-- are there few nodes? -/
def fewN (l : List GNode) : Bool := decide (countF 21 l ≤ 200)
theorem few_c (l : List GNode) (hs : szs l ≤ 2 ^ 30) : PC Tryd.prog 15 [.sl false 3 (nodesA false l)] (bool (fewN l)) := by
  refine PC.of_bodyW (by simp only [push_cast]) Tryd.func15 rfl (by rw [Tryd.ntmps15]; simp) ?_
  refine AWp.regionW ?_
  refine AWp.regionM fun K1 hK1 => ?_
  refine ARun2.callM (count_w 21 0 l rfl hs) ?_
  refine ARun2.endm (hK1 _ ?_)
  refine AWp.ret ?_
  try simp only [thenQ, blockQ, noGo]
  refine bodyQ.m ?_
  clear hK1 K1
  rw [fewN]
  first | done | exact Hand.go
end Go.Proofs.YtmcedkcehcacpaaDoor.C
/- wharflaw08: NodeSame, NodeLimits. -/
set_option linter.unusedVariables false
set_option linter.unusedSimpArgs false
namespace Go.Proofs.YtmcedkcehcacpaaDoor.C
open Go.Abs
theorem nodeSame_c (a b : GNode) (ha : a.sz ≤ 2 ^ 26) (hb : b.sz ≤ 2 ^ 26) : PC Tryd.prog 6 [nodeA false a, nodeA false b] (bool true) := by
  have h1 := few_c [a] (by simp only [szs]; omega)
  have h2 := few_c [b] (by simp only [szs]; omega)
  have h3 := same_c a b (by omega)
  have h4 := same_c a a (by omega)
  have h5 := same08_c [a] [b] (by simp only [szs]; omega)
  have e5 : sameL [a] [b] = sameN a b := by simp [sameL]
  rw [e5] at h5
  rw [(sameN_iff a a).2 rfl] at h4
  generalize sameN a b = r at h3 h5
  generalize fewN [a] = g1 at h1
  generalize fewN [b] = g2 at h2
  refine PC.of_bodyW (by simp only [push_cast]) Tryd.func6 rfl (by rw [Tryd.ntmps6]; simp) ?_
  refine AWp.regionW ?_
  refine AWp.seqK fun K1 hK1 => ?_
  refine AWp.regionA fun K2 hK2 => ?_
  refine ARun.segm 3 fun KS hKS => ?_
  refine ARun2.callM (awake08_c) ?_
  refine ARun2.endm (hKS _ ?_); clear hKS KS
  apply ARun.grpM 4 2 false 11 [2, 3, 7]
  · intro g2 KG hKG
    refine ARun2.gom ?_
    refine ARun2.callM (h1) ?_
    exact ARun2.endm (hKG _ Le.grpM)
  refine ARun.segm 2 fun KS hKS => ?_
  refine ARun2.endm (hKS _ ?_); clear hKS KS
  apply ARun.grpM 4 8 false 17 [2, 3, 13]
  · intro g8 KG hKG
    refine ARun2.gom ?_
    refine ARun2.callM (h2) ?_
    exact ARun2.endm (hKG _ Le.grpM)
  refine ARun2.gom ?_
  refine ARun2.endm (hK2 _ ?_)
  refine AWp.condLM (fun c0 => ?_) (fun c0 => ?_)
  · skip
    refine AWp.regionM fun K3 hK3 => ?_
    refine ARun2.callM (awake08_c) ?_
    refine ARun2.endm (hK3 _ ?_)
    refine AWp.ret ?_
    try simp only [thenQ, blockQ, noGo]
    refine bodyQ.m ?_
    clear hK3 K3 hK2 K2 hK1 K1
    first | done | exact Hand.go
  · skip
    refine AWp.skip ?_
    refine hK1 _ ?_
    refine AWp.drS [[(2, none)], [(3, none)], [(20, some 0), (21, some 1)], [(2, none)], [(23, some 3)], [(3, none)], [(25, some 5)], [(24, some 4), (26, some 6)], [(22, some 2), (27, some 7)], [(28, some 8)], [(2, none), (29, some 9)], [(2, none), (29, some 9)], [(30, some 10), (31, some 11), (29, some 9)], [(29, some 9), (32, some 12)], [(33, some 13)]] fun G hG => ?_
    refine Dr.sim ?_
    try simp only [List.cons_append, List.nil_append]
    refine Dr.sim ?_
    try simp only [List.cons_append, List.nil_append]
    refine Dr.call (h3) ?_
    try simp only [List.cons_append, List.nil_append]
    refine Dr.sim ?_
    try simp only [List.cons_append, List.nil_append]
    refine Dr.build ?_
    try simp only [List.cons_append, List.nil_append]
    refine Dr.sim ?_
    try simp only [List.cons_append, List.nil_append]
    refine Dr.build ?_
    try simp only [List.cons_append, List.nil_append]
    refine Dr.call (h5) ?_
    try simp only [List.cons_append, List.nil_append]
    refine Dr.boolEqM ?_
    refine Dr.sim ?_
    try simp only [List.cons_append, List.nil_append]
    refine Dr.simg ?_
    try simp only [List.cons_append, List.nil_append]
    refine Dr.simg ?_
    try simp only [List.cons_append, List.nil_append]
    refine Dr.callg (fun g9 => h4) ?_
    try simp only [List.cons_append, List.nil_append]
    refine Dr.sim ?_
    try simp only [List.cons_append, List.nil_append]
    refine Dr.sim ?_
    try simp only [List.cons_append, List.nil_append]
    refine Dr.finM (n := 15) [(4, 14)] [] hG YtmcedkcehcacpaaDoor.Facts.mixed fun KD hKD => ?_
    refine ARun2.endm (hKD _ ?_); clear hKD KD hG G
    refine AWp.ret ?_
    try simp only [thenQ, blockQ, noGo]
    refine bodyQ.m ?_
    clear hK2 K2 hK1 K1
    first | done | exact Hand.go
/-- the node of the law -/
def limN (k : Nat) (ins : Bool) : GNode := bif ins then .mk 8 [] [.mk 7 (List.replicate k 0) []] else .mk 7 (List.replicate k 0) []
def limS (k : Nat) (ins : Bool) : Nat := bif ins then k + 8 else k + 4
theorem lim_size (k : Nat) (ins : Bool) : nSize [limN k ins] = limS k ins := by
  cases ins
  · simp [limN, limS, nSize, nLens, vlen, tlvSize, sumUp, upN, gapN]; omega
  · simp [limN, limS, nSize, nLens, vlen, tlvSize, sumUp, upN, gapN]; omega
theorem lim_bad7 (k : Nat) : badN 1 7 k [] = decide (65531 < k) := by
  have h1 : shapeHas 1 7 = true := by decide
  have h2 : (shapeOf 1 7).least = 0 := by decide
  have h3 : (shapeOf 1 7).most = 65531 := by decide
  have h4 : (shapeOf 1 7).unit = 1 := by decide
  have h5 : kidsOk (shapeOf 1 7) [] = true := by decide
  simp only [badN, h1, fitsN, h2, h3, h4, h5]
  by_cases h : 65531 < k
  · simp [h]
  · simp [h]; omega
theorem lim_bad8 (n : GNode) : badN 1 8 0 [n] = false := by
  have h1 : shapeHas 1 8 = true := by decide
  have h2 : fitsN (shapeOf 1 8) 0 = true := by decide
  have h4 : (shapeOf 1 8).kids = 1 := by decide
  simp [badN, h1, h2, kidsOk, h4, insideN]
theorem lim_check7 (k dp : Nat) (hd : dp ≤ 4) : checkN 1 dp (.mk 7 (List.replicate k 0) []) = if 65531 < k then 7 else 0 := by
  have hs := lim_size k false
  simp only [limN, limS, cond_false] at hs
  rw [checkN_eq]
  simp only [GNode.ty, GNode.data, GNode.kids, List.length_replicate, lim_bad7, hs, checkL]
  by_cases h : 65531 < k
  · simp [h]; omega
  · simp [h, countedN]; rw [if_neg (by omega), if_neg (by omega)]
theorem lim_check (k : Nat) (ins : Bool) : checkN 1 1 (limN k ins) = if 65531 < k then 7 else if 65535 < limS k ins then 4 else 0 := by
  cases ins
  · rw [show limS k false = k + 4 from rfl, show limN k false = .mk 7 (List.replicate k 0) [] from rfl, lim_check7 k 1 (by omega)]
    by_cases h : 65531 < k
    · rw [if_pos h, if_pos h]
    · rw [if_neg h, if_neg h, if_neg (by omega)]
  · have hs := lim_size k true
    rw [show limS k true = k + 8 from rfl, show limN k true = .mk 8 [] [.mk 7 (List.replicate k 0) []] from rfl] at hs ⊢
    have h4 : (insideN (shapeOf 1 8).kids).1 = 1 := by decide
    rw [checkN_eq]
    simp only [GNode.ty, GNode.data, GNode.kids, List.length_nil, lim_bad8, hs, checkL, h4, lim_check7 k 2 (by omega)]
    by_cases h : 65531 < k
    · simp [h, countedN]
    · simp [h, countedN]
def wantN (k s : Nat) : Nat := if 65531 < k then 7 else if 65535 < s then 4 else 0
theorem lim_cs (k : Nat) (ins : Bool) (h : k < 65540) : PC Tryd.prog 13 [nat 1, nodeA false (limN k ins)] (errA (wantN k (limS k ins))) ∧ PC Tryd.prog 14 [.sl false 3 (nodesA false [limN k ins])] (nat (limS k ins)) := by
  have hs : nSize [limN k ins] ≤ 2 ^ 30 := by rw [lim_size]; unfold limS; cases ins <;> simp <;> omega
  have h1 := check_c 1 (limN k ins) (.inl rfl) hs
  rw [lim_check k ins] at h1
  have h2 := size_c [limN k ins] hs
  rw [lim_size] at h2
  exact ⟨h1, h2⟩
set_option maxHeartbeats 2000000 in
theorem nodeLimits_c (n : Nat) (ins : Bool) (hn : n < 256) : PC Tryd.prog 4 [.val (.int .u8 (N n)), bool ins] (bool true) := by
  obtain ⟨d, hd⟩ : ∃ d : List UInt8, d = List.replicate (65520 + n % 20) 0 := ⟨_, rfl⟩
  obtain ⟨a1, a2⟩ := lim_cs (65520 + n % 20) true (by omega)
  obtain ⟨b1, b2⟩ := lim_cs (65520 + n % 20) false (by omega)
  simp only [limN, cond_true, cond_false, ← hd] at a1 a2 b1 b2
  simp only [limS, cond_true, cond_false] at a1 a2 b1 b2
  refine PC.of_bodyW (by simp only [push_cast]) Tryd.func4 rfl (by rw [Tryd.ntmps4]; simp) ?_
  refine AWp.regionW ?_
  refine AWp.seqK fun K1 hK1 => ?_
  refine AWp.regionM fun K2 hK2 => ?_
  refine ARun2.callM (awake08_c) ?_
  refine ARun2.endm (hK2 _ ?_)
  refine AWp.condF ?_
  refine AWp.skip ?_
  refine hK1 _ ?_
  refine AWp.regionW ?_
  refine AWp.regionM fun K3 hK3 => ?_
  refine ARun2.makeM ((65520 + n % 20)) ?_ ?_
  · omega
  refine ARun2.endm (hK3 _ ?_)
  rw [← hd]
  refine AWp.regionW ?_
  refine AWp.seqK fun K4 hK4 => ?_
  refine AWp.regionW ?_
  refine AWp.condLM (fun c1 => ?_) (fun c1 => ?_)
  · skip
    obtain ⟨S, hS⟩ : ∃ S, S = 65520 + n % 20 + 8 := ⟨_, rfl⟩
    obtain ⟨e1, e2⟩ := And.intro a1 a2
    rw [← hS] at e1
    refine AWp.regionW ?_
    refine AWp.regionV ?_
    refine hK4 _ ?_
    refine AWp.regionW ?_
    refine AWp.seqK fun K5 hK5 => ?_
    refine AWp.regionW ?_
    refine AWp.condLM (fun c2 => ?_) (fun c2 => ?_)
    · skip
      have q2 : 65535 < S := by simp at c2; omega
      refine AWp.regionV ?_
      refine hK5 _ ?_
      refine AWp.seqK fun K6 hK6 => ?_
      refine AWp.regionW ?_
      refine AWp.condLM (fun c3 => ?_) (fun c3 => ?_)
      · skip
        have hw : wantN (65520 + n % 20) S = 7 := if_pos (by simp at c3; omega)
        rw [hw] at e1
        refine AWp.regionV ?_
        refine hK6 _ ?_
        refine AWp.regionA fun K7 hK7 => ?_
        refine ARun.segm 5 fun KS hKS => ?_
        refine ARun2.callM (e1) ?_
        refine ARun2.callM (coded_c 7 7) ?_
        refine ARun2.endm (hKS _ ?_); clear hKS KS
        apply ARun.grpM 5 4 true 39 [34]
        · intro g4 KG hKG
          refine ARun2.gom ?_
          refine ARun2.callM (e2) ?_
          exact ARun2.endm (hKG _ Le.grpM)
        refine ARun2.gom ?_
        refine ARun2.endm (hK7 _ ?_)
        refine AWp.ret ?_
        try simp only [thenQ, blockQ, noGo]
        refine bodyQ.m ?_
        clear hK7 K7 hK6 K6 hK5 K5 hK4 K4 hK3 K3 hK2 K2 hK1 K1
        first | done | exact Hand.go
      · skip
        have hw : wantN (65520 + n % 20) S = 4 := by unfold wantN; rw [if_neg (by simp at c3; omega), if_pos q2]
        rw [hw] at e1
        refine AWp.skip ?_
        refine hK6 _ ?_
        refine AWp.regionA fun K8 hK8 => ?_
        refine ARun.segm 5 fun KS hKS => ?_
        refine ARun2.callM (e1) ?_
        refine ARun2.callM (coded_c 4 4) ?_
        refine ARun2.endm (hKS _ ?_); clear hKS KS
        apply ARun.grpM 5 4 true 39 [34]
        · intro g4 KG hKG
          refine ARun2.gom ?_
          refine ARun2.callM (e2) ?_
          exact ARun2.endm (hKG _ Le.grpM)
        refine ARun2.gom ?_
        refine ARun2.endm (hK8 _ ?_)
        refine AWp.ret ?_
        try simp only [thenQ, blockQ, noGo]
        refine bodyQ.m ?_
        clear hK8 K8 hK6 K6 hK5 K5 hK4 K4 hK3 K3 hK2 K2 hK1 K1
        first | done | exact Hand.go
    · skip
      have q2 : ¬ 65535 < S := by simp at c2; omega
      refine AWp.skip ?_
      refine hK5 _ ?_
      refine AWp.seqK fun K9 hK9 => ?_
      refine AWp.regionW ?_
      refine AWp.condLM (fun c3 => ?_) (fun c3 => ?_)
      · skip
        have hw : wantN (65520 + n % 20) S = 7 := if_pos (by simp at c3; omega)
        rw [hw] at e1
        refine AWp.regionV ?_
        refine hK9 _ ?_
        refine AWp.regionA fun K10 hK10 => ?_
        refine ARun.segm 5 fun KS hKS => ?_
        refine ARun2.callM (e1) ?_
        refine ARun2.callM (coded_c 7 7) ?_
        refine ARun2.endm (hKS _ ?_); clear hKS KS
        apply ARun.grpM 5 4 true 39 [34]
        · intro g4 KG hKG
          refine ARun2.gom ?_
          refine ARun2.callM (e2) ?_
          exact ARun2.endm (hKG _ Le.grpM)
        refine ARun2.gom ?_
        refine ARun2.endm (hK10 _ ?_)
        refine AWp.ret ?_
        try simp only [thenQ, blockQ, noGo]
        refine bodyQ.m ?_
        clear hK10 K10 hK9 K9 hK5 K5 hK4 K4 hK3 K3 hK2 K2 hK1 K1
        first | done | exact Hand.go
      · skip
        have hw : wantN (65520 + n % 20) S = 0 := by unfold wantN; rw [if_neg (by simp at c3; omega), if_neg q2]
        rw [hw] at e1
        refine AWp.skip ?_
        refine hK9 _ ?_
        refine AWp.regionA fun K11 hK11 => ?_
        refine ARun.segm 5 fun KS hKS => ?_
        refine ARun2.callM (e1) ?_
        refine ARun2.callM (coded_c 0 0) ?_
        refine ARun2.endm (hKS _ ?_); clear hKS KS
        apply ARun.grpM 5 4 true 39 [34]
        · intro g4 KG hKG
          refine ARun2.gom ?_
          refine ARun2.callM (e2) ?_
          exact ARun2.endm (hKG _ Le.grpM)
        refine ARun2.gom ?_
        refine ARun2.endm (hK11 _ ?_)
        refine AWp.ret ?_
        try simp only [thenQ, blockQ, noGo]
        refine bodyQ.m ?_
        clear hK11 K11 hK9 K9 hK5 K5 hK4 K4 hK3 K3 hK2 K2 hK1 K1
        first | done | exact Hand.go
  · skip
    obtain ⟨S, hS⟩ : ∃ S, S = 65520 + n % 20 + 4 := ⟨_, rfl⟩
    obtain ⟨e1, e2⟩ := And.intro b1 b2
    rw [← hS] at e1
    refine AWp.skip ?_
    refine hK4 _ ?_
    refine AWp.regionW ?_
    refine AWp.seqK fun K12 hK12 => ?_
    refine AWp.regionW ?_
    refine AWp.condLM (fun c2 => ?_) (fun c2 => ?_)
    · skip
      have q2 : 65535 < S := by simp at c2; omega
      refine AWp.regionV ?_
      refine hK12 _ ?_
      refine AWp.seqK fun K13 hK13 => ?_
      refine AWp.regionW ?_
      refine AWp.condLM (fun c3 => ?_) (fun c3 => ?_)
      · skip
        have hw : wantN (65520 + n % 20) S = 7 := if_pos (by simp at c3; omega)
        rw [hw] at e1
        refine AWp.regionV ?_
        refine hK13 _ ?_
        refine AWp.regionA fun K14 hK14 => ?_
        refine ARun.segm 5 fun KS hKS => ?_
        refine ARun2.callM (e1) ?_
        refine ARun2.callM (coded_c 7 7) ?_
        refine ARun2.endm (hKS _ ?_); clear hKS KS
        apply ARun.grpM 5 4 true 39 [34]
        · intro g4 KG hKG
          refine ARun2.gom ?_
          refine ARun2.callM (e2) ?_
          exact ARun2.endm (hKG _ Le.grpM)
        refine ARun2.gom ?_
        refine ARun2.endm (hK14 _ ?_)
        refine AWp.ret ?_
        try simp only [thenQ, blockQ, noGo]
        refine bodyQ.m ?_
        clear hK14 K14 hK13 K13 hK12 K12 hK4 K4 hK3 K3 hK2 K2 hK1 K1
        first | done | exact Hand.go
      · skip
        have hw : wantN (65520 + n % 20) S = 4 := by unfold wantN; rw [if_neg (by simp at c3; omega), if_pos q2]
        rw [hw] at e1
        refine AWp.skip ?_
        refine hK13 _ ?_
        refine AWp.regionA fun K15 hK15 => ?_
        refine ARun.segm 5 fun KS hKS => ?_
        refine ARun2.callM (e1) ?_
        refine ARun2.callM (coded_c 4 4) ?_
        refine ARun2.endm (hKS _ ?_); clear hKS KS
        apply ARun.grpM 5 4 true 39 [34]
        · intro g4 KG hKG
          refine ARun2.gom ?_
          refine ARun2.callM (e2) ?_
          exact ARun2.endm (hKG _ Le.grpM)
        refine ARun2.gom ?_
        refine ARun2.endm (hK15 _ ?_)
        refine AWp.ret ?_
        try simp only [thenQ, blockQ, noGo]
        refine bodyQ.m ?_
        clear hK15 K15 hK13 K13 hK12 K12 hK4 K4 hK3 K3 hK2 K2 hK1 K1
        first | done | exact Hand.go
    · skip
      have q2 : ¬ 65535 < S := by simp at c2; omega
      refine AWp.skip ?_
      refine hK12 _ ?_
      refine AWp.seqK fun K16 hK16 => ?_
      refine AWp.regionW ?_
      refine AWp.condLM (fun c3 => ?_) (fun c3 => ?_)
      · skip
        have hw : wantN (65520 + n % 20) S = 7 := if_pos (by simp at c3; omega)
        rw [hw] at e1
        refine AWp.regionV ?_
        refine hK16 _ ?_
        refine AWp.regionA fun K17 hK17 => ?_
        refine ARun.segm 5 fun KS hKS => ?_
        refine ARun2.callM (e1) ?_
        refine ARun2.callM (coded_c 7 7) ?_
        refine ARun2.endm (hKS _ ?_); clear hKS KS
        apply ARun.grpM 5 4 true 39 [34]
        · intro g4 KG hKG
          refine ARun2.gom ?_
          refine ARun2.callM (e2) ?_
          exact ARun2.endm (hKG _ Le.grpM)
        refine ARun2.gom ?_
        refine ARun2.endm (hK17 _ ?_)
        refine AWp.ret ?_
        try simp only [thenQ, blockQ, noGo]
        refine bodyQ.m ?_
        clear hK17 K17 hK16 K16 hK12 K12 hK4 K4 hK3 K3 hK2 K2 hK1 K1
        first | done | exact Hand.go
      · skip
        have hw : wantN (65520 + n % 20) S = 0 := by unfold wantN; rw [if_neg (by simp at c3; omega), if_neg q2]
        rw [hw] at e1
        refine AWp.skip ?_
        refine hK16 _ ?_
        refine AWp.regionA fun K18 hK18 => ?_
        refine ARun.segm 5 fun KS hKS => ?_
        refine ARun2.callM (e1) ?_
        refine ARun2.callM (coded_c 0 0) ?_
        refine ARun2.endm (hKS _ ?_); clear hKS KS
        apply ARun.grpM 5 4 true 39 [34]
        · intro g4 KG hKG
          refine ARun2.gom ?_
          refine ARun2.callM (e2) ?_
          exact ARun2.endm (hKG _ Le.grpM)
        refine ARun2.gom ?_
        refine ARun2.endm (hK18 _ ?_)
        refine AWp.ret ?_
        try simp only [thenQ, blockQ, noGo]
        refine bodyQ.m ?_
        clear hK18 K18 hK16 K16 hK12 K12 hK4 K4 hK3 K3 hK2 K2 hK1 K1
        first | done | exact Hand.go
end Go.Proofs.YtmcedkcehcacpaaDoor.C
/- From the statement's reading to abstract values, and back. No condition. -/
namespace Go.Abs
open Go.ChangeShapes Go.WideShapes Go.RowKit
set_option linter.unusedVariables false
set_option linter.unusedSectionVars false
set_option linter.unusedSimpArgs false
/-- all that is there when the call begins -/
abbrev Old (W : World) : Nat → Prop := fun b => b < W.heap.size
theorem RW.start (W : World) : RW (E0 W (Old W) []) [] [] (Old W) W :=
  { os := rfl, tape := rfl, output := rfl, size := Nat.le_refl _, block := fun _ _ _ => rfl, pre := fun k v h => by simp at h, bsub := fun _ h => h, bnew := fun _ h => .inl h,
    blt := fun _ h => h, len := rfl, obs := fun k o h => by simp at h, dis := fun i j o o' u v b _ h => by simp at h, prv := fun k o v b h => by simp at h }
theorem PC.answers {P : Program} {f : FuncId} {ys : List AV} {v : Value} (h : PC P f ys (.val v)) {W : World} (hg : Globs W (Old W) []) {args : Array Value} (ha : RelL W (Old W) W.heap.size [] ys args.toList) :
    Calls P f args W fun e W' => e = .returned v ∧ Below W.heap.size W W' := by
  have := h.2 W [] (Old W) args.toList hg (RW.start W) ha (fun e W' => e = .returned v ∧ Below W.heap.size W W') (by
    rintro r' v' τ' ρ' B' w' ⟨rfl, rfl⟩ hw hr
    cases hr
    exact ⟨rfl, ⟨hw.os, hw.tape, hw.output, hw.size, fun k hk => hw.block k hk ⟨fun ⟨u, hu, _⟩ => by simp at hu, fun h => by cases h⟩⟩⟩)
  simpa using this
section
variable {H : Type} {enc : TypeId × Value → H} {P : Program} {W W' : World}
theorem trodAll_stays (hl : laidOutB P = true) (hb : Below W.heap.size W W') {sp' : Nat → Bool} : ∀ {ts : List TypeId} {vs : List Value} {ds : List (DataW H)} {ps : List MemPlace}, (∀ t ∈ ts, P.readableRec t = true ∧ t < P.types.size) →
    DataW.TrodAll enc P W 0 (fun _ => true) true ts vs ds ps → (∀ p ∈ ps, p.block < W.heap.size) → (∀ p ∈ ps, sp' p.block = true) → DataW.TrodAll enc P W' 0 sp' true ts vs ds ps
  | [], _, _, _, _, h, _, _ => by
    obtain ⟨rfl, rfl, rfl⟩ := trodAll_nil h
    rfl
  | t :: ts, _, _, _, ht, h, hlt, hs => by
    obtain ⟨v, vs1, d, ds1, a, b, rfl, rfl, rfl, h1, h2⟩ := trodAll_cons h
    have := ht t (by simp)
    exact ⟨a, b, WideElems.Trod_stays hl this.1 this.2 h1 (fun x hx => hb.same (hlt x (by simp [hx]))) (fun x hx => hs x (by simp [hx])),
      trodAll_stays hl hb (fun u hu => ht u (by simp [hu])) h2 (fun x hx => hlt x (by simp [hx])) (fun x hx => hs x (by simp [hx])), rfl⟩
/-- a law holds: it answers true, and all that was there is as it was -/
theorem post_true {f : Func} {s : ChangeSpec} {fresh : Bool} {args : Array Value} {ds gs : List (DataW H)} {before : List MemPlace} {tb : TypeId}
    (hW : DataW.Whole enc P f.params.toList s.vars false W args.toList ds gs before) (hv : s.vars = []) (hs : s.fn H (ds ++ gs) = { results := [.lit (.bool true)], args := ds }) (hr : f.resultTypes = #[tb]) (hb : P.underlying tb = some .bool)
    (hl : laidOutB P = true) (ht : (f.params.toList.all fun t => P.readableRec t && decide (t < P.types.size)) = true) (hB : Below W.heap.size W W') :
    s.post enc P f false fresh false false W args (.bool true) W' := by
  have hW0 := hW
  obtain ⟨p, q, hA, hV, rfl, hfz, _⟩ := hW
  rw [hv] at hV
  have hg : gs = [] ∧ q = [] := by
    cases gs with
    | nil => exact ⟨rfl, hV⟩
    | cons g gs => exact hV.elim
  obtain ⟨rfl, rfl⟩ := hg
  have hlt : ∀ x ∈ p ++ [], x.block < W.heap.size := fun x hx => by simpa using hW0.lt x hx
  refine ⟨ds, [], p ++ [], [], p, [], hW0, ?_, ?_, ?_, ?_, fun h => by cases h⟩
  · rw [hs, hr]
    exact trodAll_cons_mk (p := []) (p' := []) (shut_bool hb _) trodAll_mk0
  · rw [hs]
    refine trodAll_stays hl hB (fun t h => ?_) hA (fun x hx => hlt x (by simp [hx])) (fun x hx => by simpa using hlt x (by simp [hx]))
    have := List.all_eq_true.1 ht t h
    simpa using this
  · rw [hs, hv]; exact rfl
  · refine ⟨hB.os, hB.output, fun i hi => ?_⟩
    rw [hB.block i hi]
    cases W.heap[i]? with
    | none => rfl
    | some o => cases o <;> simp
theorem addr_of_cell {w : World} {a : Addr} {v : Value} (h : w.cell? a = some v) : a.spot = none := by
  unfold World.cell? at h
  split at h
  · split at h
    · cases h
    · rename_i hs; cases hh : a.spot <;> simp_all
  · cases h
/-- a slice of numbers, read -/
theorem rel_ints0 {t e : TypeId} {k : IntKind} {v : Value} {d : DataW H} {ps : List MemPlace} {fuel : Nat} (ht : P.underlying t = some (.slice e)) (he : P.underlying e = some (.int k)) (hc : P.cellsOf e = 1)
    (hf : DataW.trod enc P W 0 (fun _ => true) true fuel t [v] = some (d, ps)) :
    ∃ (zs : List Int), Rel W (Old W) W.heap.size [] (.sl false 1 (zs.map fun n => .val (.int k n))) v ∧ (∀ n ∈ zs, (Lit.int k n).wf = true) ∧ ((d = .nil ∧ zs = []) ∨ ∃ rest, d = .slice (lits k zs) rest) := by
  rcases open_ints ht he hc hf with ⟨h1, h2⟩ | ⟨a, len, cap, zs, h1, h2, h3, h4, h5, h6, h7, h8⟩
  · simp only [List.cons.injEq, and_true] at h1
    subst h1
    exact ⟨[], .slE _ _ _ _, by simp, .inl ⟨congrArg Prod.fst h2, rfl⟩⟩
  · simp only [List.cons.injEq, and_true] at h1
    subst h1
    simp only [if_true] at h5
    refine ⟨zs.take len, ?_, fun n hn => h8 n (List.mem_of_mem_take hn), .inr ⟨_, congrArg Prod.fst h6⟩⟩
    have hlen : (zs.take len).length = len := by rw [List.length_take]; omega
    cases hq : zs.take len with
    | nil =>
      rw [hq] at hlen
      simp at hlen
      subst hlen
      exact .slE _ _ _ _
    | cons z l =>
      have hpos : 0 < zs.length := by rw [hq] at hlen; simp at hlen; omega
      have h0 := h7 0 hpos
      have hsp : a.spot = none := addr_of_cell (show W.cell? a = _ from h0)
      obtain ⟨b, o, sp⟩ := a
      simp only at hsp
      subst hsp
      have hblk : b < W.heap.size := by
        have := World.block_lt_of_cell? W _ h0
        simpa [Addr.add] using this
      rw [hq] at hlen
      simp only [List.length_cons] at hlen
      subst hlen
      have hrow := RelRow.mk (w := W) (B := Old W) (bs := W.heap.size) (ρ := []) (nw := false) (b := b) (sz := 1) (o := o) (xs := (z :: l).map fun n => AV.val (.int k n)) (vs := (z :: l).map fun n => Value.int k n) hblk (fun h => by cases h) ?_ ?_ ?_
      · have := Rel.sl (cap := cap) (by simpa using hrow) (by simpa using h3)
        simpa using this
      · have : (((z :: l).map fun n => AV.val (.int k n)).flatMap AV.cells) = ((z :: l).map fun n => Value.int k n).map AV.val := by
          generalize z :: l = m
          induction m with
          | nil => rfl
          | cons x m ih => simp only [List.map_cons, List.flatMap_cons, ih]; rfl
        rw [this]
        have key : ∀ l : List Value, RelL W (Old W) W.heap.size [] (l.map AV.val) l := fun l => by induction l with
          | nil => exact .nil
          | cons x l ih => exact .cons (.val x) ih
        exact key _
      · intro x hx
        simp only [List.mem_map] at hx
        obtain ⟨n, _, rfl⟩ := hx
        exact ⟨rfl, fun c hc => by simp [AV.cells] at hc; subst hc; rfl⟩
      · intro j v hj
        rw [← hq, List.getElem?_map, List.getElem?_take] at hj
        split at hj
        · rename_i hjl
          simp only [Option.map_eq_some_iff] at hj
          obtain ⟨n, hn, rfl⟩ := hj
          have hlt : j < zs.length := by have := List.getElem?_eq_some_iff.1 hn; exact this.1
          have := h7 j hlt
          rw [addr_add] at this
          rw [this, List.getD_eq_getElem?_getD, hn]; rfl
        · simp at hj
end
end Go.Abs
/- Nodes, read. -/
set_option linter.unusedVariables false
set_option linter.unusedSimpArgs false
namespace Go.Proofs.YtmcedkcehcacpaaDoor.C
open Go.Abs Go.ChangeShapes Go.WideShapes Go.ChangeAt Go.RowKit
theorem own : ownKnob Tryd.prog.godebug = none := by kernel_rfl
theorem laidOut : laidOutB Tryd.prog = true := by kernel_rfl
theorem nat_of {n : Int} {m : Nat} (h : 0 ≤ n ∧ n ≤ m) : ∃ x : Nat, n = N x ∧ x < m + 1 := ⟨n.toNat, by unfold N; omega, by omega⟩
theorem u8_of {n : Int} (h : (Lit.int .u8 n).wf = true) : ∃ m : Nat, n = N m ∧ m < 2 ^ 8 := nat_of (m := 255) (by simpa [Lit.wf, IntKind.min, IntKind.max, IntKind.signed, IntKind.bits] using h)
theorem int_bounds {k : IntKind} {n : Int} (h : (Lit.int k n).wf = true) : k.min ≤ n ∧ n ≤ k.max := by simpa [Lit.wf] using h
theorem bys_of {zs : List Int} (h : ∀ n ∈ zs, (Lit.int .u8 n).wf = true) : (zs.map fun n => AV.val (.int .u8 n)) = bys (zs.map fun n => UInt8.ofNat n.toNat) := by
  unfold bys
  rw [List.map_map]
  refine List.map_congr_left fun n hn => ?_
  have h2 : 0 ≤ n ∧ n ≤ 255 := by simpa [Lit.wf, IntKind.min, IntKind.max, IntKind.signed, IntKind.bits] using h n hn
  have h3 : N (UInt8.ofNat n.toNat).toNat = n := by
    rw [UInt8.toNat_ofNat']; unfold N; omega
  show AV.val (.int .u8 n) = .val (.int .u8 (N (UInt8.ofNat n.toNat).toNat))
  rw [h3]
theorem bulk_one {H : Type} (d : DataW H) : 1 ≤ Rows.uptoBulk d := by
  cases d with
  | lit l => cases l <;> simp [Rows.uptoBulk]
  | _ => simp [Rows.uptoBulk]
theorem bulk_len {H : Type} : ∀ l : List (DataW H), l.length ≤ Rows.uptoBulkAll l
  | [] => by simp [Rows.uptoBulkAll]
  | x :: r => by
    have h1 := bulk_one x
    have h2 := bulk_len r
    simp only [Rows.uptoBulkAll, List.length_cons]; omega
theorem bulk_lits' {H : Type} (k : IntKind) (zs : List Int) (rest : List (DataW H)) : zs.length + 1 ≤ Rows.uptoBulk (.slice (lits k zs) rest : DataW H) := by
  have := bulk_len (lits k zs : List (DataW H))
  simp only [lits, List.length_map] at this
  simp only [Rows.uptoBulk, lits]
  omega
section
variable {H : Type} {enc : TypeId × Value → H} {W : World}
/-- bytes -/
theorem rel_bytes0 {v : Value} {d : DataW H} {ps : List MemPlace} {fuel : Nat} (hf : DataW.trod enc Tryd.prog W 0 (fun _ => true) true fuel 24 [v] = some (d, ps)) :
    ∃ l : List UInt8, Rel W (Old W) W.heap.size [] (.sl false 1 (bys l)) v ∧ l.length ≤ Rows.uptoBulk d := by
  have hc : Tryd.prog.cellsOf 5 = 1 := by kernel_rfl
  obtain ⟨zs, k0, k1, k2⟩ := rel_ints0 Tryd.underlying24 Tryd.underlying5 hc hf
  rw [bys_of k1] at k0
  refine ⟨_, k0, ?_⟩
  rw [List.length_map]
  rcases k2 with ⟨_, rfl⟩ | ⟨rest, rfl⟩
  · simp
  · have := bulk_lits' .u8 zs rest; omega
theorem nodeA_one (n : GNode) : ∀ c ∈ (nodeA false n).cells, c.one = true := by
  rw [nodeA_eq]; simp [AV.cells, AV.one, Value.oneCell']
theorem node_fields : ∃ f0 f1 f2 : Field, Tryd.prog.underlying 27 = some (.struct #[f0, f1, f2]) ∧ f0.type = 22 ∧ f0.offset = 0 ∧ f1.type = 24 ∧ f1.offset = 1 ∧ f2.type = 25 ∧ f2.offset = 2 :=
  ⟨_, _, _, Tryd.underlying27, rfl, rfl, rfl, rfl, rfl, rfl⟩
set_option maxRecDepth 100000 in
theorem rel_node0 : ∀ (fuel : Nat),
    (∀ (cs : List Value) (d : DataW H) (ps : List MemPlace), DataW.trod enc Tryd.prog W 0 (fun _ => true) true fuel 27 cs = some (d, ps) → ∃ n : GNode, RelL W (Old W) W.heap.size [] (nodeA false n).cells cs ∧ n.sz ≤ Rows.uptoBulk d ∧ n.tyOk = true) ∧
    (∀ (v : Value) (d : DataW H) (ps : List MemPlace), DataW.trod enc Tryd.prog W 0 (fun _ => true) true fuel 25 [v] = some (d, ps) → ∃ l : List GNode, Rel W (Old W) W.heap.size [] (.sl false 3 (nodesA false l)) v ∧ szs l ≤ Rows.uptoBulk d ∧ tysOk l = true) := by
  have c16 : Tryd.prog.cellsOf 22 = 1 := by kernel_rfl
  have c8 : Tryd.prog.cellsOf 24 = 1 := by kernel_rfl
  have cn : Tryd.prog.cellsOf 25 = 1 := by kernel_rfl
  have c3 : Tryd.prog.cellsOf 27 = 3 := by kernel_rfl
  intro fuel
  induction fuel with
  | zero => exact ⟨fun cs d ps h => by simp [DataW.trod] at h, fun v d ps h => by simp [DataW.trod] at h⟩
  | succ fuel ih =>
    refine ⟨?_, ?_⟩
    · intro cs d ps h
      obtain ⟨f0, f1, f2, hs, a0, b0, a1, b1, a2, b2⟩ := node_fields
      obtain ⟨xs, m, hm, hx, hl, hlen, hall⟩ := DataW.trod_struct hs h
      have hm' : m = fuel := by omega
      subst hm'
      have e0 := hall 0 f0 rfl
      have e1 := hall 1 f1 rfl
      have e2 := hall 2 f2 rfl
      rw [a0, b0, c16] at e0
      rw [a1, b1, c8] at e1
      rw [a2, b2, cn] at e2
      rw [c3] at hl
      match xs, hlen, cs, hl with
      | [y0, y1, y2], _, [v0, v1, v2], _ =>
        simp only [List.drop_zero, List.take_succ_cons, List.take_zero, List.drop_succ_cons, List.getElem?_cons_zero, List.getElem?_cons_succ] at e0 e1 e2
        obtain ⟨n0, h0, hy0, hw0⟩ := DataW.trod_int Tryd.underlying22 e0
        obtain ⟨l1, r1, s1⟩ := rel_bytes0 (d := y1.1) (ps := y1.2) e1
        obtain ⟨l2, r2, s2, t2⟩ := ih.2 v2 y2.1 y2.2 e2
        have hb := int_bounds hw0
        have hn : N n0.toNat = n0 := by
          have : (0 : Int) ≤ n0 := hb.1
          unfold N; omega
        have hle : n0 ≤ 65535 := hb.2
        refine ⟨.mk n0.toNat l1 l2, ?_, ?_, by rw [GNode.tyOk, t2]; simp; omega⟩
        · rw [nodeA_eq]
          simp only [List.cons.injEq, and_true] at h0
          subst h0
          have := Rel.val (w := W) (B := Old W) (bs := W.heap.size) (ρ := []) (.int .u16 (N n0.toNat))
          rw [hn] at this
          exact .cons (by show Rel _ _ _ _ (.val (.int .u16 (N n0.toNat))) _; rw [hn]; exact this) (.cons r1 (.cons r2 .nil))
        · have hd : d = .agg [y0.1, y1.1, y2.1] := congrArg Prod.fst hx
          rw [hd]
          have := bulk_one y0.1
          simp only [GNode.sz, Rows.uptoBulk, Rows.uptoBulkAll]
          omega
    · intro v d ps h
      rcases DataW.trod_slice Tryd.underlying25 h with ⟨h1, h2⟩ | ⟨a, len, cap, elems, rest, m, hm, h1, h2, _, hlc, hcm, hlen, hel, _, _⟩
      · simp only [List.cons.injEq, and_true] at h1
        subst h1
        refine ⟨[], by simpa [nodesA] using Rel.slE false 3 none 0, by simp [szs], rfl⟩
      · have hm' : m = fuel := by omega
        subst hm'
        simp only [List.cons.injEq, and_true] at h1
        subst h1
        rw [c3] at hel
        -- every element is a node
        have each : ∀ i (hi : i < elems.length), ∃ (n : GNode) (cs : List Value), cs.length = 3 ∧ (∀ j, j < 3 → W.cell? ((a.add (i * 3)).add j) = cs[j]?) ∧ RelL W (Old W) W.heap.size [] (nodeA false n).cells cs ∧ n.sz ≤ Rows.uptoBulk elems[i].1 ∧ n.tyOk = true := by
          intro i hi
          have hk := hel i (by omega)
          rw [List.getElem?_eq_getElem hi] at hk
          obtain ⟨cs, hcs, hy⟩ := Option.bind_eq_some_iff.1 hk
          obtain ⟨_, hl3, hcell⟩ := World.cells?_some hcs
          obtain ⟨n, r, s, tt⟩ := ih.1 cs elems[i].1 elems[i].2 hy
          exact ⟨n, cs, hl3, hcell, r, s, tt⟩
        cases hq : elems with
        | nil =>
          rw [hq] at hlen
          simp at hlen
          subst hlen
          exact ⟨[], by simpa [nodesA] using Rel.slE false 3 (some a) cap, by simp [szs], rfl⟩
        | cons x r =>
          have hpos : 0 < elems.length := by rw [hq]; simp
          obtain ⟨n0, cs0, hl0, hc0, _, _, _⟩ := each 0 hpos
          have hcell0 := hc0 0 (by omega)
          simp only [Nat.zero_mul] at hcell0
          rw [List.getElem?_eq_getElem (by omega)] at hcell0
          have hsp : a.spot = none := addr_of_cell (show W.cell? a = _ from hcell0)
          obtain ⟨b, o, sp⟩ := a
          simp only at hsp
          subst hsp
          have hblk : b < W.heap.size := by
            have := World.block_lt_of_cell? W _ hcell0
            simpa [Addr.add] using this
          have rows : ∀ k, k ≤ elems.length → ∃ l : List GNode, l.length = k ∧ RelRow W (Old W) W.heap.size [] false b 3 (o + (elems.length - k) * 3) (nodesA false l) ∧ szs l ≤ Rows.uptoBulkAll ((elems.drop (elems.length - k)).map (·.1)) ∧ tysOk l = true := by
            intro k
            induction k with
            | zero => exact fun _ => ⟨[], rfl, by simpa [nodesA] using RelRow.nil, by simp [szs], rfl⟩
            | succ k ihk =>
              intro hk
              obtain ⟨l, p1, p2, p3, p4⟩ := ihk (by omega)
              have hi : elems.length - (k + 1) < elems.length := by omega
              obtain ⟨n, cs, q1, q2, q3, q4, q5⟩ := each _ hi
              have hd : elems.drop (elems.length - (k + 1)) = elems[elems.length - (k + 1)] :: elems.drop (elems.length - k) := by
                rw [List.drop_eq_getElem_cons hi, show elems.length - (k + 1) + 1 = elems.length - k by omega]
              refine ⟨n :: l, by simp [p1], ?_, ?_, by rw [tysOk, q5, p4]; rfl⟩
              · rw [nodesA_cons]
                refine .cons (RelCells.mk (B := Old W) (bs := W.heap.size) (nw := false) hblk (fun h => by cases h) q3 (nodeA_one n) ?_) (by rw [nodeA_eq]; rfl) ?_
                · intro j v hj
                  have hj3 : j < 3 := by rw [← q1]; exact (List.getElem?_eq_some_iff.1 hj).1
                  have := q2 j hj3
                  rw [addr_add, addr_add] at this
                  rw [this, hj]
                · have e : o + (elems.length - (k + 1)) * 3 + 3 = o + (elems.length - k) * 3 := by omega
                  rw [e]; exact p2
              · rw [hd]
                simp only [szs, List.map_cons, Rows.uptoBulkAll]
                omega
          obtain ⟨l, p1, p2, p3, p4⟩ := rows elems.length (Nat.le_refl _)
          rw [Nat.sub_self] at p2 p3
          have hd : d = .slice (elems.map (·.1)) (rest.map (·.1)) := congrArg Prod.fst h2
          refine ⟨l, ?_, ?_, p4⟩
          · match l, p1 with
            | n :: l, p1 =>
              rw [nodesA_cons] at p2 ⊢
              have := Rel.sl (cap := cap) (by simpa using p2) (by rw [nodesA_len]; simp at p1; omega)
              rw [nodesA_len] at this
              have e : l.length + 1 = len := by simp at p1; omega
              rw [e] at this
              exact this
            | [], p1 => simp at p1; omega
          · rw [hd]
            simp only [Rows.uptoBulk, List.drop_zero] at *
            omega
set_option maxRecDepth 100000 in
/-- a node, read -/
theorem rel_nodeT {r : Reach} {b0 : Nat} {v : Value} {d : DataW H} {ps : List MemPlace} (hval : Value.okWide Tryd.prog W r b0 27 v) (hd : DataW.Trod enc Tryd.prog W 0 (fun _ => true) true 27 v d ps) :
    ∃ n : GNode, Rel W (Old W) W.heap.size [] (nodeA false n) v ∧ n.sz ≤ Rows.uptoBulk d ∧ n.tyOk = true := by
  obtain ⟨f0, f1, f2, hs, _⟩ := node_fields
  obtain ⟨cs, rfl, _⟩ := okWide_struct hs hval
  obtain ⟨fuel, hf⟩ := hd
  obtain ⟨n, h1, h2, h3⟩ := (rel_node0 fuel).1 _ d ps hf
  refine ⟨n, ?_, h2, h3⟩
  have := Rel.agg h1
  rw [nodeA_eq] at this ⊢
  simpa [AV.cells, Value.cells] using this
set_option maxRecDepth 100000 in
theorem rel_node {r : Reach} {b0 : Nat} {v : Value} {d : DataW H} {ps : List MemPlace} (hval : Value.okWide Tryd.prog W r b0 27 v) (hd : DataW.Trod enc Tryd.prog W 0 (fun _ => true) true 27 v d ps) :
    ∃ n : GNode, Rel W (Old W) W.heap.size [] (nodeA false n) v ∧ n.sz ≤ Rows.uptoBulk d := by
  obtain ⟨n, h1, h2, _⟩ := rel_nodeT hval hd; exact ⟨n, h1, h2⟩
end
end Go.Proofs.YtmcedkcehcacpaaDoor.C
/- What the rows' list of package-level variables gives: the cell of errors.errorType; a world that meets the list. -/
set_option linter.unusedVariables false
set_option linter.unusedSimpArgs false
namespace Go.Proofs.YtmcedkcehcacpaaDoor.C
open Go.Abs Go.ChangeShapes Go.WideShapes Go.ChangeAt Go.RowKit
theorem etG : Tryd.prog.globalNamed "errors.errorType" = some 0 := by kernel_rfl
theorem etRt : (Tryd.prog.cutTypes.find? (·.1 == "internal/reflectlite.rtype")).map (·.2) = some 133 := by kernel_rfl
theorem etRow : ((List.range Tryd.prog.types.size).filter fun t => Tryd.prog.rowNamed t [101, 114, 114, 111, 114]) = [29] := by kernel_rfl
theorem etHandle : typeHandle Tryd.prog 29 = .pointer (some ⟨1, 29, none⟩) := by kernel_rfl
theorem handle_of_laid {W : World} (h : laidMetH Tryd.prog [("errors.errorType", Rows.laid_errors_errorType)] W) : W.cell? ⟨0, 0, none⟩ = some (.iface 133 (.agg #[.pointer (some ⟨1, 29, none⟩)])) := by
  have h' : laidMet Tryd.prog [] W ∧ handlesMet Tryd.prog [("errors.errorType", Rows.laid_errors_errorType)] W := h
  obtain ⟨name, u, ty, e1, e2, e3, e4, e5⟩ := h'.2 _ (List.mem_singleton.2 rfl)
  have en : name = [101, 114, 114, 111, 114] := (Option.some.inj e1).symm
  subst en
  obtain rfl := Option.some.inj (etRt.symm.trans e2)
  have hm : ty ∈ (List.range Tryd.prog.types.size).filter fun t => Tryd.prog.rowNamed t [101, 114, 114, 111, 114] := List.mem_filter.2 ⟨List.mem_range.2 e3, e4⟩
  rw [etRow] at hm
  obtain rfl := List.mem_singleton.1 hm
  rw [etHandle] at e5
  simpa using World.var?_cell etG e5 0
theorem cell_lt {W : World} {b i : Nat} {v : Value} (h : W.cell? ⟨b, i, none⟩ = some v) : b < W.heap.size := by
  rcases Nat.lt_or_ge b W.heap.size with h' | h'
  · exact h'
  · simp [World.cell?, Array.getElem?_eq_none h'] at h
theorem globs_of_laid {W : World} (h : laidMetH Tryd.prog [("errors.errorType", Rows.laid_errors_errorType)] W) : Globs W (Old W) [] := by
  have h0 := handle_of_laid h
  intro p hp
  obtain rfl : p = (0, [.iface 133 (.agg #[.pointer (some ⟨1, 29, none⟩)])]) := by simpa [glb] using hp
  refine ⟨cell_lt h0, fun v hv => (by cases hv), fun i v hi => ?_⟩
  match i with
  | 0 => simp at hi; subst hi; exact h0
  | i + 1 => simp at hi
noncomputable def laidWorld (os : Os) : World :=
  let w0 := World.holding Tryd.prog os ⟨#[], #[], []⟩
  { w0 with heap := w0.heap.modify 0 fun
      | .cells _ t frozen => .cells #[.iface 133 (.agg #[.pointer (some ⟨1, 29, none⟩)])] t frozen
      | o => o }
theorem laid_met (os : Os) (args : Array Value) : laidMetH Tryd.prog [("errors.errorType", Rows.laid_errors_errorType)] ((laidWorld os).forCall (fun _ _ => 0) ⟨#[], args, []⟩).memory :=
  laidMetH_of_parts (laidMet_nil _ _) (by kernel_rfl)
end Go.Proofs.YtmcedkcehcacpaaDoor.C
