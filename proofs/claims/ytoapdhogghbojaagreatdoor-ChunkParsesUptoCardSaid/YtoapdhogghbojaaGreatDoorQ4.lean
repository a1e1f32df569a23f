/- Lists of frames: tlv.Split, tlv.All, tlv.Put, tlv.Join. -/
import Derived.Test.YtoapdhogghbojaaGreatDoorQ3
import Derived.Laws.StructEq
import Derived.ChangeKeysEq
import Derived.Lib.BytesEntry
set_option linter.unusedVariables false
set_option linter.unusedSimpArgs false
namespace Go.Proofs.YtoapdhogghbojaaGreatDoor.C
open Go.Abs
theorem nextN_le {b : List UInt8} {n : Nat} (h : (nextN b n).isSome = true) : n ≤ (nextN b n).getD 0 ∧ (nextN b n).getD 0 ≤ b.length := by
  unfold nextN at h ⊢
  split at h
  · rename_i hc; rw [if_pos hc]; exact ⟨by simp [upN], hc.2.1⟩
  · simp at h
theorem readN_next {b : List UInt8} {i : Nat} (h : (readN b i).2.2 = .ok) : i + 4 ≤ (readN b i).2.1 ∧ (readN b i).2.1 ≤ b.length := by
  unfold readN at h ⊢
  split at h
  · rename_i hc
    rw [if_pos hc]
    split at h
    · rename_i he; rw [if_pos he]; exact ⟨by show i + 4 ≤ i + _; omega, by show i + _ ≤ _; omega⟩
    · rename_i he
      rw [if_neg he]
      split at h
      · rename_i hs
        rw [if_pos hs]
        have := nextN_le hs.1
        exact ⟨by show i + 4 ≤ Option.getD _ 0; omega, this.2⟩
      · cases h
  · cases h
def scan (b : List UInt8) : Nat → Nat → List (Nat × Frm) × Er
  | 0, _ => ([], .ok)
  | k + 1, i => if i < b.length then
      match (readN b i).2.2 with
      | .ok => ((i, (readN b i).1) :: (scan b k (readN b i).2.1).1, (scan b k (readN b i).2.1).2)
      | e => ([], e)
    else ([], .ok)
def scanInv (b : List UInt8) (p : List (Nat × Frm)) (k i : Nat) : Prop :=
  i ≤ b.length ∧ b.length - i ≤ k ∧ scan b b.length 0 = (p ++ (scan b k i).1, (scan b k i).2) ∧ p.length ≤ i
theorem scanInv_0 (b : List UInt8) : scanInv b [] b.length 0 := ⟨Nat.zero_le _, by omega, rfl, Nat.zero_le _⟩
theorem scanInv_step {b : List UInt8} {p : List (Nat × Frm)} {k i : Nat} (h : scanInv b p k i) (hi : i < b.length) (he : (readN b i).2.2 = .ok) : scanInv b (p ++ [(i, (readN b i).1)]) (k - 1) (readN b i).2.1 := by
  obtain ⟨h1, h2, h3, h4⟩ := h
  obtain ⟨n1, n2⟩ := readN_next he
  cases k with
  | zero => omega
  | succ k =>
    refine ⟨n2, by simp only [Nat.add_sub_cancel]; omega, ?_, by simp; omega⟩
    rw [h3, scan, if_pos hi, he]
    simp
theorem scanInv_err {b : List UInt8} {p : List (Nat × Frm)} {k i : Nat} (h : scanInv b p k i) (hi : i < b.length) (he : (readN b i).2.2 ≠ .ok) : scan b b.length 0 = (p, (readN b i).2.2) := by
  obtain ⟨h1, h2, h3, h4⟩ := h
  cases k with
  | zero => omega
  | succ k =>
    rw [h3, scan, if_pos hi]
    cases hq : (readN b i).2.2 with
    | ok => exact absurd hq he
    | code c => simp
    | flt c j => simp
theorem scanInv_end {b : List UInt8} {p : List (Nat × Frm)} {k i : Nat} (h : scanInv b p k i) (hi : ¬ i < b.length) : scan b b.length 0 = (p, .ok) := by
  obtain ⟨h1, h2, h3, h4⟩ := h
  rw [h3]
  cases k with
  | zero => simp [scan]
  | succ k => simp [scan, hi]
theorem scan_split {b : List UInt8} {p : List (Nat × Frm)} {k i : Nat} (h : scanInv b p k i) (hi : i < b.length) (he : (readN b i).2.2 = .ok) : ∃ r, (scan b b.length 0).1 = p ++ (i, (readN b i).1) :: r := by
  obtain ⟨h1, h2, h3, h4⟩ := h
  cases k with
  | zero => omega
  | succ k =>
    rw [h3, scan, if_pos hi, he]
    exact ⟨_, rfl⟩
@[push_cast] theorem frmsA_nil (b : Bool) : frmsA b [] = [] := rfl
theorem frmsA_snoc (b : Bool) (l : List Frm) (f : Frm) : frmsA b (l ++ [f]) = frmsA b l ++ [frmA b f] := by simp [frmsA]
def splitN (b : List UInt8) : List Frm × Er := if (scan b b.length 0).2 = .ok then ((scan b b.length 0).1.map (·.2), .ok) else ([], (scan b b.length 0).2)
theorem isOk_iff (e : Er) : e.isOk = true ↔ e = .ok := by cases e <;> simp [Er.isOk]
theorem split_c (b : List UInt8) (hl : b.length ≤ 2 ^ 40) : PC Tryz.prog 132 [.sl false 1 (bys b)] (.tup [.sl true 2 (frmsA true (splitN b).1), erA (splitN b).2]) := by
  refine PC.of_bodyK (by simp only [push_cast]) Tryz.func132 rfl (by rw [Tryz.ntmps132]; simp) ?_
  refine AWp.regionW ?_
  refine AWp.regionW ?_
  refine AWp.seqK fun K1 hK1 => ?_
  refine AWp.regionW ?_
  refine AWp.block ?_
  -- SLOTS THAT TURN AND ARE NOT TOLD: [4]
  refine AWp.nilOwn 4 161 2 (by simp only [push_cast, ↓reduceIte, Nat.reduceEqDiff, Nat.reduceLT, Nat.reduceAdd, Nat.reduceSub, Nat.reduceMul, Nat.reduceLeDiff, Nat.reducePow, Int.reduceLT, Int.reduceToNat, reduceCtorEq, Int.reduceNeg, Int.reduceEq, Nat.reduceBEq, Nat.reduceBNe, Int.reduceBEq, Int.reduceBNe, String.reduceEq]) ?_
  simp only [push_cast, ↓reduceIte, Nat.reduceEqDiff, Nat.reduceLT, Nat.reduceAdd, Nat.reduceSub, Nat.reduceMul, Nat.reduceLeDiff, Nat.reducePow, Int.reduceLT, Int.reduceToNat, reduceCtorEq, Int.reduceNeg, Int.reduceEq, Nat.reduceBEq, Nat.reduceBNe, Int.reduceBEq, Int.reduceBNe, String.reduceEq]
  refine AWp.loopK [0, 4] (fun (g : List (Nat × Frm) × Nat × Nat) => [(5, nat g.2.2)]) (fun g => [.row 161 2 (frmsA true (g.1.map (·.2)))]) (fun g => scanInv b g.1 g.2.1 g.2.2) (fun g => b.length - g.2.2) (([], b.length, 0)) ?_ (scanInv_0 b) ?_
  · skip
    refine Le.m 1 ?_ ?_
    · exact Go.Abs.evM
    · exact Go.Abs.evN
  · intro g hg K2 hK2
    obtain ⟨p, k, i⟩ := g
    dsimp only at hg ⊢
    refine AWp.seqK fun K3 hK3 => ?_
    refine AWp.regionW ?_
    refine AWp.condLM (fun c0 => ?_) (fun c0 => ?_)
    · skip
      have hil : i < b.length := by simpa using c0
      refine AWp.skip ?_
      refine hK3 _ ?_
      refine AWp.block ?_
      refine AWp.regionM fun K4 hK4 => ?_
      refine ARun2.callM (read_c b i (by omega) hl) ?_
      refine ARun2.endm (hK4 _ ?_)
      refine AWp.seqK fun K5 hK5 => ?_
      refine AWp.regionW ?_
      refine AWp.condLM (fun c1 => ?_) (fun c1 => ?_)
      · skip
        have he : (readN b i).2.2 ≠ .ok := by intro h; rw [h] at c1; simp [Er.isOk] at c1
        have hr : splitN b = ([], (readN b i).2.2) := by unfold splitN; rw [scanInv_err hg hil he]; rw [if_neg he]
        refine AWp.regionW ?_
        refine AWp.ret ?_
        try simp only [thenQ, blockQ, noGo]
        refine bodyQ.m ?_
        clear hK5 K5 hK4 K4 hK3 K3 hK2 K2 hK1 K1
        rw [hr]
        first | done | exact Wk.go
      · skip
        have he : (readN b i).2.2 = .ok := by rw [← isOk_iff]; simpa using c1
        have hst := scanInv_step hg hil he
        have hpl := hg.2.2.2
        refine AWp.skip ?_
        refine hK5 _ ?_
        refine AWp.regionM fun K6 hK6 => ?_
        refine ARun2.appendM ?_ ?_ ?_
        · rw [YtoapdhogghbojaaGreatDoor.Facts.eb158, frmsA_len, List.length_map, List.length_cons, List.length_nil]; omega
        · rw [frmsA_len, List.length_map, List.length_cons, List.length_nil]; omega
        refine ARun2.endm (hK6 _ ?_)
        refine AWp.regionV ?_
        refine hK2 _ ((p ++ [(i, (readN b i).1)], k - 1, (readN b i).2.1)) (hst) (by have := readN_next he; show b.length - (readN b i).2.1 < b.length - i; omega) ?_
        refine Le.m 1 ?_ ?_
        · try simp only [push_cast, ↓reduceIte, Nat.reduceEqDiff, Nat.reduceLT, Nat.reduceAdd, Nat.reduceSub, Nat.reduceMul, Nat.reduceLeDiff, Nat.reducePow, Int.reduceLT, Int.reduceToNat, reduceCtorEq, Int.reduceNeg, Int.reduceEq, Nat.reduceBEq, Nat.reduceBNe, Int.reduceBEq, Int.reduceBNe, String.reduceEq]
          try simp (disch := omega) only [w_nat, w_add, w_addl, w_addr, w_sub, w_subl, w_mul, w_mull, w_mulr, w_u32, w_u16, w_u8, w_u32a, N_zero]
          first | done | skip
          rw [List.map_append, List.map_cons, List.map_nil, frmsA_snoc]; rfl
        · exact Go.Abs.evN
    · skip
      have hil : ¬ i < b.length := by simpa using c0
      have hr : splitN b = (p.map (·.2), .ok) := by unfold splitN; rw [scanInv_end hg hil]; rw [if_pos rfl]
      refine AWp.exit ?_
      try simp only [thenQ, blockQ, noGo, reduceIte, Nat.reduceEqDiff]
      refine hK1 _ ?_
      refine AWp.pubD 0 ?_
      refine AWp.regionW ?_
      refine AWp.ret ?_
      try simp only [thenQ, blockQ, noGo]
      refine bodyQ.m ?_
      clear hK3 K3 hK2 K2 hK1 K1
      rw [hr]
      first | done | exact Wk.go
def ysOf (l : List (Nat × Frm)) : List (List AV) := l.map fun p => [nat p.1, frmA true p.2]
theorem all_iter (d : List UInt8) (hl : d.length ≤ 2 ^ 40) : IterC Tryz.prog 147 [.ref false (.agg [.sl false 1 (bys d)])] (ysOf (scan d d.length 0).1) := by
  refine IterC.of_body Tryz.func147 rfl (by rw [Tryz.ntmps147]; simp) fun lb => ?_
  refine AWp.scope ?_
  refine AWp.seq (AWp.label ?_)
  refine AWp.regionW ?_
  refine AWp.block ?_
  refine AWp.loopKT [0, 1] (fun (g : List (Nat × Frm) × Nat × Nat) => [(3, nat g.2.2)]) (fun g => []) (fun g => ysOf g.1) (fun g => scanInv d g.1 g.2.1 g.2.2) (fun g => d.length - g.2.2) (([], d.length, 0)) ?_ (scanInv_0 d) ?_
  · skip
    refine Le.m 0 ?_ ?_ ?_
    · exact Go.Abs.evM
    · exact Go.Abs.evN
    · exact ⟨rfl, rfl, rfl, rfl, rfl, rfl⟩
  · intro g hg K1 hK1
    obtain ⟨p, k, i⟩ := g
    dsimp only at hg ⊢
    refine AWp.seqK fun K2 hK2 => ?_
    refine AWp.regionW ?_
    refine AWp.condLM (fun c0 => ?_) (fun c0 => ?_)
    · skip
      have hil : i < d.length := by simpa using c0
      refine AWp.skip ?_
      refine hK2 _ ?_
      refine AWp.block ?_
      refine AWp.regionM fun K3 hK3 => ?_
      refine ARun2.callM (read_c d i (by omega) hl) ?_
      refine ARun2.endm (hK3 _ ?_)
      refine AWp.seqK fun K4 hK4 => ?_
      refine AWp.block ?_
      refine AWp.regionW ?_
      refine AWp.condLM (fun c1 => ?_) (fun c1 => ?_)
      · skip
        have he : (readN d i).2.2 ≠ .ok := by intro h; rw [h] at c1; simp [Er.isOk] at c1
        have hr := scanInv_err hg hil he
        refine AWp.exit ?_
        try simp only [thenQ, blockQ, noGo, reduceIte, Nat.reduceEqDiff]
        try simp only [noGo]
        try simp only [thenQ, blockQ, noGo]
        refine bodyQ.n ?_
        clear hK4 K4 hK3 K3 hK2 K2 hK1 K1
        exact ⟨fun _ => (by show ysOf p = _; rw [hr]), fun h => (by cases h)⟩
      · skip
        have he : (readN d i).2.2 = .ok := by rw [← isOk_iff]; simpa using c1
        have hst := scanInv_step hg hil he
        obtain ⟨r, hsp⟩ := scan_split hg hil he
        have hsp2 : ysOf (scan d d.length 0).1 = ysOf p ++ [nat i, frmA true (readN d i).1] :: ysOf r := by rw [hsp]; simp [ysOf]
        refine AWp.regionM fun K5 hK5 => ?_
        refine ARun2.yieldM (ysOf r) (hsp2) fun b => ?_
        refine ARun2.endm (hK5 _ ?_)
        refine AWp.condLM (fun c2 => ?_) (fun c2 => ?_)
        · skip
          have hb : b = false := by simpa using c2
          subst hb
          refine AWp.exit ?_
          try simp only [thenQ, blockQ, noGo, reduceIte, Nat.reduceEqDiff]
          try simp only [noGo]
          try simp only [thenQ, blockQ, noGo]
          refine bodyQ.n ?_
          clear hK5 K5 hK4 K4 hK3 K3 hK2 K2 hK1 K1
          exact ⟨fun h => (by cases h), fun _ => ⟨ysOf r, hsp2.trans (by simp [AS.lit, frmA])⟩⟩
        · skip
          have hb : b = true := by simpa using c2
          subst hb
          refine AWp.skip ?_
          refine hK4 _ ?_
          refine AWp.regionV ?_
          refine hK1 _ ((p ++ [(i, (readN d i).1)], k - 1, (readN d i).2.1)) (hst) (by have := readN_next he; show d.length - (readN d i).2.1 < d.length - i; omega) ?_
          refine Le.m 0 ?_ ?_ ?_
          · exact Go.Abs.evM
          · exact Go.Abs.evN
          · refine ⟨rfl, rfl, rfl, rfl, ?_, rfl⟩
            show ysOf (p ++ [(i, (readN d i).1)]) = ysOf p ++ [_]
            simp [ysOf, frmA]
    · skip
      have hil : ¬ i < d.length := by simpa using c0
      have hr := scanInv_end hg hil
      refine AWp.exit ?_
      try simp only [thenQ, blockQ, noGo, reduceIte, Nat.reduceEqDiff]
      try simp only [noGo]
      try simp only [thenQ, blockQ, noGo]
      refine bodyQ.n ?_
      clear hK2 K2 hK1 K1
      exact ⟨fun _ => (by show ysOf p = _; rw [hr]), fun h => (by cases h)⟩
theorem take_step {α : Type} {l m : List α} {i : Nat} (hl : i < l.length) (hm : i < m.length) (h0 : l.take i = m.take i) (h : l[i] = m[i]) : l.take (i + 1) = m.take (i + 1) := by
  rw [List.take_succ_eq_append_getElem hl, List.take_succ_eq_append_getElem hm, h0, h]
theorem ne_at {α : Type} {l m : List α} {i : Nat} (hl : i < l.length) (hm : i < m.length) (h : l[i] ≠ m[i]) : l ≠ m := by
  rintro rfl; exact h rfl
theorem bys_at (l : List UInt8) (i : Nat) (h : i < l.length) : (bys l)[i]? = some (.val (.int .u8 (N l[i].toNat))) := by simp [bys, h]
theorem same01_c (l m : List UInt8) (hl : l.length ≤ 2 ^ 40) : PC Tryz.prog 29 [.sl false 1 (bys l), .sl false 1 (bys m)] (bool (decide (l = m))) := by
  refine PC.of_bodyW (by simp only [push_cast]) Tryz.func29 rfl (by rw [Tryz.ntmps29]; simp) ?_
  refine AWp.regionW ?_
  refine AWp.seqK fun K1 hK1 => ?_
  refine AWp.regionW ?_
  refine AWp.condLM (fun c0 => ?_) (fun c0 => ?_)
  · skip
    have hne : decide (l = m) = false := decide_eq_false (by rintro rfl; simp at c0)
    refine AWp.regionW ?_
    refine AWp.ret ?_
    try simp only [thenQ, blockQ, noGo]
    refine bodyQ.m ?_
    clear hK1 K1
    rw [hne]
    first | done | exact Hand.go
  · skip
    have he : l.length = m.length := by simpa using c0
    refine AWp.skip ?_
    refine hK1 _ ?_
    refine AWp.seqK fun K2 hK2 => ?_
    refine AWp.regionW ?_
    refine AWp.block ?_
    refine AWp.loopK0 [0, 1] (fun (i : Nat) => [(5, nat i)]) (fun i => i ≤ l.length ∧ l.take i = m.take i) (fun i => l.length - i) (0) ?_ ⟨Nat.zero_le _, rfl⟩ ?_
    · skip
      refine Le.m 0 ?_ ?_
      · exact Go.Abs.evM
      · exact Go.Abs.evN
    · intro i hi K3 hK3
      refine AWp.seqK fun K4 hK4 => ?_
      refine AWp.regionW ?_
      refine AWp.condLM (fun c1 => ?_) (fun c1 => ?_)
      · skip
        have hil : i < l.length := by simpa using c1
        have hir : i < m.length := by omega
        refine AWp.skip ?_
        refine hK4 _ ?_
        refine AWp.seqK fun K5 hK5 => ?_
        refine AWp.block ?_
        refine AWp.drS [[(0, none)], [(5, none)], [(17, some 0), (18, some 1)], [(19, some 2)], [(1, none)], [(5, none)], [(21, some 4), (22, some 5)], [(23, some 6)], [(20, some 3), (24, some 7)]] fun G hG => ?_
        refine Dr.sim ?_
        try simp only [List.cons_append, List.nil_append]
        refine Dr.sim ?_
        try simp only [List.cons_append, List.nil_append]
        refine Dr.idx (i) (.val (.int .u8 (N l[i].toNat))) ?_ ?_
        · exact bys_at _ _ hil
        try simp only [List.cons_append, List.nil_append]
        refine Dr.sim ?_
        try simp only [List.cons_append, List.nil_append]
        refine Dr.sim ?_
        try simp only [List.cons_append, List.nil_append]
        refine Dr.sim ?_
        try simp only [List.cons_append, List.nil_append]
        refine Dr.idx (i) (.val (.int .u8 (N m[i].toNat))) ?_ ?_
        · exact bys_at _ _ hir
        try simp only [List.cons_append, List.nil_append]
        refine Dr.sim ?_
        try simp only [List.cons_append, List.nil_append]
        refine Dr.sim ?_
        try simp only [List.cons_append, List.nil_append]
        refine Dr.finM (n := 9) [(25, 8)] [0, 1, 5] hG YtoapdhogghbojaaGreatDoor.Facts.mixed fun KD hKD => ?_
        refine ARun2.endm (hKD _ ?_); clear hKD KD hG G
        refine AWp.condLM (fun c2 => ?_) (fun c2 => ?_)
        · skip
          have hne : decide (l = m) = false := decide_eq_false (ne_at hil hir (by intro e; rw [e] at c2; simp at c2))
          refine AWp.regionW ?_
          refine AWp.ret ?_
          try simp only [thenQ, blockQ, noGo]
          refine bodyQ.m ?_
          clear hK5 K5 hK4 K4 hK3 K3 hK2 K2 hK1 K1
          rw [hne]
          first | done | exact Hand.go
        · skip
          have hx : l[i] = m[i] := by apply UInt8.toNat_inj.1; simpa using c2
          refine AWp.skip ?_
          refine hK5 _ ?_
          refine AWp.regionV ?_
          refine hK3 _ (i + 1) (⟨by omega, take_step hil hir hi.2 hx⟩) (by omega) ?_
          refine Le.m 0 ?_ ?_
          · exact Go.Abs.evM
          · exact Go.Abs.evN
      · skip
        have hil : i = l.length := by have := hi.1; simp at c1; omega
        have hq : decide (l = m) = true := decide_eq_true (by have := hi.2; rwa [hil, List.take_length, he, List.take_length] at this)
        refine AWp.exit ?_
        try simp only [thenQ, blockQ, noGo, reduceIte, Nat.reduceEqDiff]
        refine hK2 _ ?_
        refine AWp.regionW ?_
        refine AWp.ret ?_
        try simp only [thenQ, blockQ, noGo]
        refine bodyQ.m ?_
        clear hK4 K4 hK3 K3 hK2 K2 hK1 K1
        rw [hq]
        first | done | exact Hand.go
theorem same08_step (l r : List GNode) (hs : szs l ≤ 2 ^ 40) (ih : ∀ a ∈ l, ∀ b : GNode, PC Tryz.prog 37 [.sl false 3 (nodesA false a.kids), .sl false 3 (nodesA false b.kids)] (bool (sameL a.kids b.kids))) :
    PC Tryz.prog 37 [.sl false 3 (nodesA false l), .sl false 3 (nodesA false r)] (bool (sameL l r)) := by
  have hlen := szs_len l
  refine PC.of_bodyW (by simp only [push_cast]) Tryz.func37 rfl (by rw [Tryz.ntmps37]; simp) ?_
  refine AWp.regionW ?_
  refine AWp.seqK fun K1 hK1 => ?_
  refine AWp.regionW ?_
  refine AWp.condLM (fun c0 => ?_) (fun c0 => ?_)
  · skip
    have hne : l.length ≠ r.length := by simpa using c0
    refine AWp.regionW ?_
    refine AWp.ret ?_
    try simp only [thenQ, blockQ, noGo]
    refine bodyQ.m ?_
    clear hK1 K1
    rw [sameL_len hne]
    first | done | exact Hand.go
  · skip
    have he : l.length = r.length := by simpa using c0
    refine AWp.skip ?_
    refine hK1 _ ?_
    refine AWp.seqK fun K2 hK2 => ?_
    refine AWp.regionW ?_
    refine AWp.block ?_
    refine AWp.loopK0 [0, 1] (fun (i : Nat) => [(5, nat i)]) (fun i => i ≤ l.length ∧ sameL (l.take i) (r.take i) = true) (fun i => l.length - i) (0) ?_ ⟨Nat.zero_le _, rfl⟩ ?_
    · skip
      refine Le.m 0 ?_ ?_
      · exact Go.Abs.evM
      · exact Go.Abs.evN
    · intro i hi K3 hK3
      refine AWp.seqK fun K4 hK4 => ?_
      refine AWp.regionW ?_
      refine AWp.condLM (fun c1 => ?_) (fun c1 => ?_)
      · skip
        have hil : i < l.length := by simpa using c1
        have hir : i < r.length := by omega
        have hm := List.getElem_mem hil
        have hsz := szs_mem hm
        have hse := GNode.sz_eq l[i]
        refine AWp.skip ?_
        refine hK4 _ ?_
        refine AWp.seqK fun K5 hK5 => ?_
        refine AWp.block ?_
        refine AWp.drS [[(0, none)], [(5, none)], [(17, some 0), (18, some 1)], [(19, some 2)], [(20, some 3)], [(1, none)], [(5, none)], [(22, some 5), (23, some 6)], [(24, some 7)], [(25, some 8)], [(21, some 4), (26, some 9)], [(27, some 10)], [(0, none), (28, some 11)], [(5, none), (28, some 11)], [(29, some 12), (30, some 13), (28, some 11)], [(31, some 14), (28, some 11)], [(32, some 15), (28, some 11)], [(1, none), (28, some 11)], [(5, none), (28, some 11)], [(34, some 17), (35, some 18), (28, some 11)], [(36, some 19), (28, some 11)], [(37, some 20), (28, some 11)], [(33, some 16), (38, some 21), (28, some 11)], [(39, some 22), (28, some 11)], [(28, some 11), (40, some 23)], [(41, some 24)], [(0, none), (42, some 25)], [(5, none), (42, some 25)], [(43, some 26), (44, some 27), (42, some 25)], [(45, some 28), (42, some 25)], [(46, some 29), (42, some 25)], [(1, none), (42, some 25)], [(5, none), (42, some 25)], [(48, some 31), (49, some 32), (42, some 25)], [(50, some 33), (42, some 25)], [(51, some 34), (42, some 25)], [(47, some 30), (52, some 35), (42, some 25)], [(53, some 36), (42, some 25)], [(42, some 25), (54, some 37)]] fun G hG => ?_
        refine Dr.sim ?_
        try simp only [List.cons_append, List.nil_append]
        refine Dr.sim ?_
        try simp only [List.cons_append, List.nil_append]
        refine Dr.idx (i) (nodeA false l[i]) ?_ ?_
        · exact nodesA_at _ _ _ hil
        try simp only [List.cons_append, List.nil_append]
        refine Dr.sim ?_
        try simp only [List.cons_append, List.nil_append]
        refine Dr.sim ?_
        try simp only [List.cons_append, List.nil_append]
        refine Dr.sim ?_
        try simp only [List.cons_append, List.nil_append]
        refine Dr.sim ?_
        try simp only [List.cons_append, List.nil_append]
        refine Dr.idx (i) (nodeA false r[i]) ?_ ?_
        · exact nodesA_at _ _ _ hir
        try simp only [List.cons_append, List.nil_append]
        refine Dr.sim ?_
        try simp only [List.cons_append, List.nil_append]
        refine Dr.sim ?_
        try simp only [List.cons_append, List.nil_append]
        refine Dr.sim ?_
        try simp only [List.cons_append, List.nil_append]
        refine Dr.sim ?_
        try simp only [List.cons_append, List.nil_append]
        refine Dr.simg ?_
        try simp only [List.cons_append, List.nil_append]
        refine Dr.simg ?_
        try simp only [List.cons_append, List.nil_append]
        refine Dr.idxg (i) (nodeA false l[i]) ?_ ?_
        · intro g11
          exact nodesA_at _ _ _ hil
        try simp only [List.cons_append, List.nil_append]
        refine Dr.simg ?_
        try simp only [List.cons_append, List.nil_append]
        refine Dr.simg ?_
        try simp only [List.cons_append, List.nil_append]
        refine Dr.simg ?_
        try simp only [List.cons_append, List.nil_append]
        refine Dr.simg ?_
        try simp only [List.cons_append, List.nil_append]
        refine Dr.idxg (i) (nodeA false r[i]) ?_ ?_
        · intro g11
          exact nodesA_at _ _ _ hir
        try simp only [List.cons_append, List.nil_append]
        refine Dr.simg ?_
        try simp only [List.cons_append, List.nil_append]
        refine Dr.simg ?_
        try simp only [List.cons_append, List.nil_append]
        refine Dr.callg (fun g11 => same01_c l[i].data r[i].data (by omega)) ?_
        try simp only [List.cons_append, List.nil_append]
        refine Dr.simg ?_
        try simp only [List.cons_append, List.nil_append]
        refine Dr.sim ?_
        try simp only [List.cons_append, List.nil_append]
        refine Dr.sim ?_
        try simp only [List.cons_append, List.nil_append]
        refine Dr.simg ?_
        try simp only [List.cons_append, List.nil_append]
        refine Dr.simg ?_
        try simp only [List.cons_append, List.nil_append]
        refine Dr.idxg (i) (nodeA false l[i]) ?_ ?_
        · intro g25
          exact nodesA_at _ _ _ hil
        try simp only [List.cons_append, List.nil_append]
        refine Dr.simg ?_
        try simp only [List.cons_append, List.nil_append]
        refine Dr.simg ?_
        try simp only [List.cons_append, List.nil_append]
        refine Dr.simg ?_
        try simp only [List.cons_append, List.nil_append]
        refine Dr.simg ?_
        try simp only [List.cons_append, List.nil_append]
        refine Dr.idxg (i) (nodeA false r[i]) ?_ ?_
        · intro g25
          exact nodesA_at _ _ _ hir
        try simp only [List.cons_append, List.nil_append]
        refine Dr.simg ?_
        try simp only [List.cons_append, List.nil_append]
        refine Dr.simg ?_
        try simp only [List.cons_append, List.nil_append]
        refine Dr.callg (fun g25 => ih l[i] hm r[i]) ?_
        try simp only [List.cons_append, List.nil_append]
        refine Dr.simg ?_
        try simp only [List.cons_append, List.nil_append]
        refine Dr.sim ?_
        try simp only [List.cons_append, List.nil_append]
        refine Dr.finM (n := 39) [(55, 38)] [0, 1, 5] hG YtoapdhogghbojaaGreatDoor.Facts.mixed fun KD hKD => ?_
        refine ARun2.endm (hKD _ ?_); clear hKD KD hG G
        refine AWp.condLM (fun c2 => ?_) (fun c2 => ?_)
        · skip
          have h5 : sameN l[i] r[i] = false := by rw [sameN_eq]; revert c2; cases h1 : l[i].ty == r[i].ty <;> cases h2 : decide (l[i].data = r[i].data) <;> cases h3 : sameL l[i].kids r[i].kids <;> simp_all
          refine AWp.regionW ?_
          refine AWp.ret ?_
          try simp only [thenQ, blockQ, noGo]
          refine bodyQ.m ?_
          clear hK5 K5 hK4 K4 hK3 K3 hK2 K2 hK1 K1
          rw [sameL_at hil hir h5]
          first | done | exact Hand.go
        · skip
          have h5 : sameN l[i] r[i] = true := by rw [sameN_eq]; revert c2; cases h1 : l[i].ty == r[i].ty <;> cases h2 : decide (l[i].data = r[i].data) <;> cases h3 : sameL l[i].kids r[i].kids <;> simp_all
          refine AWp.skip ?_
          refine hK5 _ ?_
          refine AWp.regionV ?_
          refine hK3 _ (i + 1) (⟨by omega, sameL_take hil hir hi.2 h5⟩) (by omega) ?_
          refine Le.m 0 ?_ ?_
          · exact Go.Abs.evM
          · exact Go.Abs.evN
      · skip
        have hil : i = l.length := by have := hi.1; simp at c1; omega
        have hs : sameL l r = true := by have := hi.2; rwa [hil, List.take_length, he, List.take_length] at this
        refine AWp.exit ?_
        try simp only [thenQ, blockQ, noGo, reduceIte, Nat.reduceEqDiff]
        refine hK2 _ ?_
        refine AWp.regionW ?_
        refine AWp.ret ?_
        try simp only [thenQ, blockQ, noGo]
        refine bodyQ.m ?_
        clear hK4 K4 hK3 K3 hK2 K2 hK1 K1
        rw [hs]
        first | done | exact Hand.go
theorem same08_w : ∀ (w : Nat) (l r : List GNode), szs l ≤ w → szs l ≤ 2 ^ 40 → PC Tryz.prog 37 [.sl false 3 (nodesA false l), .sl false 3 (nodesA false r)] (bool (sameL l r)) := by
  have kl : ∀ (a : GNode) (l : List GNode), a ∈ l → szs a.kids < szs l := by
    intro a l ha
    have := szs_mem ha; rw [GNode.sz_eq] at this; omega
  intro w
  induction w with
  | zero => exact fun l r hw hs => same08_step l r hs (fun a ha b => by have := kl a l ha; omega)
  | succ w ih => exact fun l r hw hs => same08_step l r hs (fun a ha b => by have := kl a l ha; exact ih _ _ (by omega) (by omega))
theorem same08_c (l r : List GNode) (hs : szs l ≤ 2 ^ 40) : PC Tryz.prog 37 [.sl false 3 (nodesA false l), .sl false 3 (nodesA false r)] (bool (sameL l r)) := same08_w _ l r (Nat.le_refl _) hs
def twoB (t : Nat) : List UInt8 := [UInt8.ofNat (t / 256), UInt8.ofNat t]
theorem bits8 (a : UInt8) : BitVec.ofInt IntKind.u8.bits (N a.toNat) = a.toBitVec := by
  apply BitVec.eq_of_toNat_eq
  rw [BitVec.toNat_ofInt]
  have := a.toNat_lt
  show (N a.toNat % 2 ^ 8).toNat = a.toNat
  unfold N; omega
theorem or_zero (a b : UInt8) : (bitsV .or .u8 (N a.toNat) (N b.toNat) != 0) = (a.toNat * 256 + b.toNat != 0) := by
  have ha := a.toNat_lt
  have hb := b.toNat_lt
  have h1 : bitsV .or .u8 (N a.toNat) (N b.toNat) = N (a.toBitVec ||| b.toBitVec).toNat := by
    have hlt : (a.toBitVec ||| b.toBitVec).toNat < 256 := (a.toBitVec ||| b.toBitVec).isLt
    have e : (BitVec.ofInt IntKind.u8.bits (N a.toNat) ||| BitVec.ofInt IntKind.u8.bits (N b.toNat)).toNat = (a.toBitVec ||| b.toBitVec).toNat := by rw [bits8, bits8]; rfl
    show IntKind.u8.wrap ((BitVec.ofInt IntKind.u8.bits (N a.toNat) ||| BitVec.ofInt IntKind.u8.bits (N b.toNat)).toNat : Int) = _
    rw [e]
    generalize (a.toBitVec ||| b.toBitVec).toNat = z at hlt ⊢
    rw [IntKind.wrap_u8]
    unfold N; omega
  rw [h1, Bool.eq_iff_iff, bne_iff_ne, bne_iff_ne, Decidable.not_iff_not]
  have e1 : a.toBitVec.toNat = a.toNat := rfl
  have e2 : b.toBitVec.toNat = b.toNat := rfl
  constructor
  · intro h
    have h0 : (a.toBitVec ||| b.toBitVec).toNat = 0 := by unfold N at h; omega
    have h2 : a.toBitVec ||| b.toBitVec = 0#8 := BitVec.eq_of_toNat_eq (by rw [h0]; rfl)
    obtain ⟨h3, h4⟩ := BitVec.or_eq_zero_iff.1 h2
    have := congrArg BitVec.toNat h3
    have := congrArg BitVec.toNat h4
    simp at *
    omega
  · intro h
    have h3 : a.toBitVec = 0#8 := BitVec.eq_of_toNat_eq (by show a.toNat = 0; omega)
    have h4 : b.toBitVec = 0#8 := BitVec.eq_of_toNat_eq (by show b.toNat = 0; omega)
    rw [h3, h4]; rfl
theorem peek_bytes (d : List UInt8) (i : Nat) (h : i + 2 ≤ d.length) : peekN 2 d i = (d[i]'(by omega)).toNat * 256 + (d[i + 1]'(by omega)).toNat := by
  have hd : (d.drop i).take 2 = [d[i]'(by omega), d[i + 1]'(by omega)] := by
    rw [List.drop_eq_getElem_cons (by omega), List.drop_eq_getElem_cons (by omega)]; rfl
  unfold peekN
  rw [if_pos h, hd]
  simp [beN]
theorem cvalue_c (c : GChunk) (k : KForm) (hd : c.data.length ≤ 2 ^ 40) (h64 : c.ty = 64 → 17 ≤ c.data.length) (h194 : c.ty = 194 → 4 ≤ c.data.length ∧ (c.data.length - 4) % 8 = 0) :
    PC Tryz.prog 60 [chunkA false c, kformA k] (erA (valueE c)) := by
  refine PC.of_bodyW (by simp only [push_cast]) Tryz.func60 rfl (by rw [Tryz.ntmps60]; simp) ?_
  refine AWp.regionW ?_
  refine AWp.regionW ?_
  refine AWp.seqK fun K1 hK1 => ?_
  refine AWp.regionW ?_
  refine AWp.block ?_
  refine AWp.regionW ?_
  refine AWp.condLM (fun c0 => ?_) (fun c0 => ?_)
  · skip
    have h3 : c.ty = 64 := by simpa using c0
    have hl := h64 h3
    have hor := or_zero (c.data[6]'(by omega)) (c.data[7]'(by omega))
    rw [← peek_bytes c.data 6 (by omega)] at hor
    refine AWp.drS [[(2, none)], [(11, some 0)], [(12, some 1)], [(13, some 2)], [(2, none)], [(15, some 4)], [(16, some 5)], [(17, some 6)], [(14, some 3), (18, some 7)], [(19, some 8)]] fun G hG => ?_
    refine Dr.sim ?_
    try simp only [List.cons_append, List.nil_append]
    refine Dr.sim ?_
    try simp only [List.cons_append, List.nil_append]
    refine Dr.idx (6) (.val (.int .u8 (N (c.data[6]'(by omega)).toNat))) ?_ ?_
    · exact bys_at _ _ (by omega)
    try simp only [List.cons_append, List.nil_append]
    refine Dr.sim ?_
    try simp only [List.cons_append, List.nil_append]
    refine Dr.sim ?_
    try simp only [List.cons_append, List.nil_append]
    refine Dr.sim ?_
    try simp only [List.cons_append, List.nil_append]
    refine Dr.idx (7) (.val (.int .u8 (N (c.data[7]'(by omega)).toNat))) ?_ ?_
    · exact bys_at _ _ (by omega)
    try simp only [List.cons_append, List.nil_append]
    refine Dr.sim ?_
    try simp only [List.cons_append, List.nil_append]
    refine Dr.sim ?_
    try simp only [List.cons_append, List.nil_append]
    refine Dr.sim ?_
    try simp only [List.cons_append, List.nil_append]
    refine Dr.finM (n := 10) [(20, 9)] [5] hG YtoapdhogghbojaaGreatDoor.Facts.mixed fun KD hKD => ?_
    refine ARun2.endm (hKD _ ?_); clear hKD KD hG G
    refine AWp.condLM (fun c1 => ?_) (fun c1 => ?_)
    · skip
      rw [hor] at c1
      have h : valueE c = .flt 11 10 := by unfold valueE oddN; rw [if_pos h3, if_pos (by simpa using c1)]
      refine AWp.regionV ?_
      refine hK1 _ ?_
      refine AWp.seqK fun K2 hK2 => ?_
      refine AWp.regionW ?_
      refine AWp.condF ?_
      refine AWp.skip ?_
      refine hK2 _ ?_
      refine AWp.regionM fun K3 hK3 => ?_
      refine ARun2.callM (fnew_c 11 10) ?_
      refine ARun2.endm (hK3 _ ?_)
      refine AWp.ret ?_
      try simp only [thenQ, blockQ, noGo]
      refine bodyQ.m ?_
      clear hK3 K3 hK2 K2 hK1 K1
      rw [h]
      first | done | exact Hand.go
    · skip
      rw [hor] at c1
      have h : valueE c = .ok := by unfold valueE oddN; rw [if_pos h3, if_neg (by simpa using c1)]
      refine AWp.skip ?_
      refine hK1 _ ?_
      refine AWp.seqK fun K4 hK4 => ?_
      refine AWp.regionW ?_
      refine AWp.condT ?_
      refine AWp.regionW ?_
      refine AWp.ret ?_
      try simp only [thenQ, blockQ, noGo]
      refine bodyQ.m ?_
      clear hK4 K4 hK1 K1
      rw [h]
      first | done | exact Hand.go
  · skip
    have h3 : ¬ c.ty = 64 := by simpa using c0
    refine AWp.regionW ?_
    refine AWp.condLM (fun c2 => ?_) (fun c2 => ?_)
    · skip
      have h4 : c.ty = 194 := by simpa using c2
      obtain ⟨l1, l2⟩ := h194 h4
      have hv : oddN c = oddAt c.data c.data.length 4 := by unfold oddN; rw [if_neg h3, if_pos h4]
      refine AWp.scope ?_
      refine AWp.seq (AWp.label ?_)
      refine AWp.regionW ?_
      refine AWp.block ?_
      -- SLOTS THAT TURN AND ARE NOT TOLD: [5]
      refine AWp.loopK0 [2, 5] (fun (g : Nat × Nat) => [(6, nat g.2)]) (fun g => oddAt c.data c.data.length 4 = oddAt c.data g.1 g.2 ∧ g.2 ≤ c.data.length ∧ (c.data.length - g.2) % 8 = 0 ∧ c.data.length - g.2 ≤ g.1) (fun g => c.data.length - g.2) ((c.data.length, 4)) ?_ ⟨rfl, l1, l2, Nat.sub_le _ _⟩ ?_
      · skip
        refine Le.m 2 ?_ ?_
        · exact Go.Abs.evM
        · exact Go.Abs.evN
      · intro g hg K5 hK5
        obtain ⟨q, i⟩ := g
        dsimp only at hg ⊢
        obtain ⟨hg1, hg2, hg3, hg4⟩ := hg
        refine AWp.seqK fun K6 hK6 => ?_
        refine AWp.regionW ?_
        refine AWp.condLM (fun c3 => ?_) (fun c3 => ?_)
        · skip
          have hil : i < c.data.length := by simpa using c3
          obtain ⟨q, rfl⟩ : ∃ q', q = q' + 1 := ⟨q - 1, by omega⟩
          rw [oddAt, if_pos hil] at hg1
          have e2 : ((c.data.take (i + 4)).drop (i + 2)).length = 2 := by rw [List.length_drop, List.length_take]; omega
          have pc : peekN 2 ((c.data.take (i + 4)).drop (i + 2)) 0 = peekN 2 c.data (i + 2) := peek_cut c.data (i + 2) 0 2 (by omega) (by omega)
          have hns := numbers_n 2 ((c.data.take (i + 4)).drop (i + 2)) (by omega) (by omega) (by rw [e2])
          rw [nums_1a _ e2, pc] at hns
          refine AWp.skip ?_
          refine hK6 _ ?_
          refine AWp.seqK fun K7 hK7 => ?_
          refine AWp.block ?_
          refine AWp.regionM fun K8 hK8 => ?_
          refine ARun2.sliceM (i + 2) (i + 4) ?_ ?_ ?_
          · omega
          · rw [bys_len]; omega
          refine ARun2.callM (hns) ?_
          refine ARun2.indexM (0) (u32 (peekN 2 c.data (i + 2))) ?_ ?_
          · rfl
          refine ARun2.endm (hK8 _ ?_)
          refine AWp.condLM (fun c4 => ?_) (fun c4 => ?_)
          · skip
            have hp : 1 < peekN 2 c.data (i + 2) := by simpa using c4
            rw [if_pos hp] at hg1
            have h : valueE c = .flt 11 (4 + (i + 2)) := by unfold valueE; rw [hv, hg1]
            refine AWp.regionW ?_
            refine AWp.exit ?_
            try simp only [thenQ, blockQ, noGo, reduceIte, Nat.reduceEqDiff]
            try simp only [noGo]
            refine hK1 _ ?_
            refine AWp.seqK fun K9 hK9 => ?_
            refine AWp.regionW ?_
            refine AWp.condF ?_ (by simp only [push_cast, ↓reduceIte, Nat.reduceEqDiff, Nat.reduceLT, Nat.reduceAdd, Nat.reduceSub, Nat.reduceMul, Nat.reduceLeDiff, Nat.reducePow, Int.reduceLT, Int.reduceToNat, reduceCtorEq, Int.reduceNeg, Int.reduceEq, Nat.reduceBEq, Nat.reduceBNe, Int.reduceBEq, Int.reduceBNe, String.reduceEq])
            refine AWp.skip ?_
            refine hK9 _ ?_
            refine AWp.regionM fun K10 hK10 => ?_
            refine ARun2.callM (fnew_c 11 (4 + (i + 2))) ?_
            refine ARun2.endm (hK10 _ ?_)
            refine AWp.ret ?_
            try simp only [thenQ, blockQ, noGo]
            refine bodyQ.m ?_
            clear hK10 K10 hK9 K9 hK8 K8 hK7 K7 hK6 K6 hK5 K5 hK1 K1
            rw [h]
            first | done | exact Hand.go
          · skip
            have hp : ¬ 1 < peekN 2 c.data (i + 2) := by simpa using c4
            rw [if_neg hp] at hg1
            refine AWp.skip ?_
            refine hK7 _ ?_
            refine AWp.regionV ?_
            refine hK5 _ ((q, i + 8)) (⟨hg1, by show i + 8 ≤ _; omega, by show (c.data.length - (i + 8)) % 8 = 0; omega, by show c.data.length - (i + 8) ≤ q; omega⟩) (by show c.data.length - (i + 8) < c.data.length - i; omega) ?_
            refine Le.m 2 ?_ ?_
            · exact Go.Abs.evM
            · exact Go.Abs.evN
        · skip
          have hil : ¬ i < c.data.length := by simpa using c3
          have h : valueE c = .ok := by
            unfold valueE; rw [hv, hg1]
            cases q with
            | zero => rfl
            | succ q => rw [oddAt, if_neg hil]
          refine AWp.exit ?_
          try simp only [thenQ, blockQ, noGo, reduceIte, Nat.reduceEqDiff]
          try simp only [noGo]
          refine hK1 _ ?_
          refine AWp.seqK fun K11 hK11 => ?_
          refine AWp.regionW ?_
          refine AWp.condT ?_
          refine AWp.regionW ?_
          refine AWp.ret ?_
          try simp only [thenQ, blockQ, noGo]
          refine bodyQ.m ?_
          clear hK11 K11 hK6 K6 hK5 K5 hK1 K1
          rw [h]
          first | done | exact Hand.go
    · skip
      have h4 : ¬ c.ty = 194 := by simpa using c2
      have h : valueE c = .ok := by unfold valueE oddN; rw [if_neg h3, if_neg h4]
      refine AWp.skip ?_
      refine hK1 _ ?_
      refine AWp.seqK fun K12 hK12 => ?_
      refine AWp.regionW ?_
      refine AWp.condT ?_
      refine AWp.regionW ?_
      refine AWp.ret ?_
      try simp only [thenQ, blockQ, noGo]
      refine bodyQ.m ?_
      clear hK12 K12 hK1 K1
      rw [h]
      first | done | exact Hand.go
def fnsA (l : List FuncId) : List AV := l.map fun f => .fn (.func f) [] []
@[push_cast] theorem fnsA_len (l : List FuncId) : (fnsA l).length = l.length := by simp [fnsA]
theorem fnsA_at (l : List FuncId) (i : Nat) (h : i < l.length) : (fnsA l)[i]? = some (.fn (.func (l.getD i 0)) [] []) := by simp [fnsA, h]
@[push_cast] theorem fnsA_cons (f : FuncId) (l : List FuncId) : fnsA (f :: l) = .fn (.func f) [] [] :: fnsA l := rfl
@[push_cast] theorem fnsA_nil : fnsA [] = [] := rfl
@[push_cast] theorem fnsA_ids (p : Nat → Bool) (l : List FuncId) : AV.idsOkL p (fnsA l) = true := by
  rw [AV.idsOkL_iff]; intro x hx; simp only [fnsA, List.mem_map] at hx; obtain ⟨f, _, rfl⟩ := hx; rfl
@[push_cast] theorem fnsA_hand (ids : List Nat) (l : List FuncId) : AV.handL ids (fnsA l) = fnsA l := by
  rw [AV.handL_map, fnsA, List.map_map]; rfl
set_option maxRecDepth 100000 in
theorem cfirst_c (c : GChunk) (k : KForm) (fs : List FuncId) (ers : List Er) (hle : fs.length = ers.length) (hl : fs.length ≤ 2 ^ 40) (hc : ∀ i, i < fs.length → callable Tryz.prog (fs.getD i 0) = true)
    (h : ∀ i, i < fs.length → (∀ j, j < i → ers.getD j .ok = .ok) → PC Tryz.prog (fs.getD i 0) [chunkA false c, kformA k] (erA (ers.getD i .ok))) : PC Tryz.prog 55 [chunkA false c, kformA k, .sl false 1 (fnsA fs)] (erA (firstE ers)) := by
  refine PC.of_bodyW (by simp only [push_cast]) Tryz.func55 rfl (by rw [Tryz.ntmps55]; simp) ?_
  refine AWp.regionW ?_
  refine AWp.seqK fun K1 hK1 => ?_
  refine AWp.regionW ?_
  refine AWp.block ?_
  refine AWp.loopK0 [3, 4, 10, 11] (fun (i : Nat) => [(12, nat i)]) (fun i => i ≤ fs.length ∧ ∀ j, j < i → ers.getD j .ok = .ok) (fun i => fs.length - i) (0) ?_ ⟨Nat.zero_le _, fun j hj => by omega⟩ ?_
  · skip
    refine Le.m 2 ?_ ?_
    · exact Go.Abs.evM
    · exact Go.Abs.evN
  · intro i hi K2 hK2
    refine AWp.regionW ?_
    refine AWp.seqK fun K3 hK3 => ?_
    refine AWp.condLM (fun c0 => ?_) (fun c0 => ?_)
    · skip
      have hil : i < fs.length := by simpa using c0
      have hci := hc i hil
      have hpi := h i hil hi.2
      obtain ⟨f, hf⟩ : ∃ f, fs.getD i 0 = f := ⟨_, rfl⟩
      rw [hf] at hci hpi
      refine AWp.skip ?_
      refine hK3 _ ?_
      refine AWp.seqK fun K4 hK4 => ?_
      refine AWp.block ?_
      refine AWp.regionM fun K5 hK5 => ?_
      refine ARun2.indexM (i) (.fn (.func f) [] []) ?_ ?_
      · rw [← hf]; exact fnsA_at _ _ hil
      refine ARun2.endm (hK5 _ ?_)
      refine AWp.regionM fun K6 hK6 => ?_
      refine ARun2.callVM (hpi) ?_
      refine ARun2.endm (hK6 _ ?_)
      refine AWp.regionW ?_
      refine AWp.condLM (fun c1 => ?_) (fun c1 => ?_)
      · skip
        have he : ers.getD i .ok ≠ .ok := by intro h; rw [h] at c1; cases c1
        have hr := firstE_take ers i (by omega) hi.2 he
        refine AWp.regionW ?_
        refine AWp.ret ?_
        try simp only [thenQ, blockQ, noGo]
        refine bodyQ.m ?_
        clear hK6 K6 hK5 K5 hK4 K4 hK3 K3 hK2 K2 hK1 K1
        rw [hr]
        first | done | exact Hand.go
      · skip
        have he : ers.getD i .ok = .ok := by rw [← isOk_iff]; simpa using c1
        refine AWp.skip ?_
        refine hK4 _ ?_
        refine AWp.regionV ?_
        refine hK2 _ (i + 1) (⟨hil, fun j hj => (Nat.lt_or_ge j i).elim (hi.2 j) (fun h => (show i = j by omega) ▸ he)⟩) (by omega) ?_
        refine Le.m 2 ?_ ?_
        · exact Go.Abs.evM
        · exact Go.Abs.evN
    · skip
      have hil : i = fs.length := by have := hi.1; simp at c0; omega
      have hr := firstE_ok ers fun j hj => hi.2 j (by omega)
      refine AWp.exit ?_
      try simp only [thenQ, blockQ, noGo, reduceIte, Nat.reduceEqDiff]
      refine hK1 _ ?_
      refine AWp.regionW ?_
      refine AWp.ret ?_
      try simp only [thenQ, blockQ, noGo]
      refine bodyQ.m ?_
      clear hK3 K3 hK2 K2 hK1 K1
      rw [hr]
      first | done | exact Hand.go
theorem csize_c (c : GChunk) (hd : c.data.length ≤ 2 ^ 40) (hs : nSize c.kids ≤ 2 ^ 30) : PC Tryz.prog 26 [chunkA false c] (nat (4 + c.data.length + nSize c.kids)) := by
  refine PC.of_bodyW (by simp only [push_cast]) Tryz.func26 rfl (by rw [Tryz.ntmps26]; simp) ?_
  refine AWp.regionW ?_
  refine AWp.drS [[(1, none)], [(3, some 0)], [(4, some 1)], [(5, some 2)], [(1, none)], [(7, some 4)], [(8, some 5)], [(6, some 3), (9, some 6)], [(10, some 7)]] fun G hG => ?_
  refine Dr.sim ?_
  try simp only [List.cons_append, List.nil_append]
  refine Dr.sim ?_
  try simp only [List.cons_append, List.nil_append]
  refine Dr.sim ?_
  try simp only [List.cons_append, List.nil_append]
  refine Dr.sim ?_
  try simp only [List.cons_append, List.nil_append]
  refine Dr.sim ?_
  try simp only [List.cons_append, List.nil_append]
  refine Dr.sim ?_
  try simp only [List.cons_append, List.nil_append]
  refine Dr.call (size_c c.kids hs) ?_
  try simp only [List.cons_append, List.nil_append]
  refine Dr.sim ?_
  try simp only [List.cons_append, List.nil_append]
  refine Dr.sim ?_
  try simp only [List.cons_append, List.nil_append]
  refine Dr.finM (n := 9) [(2, 8)] [] hG YtoapdhogghbojaaGreatDoor.Facts.mixed fun KD hKD => ?_
  refine ARun2.endm (hKD _ ?_); clear hKD KD hG G
  refine AWp.ret ?_
  try simp only [thenQ, blockQ, noGo]
  refine bodyQ.m ?_
  first | done | exact Hand.go
theorem putB2 (x : Nat) : putB 2 x = twoB x := by
  simp [putB, twoB, List.range_succ]
theorem gap03_c (n : Nat) (h : n < 2 ^ 60) : PC Tryz.prog 106 [nat n] (nat (gapN n)) := by
  refine PC.of_bodyW (by simp only [push_cast]) Tryz.func106 rfl (by rw [Tryz.ntmps106]; simp) ?_
  refine AWp.regionW ?_
  refine AWp.regionW ?_
  refine AWp.seqK fun K1 hK1 => ?_
  refine AWp.block ?_
  refine AWp.loopK0 [0] (fun (i : Nat) => [(3, nat i)]) (fun i => i ≤ gapN n ∧ i ≤ 3) (fun i => gapN n - i) (0) ?_ ⟨Nat.zero_le _, by omega⟩ ?_
  · skip
    refine Le.m 0 ?_ ?_
    · exact Go.Abs.evM
    · exact Go.Abs.evN
  · intro i hi K2 hK2
    refine AWp.seqK fun K3 hK3 => ?_
    refine AWp.regionW ?_
    refine AWp.condLM (fun c0 => ?_) (fun c0 => ?_)
    · skip
      have h0 : i < gapN n := by have := hi.1; simp at c0; unfold gapN at *; omega
      refine AWp.skip ?_
      refine hK3 _ ?_
      refine AWp.block ?_
      refine AWp.regionV ?_
      refine hK2 _ (i + 1) (⟨h0, by have := gapN_le n; omega⟩) (by omega) ?_
      refine Le.m 0 ?_ ?_
      · exact Go.Abs.evM
      · exact Go.Abs.evN
    · skip
      have h0 : i = gapN n := by have := hi.1; simp at c0; unfold gapN at *; omega
      refine AWp.exit ?_
      try simp only [thenQ, blockQ, noGo, reduceIte, Nat.reduceEqDiff]
      refine hK1 _ ?_
      refine AWp.regionW ?_
      refine AWp.ret ?_
      try simp only [thenQ, blockQ, noGo]
      refine bodyQ.m ?_
      clear hK3 K3 hK2 K2 hK1 K1
      rw [h0]
      first | done | exact Hand.go
theorem right01_c (k : Nat) : PC Tryz.prog 92 [nat k] (bool (k == 1 || k == 2 || k == 4)) := by
  refine PC.of_bodyW (by simp only [push_cast]) Tryz.func92 rfl (by rw [Tryz.ntmps92]; simp) ?_
  refine AWp.regionW ?_
  refine AWp.regionA fun K1 hK1 => ?_
  refine ARun.segm 3 fun KS hKS => ?_
  refine ARun2.endm (hKS _ ?_); clear hKS KS
  apply ARun.grpM 2 2 false 7 [0, 5]
  · intro g2 KG hKG
    refine ARun2.gom ?_
    exact ARun2.endm (hKG _ Le.grpM)
  refine ARun.segm 2 fun KS hKS => ?_
  refine ARun2.endm (hKS _ ?_); clear hKS KS
  apply ARun.grpM 2 6 false 11 [9]
  · intro g6 KG hKG
    refine ARun2.gom ?_
    exact ARun2.endm (hKG _ Le.grpM)
  refine ARun2.gom ?_
  refine ARun2.endm (hK1 _ ?_)
  refine AWp.ret ?_
  try simp only [thenQ, blockQ, noGo]
  refine bodyQ.m ?_
  clear hK1 K1
  simp only [Bool.or_assoc]
  first | done | exact Hand.go
theorem mul8 {x : Nat} {b : UInt8} (h : x < 2 ^ 24) : IntKind.u32.wrap (IntKind.u32.wrap (N x * 256) + N b.toNat) = N (x * 256 + b.toNat) := by
  have := b.toNat_lt
  rw [IntKind.wrap_u32, IntKind.wrap_u32]; unfold N; omega
theorem number01_c (k : Nat) (l : List UInt8) (i : Nat) (hk : k = 1 ∨ k = 2 ∨ k = 4) (hl : l.length ≤ 2 ^ 40) (hi : i ≤ 2 ^ 40) :
    PC Tryz.prog 69 [.sl false 1 (bys l), nat i, nat k] (.tup [u32 (peekN k l i), bool (decide (i + k ≤ l.length))]) := by
  have hr : (k == 1 || k == 2 || k == 4) = true := by rcases hk with rfl | rfl | rfl <;> rfl
  refine PC.of_bodyW (by simp only [push_cast]) Tryz.func69 rfl (by rw [Tryz.ntmps69]; simp) ?_
  refine AWp.regionW ?_
  refine AWp.seqK fun K1 hK1 => ?_
  refine AWp.regionM fun K2 hK2 => ?_
  refine ARun2.callM (hr ▸ right01_c k) ?_
  refine ARun2.endm (hK2 _ ?_)
  refine AWp.condLM (fun c0 => ?_) (fun c0 => ?_)
  · skip
    have h0 : ¬ i + k ≤ l.length := by simpa using c0
    have e : peekN k l i = 0 := if_neg h0
    have e2 : decide (i + k ≤ l.length) = false := decide_eq_false h0
    refine AWp.regionW ?_
    refine AWp.ret ?_
    try simp only [thenQ, blockQ, noGo]
    refine bodyQ.m ?_
    clear hK2 K2 hK1 K1
    rw [e, e2]
    first | done | exact Hand.go
  · skip
    have h0 : i + k ≤ l.length := by simpa using c0
    have e : peekN k l i = beN ((l.drop i).take k) := if_pos h0
    have e2 : decide (i + k ≤ l.length) = true := decide_eq_true h0
    refine AWp.skip ?_
    refine hK1 _ ?_
    refine AWp.regionW ?_
    refine AWp.seqK fun K3 hK3 => ?_
    refine AWp.regionW ?_
    refine AWp.block ?_
    refine AWp.loopK0 [0, 1, 2] (fun (j : Nat) => [(9, nat j), (8, u32 (beN ((l.drop i).take j)))]) (fun j => j ≤ k) (fun j => k - j) (0) ?_ (Nat.zero_le _) ?_
    · skip
      refine Le.m 0 ?_ ?_
      · exact Go.Abs.evM
      · exact Go.Abs.evN
    · intro j hj K4 hK4
      refine AWp.seqK fun K5 hK5 => ?_
      refine AWp.regionW ?_
      refine AWp.condLM (fun c1 => ?_) (fun c1 => ?_)
      · skip
        have hjk : j < k := by simpa using c1
        have hlt : i + j < l.length := by omega
        have hjd : j < (l.drop i).length := by rw [List.length_drop]; omega
        have hx : beN ((l.drop i).take j) < 2 ^ 24 := Nat.lt_of_lt_of_le (beN_lt2 _ 3 (Nat.le_trans (List.length_take_le _ _) (by omega))) (by decide)
        have hs : beN ((l.drop i).take (j + 1)) = beN ((l.drop i).take j) * 256 + l[i + j].toNat := by
          rw [List.take_succ_eq_append_getElem hjd, beN_snoc, List.getElem_drop]
        refine AWp.skip ?_
        refine hK5 _ ?_
        refine AWp.seqK fun K6 hK6 => ?_
        refine AWp.block ?_
        refine AWp.regionN fun K7 hK7 => ?_
        refine ARun2.indexM (i + j) (.val (.int .u8 (N l[i + j].toNat))) ?_ ?_
        · exact bys_at _ _ hlt
        refine ARun2.endm (hK7 _ ?_)
        refine hK6 _ ?_
        refine AWp.regionV ?_
        refine hK4 _ (j + 1) (by omega) (by omega) ?_
        refine Le.m 0 ?_ ?_
        · exact Go.Abs.evM
        · simp only [push_cast, ↓reduceIte, Nat.reduceEqDiff, Nat.reduceLT, Nat.reduceAdd, Nat.reduceSub, Nat.reduceMul, Nat.reduceLeDiff, Nat.reducePow, Int.reduceLT, Int.reduceToNat, reduceCtorEq, Int.reduceNeg, Int.reduceEq, Nat.reduceBEq, Nat.reduceBNe, Int.reduceBEq, Int.reduceBNe, String.reduceEq]
          try simp (disch := omega) only [w_nat, w_add, w_addl, w_addr, w_sub, w_subl, w_mul, w_mull, w_mulr, w_u32, w_u16, w_u8, w_u32a, N_zero]
          rw [mul8 hx, hs]
      · skip
        have hjk : j = k := by simp at c1; omega
        subst hjk
        refine AWp.exit ?_
        try simp only [thenQ, blockQ, noGo, reduceIte, Nat.reduceEqDiff]
        refine hK3 _ ?_
        refine AWp.regionW ?_
        refine AWp.ret ?_
        try simp only [thenQ, blockQ, noGo]
        refine bodyQ.m ?_
        clear hK5 K5 hK4 K4 hK3 K3 hK2 K2 hK1 K1
        rw [e, e2]
        first | done | exact Hand.go
def countedR (d : List UInt8) : Bool := decide (4 ≤ d.length ∧ 2 * peekN 4 d 0 = d.length - 4)
theorem counted08_c (d : List UInt8) (hl : d.length ≤ 2 ^ 40) : PC Tryz.prog 112 [.sl false 1 (bys d)] (bool (countedR d)) := by
  have hp := peekN_lt 4 d 0 (by omega)
  have hc : (N (2 * peekN 4 d 0) == IntKind.i64.wrap (N d.length - 4)) = countedR d := by
    unfold countedR
    rw [IntKind.wrap_i64, Bool.eq_iff_iff, beq_iff_eq, decide_eq_true_iff]
    unfold N; omega
  refine PC.of_bodyW (by simp only [push_cast]) Tryz.func112 rfl (by rw [Tryz.ntmps112]; simp) ?_
  refine AWp.regionW ?_
  refine AWp.regionM fun K1 hK1 => ?_
  refine ARun2.callM (number01_c 4 d 0 (by omega) hl (by omega)) ?_
  refine ARun2.endm (hK1 _ ?_)
  refine AWp.regionW ?_
  refine AWp.ret ?_
  try simp only [thenQ, blockQ, noGo]
  refine bodyQ.m ?_
  clear hK1 K1
  rw [hc]
  first | done | exact Hand.go
theorem inside08_c (k : Nat) (hk : k ≤ 4) : PC Tryz.prog 113 [nat k] (nat (insideN k).1) := by
  have hq : (insideN k).1 = if k = 3 then 2 else if k = 0 then 0 else 1 := by
    have h : k = 0 ∨ k = 1 ∨ k = 2 ∨ k = 3 ∨ k = 4 := by omega
    rcases h with rfl | rfl | rfl | rfl | rfl <;> rfl
  refine PC.of_bodyW (by simp only [push_cast]) Tryz.func113 rfl (by rw [Tryz.ntmps113]; simp) ?_
  refine AWp.regionW ?_
  refine AWp.seqK fun K1 hK1 => ?_
  refine AWp.regionW ?_
  refine AWp.condLM (fun c0 => ?_) (fun c0 => ?_)
  · skip
    refine AWp.regionW ?_
    refine AWp.ret ?_
    try simp only [thenQ, blockQ, noGo]
    refine bodyQ.m ?_
    clear hK1 K1
    rw [hq, if_pos (by simpa using c0)]
    first | done | exact Hand.go
  · skip
    refine AWp.skip ?_
    refine hK1 _ ?_
    refine AWp.seqK fun K2 hK2 => ?_
    refine AWp.regionW ?_
    refine AWp.condLM (fun c1 => ?_) (fun c1 => ?_)
    · skip
      refine AWp.regionW ?_
      refine AWp.ret ?_
      try simp only [thenQ, blockQ, noGo]
      refine bodyQ.m ?_
      clear hK2 K2 hK1 K1
      rw [hq, if_neg (by simpa using c0), if_pos (by simpa using c1)]
      first | done | exact Hand.go
    · skip
      refine AWp.skip ?_
      refine hK2 _ ?_
      refine AWp.regionW ?_
      refine AWp.ret ?_
      try simp only [thenQ, blockQ, noGo]
      refine bodyQ.m ?_
      clear hK2 K2 hK1 K1
      rw [hq, if_neg (by simpa using c0), if_neg (by simpa using c1)]
      first | done | exact Hand.go
theorem fits07_c (f : ShForm) (n : Nat) (hn : n < 2 ^ 40) (hl : f.least < 2 ^ 40) (hm : f.most < 2 ^ 40) (hu : 0 < f.unit) (hu2 : f.unit < 2 ^ 40) : PC Tryz.prog 111 [formA f, nat n] (bool (fitsN f n)) := by
  refine PC.of_bodyW (by simp only [push_cast]) Tryz.func111 rfl (by rw [Tryz.ntmps111]; simp) ?_
  refine AWp.regionW ?_
  refine AWp.seqK fun K1 hK1 => ?_
  refine AWp.regionW ?_
  refine AWp.block ?_
  refine AWp.loopK [1, 2] (fun (i : Nat) => [(5, nat (f.least + i * f.unit))]) (fun i => [.box 173 [nat f.cls, u16 f.ty, .val (.string f.name), nat f.least, nat f.most, nat f.unit, nat f.kids]]) (fun i => ∀ j, j < i → f.least + j * f.unit ≠ n) (fun i => f.most + 1 - (f.least + i * f.unit)) (0) ?_ (fun j h => by omega) ?_
  · skip
    refine Le.m 1 ?_ ?_
    · exact Go.Abs.evM
    · simp only [push_cast, ↓reduceIte, Nat.reduceEqDiff, Nat.reduceLT, Nat.reduceAdd, Nat.reduceSub, Nat.reduceMul, Nat.reduceLeDiff, Nat.reducePow, Int.reduceLT, Int.reduceToNat, reduceCtorEq, Int.reduceNeg, Int.reduceEq, Nat.reduceBEq, Nat.reduceBNe, Int.reduceBEq, Int.reduceBNe, String.reduceEq]
      try simp (disch := omega) only [w_nat, w_add, w_addl, w_addr, w_sub, w_subl, w_mul, w_mull, w_mulr, w_u32, w_u16, w_u8, w_u32a, N_zero]
      simp only [Nat.zero_mul, Nat.add_zero]
  · intro i hi K2 hK2
    refine AWp.seqK fun K3 hK3 => ?_
    refine AWp.regionW ?_
    refine AWp.condLM (fun c0 => ?_) (fun c0 => ?_)
    · skip
      have h0 : f.least + i * f.unit ≤ f.most := by simpa using c0
      have hs : (i + 1) * f.unit = i * f.unit + f.unit := by rw [Nat.add_mul, Nat.one_mul]
      refine AWp.skip ?_
      refine hK3 _ ?_
      refine AWp.seqK fun K4 hK4 => ?_
      refine AWp.block ?_
      refine AWp.regionW ?_
      refine AWp.condLM (fun c1 => ?_) (fun c1 => ?_)
      · skip
        have h1 : f.least + i * f.unit = n := by simpa using c1
        have hf : fitsN f n = true := by
          have e : n - f.least = i * f.unit := by omega
          unfold fitsN
          rw [e, Nat.mul_mod_left]
          simp
          omega
        refine AWp.regionW ?_
        refine AWp.ret ?_
        try simp only [thenQ, blockQ, noGo]
        refine bodyQ.m ?_
        clear hK4 K4 hK3 K3 hK2 K2 hK1 K1
        rw [hf]
        first | done | exact Hand.go
      · skip
        have h1 : f.least + i * f.unit ≠ n := by simpa using c1
        refine AWp.skip ?_
        refine hK4 _ ?_
        refine AWp.regionV ?_
        refine hK2 _ (i + 1) ((fun j hj => (Nat.lt_or_ge j i).elim (fun h => hi j h) (fun h => (show j = i by omega) ▸ h1))) (by omega) ?_
        refine Le.m 1 ?_ ?_
        · exact Go.Abs.evM
        · simp only [push_cast, ↓reduceIte, Nat.reduceEqDiff, Nat.reduceLT, Nat.reduceAdd, Nat.reduceSub, Nat.reduceMul, Nat.reduceLeDiff, Nat.reducePow, Int.reduceLT, Int.reduceToNat, reduceCtorEq, Int.reduceNeg, Int.reduceEq, Nat.reduceBEq, Nat.reduceBNe, Int.reduceBEq, Int.reduceBNe, String.reduceEq]
          try simp (disch := omega) only [w_nat, w_add, w_addl, w_addr, w_sub, w_subl, w_mul, w_mull, w_mulr, w_u32, w_u16, w_u8, w_u32a, N_zero]
          rw [hs, ← Nat.add_assoc]
    · skip
      have h0 : f.most < f.least + i * f.unit := by simpa using c0
      have hf : fitsN f n = false := by
        unfold fitsN
        by_cases h2 : f.least ≤ n ∧ n ≤ f.most
        · have h3 : (n - f.least) % f.unit ≠ 0 := by
            intro h3
            obtain ⟨j, hj⟩ := Nat.dvd_of_mod_eq_zero h3
            rw [Nat.mul_comm] at hj
            have hlt : j < i := by
              rcases Nat.lt_or_ge j i with h | h
              · exact h
              · have := Nat.mul_le_mul_right f.unit h
                omega
            exact hi j hlt (by omega)
          simp [h3]
        · rcases Nat.lt_or_ge n f.least with h4 | h4
          · simp; omega
          · simp; omega
      refine AWp.exit ?_
      try simp only [thenQ, blockQ, noGo, reduceIte, Nat.reduceEqDiff]
      refine hK1 _ ?_
      refine AWp.regionW ?_
      refine AWp.ret ?_
      try simp only [thenQ, blockQ, noGo]
      refine bodyQ.m ?_
      clear hK3 K3 hK2 K2 hK1 K1
      rw [hf]
      first | done | exact Hand.go
theorem kidsOk_eq (f : ShForm) (l : List GNode) (hf : f.kids ≤ 4) : kidsOk f l =
    if f.kids = 0 then l.length == 0 else if f.kids = 1 then l.length == 1 else if f.kids = 4 then (l.length == 1 && ((l.headD default).ty == 5 || (l.headD default).ty == 6)) else (decide (1 ≤ l.length) && decide (l.length ≤ 16384)) := by
  have key : ∀ k n : Nat, k ≤ 4 → ∀ b : Bool, (decide ((insideN k).2.1 ≤ n) && decide (n ≤ (insideN k).2.2) && (k != 4 || b)) = if k = 0 then n == 0 else if k = 1 then n == 1 else if k = 4 then (n == 1 && b) else (decide (1 ≤ n) && decide (n ≤ 16384)) := by
    intro k n hk b
    have h : k = 0 ∨ k = 1 ∨ k = 2 ∨ k = 3 ∨ k = 4 := by omega
    have h1 : (decide (1 ≤ n) && decide (n ≤ 1)) = (n == 1) := by rw [Bool.eq_iff_iff]; simp; omega
    rcases h with rfl | rfl | rfl | rfl | rfl
    · rw [Bool.eq_iff_iff]; simp [insideN]
    · rw [Bool.eq_iff_iff]; simp [insideN]; omega
    · simp [insideN]
    · simp [insideN]
    · simp [insideN, ← h1]
  unfold kidsOk
  rw [Bool.or_assoc]
  exact key _ _ hf _
theorem wanted_c (f : ShForm) (l : List GNode) (hl : l.length ≤ 2 ^ 40) (hf : f.kids ≤ 4) : PC Tryz.prog 114 [formA f, .sl false 3 (nodesA false l)] (bool (kidsOk f l)) := by
  have hq := kidsOk_eq f l hf
  refine PC.of_bodyW (by simp only [push_cast]) Tryz.func114 rfl (by rw [Tryz.ntmps114]; simp) ?_
  refine AWp.regionW ?_
  refine AWp.seqK fun K1 hK1 => ?_
  refine AWp.regionW ?_
  refine AWp.block ?_
  refine AWp.regionW ?_
  refine AWp.condLM (fun c0 => ?_) (fun c0 => ?_)
  · skip
    have h0 : f.kids = 0 := by simpa using c0
    refine AWp.regionW ?_
    refine AWp.ret ?_
    try simp only [thenQ, blockQ, noGo]
    refine bodyQ.m ?_
    clear hK1 K1
    rw [hq, if_pos h0]
    first | done | exact Hand.go
  · skip
    have h0 : ¬ f.kids = 0 := by simpa using c0
    refine AWp.regionW ?_
    refine AWp.condLM (fun c1 => ?_) (fun c1 => ?_)
    · skip
      have h1 : f.kids = 1 := by simpa using c1
      refine AWp.regionW ?_
      refine AWp.ret ?_
      try simp only [thenQ, blockQ, noGo]
      refine bodyQ.m ?_
      clear hK1 K1
      rw [hq, if_neg h0, if_pos h1]
      first | done | exact Hand.go
    · skip
      have h1 : ¬ f.kids = 1 := by simpa using c1
      refine AWp.regionW ?_
      refine AWp.condLM (fun c2 => ?_) (fun c2 => ?_)
      · skip
        have h2 : f.kids = 4 := by simpa using c2
        refine AWp.regionA fun K2 hK2 => ?_
        refine ARun.segm 4 fun KS hKS => ?_
        refine ARun2.endm (hKS _ ?_); clear hKS KS
        apply ARun.grpM 12 3 true 34 [22]
        · intro g3 KG hKG
          have hne : 0 < l.length := by have := beq_iff_eq.1 g3; omega
          refine ARun.segm 6 fun KS hKS => ?_
          refine ARun2.indexM (0) (nodeA false (l.headD default)) ?_ ?_
          · exact nodesA_head _ _ hne
          refine ARun2.endm (hKS _ ?_); clear hKS KS
          apply ARun.grpM 5 9 false 33 [22, 28]
          · intro g9 KG hKG
            refine ARun2.gom ?_
            refine ARun2.indexM (0) (nodeA false (l.headD default)) ?_ ?_
            · exact nodesA_head _ _ hne
            exact ARun2.endm (hKG _ Le.grpM)
          refine ARun2.gom ?_
          exact ARun2.endm (hKG _ Le.grpM)
        refine ARun2.gom ?_
        refine ARun2.endm (hK2 _ ?_)
        refine AWp.ret ?_
        try simp only [thenQ, blockQ, noGo]
        refine bodyQ.m ?_
        clear hK2 K2 hK1 K1
        rw [hq, if_neg h0, if_neg h1, if_pos h2]
        first | done | exact Hand.go
      · skip
        have h2 : ¬ f.kids = 4 := by simpa using c2
        refine AWp.skip ?_
        refine hK1 _ ?_
        refine AWp.regionA fun K3 hK3 => ?_
        refine ARun.segm 4 fun KS hKS => ?_
        refine ARun2.endm (hKS _ ?_); clear hKS KS
        apply ARun.grpM 3 3 true 42 [39]
        · intro g3 KG hKG
          refine ARun2.gom ?_
          exact ARun2.endm (hKG _ Le.grpM)
        refine ARun2.gom ?_
        refine ARun2.endm (hK3 _ ?_)
        refine AWp.ret ?_
        try simp only [thenQ, blockQ, noGo]
        refine bodyQ.m ?_
        clear hK3 K3 hK1 K1
        rw [hq, if_neg h0, if_neg h1, if_neg h2]
        first | done | exact Hand.go
def refForms : List ShForm := paramForms.map (fun f => { f with cls := 1 }) ++ causeForms.map (fun f => { f with cls := 2 })
set_option maxRecDepth 100000 in
set_option maxHeartbeats 1000000 in
theorem table07_c : PC Tryz.prog 136 [] (.sl false 7 (formsA refForms)) := by
  refine PC.of_bodyW (by simp only [push_cast]) Tryz.func136 rfl (by rw [Tryz.ntmps136]; simp) ?_
  refine AWp.regionW ?_
  refine AWp.regionW ?_
  refine AWp.regionW ?_
  refine AWp.ret ?_
  try simp only [thenQ, blockQ, noGo]
  refine bodyQ.m ?_
  simp only [refForms, formsA, paramForms, causeForms, List.map_cons, List.map_nil, List.cons_append, List.nil_append]
  first | done | exact Hand.go
theorem refOf_eq (c t : Nat) (hc : c = 1 ∨ c = 2) : (refForms.find? fun f => f.cls == c && f.ty == t).getD zeroForm = shapeOf c t := by
  have key : ∀ (l : List ShForm) (c' : Nat), (l.map (fun f => { f with cls := c' })).find? (fun f => f.cls == c && f.ty == t) = if c' = c then (l.find? fun f => f.ty == t).map (fun f => { f with cls := c' }) else none := by
    intro l c'
    induction l with
    | nil => simp
    | cons a l ih =>
      by_cases h : c' = c
      · subst h
        simp only [if_true] at ih
        by_cases ht : a.ty = t
        · simp [List.find?_cons, ht]
        · have ht' : (a.ty == t) = false := by simpa using ht
          simp [List.find?_cons, ht', ih]
      · have hcc : (c' == c) = false := by simpa using h
        simp only [if_neg h] at ih ⊢
        simp [List.find?_cons, hcc, ih]
  unfold refForms shapeOf
  rw [List.find?_append, key, key]
  rcases hc with rfl | rfl
  · simp [formsN]
  · simp [formsN]
theorem of07_c (c t : Nat) (hc : c = 1 ∨ c = 2) : PC Tryz.prog 110 [nat c, u16 t] (formA (shapeOf c t)) := by
  have hlen : refForms.length ≤ 2 ^ 40 := by decide
  have hq := refOf_eq c t hc
  refine PC.of_bodyW (by simp only [push_cast]) Tryz.func110 rfl (by rw [Tryz.ntmps110]; simp) ?_
  refine AWp.regionW ?_
  refine AWp.regionM fun K1 hK1 => ?_
  refine ARun2.callM (table07_c) ?_
  refine ARun2.endm (hK1 _ ?_)
  refine AWp.seqK fun K2 hK2 => ?_
  refine AWp.regionW ?_
  refine AWp.block ?_
  refine AWp.loopK0 [0, 1, 4, 5] (fun (i : Nat) => [(6, nat i)]) (fun i => i ≤ refForms.length ∧ refForms.find? (fun f => f.cls == c && f.ty == t) = (refForms.drop i).find? fun f => f.cls == c && f.ty == t) (fun i => refForms.length - i) (0) ?_ ⟨Nat.zero_le _, rfl⟩ ?_
  · skip
    refine Le.m 1 ?_ ?_
    · exact Go.Abs.evM
    · exact Go.Abs.evN
  · intro i hi K3 hK3
    refine AWp.seqK fun K4 hK4 => ?_
    refine AWp.regionW ?_
    refine AWp.condLM (fun c0 => ?_) (fun c0 => ?_)
    · skip
      have hil : i < refForms.length := by simpa using c0
      have hd : refForms.drop i = refForms[i] :: refForms.drop (i + 1) := List.drop_eq_getElem_cons hil
      refine AWp.skip ?_
      refine hK4 _ ?_
      refine AWp.seqK fun K5 hK5 => ?_
      refine AWp.block ?_
      refine AWp.regionA fun K6 hK6 => ?_
      refine ARun.segm 8 fun KS hKS => ?_
      refine ARun2.indexM (i) (formA refForms[i]) ?_ ?_
      · exact formsA_at _ _ hil
      refine ARun2.endm (hKS _ ?_); clear hKS KS
      apply ARun.grpM 7 7 true 28 [0, 1, 4, 5, 6, 21]
      · intro g7 KG hKG
        refine ARun2.gom ?_
        refine ARun2.indexM (i) (formA refForms[i]) ?_ ?_
        · exact formsA_at _ _ hil
        exact ARun2.endm (hKG _ Le.grpM)
      refine ARun2.gom ?_
      refine ARun2.endm (hK6 _ ?_)
      refine AWp.condLM (fun c1 => ?_) (fun c1 => ?_)
      · skip
        have h1 : (refForms[i].cls == c && refForms[i].ty == t) = true := by simpa using c1
        have hv : shapeOf c t = refForms[i] := by rw [← hq, hi.2, hd, List.find?_cons, h1]; rfl
        refine AWp.regionM fun K7 hK7 => ?_
        refine ARun2.indexM (i) (formA refForms[i]) ?_ ?_
        · exact formsA_at _ _ hil
        refine ARun2.endm (hK7 _ ?_)
        refine AWp.ret ?_
        try simp only [thenQ, blockQ, noGo]
        refine bodyQ.m ?_
        clear hK7 K7 hK6 K6 hK5 K5 hK4 K4 hK3 K3 hK2 K2 hK1 K1
        rw [hv]
        first | done | exact Hand.go
      · skip
        have h1 : (refForms[i].cls == c && refForms[i].ty == t) = false := by simpa using c1
        refine AWp.skip ?_
        refine hK5 _ ?_
        refine AWp.regionV ?_
        refine hK3 _ (i + 1) (⟨by omega, by rw [hi.2, hd, List.find?_cons, h1]⟩) (by omega) ?_
        refine Le.m 1 ?_ ?_
        · exact Go.Abs.evM
        · exact Go.Abs.evN
    · skip
      have hil : refForms.length ≤ i := by simpa using c0
      have hv : shapeOf c t = zeroForm := by rw [← hq, hi.2, List.drop_of_length_le hil]; rfl
      refine AWp.exit ?_
      try simp only [thenQ, blockQ, noGo, reduceIte, Nat.reduceEqDiff]
      refine hK2 _ ?_
      refine AWp.regionW ?_
      refine AWp.ret ?_
      try simp only [thenQ, blockQ, noGo]
      refine bodyQ.m ?_
      clear hK4 K4 hK3 K3 hK2 K2 hK1 K1
      rw [hv]
      first | done | exact Hand.go
theorem form_small (c t : Nat) : (shapeOf c t).kids ≤ 4 ∧ (shapeOf c t).least < 2 ^ 40 ∧ (shapeOf c t).most < 2 ^ 40 ∧ (shapeOf c t).unit < 2 ^ 40 ∧ (shapeHas c t = true → (shapeOf c t).cls = c ∧ 0 < (shapeOf c t).unit) ∧ (shapeHas c t = false → shapeOf c t = zeroForm) := by
  have key : ∀ l : List ShForm, (∀ f ∈ l, f.kids ≤ 4 ∧ f.least < 2 ^ 40 ∧ f.most < 2 ^ 40 ∧ f.unit < 2 ^ 40 ∧ 0 < f.unit) →
      let g := (((l.find? fun f => f.ty == t).map fun f => { f with cls := c }).getD zeroForm)
      g.kids ≤ 4 ∧ g.least < 2 ^ 40 ∧ g.most < 2 ^ 40 ∧ g.unit < 2 ^ 40 ∧ ((l.find? fun f => f.ty == t).isSome = true → g.cls = c ∧ 0 < g.unit) ∧ ((l.find? fun f => f.ty == t).isSome = false → g = zeroForm) := by
    intro l hl
    cases hf : l.find? (fun f => f.ty == t) with
    | none => simp [zeroForm]
    | some f =>
      have := hl f (List.mem_of_find?_eq_some hf)
      simp
      omega
  refine key (formsN c) ?_
  match c with
  | 0 => intro f hf; simp [formsN] at hf
  | 1 => decide
  | 2 => decide
  | _ + 3 => intro f hf; simp [formsN] at hf
theorem counted_eq (c t : Nat) (d : List UInt8) (k : List GNode) (h : badN c t d.length k = false) (hc : c = 2) (ht : t = 2) : (!countedR d) = countedN c t d := by
  subst hc; subst ht
  have hf : fitsN (shapeOf 2 2) d.length = true := by
    unfold badN at h
    have : shapeHas 2 2 = true := rfl
    rw [this] at h
    cases hq : fitsN (shapeOf 2 2) d.length with
    | true => rfl
    | false => rw [hq] at h; simp at h
  have hl : 6 ≤ d.length ∧ (d.length - 6) % 2 = 0 := by
    have e : shapeOf 2 2 = ⟨2, 2, ⟨#[109, 105, 115, 115, 105, 110, 103, 45, 112, 97, 114, 97, 109, 101, 116, 101, 114]⟩, 6, 65531, 2, 0⟩ := rfl
    rw [e] at hf
    unfold fitsN at hf
    simp only [Bool.and_eq_true, decide_eq_true_eq, beq_iff_eq] at hf
    exact ⟨hf.1.1, hf.2⟩
  unfold countedR countedN
  rw [Bool.eq_iff_iff]
  simp
  omega
theorem putB2_be (a b : UInt8) : putB 2 (beN [a, b]) = [a, b] := by
  have ha := a.toNat_lt
  have hb := b.toNat_lt
  rw [putB2, twoB]
  have e : beN [a, b] = a.toNat * 256 + b.toNat := by simp [beN]
  rw [e]
  congr 1
  · apply UInt8.toNat_inj.1; rw [UInt8.toNat_ofNat']; omega
  · congr 1; apply UInt8.toNat_inj.1; rw [UInt8.toNat_ofNat']; omega
end Go.Proofs.YtoapdhogghbojaaGreatDoor.C
namespace Go.Abs
@[push_cast] theorem bys_fresh (l : List UInt8) : AV.freshL (bys l) = true := by
  unfold bys
  induction l with
  | nil => rfl
  | cons x l ih => simp only [List.map_cons, AV.freshL, AV.fresh, ih]; rfl
@[push_cast] theorem bys_ones (l : List UInt8) : (bys l).all AV.one = true := by
  unfold bys
  rw [List.all_eq_true]; intro x hx; simp only [List.mem_map] at hx; obtain ⟨b, _, rfl⟩ := hx; rfl
mutual
theorem nodeA_fresh : ∀ n : GNode, (nodeA true n).fresh = true
  | .mk t d k => by simp only [nodeA, AV.fresh, AV.freshL, bys_fresh, nodesA_fresh k, Bool.and_true]
theorem nodesA_fresh : ∀ l : List GNode, AV.freshL (nodesA true l) = true
  | [] => by simp [nodesA, AV.freshL]
  | n :: l => by simp only [nodesA, AV.freshL, nodeA_fresh n, nodesA_fresh l, Bool.and_true]
end
attribute [push_cast] nodesA_fresh
end Go.Abs
namespace Go.Proofs.YtoapdhogghbojaaGreatDoor.C
open Go.Abs
theorem nclone_fstep (n : GNode) (hs : n.sz ≤ 2 ^ 40) (ih : ∀ a : GNode, a.sz < n.sz → PC Tryz.prog 81 [nodeA false a] (nodeA true a)) : PC Tryz.prog 81 [nodeA false n] (nodeA true n) := by
  have hsz := n.sz_eq
  have hlen := szs_len n.kids
  refine PC.of_bodyK (by simp only [push_cast]) Tryz.func81 rfl (by rw [Tryz.ntmps81]; simp) ?_
  refine AWp.regionW ?_
  refine AWp.drS [[(1, none)], [(6, some 0)], [(1, none)], [(8, some 2)], [(9, some 3)], [(7, some 1), (10, some 4)], []] fun G hG => ?_
  refine Dr.sim ?_
  try simp only [List.cons_append, List.nil_append]
  refine Dr.sim ?_
  try simp only [List.cons_append, List.nil_append]
  refine Dr.sim ?_
  try simp only [List.cons_append, List.nil_append]
  refine Dr.sim ?_
  try simp only [List.cons_append, List.nil_append]
  refine Dr.call (clone_c n.data (by omega)) ?_
  try simp only [List.cons_append, List.nil_append]
  refine Dr.sim ?_
  try simp only [List.cons_append, List.nil_append]
  refine Dr.al ?_
  try simp only [List.cons_append, List.nil_append]
  refine Dr.finA (n := 7) 6 [(11, 5), (3, 6)] [1, 2] hG YtoapdhogghbojaaGreatDoor.Facts.mixed fun KD hKD => ?_
  refine ARun2.endm (hKD _ ?_); clear hKD KD hG G
  refine AWp.seqK fun K1 hK1 => ?_
  refine AWp.regionW ?_
  refine AWp.block ?_
  refine AWp.nilBox 2 2 63 3 rfl rfl ?_
  simp only [push_cast, ↓reduceIte, Nat.reduceEqDiff, Nat.reduceLT, Nat.reduceAdd, Nat.reduceSub, Nat.reduceMul, Nat.reduceLeDiff, Nat.reducePow, Int.reduceLT, Int.reduceToNat, reduceCtorEq, Int.reduceNeg, Int.reduceEq, Nat.reduceBEq, Nat.reduceBNe, Int.reduceBEq, Int.reduceBNe, String.reduceEq]
  refine AWp.loopK [2, 3, 13, 14] (fun (i : Nat) => [(15, nat i)]) (fun i => [.box 63 [u16 n.ty, .sl false 1 (bys n.data), .sl false 3 (nodesA false n.kids)], .box 63 [.val (.int .u16 0), .val (.slice none 0 0), .val (.slice none 0 0)], .box 63 [u16 n.ty, .sl true 1 (bys n.data), .own 3], .row 63 3 (nodesA true (n.kids.take i))]) (fun i => i ≤ n.kids.length) (fun i => n.kids.length - i) (0) ?_ (Nat.zero_le _) ?_
  · skip
    refine Le.m 4 ?_ ?_
    · exact Go.Abs.evM
    · exact Go.Abs.evN
  · intro i hi K2 hK2
    refine AWp.regionW ?_
    refine AWp.seqK fun K3 hK3 => ?_
    refine AWp.condLM (fun c0 => ?_) (fun c0 => ?_)
    · skip
      have hil : i < n.kids.length := by simpa using c0
      refine AWp.skip ?_
      refine hK3 _ ?_
      refine AWp.seqK fun K4 hK4 => ?_
      refine AWp.block ?_
      refine AWp.regionM fun K5 hK5 => ?_
      refine ARun2.indexM (i) (nodeA false n.kids[i]) ?_ ?_
      · exact nodesA_at _ _ _ hil
      refine ARun2.endm (hK5 _ ?_)
      refine AWp.drE [[(3, none)], [(19, some 0)], [(5, none)], [(21, some 2)], [(22, some 3)]] fun G hG => ?_
      refine Dr.sim ?_
      try simp only [List.cons_append, List.nil_append]
      refine Dr.sim ?_
      try simp only [List.cons_append, List.nil_append]
      refine Dr.sim ?_
      try simp only [List.cons_append, List.nil_append]
      refine Dr.call (ih n.kids[i] (szs_lt (List.getElem_mem hil))) ?_
      try simp only [List.cons_append, List.nil_append]
      refine Dr.build ?_
      try simp only [List.cons_append, List.nil_append]
      refine Dr.finN (n := 5) [(20, 1), (23, 4)] [2, 3, 13, 14, 15] hG YtoapdhogghbojaaGreatDoor.Facts.mixed fun KD hKD => ?_
      refine ARun2.appendM ?_ ?_ ?_
      · rw [YtoapdhogghbojaaGreatDoor.Facts.eb29, nodesA_len, List.length_take, List.length_cons, List.length_nil]; omega
      · rw [nodesA_len, List.length_take, List.length_cons, List.length_nil]; omega
      refine ARun2.endm (hKD _ ?_); clear hKD KD hG G
      refine hK4 _ ?_
      refine AWp.regionV ?_
      refine hK2 _ (i + 1) (by omega) (by omega) ?_
      refine Le.m 4 ?_ ?_
      · try simp only [push_cast, ↓reduceIte, Nat.reduceEqDiff, Nat.reduceLT, Nat.reduceAdd, Nat.reduceSub, Nat.reduceMul, Nat.reduceLeDiff, Nat.reducePow, Int.reduceLT, Int.reduceToNat, reduceCtorEq, Int.reduceNeg, Int.reduceEq, Nat.reduceBEq, Nat.reduceBNe, Int.reduceBEq, Int.reduceBNe, String.reduceEq]
        try simp (disch := omega) only [w_nat, w_add, w_addl, w_addr, w_sub, w_subl, w_mul, w_mull, w_mulr, w_u32, w_u16, w_u8, w_u32a, N_zero]
        first | done | skip
        rw [List.take_succ_eq_append_getElem hil, nodesA_snoc, nodeA_eq]
      · exact Go.Abs.evN
    · skip
      have hil : i = n.kids.length := by simp at c0; omega
      subst hil
      refine AWp.exit ?_
      try simp only [thenQ, blockQ, noGo, reduceIte, Nat.reduceEqDiff]
      refine hK1 _ ?_
      refine AWp.pubD 3 ?_
      refine AWp.regionW ?_
      refine AWp.ret ?_
      try simp only [thenQ, blockQ, noGo]
      refine bodyQ.m ?_
      clear hK3 K3 hK2 K2 hK1 K1
      rw [List.take_length]
      first | done | exact Wk.go
theorem nclone_fw : ∀ (w : Nat) (n : GNode), n.sz ≤ w → n.sz ≤ 2 ^ 40 → PC Tryz.prog 81 [nodeA false n] (nodeA true n) := by
  intro w
  induction w with
  | zero => intro n h; have := n.sz_eq; omega
  | succ w ih => exact fun n hw hs => nclone_fstep n hs (fun a h => ih a (by omega) (by omega))
theorem nclone_f (n : GNode) (hs : n.sz ≤ 2 ^ 40) : PC Tryz.prog 81 [nodeA false n] (nodeA true n) := nclone_fw _ n (Nat.le_refl _) hs
def classOf (t : Nat) : Nat := (kinsideN (kindOf t).kids).1
def preE (c : GChunk) : Er := firstE [flagsE c (kindOf c.ty), dataE c (kindOf c.ty), kidsE c (kindOf c.ty), countE c, valueE c]
def startC (c : GChunk) : Nat := if kindHas c.ty = true then (preE c).codeOf.1 else if 0 < c.kids.length then 7 else 0
def checkC (c : GChunk) : Nat :=
  if startC c ≠ 0 then startC c else if checkL (classOf c.ty) 1 c.kids ≠ 0 then checkL (classOf c.ty) 1 c.kids
  else if 65535 < 4 + c.data.length + nSize c.kids then 4 else 0
def Er.isN : Er → Bool
  | .ok => true
  | .code c => c != 0
  | .flt c _ => c != 0
theorem firstE_isN : ∀ l : List Er, (∀ e ∈ l, e.isN = true) → (firstE l).isN = true
  | [], _ => rfl
  | e :: l, h => by
    rw [firstE]
    split
    · exact firstE_isN l fun x hx => h x (by simp [hx])
    · exact h e (by simp)
theorem preE_isN (c : GChunk) : (preE c).isN = true := by
  refine firstE_isN _ fun e he => ?_
  simp only [List.mem_cons, List.not_mem_nil, or_false] at he
  rcases he with rfl | rfl | rfl | rfl | rfl
  · unfold flagsE; split <;> rfl
  · unfold dataE; split <;> rfl
  · unfold kidsE; split <;> rfl
  · unfold countE; split <;> rfl
  · unfold valueE; split <;> rfl
theorem isN_code {e : Er} (h : e.isN = true) : e.codeOf.2 = true ↔ e.codeOf.1 ≠ 0 := by
  cases e <;> simp [Er.codeOf, Er.isN] at * <;> exact h
theorem isN_ok {e : Er} (h : e.isN = true) : e.codeOf.1 = 0 ↔ e = .ok := by
  cases e <;> simp [Er.codeOf, Er.isN] at * <;> exact h
theorem errA_code {e : Nat} (h : e ≠ 0) : errA e = .ifc 96 (nat e) := by
  unfold errA; rw [show (e == 0) = false by simpa using h]; rfl
theorem data_ok {c : GChunk} (h : dataE c (kindOf c.ty) = .ok) : (c.ty = 3 → 12 ≤ c.data.length) ∧ (c.ty = 64 → 17 ≤ c.data.length) ∧ (c.ty = 194 → 4 ≤ c.data.length ∧ (c.data.length - 4) % 8 = 0) := by
  have hf : kfitsN (kindOf c.ty) c.data.length = true := by
    unfold dataE at h
    cases hk : kfitsN (kindOf c.ty) c.data.length with
    | true => rfl
    | false => rw [hk] at h; cases h
  unfold kfitsN at hf
  simp only [Bool.and_eq_true, decide_eq_true_eq, beq_iff_eq] at hf
  obtain ⟨⟨h1, h2⟩, h3⟩ := hf
  refine ⟨fun e => ?_, fun e => ?_, fun e => ?_⟩
  · rw [e] at h1; exact h1
  · rw [e] at h1; exact h1
  · rw [e] at h1 h3; exact ⟨h1, h3⟩
theorem firstE_pre {l : List Er} (h : firstE l = .ok) : ∀ e ∈ l, e = .ok := by
  induction l with
  | nil => simp
  | cons e l ih =>
    rw [firstE] at h
    split at h
    · rename_i he
      intro x hx
      rcases List.mem_cons.1 hx with rfl | hx
      · exact he
      · exact ih h x hx
    · rename_i he; exact absurd h he
theorem kclass (k : KForm) (l : List GNode) (h : kkidsOk k l = true) (hk : k.kids ≤ 6) (hl : 0 < l.length) : (kinsideN k.kids).1 = 1 ∨ (kinsideN k.kids).1 = 2 := by
  have hh : k.kids = 0 ∨ k.kids = 1 ∨ k.kids = 2 ∨ k.kids = 3 ∨ k.kids = 4 ∨ k.kids = 5 ∨ k.kids = 6 := by omega
  unfold kkidsOk at h
  rcases hh with e | e | e | e | e | e | e <;> rw [e] at h ⊢ <;> first | exact .inl rfl | exact .inr rfl | skip
  simp [kinsideN] at h
  rw [h] at hl; simp at hl
theorem pre_kids {c : GChunk} (h : preE c = .ok) : kkidsOk (kindOf c.ty) c.kids = true := by
  have := firstE_pre h (kidsE c (kindOf c.ty)) (by simp)
  unfold kidsE at this
  cases hk : kkidsOk (kindOf c.ty) c.kids with
  | true => rfl
  | false => rw [hk] at this; cases this
set_option maxRecDepth 100000 in
theorem firsts_c (c : GChunk) (hd : c.data.length ≤ 2 ^ 40) (hk : c.kids.length ≤ 2 ^ 40) (hh : kindHas c.ty = true) :
    PC Tryz.prog 55 [chunkA false c, kformA (kindOf c.ty), .sl false 1 [.fn (.func 56) [] [], .fn (.func 57) [] [], .fn (.func 58) [] [], .fn (.func 59) [] [], .fn (.func 60) [] []]] (erA (preE c)) := by
  have hb := kind_bd c.ty
  have hu := (hb.2.2.2.2.2.2.1 hh).1
  refine cfirst_c c (kindOf c.ty) [56, 57, 58, 59, 60] [flagsE c (kindOf c.ty), dataE c (kindOf c.ty), kidsE c (kindOf c.ty), countE c, valueE c] rfl (by decide) ?_ ?_
  · intro i hi
    match i, hi with
    | 0, _ => rfl
    | 1, _ => rfl
    | 2, _ => rfl
    | 3, _ => rfl
    | 4, _ => rfl
    | i + 5, h => simp at h; omega
  · intro i hi hok
    match i, hi with
    | 0, _ => exact cflags_c c _
    | 1, _ => exact cdata_c c _ hd (by omega) hu (by omega)
    | 2, _ => exact ckids_c c _ (by omega) hk
    | 3, _ => exact ccount_c c _ hd (data_ok (hok 1 (by omega))).1
    | 4, _ => exact cvalue_c c _ hd (data_ok (hok 1 (by omega))).2.1 (data_ok (hok 1 (by omega))).2.2
    | i + 5, h => simp at h; omega
theorem ccheck_c (c : GChunk) (ht : c.ty < 256) (hd : c.data.length ≤ 2 ^ 40) (hs : nSize c.kids ≤ 2 ^ 30) : PC Tryz.prog 18 [chunkA false c] (errA (checkC c)) := by
  have hkl := nSize_len c.kids
  have hb := kind_bd c.ty
  have hC : checkC c = checkC c := rfl
  conv at hC => rhs; unfold checkC
  generalize checkC c = C at hC
  have hst : startC c = startC c := rfl
  conv at hst => rhs; unfold startC
  have hki := kinside_c (kindOf c.ty).kids (by omega)
  have hcc : classOf c.ty = (kinsideN (kindOf c.ty).kids).1 := rfl
  generalize (kinsideN (kindOf c.ty).kids).2.1 = u1 at hki
  generalize (kinsideN (kindOf c.ty).kids).2.2 = u2 at hki
  rw [← hcc] at hki
  generalize hcl : classOf c.ty = cl at hki hC
  refine PC.of_bodyW (by simp only [push_cast]) Tryz.func18 rfl (by rw [Tryz.ntmps18]; simp) ?_
  refine AWp.regionW ?_
  refine AWp.regionM fun K1 hK1 => ?_
  refine ARun2.callM (kof_c c.ty ht) ?_
  refine ARun2.endm (hK1 _ ?_)
  refine AWp.regionM fun K2 hK2 => ?_
  refine ARun2.callM (hki) ?_
  refine ARun2.endm (hK2 _ ?_)
  refine AWp.regionW ?_
  refine AWp.seqK fun K3 hK3 => ?_
  refine AWp.block ?_
  refine AWp.regionW ?_
  refine AWp.condLM (fun c0 => ?_) (fun c0 => ?_)
  · skip
    have hh : kindHas c.ty = true := c0
    have hfs := firsts_c c hd (by omega) hh
    rw [if_pos hh] at hst
    have hN := preE_isN c
    refine AWp.regionN fun K4 hK4 => ?_
    refine ARun2.callM (hfs) ?_
    refine ARun2.endm (hK4 _ ?_)
    refine hK3 _ ?_
    refine AWp.seqK fun K5 hK5 => ?_
    refine AWp.regionM fun K6 hK6 => ?_
    refine ARun2.callM (code_c (preE c)) ?_
    refine ARun2.endm (hK6 _ ?_)
    refine AWp.regionW ?_
    refine AWp.condLM (fun c2 => ?_) (fun c2 => ?_)
    · skip
      have hne := (isN_code hN).1 c2
      rw [hst, if_pos hne] at hC
      refine AWp.regionW ?_
      refine AWp.ret ?_
      try simp only [thenQ, blockQ, noGo]
      refine bodyQ.m ?_
      clear hK6 K6 hK5 K5 hK4 K4 hK3 K3 hK2 K2 hK1 K1
      rw [hC, errA_code hne]
      first | done | exact Hand.go
    · skip
      have h0 : (preE c).codeOf.1 = 0 := by
        cases h : (preE c).codeOf.1 with
        | zero => rfl
        | succ n => have := (isN_code hN).2 (by rw [h]; simp); rw [c2] at this; cases this
      have hcls : 0 < c.kids.length → cl = 1 ∨ cl = 2 := fun h => hcl ▸ kclass _ _ (pre_kids ((isN_ok hN).1 h0)) (by omega) h
      rw [hst, h0, if_neg (by simp)] at hC
      refine AWp.skip ?_
      refine hK5 _ ?_
      refine AWp.seqK fun K7 hK7 => ?_
      refine AWp.regionW ?_
      refine AWp.block ?_
      refine AWp.loopK0 [1, 5, 48, 49] (fun (i : Nat) => [(50, nat i)]) (fun i => i ≤ c.kids.length ∧ checkL cl 1 (c.kids.take i) = 0) (fun i => c.kids.length - i) (0) ?_ ⟨Nat.zero_le _, rfl⟩ ?_
      · skip
        refine Le.m 2 ?_ ?_
        · exact Go.Abs.evM
        · exact Go.Abs.evN
      · intro i hi K8 hK8
        refine AWp.regionW ?_
        refine AWp.seqK fun K9 hK9 => ?_
        refine AWp.condLM (fun c3 => ?_) (fun c3 => ?_)
        · skip
          have hil : i < c.kids.length := by simpa using c3
          have hm := List.getElem_mem hil
          have hcl2 := hcls (by omega)
          refine AWp.skip ?_
          refine hK9 _ ?_
          refine AWp.seqK fun K10 hK10 => ?_
          refine AWp.block ?_
          refine AWp.regionM fun K11 hK11 => ?_
          refine ARun2.indexM (i) (nodeA false c.kids[i]) ?_ ?_
          · exact nodesA_at _ _ _ hil
          refine ARun2.endm (hK11 _ ?_)
          refine AWp.regionM fun K12 hK12 => ?_
          refine ARun2.callM (check_c cl c.kids[i] hcl2 (by have := nSize_one hm; omega)) ?_
          refine ARun2.endm (hK12 _ ?_)
          refine AWp.regionW ?_
          refine AWp.condLM (fun c4 => ?_) (fun c4 => ?_)
          · skip
            have h5 : checkN cl 1 c.kids[i] ≠ 0 := by simpa using c4
            have hL := checkL_at _ _ c.kids i hil hi.2 h5
            rw [hL, if_pos h5] at hC
            refine AWp.regionW ?_
            refine AWp.ret ?_
            try simp only [thenQ, blockQ, noGo]
            refine bodyQ.m ?_
            clear hK12 K12 hK11 K11 hK10 K10 hK9 K9 hK8 K8 hK7 K7 hK6 K6 hK5 K5 hK4 K4 hK3 K3 hK2 K2 hK1 K1
            rw [hC]
            first | done | exact Hand.go
          · skip
            have h5 : checkN cl 1 c.kids[i] = 0 := by simpa using c4
            refine AWp.skip ?_
            refine hK10 _ ?_
            refine AWp.regionV ?_
            refine hK8 _ (i + 1) (⟨by omega, by rw [List.take_succ_eq_append_getElem hil, checkL_snoc, hi.2]; simpa using h5⟩) (by omega) ?_
            refine Le.m 2 ?_ ?_
            · exact Go.Abs.evM
            · exact Go.Abs.evN
        · skip
          have hil : i = c.kids.length := by have := hi.1; simp at c3; omega
          have hL : checkL cl 1 c.kids = 0 := by have := hi.2; rwa [hil, List.take_length] at this
          subst hil
          rw [hL, if_neg (by simp)] at hC
          refine AWp.exit ?_
          try simp only [thenQ, blockQ, noGo, reduceIte, Nat.reduceEqDiff]
          refine hK7 _ ?_
          refine AWp.seqK fun K13 hK13 => ?_
          refine AWp.regionM fun K14 hK14 => ?_
          refine ARun2.callM (csize_c c hd hs) ?_
          refine ARun2.endm (hK14 _ ?_)
          refine AWp.condLM (fun c5 => ?_) (fun c5 => ?_)
          · skip
            rw [if_pos (by simpa using c5)] at hC
            refine AWp.regionW ?_
            refine AWp.ret ?_
            try simp only [thenQ, blockQ, noGo]
            refine bodyQ.m ?_
            clear hK14 K14 hK13 K13 hK9 K9 hK8 K8 hK7 K7 hK6 K6 hK5 K5 hK4 K4 hK3 K3 hK2 K2 hK1 K1
            rw [hC]
            first | done | exact Hand.go
          · skip
            rw [if_neg (by simpa using c5)] at hC
            refine AWp.skip ?_
            refine hK13 _ ?_
            refine AWp.regionW ?_
            refine AWp.ret ?_
            try simp only [thenQ, blockQ, noGo]
            refine bodyQ.m ?_
            clear hK14 K14 hK13 K13 hK9 K9 hK8 K8 hK7 K7 hK6 K6 hK5 K5 hK4 K4 hK3 K3 hK2 K2 hK1 K1
            rw [hC]
            first | done | exact Hand.go
  · skip
    have hh : ¬ kindHas c.ty = true := by rw [c0]; simp
    rw [if_neg hh] at hst
    refine AWp.regionW ?_
    refine AWp.condLM (fun c1 => ?_) (fun c1 => ?_)
    · skip
      have hp : 0 < c.kids.length := by simpa using c1
      rw [if_pos hp] at hst
      refine AWp.regionV ?_
      refine hK3 _ ?_
      refine AWp.seqK fun K15 hK15 => ?_
      refine AWp.regionM fun K16 hK16 => ?_
      refine ARun2.callM (code_c (.code 7)) ?_
      refine ARun2.endm (hK16 _ ?_)
      refine AWp.regionW ?_
      refine AWp.condT ?_ (by first | (simp only [push_cast, ↓reduceIte, Nat.reduceEqDiff, Nat.reduceLT, Nat.reduceAdd, Nat.reduceSub, Nat.reduceMul, Nat.reduceLeDiff, Nat.reducePow, Int.reduceLT, Int.reduceToNat, reduceCtorEq, Int.reduceNeg, Int.reduceEq, Nat.reduceBEq, Nat.reduceBNe, Int.reduceBEq, Int.reduceBNe, String.reduceEq]; done) | (simp only [push_cast, ↓reduceIte, Nat.reduceEqDiff, Nat.reduceLT, Nat.reduceAdd, Nat.reduceSub, Nat.reduceMul, Nat.reduceLeDiff, Nat.reducePow, Int.reduceLT, Int.reduceToNat, reduceCtorEq, Int.reduceNeg, Int.reduceEq, Nat.reduceBEq, Nat.reduceBNe, Int.reduceBEq, Int.reduceBNe, String.reduceEq]; rfl))
      refine AWp.regionW ?_
      refine AWp.ret ?_
      try simp only [thenQ, blockQ, noGo]
      refine bodyQ.m ?_
      clear hK16 K16 hK15 K15 hK3 K3 hK2 K2 hK1 K1
      rw [hC, hst, if_pos (by simp), errA_code (by simp)]; simp only [Er.codeOf]
      first | done | exact Hand.go
    · skip
      have hp : ¬ 0 < c.kids.length := by simpa using c1
      rw [if_neg hp] at hst
      refine AWp.skip ?_
      refine hK3 _ ?_
      refine AWp.seqK fun K17 hK17 => ?_
      refine AWp.regionM fun K18 hK18 => ?_
      refine ARun2.callM (code_c .ok) ?_
      refine ARun2.endm (hK18 _ ?_)
      refine AWp.regionW ?_
      refine AWp.condF ?_ (by first | (simp only [push_cast, ↓reduceIte, Nat.reduceEqDiff, Nat.reduceLT, Nat.reduceAdd, Nat.reduceSub, Nat.reduceMul, Nat.reduceLeDiff, Nat.reducePow, Int.reduceLT, Int.reduceToNat, reduceCtorEq, Int.reduceNeg, Int.reduceEq, Nat.reduceBEq, Nat.reduceBNe, Int.reduceBEq, Int.reduceBNe, String.reduceEq]; done) | (simp only [push_cast, ↓reduceIte, Nat.reduceEqDiff, Nat.reduceLT, Nat.reduceAdd, Nat.reduceSub, Nat.reduceMul, Nat.reduceLeDiff, Nat.reducePow, Int.reduceLT, Int.reduceToNat, reduceCtorEq, Int.reduceNeg, Int.reduceEq, Nat.reduceBEq, Nat.reduceBNe, Int.reduceBEq, Int.reduceBNe, String.reduceEq]; rfl))
      refine AWp.skip ?_
      refine hK17 _ ?_
      refine AWp.seqK fun K19 hK19 => ?_
      refine AWp.regionW ?_
      refine AWp.block ?_
      have hcls : 0 < c.kids.length → cl = 1 ∨ cl = 2 := fun h => absurd h hp
      rw [hst, if_neg (by simp)] at hC
      refine AWp.loopK0 [1, 5, 48, 49] (fun (i : Nat) => [(50, nat i)]) (fun i => i ≤ c.kids.length ∧ checkL cl 1 (c.kids.take i) = 0) (fun i => c.kids.length - i) (0) ?_ ⟨Nat.zero_le _, rfl⟩ ?_
      · skip
        refine Le.m 2 ?_ ?_
        · exact Go.Abs.evM
        · exact Go.Abs.evN
      · intro i hi K20 hK20
        refine AWp.regionW ?_
        refine AWp.seqK fun K21 hK21 => ?_
        refine AWp.condLM (fun c3 => ?_) (fun c3 => ?_)
        · skip
          have hil : i < c.kids.length := by simpa using c3
          have hm := List.getElem_mem hil
          have hcl2 := hcls (by omega)
          exfalso; omega
        · skip
          have hil : i = c.kids.length := by have := hi.1; simp at c3; omega
          have hL : checkL cl 1 c.kids = 0 := by have := hi.2; rwa [hil, List.take_length] at this
          subst hil
          rw [hL, if_neg (by simp)] at hC
          refine AWp.exit ?_
          try simp only [thenQ, blockQ, noGo, reduceIte, Nat.reduceEqDiff]
          refine hK19 _ ?_
          refine AWp.seqK fun K22 hK22 => ?_
          refine AWp.regionM fun K23 hK23 => ?_
          refine ARun2.callM (csize_c c hd hs) ?_
          refine ARun2.endm (hK23 _ ?_)
          refine AWp.condLM (fun c5 => ?_) (fun c5 => ?_)
          · skip
            rw [if_pos (by simpa using c5)] at hC
            refine AWp.regionW ?_
            refine AWp.ret ?_
            try simp only [thenQ, blockQ, noGo]
            refine bodyQ.m ?_
            clear hK23 K23 hK22 K22 hK21 K21 hK20 K20 hK19 K19 hK18 K18 hK17 K17 hK3 K3 hK2 K2 hK1 K1
            rw [hC]
            first | done | exact Hand.go
          · skip
            rw [if_neg (by simpa using c5)] at hC
            refine AWp.skip ?_
            refine hK22 _ ?_
            refine AWp.regionW ?_
            refine AWp.ret ?_
            try simp only [thenQ, blockQ, noGo]
            refine bodyQ.m ?_
            clear hK23 K23 hK22 K22 hK21 K21 hK20 K20 hK19 K19 hK18 K18 hK17 K17 hK3 K3 hK2 K2 hK1 K1
            rw [hC]
            first | done | exact Hand.go
@[push_cast] theorem chunkA_hand (ids : List Nat) (b : Bool) (c : GChunk) : (chunkA b c).hand ids = chunkA false c := by
  simp only [chunkA, AV.hand, AV.handL, bys_hand, nodesA_hand]
theorem cclone_f (c : GChunk) (hd : c.data.length ≤ 2 ^ 40) (hs : szs c.kids ≤ 2 ^ 39) : PC Tryz.prog 34 [chunkA false c] (chunkA true c) := by
  refine PC.of_bodyK (by simp only [push_cast]) Tryz.func34 rfl (by rw [Tryz.ntmps34]; simp) ?_
  refine AWp.regionW ?_
  refine AWp.regionM fun K1 hK1 => ?_
  refine ARun2.callM (nclone_f (.mk 0 [] c.kids) (by simp only [GNode.sz]; simp; omega)) ?_
  refine ARun2.endm (hK1 _ ?_)
  refine AWp.drS [[(1, none)], [(9, some 0)], [(1, none)], [(11, some 2)], [(1, none)], [(13, some 4)], [(14, some 5)], [(3, none)], [(10, some 1), (12, some 3), (15, some 6), (16, some 7)]] fun G hG => ?_
  refine Dr.sim ?_
  try simp only [List.cons_append, List.nil_append]
  refine Dr.sim ?_
  try simp only [List.cons_append, List.nil_append]
  refine Dr.sim ?_
  try simp only [List.cons_append, List.nil_append]
  refine Dr.sim ?_
  try simp only [List.cons_append, List.nil_append]
  refine Dr.sim ?_
  try simp only [List.cons_append, List.nil_append]
  refine Dr.sim ?_
  try simp only [List.cons_append, List.nil_append]
  refine Dr.call (clone_c c.data hd) ?_
  try simp only [List.cons_append, List.nil_append]
  refine Dr.sim ?_
  try simp only [List.cons_append, List.nil_append]
  refine Dr.sim ?_
  try simp only [List.cons_append, List.nil_append]
  refine Dr.finM (n := 9) [(17, 8)] [2] hG YtoapdhogghbojaaGreatDoor.Facts.mixed fun KD hKD => ?_
  refine ARun2.endm (hKD _ ?_); clear hKD KD hG G
  refine AWp.ret ?_
  try simp only [thenQ, blockQ, noGo]
  refine bodyQ.m ?_
  clear hK1 K1
  first | done | exact Wk.go
def paramsOf (c : GChunk) : List GNode := if classOf c.ty = 1 then c.kids else []
theorem cparams_c (c : GChunk) (ht : c.ty < 256) (hd : c.data.length ≤ 2 ^ 40) (hs : szs c.kids ≤ 2 ^ 39) : PC Tryz.prog 35 [chunkA false c] (.sl true 3 (nodesA true (paramsOf c))) := by
  have hb := kind_bd c.ty
  have hki := kinside_c (kindOf c.ty).kids (by omega)
  have hcc : classOf c.ty = (kinsideN (kindOf c.ty).kids).1 := rfl
  rw [← hcc] at hki
  refine PC.of_bodyK (by simp only [push_cast]) Tryz.func35 rfl (by rw [Tryz.ntmps35]; simp) ?_
  refine AWp.regionW ?_
  refine AWp.regionM fun K1 hK1 => ?_
  refine ARun2.callM (kof_c c.ty ht) ?_
  refine ARun2.endm (hK1 _ ?_)
  refine AWp.seqK fun K2 hK2 => ?_
  refine AWp.regionM fun K3 hK3 => ?_
  refine ARun2.callM (hki) ?_
  refine ARun2.endm (hK3 _ ?_)
  refine AWp.regionW ?_
  refine AWp.condLM (fun c0 => ?_) (fun c0 => ?_)
  · skip
    have h1 : paramsOf c = [] := if_neg (by simpa using c0)
    refine AWp.regionW ?_
    refine AWp.ret ?_
    try simp only [thenQ, blockQ, noGo]
    refine bodyQ.m ?_
    clear hK3 K3 hK2 K2 hK1 K1
    rw [h1]
    first | done | exact Wk.go
  · skip
    have h1 : paramsOf c = c.kids := if_pos (by simpa using c0)
    refine AWp.skip ?_
    refine hK2 _ ?_
    refine AWp.regionM fun K4 hK4 => ?_
    refine ARun2.callM (cclone_f c hd hs) ?_
    refine ARun2.endm (hK4 _ ?_)
    refine AWp.ret ?_
    try simp only [thenQ, blockQ, noGo]
    refine bodyQ.m ?_
    clear hK4 K4 hK3 K3 hK2 K2 hK1 K1
    rw [h1]
    first | done | exact Wk.go
set_option maxRecDepth 100000 in
set_option maxHeartbeats 1000000 in
theorem table11_c : PC Tryz.prog 80 [] (.sl false 7 (kformsA kindForms)) := by
  refine PC.of_bodyW (by simp only [push_cast]) Tryz.func80 rfl (by rw [Tryz.ntmps80]; simp) ?_
  refine AWp.regionW ?_
  refine AWp.regionW ?_
  refine AWp.regionW ?_
  refine AWp.ret ?_
  try simp only [thenQ, blockQ, noGo]
  refine bodyQ.m ?_
  simp only [kformsA, kindForms, List.map_cons, List.map_nil]
  first | done | exact Hand.go
theorem of11_c (t : Nat) : PC Tryz.prog 33 [u8 t] (.tup [kformA (kindOf t), bool (kindHas t)]) := by
  refine PC.of_bodyW (by simp only [push_cast]) Tryz.func33 rfl (by rw [Tryz.ntmps33]; simp) ?_
  refine AWp.regionW ?_
  refine AWp.regionM fun K1 hK1 => ?_
  refine ARun2.callM (table11_c) ?_
  refine ARun2.endm (hK1 _ ?_)
  refine AWp.seqK fun K2 hK2 => ?_
  refine AWp.regionW ?_
  refine AWp.block ?_
  refine AWp.loopK0 [0, 2, 4] (fun (i : Nat) => [(5, nat i)]) (fun i => i ≤ 23 ∧ ∀ m, m < i → (kf m).ty ≠ t) (fun i => 23 - i) (0) ?_ ⟨Nat.zero_le _, fun m h => by omega⟩ ?_
  · skip
    refine Le.m 1 ?_ ?_
    · exact Go.Abs.evM
    · exact Go.Abs.evN
  · intro i hi K3 hK3
    refine AWp.seqK fun K4 hK4 => ?_
    refine AWp.regionW ?_
    refine AWp.condLM (fun c0 => ?_) (fun c0 => ?_)
    · skip
      have hil : i < 23 := by simpa using c0
      refine AWp.skip ?_
      refine hK4 _ ?_
      refine AWp.seqK fun K5 hK5 => ?_
      refine AWp.block ?_
      refine AWp.regionM fun K6 hK6 => ?_
      refine ARun2.indexM (i) (kformA (kf i)) ?_ ?_
      · exact kformsA_kf i hil
      refine ARun2.endm (hK6 _ ?_)
      refine AWp.condLM (fun c1 => ?_) (fun c1 => ?_)
      · skip
        have h1 : (kf i).ty = t := by simpa using c1
        obtain ⟨e1, e2⟩ := kind_at t i hil h1
        refine AWp.regionM fun K7 hK7 => ?_
        refine ARun2.indexM (i) (kformA (kf i)) ?_ ?_
        · exact kformsA_kf i hil
        refine ARun2.endm (hK7 _ ?_)
        refine AWp.ret ?_
        try simp only [thenQ, blockQ, noGo]
        refine bodyQ.m ?_
        clear hK7 K7 hK6 K6 hK5 K5 hK4 K4 hK3 K3 hK2 K2 hK1 K1
        rw [e1, e2]
        first | done | exact Hand.go
      · skip
        have h1 : (kf i).ty ≠ t := by simpa using c1
        refine AWp.skip ?_
        refine hK5 _ ?_
        refine AWp.regionV ?_
        refine hK3 _ (i + 1) (⟨hil, fun m hm => (Nat.lt_or_ge m i).elim (hi.2 m) (fun h => (show i = m by omega) ▸ h1)⟩) (by omega) ?_
        refine Le.m 1 ?_ ?_
        · exact Go.Abs.evM
        · exact Go.Abs.evN
    · skip
      have hil : 23 ≤ i := by simpa using c0
      obtain ⟨e1, e2⟩ := kind_none t fun m hm => hi.2 m (by omega)
      refine AWp.exit ?_
      try simp only [thenQ, blockQ, noGo, reduceIte, Nat.reduceEqDiff]
      refine hK2 _ ?_
      refine AWp.regionW ?_
      refine AWp.ret ?_
      try simp only [thenQ, blockQ, noGo]
      refine bodyQ.m ?_
      clear hK4 K4 hK3 K3 hK2 K2 hK1 K1
      rw [e1, e2]; simp only [zeroK]
      first | done | exact Hand.go
theorem fits11_c (f : KForm) (n : Nat) (hn : n < 2 ^ 40) (hl : f.least < 2 ^ 40) (hm : f.most < 2 ^ 40) (hu : 0 < f.unit) (hu2 : f.unit < 2 ^ 40) : PC Tryz.prog 64 [kformA f, nat n] (bool (kfitsN f n)) := by
  refine PC.of_bodyW (by simp only [push_cast]) Tryz.func64 rfl (by rw [Tryz.ntmps64]; simp) ?_
  refine AWp.regionW ?_
  refine AWp.seqK fun K1 hK1 => ?_
  refine AWp.regionW ?_
  refine AWp.block ?_
  refine AWp.loopK [1, 2] (fun (i : Nat) => [(5, nat (f.least + i * f.unit))]) (fun i => [.box 59 [u8 f.ty, .val (.string f.name), u8 f.mask, nat f.least, nat f.most, nat f.unit, nat f.kids]]) (fun i => ∀ j, j < i → f.least + j * f.unit ≠ n) (fun i => f.most + 1 - (f.least + i * f.unit)) (0) ?_ (fun j h => by omega) ?_
  · skip
    refine Le.m 1 ?_ ?_
    · exact Go.Abs.evM
    · simp only [push_cast, ↓reduceIte, Nat.reduceEqDiff, Nat.reduceLT, Nat.reduceAdd, Nat.reduceSub, Nat.reduceMul, Nat.reduceLeDiff, Nat.reducePow, Int.reduceLT, Int.reduceToNat, reduceCtorEq, Int.reduceNeg, Int.reduceEq, Nat.reduceBEq, Nat.reduceBNe, Int.reduceBEq, Int.reduceBNe, String.reduceEq]
      try simp (disch := omega) only [w_nat, w_add, w_addl, w_addr, w_sub, w_subl, w_mul, w_mull, w_mulr, w_u32, w_u16, w_u8, w_u32a, N_zero]
      simp only [Nat.zero_mul, Nat.add_zero]
  · intro i hi K2 hK2
    refine AWp.seqK fun K3 hK3 => ?_
    refine AWp.regionW ?_
    refine AWp.condLM (fun c0 => ?_) (fun c0 => ?_)
    · skip
      have h0 : f.least + i * f.unit ≤ f.most := by simpa using c0
      have hs : (i + 1) * f.unit = i * f.unit + f.unit := by rw [Nat.add_mul, Nat.one_mul]
      refine AWp.skip ?_
      refine hK3 _ ?_
      refine AWp.seqK fun K4 hK4 => ?_
      refine AWp.block ?_
      refine AWp.regionW ?_
      refine AWp.condLM (fun c1 => ?_) (fun c1 => ?_)
      · skip
        have h1 : f.least + i * f.unit = n := by simpa using c1
        have hf : kfitsN f n = true := by
          have e : n - f.least = i * f.unit := by omega
          unfold kfitsN
          rw [e, Nat.mul_mod_left]
          simp
          omega
        refine AWp.regionW ?_
        refine AWp.ret ?_
        try simp only [thenQ, blockQ, noGo]
        refine bodyQ.m ?_
        clear hK4 K4 hK3 K3 hK2 K2 hK1 K1
        rw [hf]
        first | done | exact Hand.go
      · skip
        have h1 : f.least + i * f.unit ≠ n := by simpa using c1
        refine AWp.skip ?_
        refine hK4 _ ?_
        refine AWp.regionV ?_
        refine hK2 _ (i + 1) ((fun j hj => (Nat.lt_or_ge j i).elim (fun h => hi j h) (fun h => (show j = i by omega) ▸ h1))) (by omega) ?_
        refine Le.m 1 ?_ ?_
        · exact Go.Abs.evM
        · simp only [push_cast, ↓reduceIte, Nat.reduceEqDiff, Nat.reduceLT, Nat.reduceAdd, Nat.reduceSub, Nat.reduceMul, Nat.reduceLeDiff, Nat.reducePow, Int.reduceLT, Int.reduceToNat, reduceCtorEq, Int.reduceNeg, Int.reduceEq, Nat.reduceBEq, Nat.reduceBNe, Int.reduceBEq, Int.reduceBNe, String.reduceEq]
          try simp (disch := omega) only [w_nat, w_add, w_addl, w_addr, w_sub, w_subl, w_mul, w_mull, w_mulr, w_u32, w_u16, w_u8, w_u32a, N_zero]
          rw [hs, ← Nat.add_assoc]
    · skip
      have h0 : f.most < f.least + i * f.unit := by simpa using c0
      have hf : kfitsN f n = false := by
        unfold kfitsN
        by_cases h2 : f.least ≤ n ∧ n ≤ f.most
        · have h3 : (n - f.least) % f.unit ≠ 0 := by
            intro h3
            obtain ⟨j, hj⟩ := Nat.dvd_of_mod_eq_zero h3
            rw [Nat.mul_comm] at hj
            have hlt : j < i := by
              rcases Nat.lt_or_ge j i with h | h
              · exact h
              · have := Nat.mul_le_mul_right f.unit h
                omega
            exact hi j hlt (by omega)
          simp [h3]
        · rcases Nat.lt_or_ge n f.least with h4 | h4
          · simp; omega
          · simp; omega
      refine AWp.exit ?_
      try simp only [thenQ, blockQ, noGo, reduceIte, Nat.reduceEqDiff]
      refine hK1 _ ?_
      refine AWp.regionW ?_
      refine AWp.ret ?_
      try simp only [thenQ, blockQ, noGo]
      refine bodyQ.m ?_
      clear hK3 K3 hK2 K2 hK1 K1
      rw [hf]
      first | done | exact Hand.go
theorem class11_c (k : Nat) (hk : k ≤ 6) : PC Tryz.prog 36 [nat k] (nat (kinsideN k).1) := by
  have hq : (kinsideN k).1 = if k = 3 ∨ k = 4 then 2 else if 1 ≤ k then 1 else 0 := by
    have h : k = 0 ∨ k = 1 ∨ k = 2 ∨ k = 3 ∨ k = 4 ∨ k = 5 ∨ k = 6 := by omega
    rcases h with rfl | rfl | rfl | rfl | rfl | rfl | rfl <;> rfl
  refine PC.of_bodyW (by simp only [push_cast]) Tryz.func36 rfl (by rw [Tryz.ntmps36]; simp) ?_
  refine AWp.regionW ?_
  refine AWp.seqK fun K1 hK1 => ?_
  refine AWp.regionA fun K2 hK2 => ?_
  refine ARun.segm 3 fun KS hKS => ?_
  refine ARun2.endm (hKS _ ?_); clear hKS KS
  apply ARun.grpM 2 2 false 7 [0, 5]
  · intro g2 KG hKG
    refine ARun2.gom ?_
    exact ARun2.endm (hKG _ Le.grpM)
  refine ARun2.gom ?_
  refine ARun2.endm (hK2 _ ?_)
  refine AWp.condLM (fun c0 => ?_) (fun c0 => ?_)
  · skip
    refine AWp.regionW ?_
    refine AWp.ret ?_
    try simp only [thenQ, blockQ, noGo]
    refine bodyQ.m ?_
    clear hK2 K2 hK1 K1
    rw [hq, if_pos (by simpa using c0)]
    first | done | exact Hand.go
  · skip
    refine AWp.skip ?_
    refine hK1 _ ?_
    refine AWp.seqK fun K3 hK3 => ?_
    refine AWp.regionA fun K4 hK4 => ?_
    refine ARun.segm 3 fun KS hKS => ?_
    refine ARun2.endm (hKS _ ?_); clear hKS KS
    apply ARun.grpM 2 2 true 13 [11]
    · intro g2 KG hKG
      refine ARun2.gom ?_
      exact ARun2.endm (hKG _ Le.grpM)
    refine ARun2.gom ?_
    refine ARun2.endm (hK4 _ ?_)
    refine AWp.condLM (fun c1 => ?_) (fun c1 => ?_)
    · skip
      refine AWp.regionW ?_
      refine AWp.ret ?_
      try simp only [thenQ, blockQ, noGo]
      refine bodyQ.m ?_
      clear hK4 K4 hK3 K3 hK2 K2 hK1 K1
      rw [hq, if_neg (by simpa using c0), if_pos (by simp at c1; omega)]
      first | done | exact Hand.go
    · skip
      refine AWp.skip ?_
      refine hK3 _ ?_
      refine AWp.regionW ?_
      refine AWp.ret ?_
      try simp only [thenQ, blockQ, noGo]
      refine bodyQ.m ?_
      clear hK4 K4 hK3 K3 hK2 K2 hK1 K1
      rw [hq, if_neg (by simpa using c0), if_neg (by simp at c1; omega)]
      first | done | exact Hand.go
theorem kk_ref (q n y : Nat) (hq : q ≤ 6) : (decide ((kinsideN q).2.1 ≤ n) && decide (n ≤ (kinsideN q).2.2) && (q != 1 || y == 1) && (q != 6 || (y == 5 || y == 6))) =
    if q = 0 then n == 0 else if q = 1 then (n == 1 && y == 1) else if q = 4 then (decide (1 ≤ n) && decide (n ≤ 16384)) else if q = 5 then (n == 1 || n == 2) else if q = 6 then (decide (2 ≤ n) && decide (n ≤ 16384) && (y == 5 || y == 6)) else decide (n ≤ 16384) := by
  have h : q = 0 ∨ q = 1 ∨ q = 2 ∨ q = 3 ∨ q = 4 ∨ q = 5 ∨ q = 6 := by omega
  rcases h with rfl | rfl | rfl | rfl | rfl | rfl | rfl <;> rw [Bool.eq_iff_iff] <;> simp [kinsideN] <;> omega
theorem wanted12_c (k : KForm) (l : List GNode) (hk : k.kids ≤ 6) (hl : l.length ≤ 2 ^ 40) : PC Tryz.prog 65 [kformA k, .sl false 3 (nodesA false l)] (bool (kkidsOk k l)) := by
  have hq : kkidsOk k l = _ := kk_ref k.kids l.length (l.headD default).ty hk
  refine PC.of_bodyW (by simp only [push_cast]) Tryz.func65 rfl (by rw [Tryz.ntmps65]; simp) ?_
  refine AWp.regionW ?_
  refine AWp.regionW ?_
  refine AWp.seqK fun K1 hK1 => ?_
  refine AWp.regionW ?_
  refine AWp.block ?_
  refine AWp.regionW ?_
  refine AWp.condLM (fun c0 => ?_) (fun c0 => ?_)
  · skip
    have h0 : k.kids = 0 := by simpa using c0
    rw [if_pos h0] at hq
    refine AWp.regionW ?_
    refine AWp.ret ?_
    try simp only [thenQ, blockQ, noGo]
    refine bodyQ.m ?_
    clear hK1 K1
    rw [hq]
    first | done | exact Hand.go
  · skip
    have h0 : ¬ k.kids = 0 := by simpa using c0
    rw [if_neg h0] at hq
    refine AWp.regionW ?_
    refine AWp.condLM (fun c1 => ?_) (fun c1 => ?_)
    · skip
      rw [if_pos (by simpa using c1)] at hq
      refine AWp.regionA fun K2 hK2 => ?_
      refine ARun.segm 3 fun KS hKS => ?_
      refine ARun2.endm (hKS _ ?_); clear hKS KS
      apply ARun.grpM 5 2 true 23 [18]
      · intro g2 KG hKG
        have hn : 0 < l.length := by simp at g2; omega
        refine ARun2.gom ?_
        refine ARun2.indexM (0) (nodeA false (l.headD default)) ?_ ?_
        · exact nodesA_head false l hn
        exact ARun2.endm (hKG _ Le.grpM)
      refine ARun2.gom ?_
      refine ARun2.endm (hK2 _ ?_)
      refine AWp.ret ?_
      try simp only [thenQ, blockQ, noGo]
      refine bodyQ.m ?_
      clear hK2 K2 hK1 K1
      rw [hq]
      first | done | exact Hand.go
    · skip
      rw [if_neg (by simpa using c1)] at hq
      refine AWp.regionW ?_
      refine AWp.condLM (fun c2 => ?_) (fun c2 => ?_)
      · skip
        rw [if_pos (by simpa using c2)] at hq
        refine AWp.regionA fun K3 hK3 => ?_
        refine ARun.segm 3 fun KS hKS => ?_
        refine ARun2.endm (hKS _ ?_); clear hKS KS
        apply ARun.grpM 2 2 true 31 [29]
        · intro g2 KG hKG
          refine ARun2.gom ?_
          exact ARun2.endm (hKG _ Le.grpM)
        refine ARun2.gom ?_
        refine ARun2.endm (hK3 _ ?_)
        refine AWp.ret ?_
        try simp only [thenQ, blockQ, noGo]
        refine bodyQ.m ?_
        clear hK3 K3 hK1 K1
        rw [hq]
        first | done | exact Hand.go
      · skip
        rw [if_neg (by simpa using c2)] at hq
        refine AWp.regionW ?_
        refine AWp.condLM (fun c3 => ?_) (fun c3 => ?_)
        · skip
          rw [if_pos (by simpa using c3)] at hq
          refine AWp.regionA fun K4 hK4 => ?_
          refine ARun.segm 3 fun KS hKS => ?_
          refine ARun2.endm (hKS _ ?_); clear hKS KS
          apply ARun.grpM 2 2 false 39 [37]
          · intro g2 KG hKG
            refine ARun2.gom ?_
            exact ARun2.endm (hKG _ Le.grpM)
          refine ARun2.gom ?_
          refine ARun2.endm (hK4 _ ?_)
          refine AWp.ret ?_
          try simp only [thenQ, blockQ, noGo]
          refine bodyQ.m ?_
          clear hK4 K4 hK1 K1
          rw [hq]
          first | done | exact Hand.go
        · skip
          rw [if_neg (by simpa using c3)] at hq
          refine AWp.regionW ?_
          refine AWp.condLM (fun c4 => ?_) (fun c4 => ?_)
          · skip
            rw [if_pos (by simpa using c4)] at hq
            refine AWp.regionA fun K5 hK5 => ?_
            refine ARun.segm 3 fun KS hKS => ?_
            refine ARun2.endm (hKS _ ?_); clear hKS KS
            apply ARun.grpM 2 2 true 47 [1, 45]
            · intro g2 KG hKG
              refine ARun2.gom ?_
              exact ARun2.endm (hKG _ Le.grpM)
            refine ARun.segm 2 fun KS hKS => ?_
            refine ARun2.endm (hKS _ ?_); clear hKS KS
            apply ARun.grpM 12 6 true 61 [49]
            · intro g6 KG hKG
              have hn : 0 < l.length := by simp at g6; omega
              refine ARun.segm 6 fun KS hKS => ?_
              refine ARun2.indexM (0) (nodeA false (l.headD default)) ?_ ?_
              · exact nodesA_head false l hn
              refine ARun2.endm (hKS _ ?_); clear hKS KS
              apply ARun.grpM 5 12 false 60 [49, 55]
              · intro g12 KG hKG
                refine ARun2.gom ?_
                refine ARun2.indexM (0) (nodeA false (l.headD default)) ?_ ?_
                · exact nodesA_head false l hn
                exact ARun2.endm (hKG _ Le.grpM)
              refine ARun2.gom ?_
              exact ARun2.endm (hKG _ Le.grpM)
            refine ARun2.gom ?_
            refine ARun2.endm (hK5 _ ?_)
            refine AWp.ret ?_
            try simp only [thenQ, blockQ, noGo]
            refine bodyQ.m ?_
            clear hK5 K5 hK1 K1
            rw [hq]
            first | done | exact Hand.go
          · skip
            rw [if_neg (by simpa using c4)] at hq
            refine AWp.skip ?_
            refine hK1 _ ?_
            refine AWp.regionW ?_
            refine AWp.ret ?_
            try simp only [thenQ, blockQ, noGo]
            refine bodyQ.m ?_
            clear hK1 K1
            rw [hq]
            first | done | exact Hand.go
theorem number12_c (d : List UInt8) (i : Nat) (hd : d.length ≤ 2 ^ 40) (hi : i + 2 ≤ d.length) : PC Tryz.prog 77 [.sl false 1 (bys d), nat i] (nat (peekN 2 d i)) := by
  have hp := peek_bytes d i hi
  have h1 := (d[i]'(by omega)).toNat_lt
  have h2 := (d[i + 1]'(by omega)).toNat_lt
  refine PC.of_bodyW (by simp only [push_cast]) Tryz.func77 rfl (by rw [Tryz.ntmps77]; simp) ?_
  refine AWp.regionW ?_
  refine AWp.drS [[(0, none)], [(1, none)], [(5, some 0), (6, some 1)], [(7, some 2)], [(8, some 3)], [(9, some 4)], [(0, none)], [(1, none)], [(12, some 7)], [(11, some 6), (13, some 8)], [(14, some 9)], [(15, some 10)], [(10, some 5), (16, some 11)], [(17, some 12)]] fun G hG => ?_
  refine Dr.sim ?_
  try simp only [List.cons_append, List.nil_append]
  refine Dr.sim ?_
  try simp only [List.cons_append, List.nil_append]
  refine Dr.idx (i) (.val (.int .u8 (N (d[i]'(by omega)).toNat))) ?_ ?_
  · exact bys_at _ _ (by omega)
  try simp only [List.cons_append, List.nil_append]
  refine Dr.sim ?_
  try simp only [List.cons_append, List.nil_append]
  refine Dr.sim ?_
  try simp only [List.cons_append, List.nil_append]
  refine Dr.sim ?_
  try simp only [List.cons_append, List.nil_append]
  refine Dr.sim ?_
  try simp only [List.cons_append, List.nil_append]
  refine Dr.sim ?_
  try simp only [List.cons_append, List.nil_append]
  refine Dr.sim ?_
  try simp only [List.cons_append, List.nil_append]
  refine Dr.idx (i + 1) (.val (.int .u8 (N (d[i + 1]'(by omega)).toNat))) ?_ ?_
  · exact bys_at _ _ (by omega)
  try simp only [List.cons_append, List.nil_append]
  refine Dr.sim ?_
  try simp only [List.cons_append, List.nil_append]
  refine Dr.sim ?_
  try simp only [List.cons_append, List.nil_append]
  refine Dr.sim ?_
  try simp only [List.cons_append, List.nil_append]
  refine Dr.sim ?_
  try simp only [List.cons_append, List.nil_append]
  refine Dr.finM (n := 14) [(4, 13)] [] hG YtoapdhogghbojaaGreatDoor.Facts.mixed fun KD hKD => ?_
  refine ARun2.endm (hKD _ ?_); clear hKD KD hG G
  refine AWp.ret ?_
  try simp only [thenQ, blockQ, noGo]
  refine bodyQ.m ?_
  rw [hp, Nat.mul_comm]
  first | done | exact Hand.go
theorem counted12_c (c : GChunk) (hd : c.data.length ≤ 2 ^ 40) (h : c.ty = 3 → 12 ≤ c.data.length ∧ (c.data.length - 12) % 4 = 0) : PC Tryz.prog 66 [u8 c.ty, .sl false 1 (bys c.data)] (bool (!sackBad c)) := by
  have p1 := peek2_lt c.data 8
  have p2 := peek2_lt c.data 10
  have hs : (c.ty != 3 || 4 * (peekN 2 c.data 8 + peekN 2 c.data 10) == c.data.length - 12) = !sackBad c := by
    unfold sackBad
    by_cases h3 : c.ty = 3
    · have := h h3
      rw [Bool.eq_iff_iff]; simp [h3]; omega
    · have e : (c.ty == 3) = false := by simpa using h3
      simp [bne, e]
  refine PC.of_bodyW (by simp only [push_cast]) Tryz.func66 rfl (by rw [Tryz.ntmps66]; simp) ?_
  refine AWp.regionW ?_
  refine AWp.regionA fun K1 hK1 => ?_
  refine ARun.segm 3 fun KS hKS => ?_
  refine ARun2.endm (hKS _ ?_); clear hKS KS
  apply ARun.grpM 10 2 false 17 [7]
  · intro g2 KG hKG
    have h3 : c.ty = 3 := by simpa using g2
    have hl := h h3
    refine ARun2.gom ?_
    refine ARun2.callM (number12_c c.data 8 hd (by omega)) ?_
    refine ARun2.callM (number12_c c.data 10 hd (by omega)) ?_
    exact ARun2.endm (hKG _ Le.grpM)
  refine ARun2.gom ?_
  refine ARun2.endm (hK1 _ ?_)
  refine AWp.ret ?_
  try simp only [thenQ, blockQ, noGo]
  refine bodyQ.m ?_
  clear hK1 K1
  rw [← hs]
  first | done | exact Hand.go
def oddI (c : GChunk) : Int := match oddN c with
  | some i => N i
  | none => -1
theorem odd12_c (c : GChunk) (hd : c.data.length ≤ 2 ^ 40) (h64 : c.ty = 64 → 17 ≤ c.data.length) (h194 : c.ty = 194 → 4 ≤ c.data.length ∧ (c.data.length - 4) % 8 = 0) :
    PC Tryz.prog 67 [u8 c.ty, .sl false 1 (bys c.data)] (.val (.int .i64 (oddI c))) := by
  refine PC.of_bodyW (by simp only [push_cast]) Tryz.func67 rfl (by rw [Tryz.ntmps67]; simp) ?_
  refine AWp.regionW ?_
  refine AWp.seqK fun K1 hK1 => ?_
  refine AWp.regionA fun K2 hK2 => ?_
  refine ARun.segm 3 fun KS hKS => ?_
  refine ARun2.endm (hKS _ ?_); clear hKS KS
  apply ARun.grpM 3 2 true 11 [0, 1, 8]
  · intro g2 KG hKG
    have h3 : c.ty = 64 := by simpa using g2
    have hl := h64 h3
    refine ARun2.gom ?_
    refine ARun2.callM (number12_c c.data 6 hd (by omega)) ?_
    exact ARun2.endm (hKG _ Le.grpM)
  refine ARun2.gom ?_
  refine ARun2.endm (hK2 _ ?_)
  refine AWp.condLM (fun c0 => ?_) (fun c0 => ?_)
  · skip
    have hr : oddI c = 6 := by
      simp at c0
      unfold oddI oddN; rw [if_pos c0.1, if_pos c0.2]; rfl
    refine AWp.regionW ?_
    refine AWp.ret ?_
    try simp only [thenQ, blockQ, noGo]
    refine bodyQ.m ?_
    clear hK2 K2 hK1 K1
    rw [hr]
    first | done | exact Hand.go
  · skip
    have hq : oddN c = if c.ty = 194 then oddAt c.data c.data.length 4 else none := by
      unfold oddN
      by_cases h3 : c.ty = 64
      · have hp : peekN 2 c.data 6 = 0 := by simp [h3] at c0; exact c0
        rw [if_pos h3, if_neg (by rw [hp]; simp), if_neg (by omega)]
      · rw [if_neg h3]
    refine AWp.skip ?_
    refine hK1 _ ?_
    refine AWp.seqK fun K3 hK3 => ?_
    refine AWp.regionW ?_
    refine AWp.block ?_
    refine AWp.loopK0 [0, 1] (fun (g : Nat × Nat) => [(5, nat (g.2 + 2))]) (fun g => (c.ty = 194 → oddAt c.data c.data.length 4 = oddAt c.data g.1 g.2 ∧ g.2 ≤ c.data.length ∧ (c.data.length - g.2) % 8 = 0 ∧ c.data.length - g.2 ≤ g.1)) (fun g => c.data.length - g.2) ((c.data.length, 4)) ?_ (fun h => ⟨rfl, (h194 h).1, (h194 h).2, Nat.sub_le _ _⟩) ?_
    · skip
      refine Le.m 0 ?_ ?_
      · exact Go.Abs.evM
      · exact Go.Abs.evN
    · intro g hg K4 hK4
      obtain ⟨q, i⟩ := g
      dsimp only at hg ⊢
      refine AWp.seqK fun K5 hK5 => ?_
      refine AWp.regionA fun K6 hK6 => ?_
      refine ARun.segm 3 fun KS hKS => ?_
      refine ARun2.endm (hKS _ ?_); clear hKS KS
      apply ARun.grpM 4 2 true 19 [0, 1, 5, 15]
      · intro g2 KG hKG
        have h4 : c.ty = 194 := by simpa using g2
        have hgg := hg h4
        refine ARun2.gom ?_
        exact ARun2.endm (hKG _ Le.grpM)
      refine ARun2.gom ?_
      refine ARun2.endm (hK6 _ ?_)
      refine AWp.condLM (fun c1 => ?_) (fun c1 => ?_)
      · skip
        have h4 : c.ty = 194 ∧ i + 2 < c.data.length := by simpa using c1
        obtain ⟨hg1, hg2, hg3, hg4⟩ := hg h4.1
        obtain ⟨q, rfl⟩ : ∃ q', q = q' + 1 := ⟨q - 1, by omega⟩
        rw [oddAt, if_pos (by omega)] at hg1
        refine AWp.skip ?_
        refine hK5 _ ?_
        refine AWp.seqK fun K7 hK7 => ?_
        refine AWp.block ?_
        refine AWp.regionM fun K8 hK8 => ?_
        refine ARun2.callM (number12_c c.data (i + 2) hd (by omega)) ?_
        refine ARun2.endm (hK8 _ ?_)
        refine AWp.condLM (fun c2 => ?_) (fun c2 => ?_)
        · skip
          have hp : 1 < peekN 2 c.data (i + 2) := by simpa using c2
          rw [if_pos hp] at hg1
          have hr : oddI c = N (i + 2) := by unfold oddI; rw [hq, if_pos h4.1, hg1]
          refine AWp.regionW ?_
          refine AWp.ret ?_
          try simp only [thenQ, blockQ, noGo]
          refine bodyQ.m ?_
          clear hK8 K8 hK7 K7 hK6 K6 hK5 K5 hK4 K4 hK3 K3 hK2 K2 hK1 K1
          rw [hr]
          first | done | exact Hand.go
        · skip
          have hp : ¬ 1 < peekN 2 c.data (i + 2) := by simpa using c2
          rw [if_neg hp] at hg1
          refine AWp.skip ?_
          refine hK7 _ ?_
          refine AWp.regionV ?_
          refine hK4 _ ((q, i + 8)) ((fun _ => ⟨hg1, by show i + 8 ≤ _; omega, by show (c.data.length - (i + 8)) % 8 = 0; omega, by show c.data.length - (i + 8) ≤ q; omega⟩)) (by show c.data.length - (i + 8) < c.data.length - i; omega) ?_
          refine Le.m 0 ?_ ?_
          · exact Go.Abs.evM
          · exact Go.Abs.evN
      · skip
        have hr : oddI c = -1 := by
          unfold oddI; rw [hq]
          by_cases h4 : c.ty = 194
          · obtain ⟨hg1, hg2, hg3, hg4⟩ := hg h4
            simp [h4] at c1
            rw [if_pos h4, hg1]
            cases q with
            | zero => rfl
            | succ q => rw [oddAt, if_neg (by omega)]
          · rw [if_neg h4]
        refine AWp.exit ?_
        try simp only [thenQ, blockQ, noGo, reduceIte, Nat.reduceEqDiff]
        refine hK3 _ ?_
        refine AWp.regionW ?_
        refine AWp.ret ?_
        try simp only [thenQ, blockQ, noGo]
        refine bodyQ.m ?_
        clear hK6 K6 hK5 K5 hK4 K4 hK3 K3 hK2 K2 hK1 K1
        rw [hr]
        first | done | exact Hand.go
set_option maxRecDepth 100000 in
theorem mask_ref : ((List.range 256).all fun f => [0, 1, 15].all fun m => (bitsV .and .i64 (N f) (N (255 - m)) != 0) == maskBad f m) = true := by kernel_rfl
theorem mask_eq (f m : Nat) (hf : f < 256) (hm : m = 0 ∨ m = 1 ∨ m = 15) : (bitsV .and .i64 (N f) (N (255 - m)) != 0) = maskBad f m := by
  have h := List.all_eq_true.1 mask_ref f (by simpa using hf)
  have h2 := List.all_eq_true.1 h m (by simpa using hm)
  simpa using h2
theorem fits_facts {c : GChunk} (h : kfitsN (kindOf c.ty) c.data.length = true) : (c.ty = 3 → 12 ≤ c.data.length ∧ (c.data.length - 12) % 4 = 0) ∧ (c.ty = 64 → 17 ≤ c.data.length) ∧ (c.ty = 194 → 4 ≤ c.data.length ∧ (c.data.length - 4) % 8 = 0) := by
  unfold kfitsN at h
  simp only [Bool.and_eq_true, decide_eq_true_eq, beq_iff_eq] at h
  obtain ⟨⟨h1, h2⟩, h3⟩ := h
  refine ⟨fun e => ?_, fun e => ?_, fun e => ?_⟩
  · rw [e] at h1 h3; exact ⟨h1, h3⟩
  · rw [e] at h1; exact h1
  · rw [e] at h1 h3; exact ⟨h1, h3⟩
def incN (d : List UInt8) (i : Nat) : List UInt8 := (d.take i).map (· + 1) ++ d.drop i
@[push_cast] theorem incN_len (d : List UInt8) (i : Nat) : (incN d i).length = d.length := by simp [incN]; omega
theorem incN_at (d : List UInt8) (i : Nat) (h : i < d.length) : (incN d i)[i]'(by rw [incN_len]; exact h) = d[i] := by
  have hl : ((d.take i).map (· + 1)).length = i := by simp; omega
  simp only [incN]
  rw [List.getElem_append_right (by omega)]
  simp only [hl, Nat.sub_self, List.getElem_drop, Nat.add_zero]
theorem u8_inc (x : UInt8) : IntKind.u8.wrap (N x.toNat + 1) = N (x + 1).toNat := by
  rw [IntKind.wrap_u8, UInt8.toNat_add]
  have := x.toNat_lt
  show (_ : Int) = N ((x.toNat + 1) % 256)
  unfold N; omega
theorem incN_step (d : List UInt8) (i : Nat) (h : i < d.length) : (bys (incN d i)).set i (.val (.int .u8 (N (d[i] + 1).toNat))) = bys (incN d (i + 1)) := by
  have hl : ((d.take i).map (· + 1)).length = i := by simp; omega
  have e : (incN d i).set i (d[i] + 1) = incN d (i + 1) := by
    unfold incN
    rw [List.set_append_right _ _ (by omega), hl, Nat.sub_self, List.drop_eq_getElem_cons h, List.set_cons_zero, List.take_succ_eq_append_getElem h, List.map_append]
    simp only [List.map_cons, List.map_nil, List.append_assoc, List.cons_append, List.nil_append]
  rw [← e]
  simp [bys, List.map_set]
@[push_cast] theorem bstr_size (d : List UInt8) : (bstr d).size = d.length := by simp [bstr, ByteArray.size]
theorem incN_zero (d : List UInt8) : incN d 0 = d := by simp [incN]
theorem sumUp_ge : ∀ (l : List Nat) (s : Nat), s + l.sum ≤ sumUp s l
  | [], s => by simp [sumUp]
  | n :: l, s => by
    have := sumUp_ge l (upN s + n)
    simp only [sumUp, List.sum_cons, upN] at *
    omega
mutual
theorem sz_vlen : ∀ n : GNode, n.sz ≤ vlen n + 1
  | .mk t d k => by
    have h1 := szs_nLens k
    have h2 := sumUp_ge ((nLens k).map (4 + ·)) 0
    simp only [GNode.sz, vlen, tlvSize]
    omega
theorem szs_nLens : ∀ l : List GNode, szs l ≤ ((nLens l).map (4 + ·)).sum
  | [] => Nat.zero_le _
  | n :: l => by
    have h1 := sz_vlen n
    have h2 := szs_nLens l
    simp only [szs, nLens, List.map_cons, List.sum_cons]
    omega
end
theorem szs_nSize (l : List GNode) : szs l ≤ nSize l := by
  have h1 := szs_nLens l
  have h2 := sumUp_ge ((nLens l).map (4 + ·)) 0
  simp only [nSize, tlvSize]
  omega
end Go.Proofs.YtoapdhogghbojaaGreatDoor.C
namespace Go.Abs
set_option linter.unusedSectionVars false
section
variable {P : Program} {ops : Array Oper} {E : Env} {s s' : AS} {ρ σ : List Value} {B : Nat → Prop} {a : Act} {w w' : World} {o : Oper} {rest : List Oper} {Q : AS → Prop} {R : Exit → AS → Prop}
variable {nds : List (List (Nat × Option Nat))} {vals : List AV} {G : Prop}
end
end Go.Abs
namespace Go.Proofs.YtoapdhogghbojaaGreatDoor.C
open Go.Abs
theorem nSize_szs2 (l : List GNode) : nSize l ≤ 8 * szs l + 8 := by
  have h := nSize_sz (.mk 0 [] l)
  have e := vlen_eq (.mk 0 [] l)
  have e1 : nSize [GNode.mk 0 [] l] = 4 + vlen (.mk 0 [] l) := by simp [nSize, nLens, tlvSize, sumUp, upN, gapN]
  simp only [GNode.data, GNode.kids, List.length_nil] at e
  rw [e1, e, GNode.sz, List.length_nil] at h
  omega
structure Small (c : GChunk) : Prop where
  ty : c.ty < 256
  flags : c.flags < 256
  data : c.data.length ≤ 2 ^ 26
  kids : szs c.kids ≤ 2 ^ 26
theorem Small.check {c : GChunk} (h : Small c) : PC Tryz.prog 18 [chunkA false c] (errA (checkC c)) :=
  ccheck_c c h.ty (Nat.le_trans h.data (by decide)) (by have := nSize_szs2 c.kids; have := h.kids; omega)
theorem Small.clone {c : GChunk} (h : Small c) : PC Tryz.prog 34 [chunkA false c] (chunkA true c) :=
  cclone_f c (Nat.le_trans h.data (by decide)) (Nat.le_trans h.kids (by decide))
theorem small_zero : Small .zero := ⟨by decide, by decide, by decide, by decide⟩
def sameC (a b : GChunk) : Bool := a.ty == b.ty && a.flags == b.flags && decide (a.data = b.data) && sameL a.kids b.kids
theorem sameC_self (a : GChunk) : sameC a a = true := by
  unfold sameC; rw [(sameL_iff _ _).2 rfl]; simp
theorem same12_c (a b : GChunk) (hd : a.data.length ≤ 2 ^ 40) (hs : szs a.kids ≤ 2 ^ 40) : PC Tryz.prog 15 [chunkA false a, chunkA false b] (bool (sameC a b)) := by
  refine PC.of_bodyW (by simp only [push_cast]) Tryz.func15 rfl (by rw [Tryz.ntmps15]; simp) ?_
  refine AWp.regionW ?_
  refine AWp.regionA fun K1 hK1 => ?_
  refine ARun.segm 6 fun KS hKS => ?_
  refine ARun2.endm (hKS _ ?_); clear hKS KS
  apply ARun.grpM 5 5 true 15 [2, 3, 10]
  · intro g5 KG hKG
    refine ARun2.gom ?_
    exact ARun2.endm (hKG _ Le.grpM)
  refine ARun.segm 2 fun KS hKS => ?_
  refine ARun2.endm (hKS _ ?_); clear hKS KS
  apply ARun.grpM 5 12 true 22 [2, 3, 17]
  · intro g12 KG hKG
    refine ARun2.gom ?_
    refine ARun2.callM (same01_c a.data b.data hd) ?_
    exact ARun2.endm (hKG _ Le.grpM)
  refine ARun.segm 2 fun KS hKS => ?_
  refine ARun2.endm (hKS _ ?_); clear hKS KS
  apply ARun.grpM 5 19 true 29 [24]
  · intro g19 KG hKG
    refine ARun2.gom ?_
    refine ARun2.callM (same08_c a.kids b.kids hs) ?_
    exact ARun2.endm (hKG _ Le.grpM)
  refine ARun2.gom ?_
  refine ARun2.endm (hK1 _ ?_)
  refine AWp.ret ?_
  try simp only [thenQ, blockQ, noGo]
  refine bodyQ.m ?_
  clear hK1 K1
  simp only [sameC]
  first | done | exact Hand.go
theorem Small.same {a b : GChunk} (h : Small a) : PC Tryz.prog 15 [chunkA false a, chunkA false b] (bool (sameC a b)) :=
  same12_c a b (Nat.le_trans h.data (by decide)) (Nat.le_trans h.kids (by decide))
@[push_cast] theorem errA_nil (e : Nat) : nilIs .ifc (errA e) = some (e == 0) := nilIs_err e
theorem all_c (b : List UInt8) : PC Tryz.prog 133 [.sl false 1 (bys b)] (.fn (.func 147) [] [.ref true (.agg [.sl false 1 (bys b)])]) := by
  refine PC.of_body (by simp only [push_cast]) Tryz.func133 rfl (by rw [Tryz.ntmps133]; simp) ?_
  refine AWp.regionW ?_
  refine AWp.regionW ?_
  refine AWp.pubBox 0 rfl (Nat.le_refl _) rfl (by simp) ?_
  simp only [push_cast, ↓reduceIte, Nat.reduceEqDiff, Nat.reduceLT, Nat.reduceAdd, Nat.reduceSub, Nat.reduceMul, Nat.reduceLeDiff, Nat.reducePow, Int.reduceLT, Int.reduceToNat, reduceCtorEq, Int.reduceNeg, Int.reduceEq, Nat.reduceBEq, Nat.reduceBNe, Int.reduceBEq, Int.reduceBNe, String.reduceEq]
  refine AWp.ret ?_
  try simp only [thenQ, blockQ, noGo]
  refine bodyQ.m ?_
  rfl
def putF (f : Frm) : List UInt8 := putB 2 f.ty ++ putB 2 (4 + f.val.length) ++ f.val
theorem putF_len (f : Frm) : (putF f).length = 4 + f.val.length := by simp [putF, putB_len]; omega
def fitF (f : Frm) : Bool := decide (f.val.length ≤ 65531)
theorem put_c (f : Frm) (ht : f.ty < 65536) (hl : f.val.length ≤ 2 ^ 38) : PC Tryz.prog 129 [frmA false f] (.tup [.sl true 1 (bys (if fitF f = true then putF f else [])), bool (fitF f)]) := by
  refine PC.of_bodyK (by simp only [push_cast]) Tryz.func129 rfl (by rw [Tryz.ntmps129]; simp) ?_
  refine AWp.regionW ?_
  refine AWp.seqK fun K1 hK1 => ?_
  refine AWp.regionW ?_
  refine AWp.condLM (fun c0 => ?_) (fun c0 => ?_)
  · skip
    have hf : fitF f = false := by simp at c0; unfold fitF; exact decide_eq_false (by omega)
    refine AWp.regionW ?_
    refine AWp.ret ?_
    try simp only [thenQ, blockQ, noGo]
    refine bodyQ.m ?_
    clear hK1 K1
    rw [hf]; simp only [if_true, if_false, reduceCtorEq, Bool.false_eq_true]
    first | done | exact Wk.go
  · skip
    have hle : f.val.length ≤ 65531 := by simp at c0; exact c0
    have hf : fitF f = true := decide_eq_true hle
    have hp := wire_put 2 [f.ty, 4 + f.val.length] (by omega) (by intro x hx; simp at hx; omega) (by simp)
    rw [show [f.ty, 4 + f.val.length].flatMap (putB 2) = putB 2 f.ty ++ putB 2 (4 + f.val.length) by simp] at hp
    have hj := wjoin_c [putB 2 f.ty ++ putB 2 (4 + f.val.length), f.val] (by simp [lens, putB_len]; omega) (by simp)
    rw [show [putB 2 f.ty ++ putB 2 (4 + f.val.length), f.val].flatten = putF f by simp [putF]] at hj
    refine AWp.skip ?_
    refine hK1 _ ?_
    refine AWp.drS [[(1, none)], [(8, some 0)], [(9, some 1)], [(1, none)], [(11, some 3)], [(12, some 4)], [(13, some 5)], [(14, some 6)], [(10, some 2), (15, some 7)], [(16, some 8)], [(1, none)], [(18, some 10)], [(17, some 9), (19, some 11)], [(20, some 12)], [(21, some 13)], []] fun G hG => ?_
    refine Dr.sim ?_
    try simp only [List.cons_append, List.nil_append]
    refine Dr.sim ?_
    try simp only [List.cons_append, List.nil_append]
    refine Dr.sim ?_
    try simp only [List.cons_append, List.nil_append]
    refine Dr.sim ?_
    try simp only [List.cons_append, List.nil_append]
    refine Dr.sim ?_
    try simp only [List.cons_append, List.nil_append]
    refine Dr.sim ?_
    try simp only [List.cons_append, List.nil_append]
    refine Dr.sim ?_
    try simp only [List.cons_append, List.nil_append]
    refine Dr.sim ?_
    try simp only [List.cons_append, List.nil_append]
    refine Dr.build ?_
    try simp only [List.cons_append, List.nil_append]
    refine Dr.call (hp) ?_
    try simp only [List.cons_append, List.nil_append]
    refine Dr.sim ?_
    try simp only [List.cons_append, List.nil_append]
    refine Dr.sim ?_
    try simp only [List.cons_append, List.nil_append]
    refine Dr.build ?_
    try simp only [List.cons_append, List.nil_append]
    refine Dr.call (hj) ?_
    try simp only [List.cons_append, List.nil_append]
    refine Dr.sim ?_
    try simp only [List.cons_append, List.nil_append]
    refine Dr.sim ?_
    try simp only [List.cons_append, List.nil_append]
    refine Dr.finM (n := 16) [(2, 14), (3, 15)] [] hG YtoapdhogghbojaaGreatDoor.Facts.mixed fun KD hKD => ?_
    refine ARun2.endm (hKD _ ?_); clear hKD KD hG G
    refine AWp.ret ?_
    try simp only [thenQ, blockQ, noGo]
    refine bodyQ.m ?_
    clear hK1 K1
    rw [hf]; simp only [if_true, if_false, reduceCtorEq, Bool.false_eq_true]
    first | done | exact Wk.go
def joinF (l : List Frm) : List UInt8 := l.foldl (fun out f => padB out ++ putF f) []
theorem joinF_snoc (l : List Frm) (f : Frm) : joinF (l ++ [f]) = padB (joinF l) ++ putF f := by simp [joinF]
theorem joinF_len_aux : ∀ (l : List Frm) (acc : List UInt8), (l.foldl (fun out f => padB out ++ putF f) acc).length = sumUp acc.length ((l.map fun f => f.val.length).map (4 + ·))
  | [], acc => rfl
  | f :: l, acc => by
    rw [List.foldl_cons, joinF_len_aux l, List.length_append, padB_len, putF_len]
    rfl
theorem joinF_len (l : List Frm) : (joinF l).length = tlvSize (l.map fun f => f.val.length) := joinF_len_aux l []
theorem tlvSize_take (l : List Nat) (i : Nat) : tlvSize (l.take i) ≤ tlvSize l := by
  unfold tlvSize; rw [List.map_take]; exact sumUp_take _ _
def joinX (l : List Frm) : List UInt8 := if l.all fitF = true then joinF l else []
theorem join_c (l : List Frm) (ht : ∀ f ∈ l, f.ty < 65536) (hs : tlvSize (l.map fun f => f.val.length) ≤ 2 ^ 36) (hl : l.length ≤ 2 ^ 40) : PC Tryz.prog 103 [.sl false 2 (frmsA false l)] (.tup [.sl true 1 (bys (joinX l)), bool (l.all fitF)]) := by
  refine PC.of_bodyK (by simp only [push_cast]) Tryz.func103 rfl (by rw [Tryz.ntmps103]; simp) ?_
  refine AWp.regionW ?_
  refine AWp.regionW ?_
  refine AWp.seqK fun K1 hK1 => ?_
  refine AWp.regionW ?_
  refine AWp.block ?_
  refine AWp.nilSl 4 true 1 ?_
  refine AWp.loopK0 [9, 10] (fun (i : Nat) => [(4, .sl true 1 (bys (joinF (l.take i)))), (11, nat i)]) (fun i => i ≤ l.length ∧ (l.take i).all fitF = true) (fun i => l.length - i) (0) ?_ ⟨Nat.zero_le _, rfl⟩ ?_
  · skip
    refine Le.m 0 ?_ ?_
    · exact Go.Abs.evM
    · exact Go.Abs.evN
  · intro i hi K2 hK2
    refine AWp.regionW ?_
    refine AWp.seqK fun K3 hK3 => ?_
    refine AWp.condLM (fun c0 => ?_) (fun c0 => ?_)
    · skip
      have hil : i < l.length := by simpa using c0
      have hti := ht l[i] (List.getElem_mem hil)
      have hsi := tlvSize_mem (l := l.map fun f => f.val.length) (List.mem_map.2 ⟨l[i], List.getElem_mem hil, rfl⟩)
      have hj := joinF_len (l.take (i + 1))
      rw [List.map_take] at hj
      have hj2 := tlvSize_take (l.map fun f => f.val.length) (i + 1)
      rw [List.take_succ_eq_append_getElem hil, joinF_snoc, List.length_append] at hj
      have hu := padB_len (joinF (l.take i))
      have hu2 : (joinF (l.take i)).length ≤ upN (joinF (l.take i)).length := by unfold upN; omega
      refine AWp.skip ?_
      refine hK3 _ ?_
      refine AWp.seqK fun K4 hK4 => ?_
      refine AWp.block ?_
      refine AWp.regionM fun K5 hK5 => ?_
      refine ARun2.indexM (i) (frmA false l[i]) ?_ ?_
      · exact frmsA_at _ _ _ hil
      refine ARun2.endm (hK5 _ ?_)
      refine AWp.regionM fun K6 hK6 => ?_
      refine ARun2.callM (put_c l[i] hti (by omega)) ?_
      refine ARun2.endm (hK6 _ ?_)
      refine AWp.seqK fun K7 hK7 => ?_
      refine AWp.regionW ?_
      refine AWp.condLM (fun c1 => ?_) (fun c1 => ?_)
      · skip
        have hf : fitF l[i] = false := by simpa using c1
        have hr : l.all fitF = false := by rw [List.all_eq_false]; exact ⟨l[i], List.getElem_mem hil, by simp [hf]⟩
        have hr2 : joinX l = [] := by unfold joinX; rw [hr]; rfl
        refine AWp.regionW ?_
        refine AWp.ret ?_
        try simp only [thenQ, blockQ, noGo]
        refine bodyQ.m ?_
        clear hK7 K7 hK6 K6 hK5 K5 hK4 K4 hK3 K3 hK2 K2 hK1 K1
        rw [hr, hr2]
        first | done | exact Wk.go
      · skip
        have hf : fitF l[i] = true := by simpa using c1
        rw [hf, if_pos rfl]
        refine AWp.skip ?_
        refine hK7 _ ?_
        refine AWp.regionN fun K8 hK8 => ?_
        refine ARun2.callOM [] (padBytes_o (joinF (l.take i)) (by omega)) ?_
        refine ARun2.appendM ?_ ?_ ?_
        · rw [YtoapdhogghbojaaGreatDoor.Facts.eb24, bys_len, bys_len]; omega
        · rw [bys_len, bys_len]; omega
        refine ARun2.endm (hK8 _ ?_)
        refine hK4 _ ?_
        refine AWp.pubD 1 ?_
        refine AWp.regionV ?_
        refine hK2 _ (i + 1) (⟨hil, by rw [List.take_succ_eq_append_getElem hil, List.all_append, hi.2]; simp [hf]⟩) (by omega) ?_
        refine Le.m 0 ?_ ?_
        · exact Go.Abs.evM
        · simp only [push_cast, ↓reduceIte, Nat.reduceEqDiff, Nat.reduceLT, Nat.reduceAdd, Nat.reduceSub, Nat.reduceMul, Nat.reduceLeDiff, Nat.reducePow, Int.reduceLT, Int.reduceToNat, reduceCtorEq, Int.reduceNeg, Int.reduceEq, Nat.reduceBEq, Nat.reduceBNe, Int.reduceBEq, Int.reduceBNe, String.reduceEq]
          try simp (disch := omega) only [w_nat, w_add, w_addl, w_addr, w_sub, w_subl, w_mul, w_mull, w_mulr, w_u32, w_u16, w_u8, w_u32a, N_zero]
          rw [List.take_succ_eq_append_getElem hil, joinF_snoc, bys_append]
    · skip
      have hil : i = l.length := by have := hi.1; simp at c0; omega
      subst hil
      have hr : l.all fitF = true := by have := hi.2; rwa [List.take_length] at this
      have hr2 : joinX l = joinF l := by unfold joinX; rw [if_pos hr]
      rw [List.take_length]
      refine AWp.exit ?_
      try simp only [thenQ, blockQ, noGo, reduceIte, Nat.reduceEqDiff]
      refine hK1 _ ?_
      refine AWp.regionW ?_
      refine AWp.ret ?_
      try simp only [thenQ, blockQ, noGo]
      refine bodyQ.m ?_
      clear hK3 K3 hK2 K2 hK1 K1
      rw [hr, hr2]
      first | done | exact Wk.go
def goF (one : Frm → Nat → GNode × Er) (i : Nat) : List (Nat × Frm) → List GNode × Er
  | [] => ([], .ok)
  | p :: l => if (one p.2 (i + p.1)).2 = .ok then (if (goF one i l).2 = .ok then ((one p.2 (i + p.1)).1 :: (goF one i l).1, .ok) else ([], (goF one i l).2)) else ([], (one p.2 (i + p.1)).2)
theorem goF_snoc {one : Frm → Nat → GNode × Er} {i : Nat} {p : Nat × Frm} : ∀ {l : List (Nat × Frm)}, (goF one i l).2 = .ok → (one p.2 (i + p.1)).2 = .ok → goF one i (l ++ [p]) = ((goF one i l).1 ++ [(one p.2 (i + p.1)).1], .ok)
  | [], h, h2 => by simp [goF, h2]
  | q :: l, h, h2 => by
    simp only [goF] at h
    split at h
    · rename_i hq
      split at h
      · rename_i hl
        simp only [List.cons_append, goF, hq, if_true, hl, goF_snoc hl h2]
      · rename_i hl; exact absurd h hl
    · rename_i hq; exact absurd h hq
theorem goF_err {one : Frm → Nat → GNode × Er} {i : Nat} {p : Nat × Frm} {r : List (Nat × Frm)} : ∀ {l : List (Nat × Frm)}, (goF one i l).2 = .ok → (one p.2 (i + p.1)).2 ≠ .ok → goF one i (l ++ p :: r) = ([], (one p.2 (i + p.1)).2)
  | [], h, h2 => by simp [goF, h2]
  | q :: l, h, h2 => by
    simp only [goF] at h
    split at h
    · rename_i hq
      split at h
      · rename_i hl
        simp only [List.cons_append, goF, hq, if_true, goF_err (r := r) hl h2, if_neg h2]
      · rename_i hl; exact absurd h hl
    · rename_i hq; exact absurd h hq
def dataOf (c : Nat) (f : Frm) : List UInt8 := if (shapeOf c f.ty).kids ≠ 0 ∧ (shapeOf c f.ty).least ≤ f.val.length then f.val.take (shapeOf c f.ty).least else f.val
def oneF (rec : Nat → List UInt8 → Nat → List GNode × Er) (c : Nat) (f : Frm) (i : Nat) : GNode × Er :=
  if shapeHas c f.ty = false then (.mk f.ty f.val [], .ok)
  else if fitsN (shapeOf c f.ty) (dataOf c f).length = false then (.zero, .flt 7 i)
  else if countedN c f.ty (dataOf c f) = true then (.zero, .flt 8 (i + 4))
  else if (shapeOf c f.ty).kids = 0 then (.mk f.ty (dataOf c f) [], .ok)
  else if (rec (insideN (shapeOf c f.ty).kids).1 (f.val.drop (shapeOf c f.ty).least) (i + 4 + (shapeOf c f.ty).least)).2 ≠ .ok then
    (.zero, (rec (insideN (shapeOf c f.ty).kids).1 (f.val.drop (shapeOf c f.ty).least) (i + 4 + (shapeOf c f.ty).least)).2)
  else if kidsOk (shapeOf c f.ty) (rec (insideN (shapeOf c f.ty).kids).1 (f.val.drop (shapeOf c f.ty).least) (i + 4 + (shapeOf c f.ty).least)).1 = false then (.zero, .flt 7 i)
  else (.mk f.ty (dataOf c f) (rec (insideN (shapeOf c f.ty).kids).1 (f.val.drop (shapeOf c f.ty).least) (i + 4 + (shapeOf c f.ty).least)).1, .ok)
def parseF : Nat → Nat → List UInt8 → Nat → List GNode × Er
  | m, c, b, i => if (scan b b.length 0).2 = .ok then goF (fun f i => match m with
      | 0 => (.zero, .flt 9 i)
      | m + 1 => oneF (parseF m) c f i) i (scan b b.length 0).1
    else ([], (scan b b.length 0).2.shift i)
def oneD (m c : Nat) (f : Frm) (i : Nat) : GNode × Er := match m with
  | 0 => (.zero, .flt 9 i)
  | m + 1 => oneF (parseF m) c f i
theorem parseF_eq (m c : Nat) (b : List UInt8) (i : Nat) : parseF m c b i = if (scan b b.length 0).2 = .ok then goF (oneD m c) i (scan b b.length 0).1 else ([], (scan b b.length 0).2.shift i) := by
  rw [parseF]; rfl
theorem one_deep (c d : Nat) (f : Frm) (i : Nat) (hd : 4 < d) (hd2 : d < 2 ^ 60) : PC Tryz.prog 134 [nat c, frmA true f, nat i, nat d] (.tup [nodeA true .zero, erA (.flt 9 i)]) := by
  refine PC.of_bodyK (by simp only [push_cast]) Tryz.func134 rfl (by rw [Tryz.ntmps134]; simp) ?_
  refine AWp.regionW ?_
  refine AWp.seqK fun K1 hK1 => ?_
  refine AWp.regionW ?_
  refine AWp.condT ?_ (by simp only [push_cast]; simp; omega)
  refine AWp.regionM fun K2 hK2 => ?_
  refine ARun2.callM (fnew_c 9 i) ?_
  refine ARun2.endm (hK2 _ ?_)
  refine AWp.ret ?_
  try simp only [thenQ, blockQ, noGo]
  refine bodyQ.m ?_
  clear hK2 K2 hK1 K1
  simp only [GNode.zero, nodeA, nodesA]
  first | done | exact Wk.go
theorem shape_kids4 (c t : Nat) : (shapeOf c t).kids ≤ 4 := by
  have key : ∀ l : List ShForm, (∀ f ∈ l, f.kids ≤ 4) → (((l.find? fun f => f.ty == t).map fun f => { f with cls := c }).getD zeroForm).kids ≤ 4 := by
    intro l hl
    cases hf : l.find? (fun f => f.ty == t) with
    | none => simp [zeroForm]
    | some f => simpa using hl f (List.mem_of_find?_eq_some hf)
  refine key (formsN c) ?_
  match c with
  | 0 => intro f hf; simp [formsN] at hf
  | 1 => decide
  | 2 => decide
  | _ + 3 => intro f hf; simp [formsN] at hf
theorem inside_cls {k : Nat} (h4 : k ≤ 4) (h0 : k ≠ 0) : (insideN k).1 = 1 ∨ (insideN k).1 = 2 := by
  have : k = 1 ∨ k = 2 ∨ k = 3 ∨ k = 4 := by omega
  rcases this with rfl | rfl | rfl | rfl <;> simp [insideN]
theorem fits_least {f : ShForm} {n : Nat} (h : fitsN f n = true) : f.least ≤ n := by
  unfold fitsN at h; simp at h; exact h.1.1
theorem dataOf_len (c : Nat) (f : Frm) : (dataOf c f).length ≤ f.val.length := by
  unfold dataOf; split
  · rw [List.length_take]; omega
  · exact Nat.le_refl _
theorem readN_fit {b : List UInt8} {i : Nat} (hi : i < b.length) (h : (readN b i).2.2 = .ok) : i + 4 + (readN b i).1.val.length ≤ b.length := by
  unfold readN at h ⊢
  split at h
  · rename_i hc
    rw [if_pos hc]
    split at h
    · rename_i he; rw [if_pos he]; simp only [List.length_take, List.length_drop]; omega
    · rename_i he
      rw [if_neg he]
      split at h
      · rename_i hs; rw [if_pos hs]; simp only [List.length_take, List.length_drop]; omega
      · cases h
  · cases h
theorem readN_ty (b : List UInt8) (i : Nat) : (readN b i).1.ty < 65536 := by
  unfold readN
  split
  · split
    · exact peek2_lt _ _
    · split
      · exact peek2_lt _ _
      · simp [frm0]
  · simp [frm0]
theorem scan_fit (b : List UInt8) : ∀ (k i : Nat), ∀ p ∈ (scan b k i).1, p.1 + 4 + p.2.val.length ≤ b.length ∧ p.2.ty < 65536
  | 0, i, p, h => by simp [scan] at h
  | k + 1, i, p, h => by
    rw [scan] at h
    split at h
    · rename_i hi
      cases he : (readN b i).2.2 with
      | ok =>
        simp only [he] at h
        rcases List.mem_cons.1 h with rfl | h
        · exact ⟨readN_fit hi he, readN_ty b i⟩
        · exact scan_fit b k _ p h
      | code c => simp [he] at h
      | flt c j => simp [he] at h
    · simp at h
theorem one_step (m c d : Nat) (hc : c = 1 ∨ c = 2) (hd : d ≤ 4) (f : Frm) (i : Nat) (hi : i + 4 + f.val.length ≤ 2 ^ 40)
    (ih : ∀ (c : Nat) (b : List UInt8) (i : Nat), (c = 1 ∨ c = 2) → i + b.length ≤ 2 ^ 40 → PC Tryz.prog 107 [nat c, .sl false 1 (bys b), nat i, nat (d + 1)] (.tup [.sl true 3 (nodesA true (parseF m c b i).1), erA (parseF m c b i).2]))
    (ihl : ∀ (c : Nat) (b : List UInt8) (i : Nat), (parseF m c b i).1.length ≤ b.length) :
    PC Tryz.prog 134 [nat c, frmA true f, nat i, nat d] (.tup [nodeA true (oneF (parseF m) c f i).1, erA (oneF (parseF m) c f i).2]) := by
  obtain ⟨S, hS⟩ : ∃ S, S = shapeOf c f.ty := ⟨_, rfl⟩
  have h4 := shape_kids4 c f.ty
  have hk60 := form_kids c f.ty
  have hdl := dataOf_len c f
  have hO : oneF (parseF m) c f i = oneF (parseF m) c f i := rfl
  conv at hO => rhs; unfold oneF
  rw [← hS] at h4 hk60 hO
  have hdo : dataOf c f = if S.kids ≠ 0 ∧ S.least ≤ f.val.length then f.val.take S.least else f.val := by unfold dataOf; rw [hS]
  have hof := of_c c f.ty hc
  rw [← hS] at hof
  have hfo := form_ok c f.ty
  rw [← hS] at hfo
  generalize oneF (parseF m) c f i = O at hO
  refine PC.of_bodyK (by simp only [push_cast]) Tryz.func134 rfl (by rw [Tryz.ntmps134]; simp) ?_
  refine AWp.regionW ?_
  refine AWp.seqK fun K1 hK1 => ?_
  refine AWp.regionW ?_
  refine AWp.condF ?_ (by simp only [push_cast]; simp; omega)
  refine AWp.skip ?_
  refine hK1 _ ?_
  refine AWp.regionW ?_
  refine AWp.regionM fun K2 hK2 => ?_
  refine ARun2.callM (hof) ?_
  refine ARun2.endm (hK2 _ ?_)
  refine AWp.seqK fun K3 hK3 => ?_
  refine AWp.regionW ?_
  refine AWp.condLM (fun c1 => ?_) (fun c1 => ?_)
  · skip
    have hh : shapeHas c f.ty = false := by simpa using c1
    rw [if_pos hh] at hO
    refine AWp.regionW ?_
    refine AWp.ret ?_
    try simp only [thenQ, blockQ, noGo]
    refine bodyQ.m ?_
    clear hK3 K3 hK2 K2 hK1 K1
    subst hO; simp only [GNode.zero, nodeA_eq, GNode.ty, GNode.data, GNode.kids]
    first | done | exact Wk.go
  · skip
    have hh : shapeHas c f.ty = true := by simpa using c1
    rw [if_neg (by rw [hh]; simp)] at hO
    obtain ⟨u1, u2, u3⟩ := hfo hh
    refine AWp.skip ?_
    refine hK3 _ ?_
    refine AWp.seqK fun K4 hK4 => ?_
    refine AWp.regionA fun K5 hK5 => ?_
    refine ARun.segm 4 fun KS hKS => ?_
    refine ARun2.endm (hKS _ ?_); clear hKS KS
    apply ARun.grpM 6 3 true 47 [0, 2, 3, 5, 8, 10, 11, 41]
    · intro g3 KG hKG
      refine ARun2.gom ?_
      exact ARun2.endm (hKG _ Le.grpM)
    refine ARun2.gom ?_
    refine ARun2.endm (hK5 _ ?_)
    refine AWp.condLM (fun c2 => ?_) (fun c2 => ?_)
    · skip
      have hd0 : dataOf c f = f.val.take S.least := by rw [hdo, if_pos (by simp at c2; exact c2)]
      have hle : S.least ≤ f.val.length := by simp at c2; exact c2.2
      refine AWp.regionN fun K6 hK6 => ?_
      refine ARun2.sliceHi3M S.least (by rw [bys_len]; exact hle) ?_
      refine ARun2.endm (hK6 _ ?_)
      rw [← hd0]
      refine hK4 _ ?_
      refine AWp.seqK fun K7 hK7 => ?_
      refine AWp.block ?_
      refine AWp.regionM fun K8 hK8 => ?_
      refine ARun2.callM (fits_c S (dataOf c f).length (by omega) u3 u1 u2) ?_
      refine ARun2.endm (hK8 _ ?_)
      refine AWp.condLM (fun c3 => ?_) (fun c3 => ?_)
      · skip
        have hf : fitsN S (dataOf c f).length = false := by simpa using c3
        rw [if_pos hf] at hO
        refine AWp.regionM fun K9 hK9 => ?_
        refine ARun2.callM (fnew_c 7 i) ?_
        refine ARun2.endm (hK9 _ ?_)
        refine AWp.ret ?_
        try simp only [thenQ, blockQ, noGo]
        refine bodyQ.m ?_
        clear hK9 K9 hK8 K8 hK7 K7 hK6 K6 hK5 K5 hK4 K4 hK3 K3 hK2 K2 hK1 K1
        subst hO; simp only [GNode.zero, nodeA_eq, GNode.ty, GNode.data, GNode.kids]
        first | done | exact Wk.go
      · skip
        have hf : fitsN S (dataOf c f).length = true := by simpa using c3
        rw [if_neg (by rw [hf]; simp)] at hO
        refine AWp.regionM fun K10 hK10 => ?_
        refine ARun2.callM (counted_c c f.ty (dataOf c f) (by omega)) ?_
        refine ARun2.endm (hK10 _ ?_)
        refine AWp.condLM (fun c4 => ?_) (fun c4 => ?_)
        · skip
          have hcn := c4
          rw [if_pos hcn] at hO
          refine AWp.regionM fun K11 hK11 => ?_
          refine ARun2.callM (fnew_c 8 (i + 4)) ?_
          refine ARun2.endm (hK11 _ ?_)
          refine AWp.ret ?_
          try simp only [thenQ, blockQ, noGo]
          refine bodyQ.m ?_
          clear hK11 K11 hK10 K10 hK8 K8 hK7 K7 hK6 K6 hK5 K5 hK4 K4 hK3 K3 hK2 K2 hK1 K1
          subst hO; simp only [GNode.zero, nodeA_eq, GNode.ty, GNode.data, GNode.kids]
          first | done | exact Wk.go
        · skip
          have hcn := c4
          rw [if_neg (by rw [hcn]; simp)] at hO
          refine AWp.regionW ?_
          refine AWp.condLM (fun c5 => ?_) (fun c5 => ?_)
          · skip
            have hk0 : S.kids = 0 := by simpa using c5
            rw [if_pos hk0] at hO
            refine AWp.regionW ?_
            refine AWp.ret ?_
            try simp only [thenQ, blockQ, noGo]
            refine bodyQ.m ?_
            clear hK10 K10 hK8 K8 hK7 K7 hK6 K6 hK5 K5 hK4 K4 hK3 K3 hK2 K2 hK1 K1
            subst hO; simp only [GNode.zero, nodeA_eq, GNode.ty, GNode.data, GNode.kids]
            first | done | exact Wk.go
          · skip
            have hk0 : S.kids ≠ 0 := by simpa using c5
            rw [if_neg hk0] at hO
            have ihr := ih (insideN S.kids).1 (f.val.drop S.least) (i + 4 + S.least) (inside_cls h4 hk0) (by rw [List.length_drop]; omega)
            have ihn := ihl (insideN S.kids).1 (f.val.drop S.least) (i + 4 + S.least)
            rw [List.length_drop] at ihn
            obtain ⟨r, hr⟩ : ∃ r, r = parseF m (insideN S.kids).1 (f.val.drop S.least) (i + 4 + S.least) := ⟨_, rfl⟩
            rw [← hr] at hO ihr ihn
            refine AWp.skip ?_
            refine hK7 _ ?_
            refine AWp.regionM fun K12 hK12 => ?_
            refine ARun2.callM (inside_c S.kids hk60) ?_
            refine ARun2.endm (hK12 _ ?_)
            refine AWp.drS [[(13, none)], [(5, none)], [(92, some 1)], [(11, none)], [(94, some 3)], [(93, some 2), (95, some 4)], [(2, none)], [(97, some 6)], [(11, none)], [(99, some 8)], [(98, some 7), (100, some 9)], [(3, none)], [(102, some 11)], [(91, some 0), (96, some 5), (101, some 10), (103, some 12)], [(104, some 13)], [(90, some 14)], [(90, some 14)], [(105, some 15)], [(106, some 16)]] fun G hG => ?_
            refine Dr.sim ?_
            try simp only [List.cons_append, List.nil_append]
            refine Dr.sim ?_
            try simp only [List.cons_append, List.nil_append]
            refine Dr.sim ?_
            try simp only [List.cons_append, List.nil_append]
            refine Dr.sim ?_
            try simp only [List.cons_append, List.nil_append]
            refine Dr.sim ?_
            try simp only [List.cons_append, List.nil_append]
            refine Dr.sliceLo (S.least) ?_ ?_
            · rw [bys_len]; exact hle
            try simp only [List.cons_append, List.nil_append]
            refine Dr.sim ?_
            try simp only [List.cons_append, List.nil_append]
            refine Dr.sim ?_
            try simp only [List.cons_append, List.nil_append]
            refine Dr.sim ?_
            try simp only [List.cons_append, List.nil_append]
            refine Dr.sim ?_
            try simp only [List.cons_append, List.nil_append]
            refine Dr.sim ?_
            try simp only [List.cons_append, List.nil_append]
            refine Dr.sim ?_
            try simp only [List.cons_append, List.nil_append]
            refine Dr.sim ?_
            try simp only [List.cons_append, List.nil_append]
            refine Dr.call (ihr) ?_
            try simp only [List.cons_append, List.nil_append]
            refine Dr.sim ?_
            try simp only [List.cons_append, List.nil_append]
            refine Dr.sim ?_
            try simp only [List.cons_append, List.nil_append]
            refine Dr.sim ?_
            try simp only [List.cons_append, List.nil_append]
            refine Dr.sim ?_
            try simp only [List.cons_append, List.nil_append]
            refine Dr.sim ?_
            try simp only [List.cons_append, List.nil_append]
            refine Dr.finM (n := 19) [(16, 17), (17, 18)] [2, 8, 10, 11] hG YtoapdhogghbojaaGreatDoor.Facts.mixed fun KD hKD => ?_
            refine ARun2.endm (hKD _ ?_); clear hKD KD hG G
            refine AWp.seqK fun K13 hK13 => ?_
            refine AWp.regionW ?_
            refine AWp.condLM (fun c6 => ?_) (fun c6 => ?_)
            · skip
              have he : r.2 ≠ .ok := by intro h; rw [h] at c6; cases c6
              rw [if_pos he] at hO
              refine AWp.regionW ?_
              refine AWp.ret ?_
              try simp only [thenQ, blockQ, noGo]
              refine bodyQ.m ?_
              clear hK13 K13 hK12 K12 hK10 K10 hK8 K8 hK7 K7 hK6 K6 hK5 K5 hK4 K4 hK3 K3 hK2 K2 hK1 K1
              subst hO; simp only [GNode.zero, nodeA_eq, GNode.ty, GNode.data, GNode.kids]
              first | done | exact Wk.go
            · skip
              have he : r.2 = .ok := by rw [← isOk_iff]; simpa using c6
              rw [if_neg (by simpa using he)] at hO
              refine AWp.skip ?_
              refine hK13 _ ?_
              refine AWp.regionW ?_
              refine AWp.seqK fun K14 hK14 => ?_
              refine AWp.regionM fun K15 hK15 => ?_
              refine ARun2.callM (kids_c S r.1 (by omega) hk60) ?_
              refine ARun2.endm (hK15 _ ?_)
              refine AWp.condLM (fun c7 => ?_) (fun c7 => ?_)
              · skip
                have hkk : kidsOk S r.1 = false := by simpa using c7
                rw [if_pos hkk] at hO
                refine AWp.regionM fun K16 hK16 => ?_
                refine ARun2.callM (fnew_c 7 i) ?_
                refine ARun2.endm (hK16 _ ?_)
                refine AWp.ret ?_
                try simp only [thenQ, blockQ, noGo]
                refine bodyQ.m ?_
                clear hK16 K16 hK15 K15 hK14 K14 hK13 K13 hK12 K12 hK10 K10 hK8 K8 hK7 K7 hK6 K6 hK5 K5 hK4 K4 hK3 K3 hK2 K2 hK1 K1
                subst hO; simp only [GNode.zero, nodeA_eq, GNode.ty, GNode.data, GNode.kids]
                first | done | exact Wk.go
              · skip
                have hkk : kidsOk S r.1 = true := by simpa using c7
                rw [if_neg (by rw [hkk]; simp)] at hO
                refine AWp.skip ?_
                refine hK14 _ ?_
                refine AWp.regionW ?_
                refine AWp.ret ?_
                try simp only [thenQ, blockQ, noGo]
                refine bodyQ.m ?_
                clear hK15 K15 hK14 K14 hK13 K13 hK12 K12 hK10 K10 hK8 K8 hK7 K7 hK6 K6 hK5 K5 hK4 K4 hK3 K3 hK2 K2 hK1 K1
                subst hO; simp only [GNode.zero, nodeA_eq, GNode.ty, GNode.data, GNode.kids]
                first | done | exact Wk.go
    · skip
      have hd0 : dataOf c f = f.val := by rw [hdo, if_neg (by simp at c2; intro h; have := c2 h.1; omega)]
      rw [hd0] at hO
      refine AWp.skip ?_
      refine hK4 _ ?_
      refine AWp.seqK fun K17 hK17 => ?_
      refine AWp.block ?_
      refine AWp.regionM fun K18 hK18 => ?_
      refine ARun2.callM (fits_c S f.val.length (by omega) u3 u1 u2) ?_
      refine ARun2.endm (hK18 _ ?_)
      refine AWp.condLM (fun c3 => ?_) (fun c3 => ?_)
      · skip
        have hf : fitsN S f.val.length = false := by simpa using c3
        rw [if_pos hf] at hO
        refine AWp.regionM fun K19 hK19 => ?_
        refine ARun2.callM (fnew_c 7 i) ?_
        refine ARun2.endm (hK19 _ ?_)
        refine AWp.ret ?_
        try simp only [thenQ, blockQ, noGo]
        refine bodyQ.m ?_
        clear hK19 K19 hK18 K18 hK17 K17 hK5 K5 hK4 K4 hK3 K3 hK2 K2 hK1 K1
        subst hO; simp only [GNode.zero, nodeA_eq, GNode.ty, GNode.data, GNode.kids]
        first | done | exact Wk.go
      · skip
        have hf : fitsN S f.val.length = true := by simpa using c3
        rw [if_neg (by rw [hf]; simp)] at hO
        refine AWp.regionM fun K20 hK20 => ?_
        refine ARun2.callM (counted_c c f.ty f.val (by omega)) ?_
        refine ARun2.endm (hK20 _ ?_)
        refine AWp.condLM (fun c4 => ?_) (fun c4 => ?_)
        · skip
          have hcn := c4
          rw [if_pos hcn] at hO
          refine AWp.regionM fun K21 hK21 => ?_
          refine ARun2.callM (fnew_c 8 (i + 4)) ?_
          refine ARun2.endm (hK21 _ ?_)
          refine AWp.ret ?_
          try simp only [thenQ, blockQ, noGo]
          refine bodyQ.m ?_
          clear hK21 K21 hK20 K20 hK18 K18 hK17 K17 hK5 K5 hK4 K4 hK3 K3 hK2 K2 hK1 K1
          subst hO; simp only [GNode.zero, nodeA_eq, GNode.ty, GNode.data, GNode.kids]
          first | done | exact Wk.go
        · skip
          have hcn := c4
          rw [if_neg (by rw [hcn]; simp)] at hO
          refine AWp.regionW ?_
          refine AWp.condLM (fun c5 => ?_) (fun c5 => ?_)
          · skip
            have hk0 : S.kids = 0 := by simpa using c5
            rw [if_pos hk0] at hO
            refine AWp.regionW ?_
            refine AWp.ret ?_
            try simp only [thenQ, blockQ, noGo]
            refine bodyQ.m ?_
            clear hK20 K20 hK18 K18 hK17 K17 hK5 K5 hK4 K4 hK3 K3 hK2 K2 hK1 K1
            subst hO; simp only [GNode.zero, nodeA_eq, GNode.ty, GNode.data, GNode.kids]
            first | done | exact Wk.go
          · skip
            have hk0 : S.kids ≠ 0 := by simpa using c5
            have hle := fits_least hf
            simp at c2
            have := c2 hk0
            omega
theorem splitN_er (b : List UInt8) : (splitN b).2 = (scan b b.length 0).2 := by
  unfold splitN; split
  · rename_i h; exact h.symm
  · rfl
theorem readN_at (b : List UInt8) (i : Nat) (hi : i ≤ b.length) : (readN b i).2.2.atOf.1 ≤ b.length := by
  unfold readN
  split
  · split
    · exact Nat.zero_le _
    · split
      · exact Nat.zero_le _
      · show i + _ ≤ _; omega
  · exact hi
theorem scan_at (b : List UInt8) : ∀ (k i : Nat), (scan b k i).2.atOf.1 ≤ b.length
  | 0, i => Nat.zero_le _
  | k + 1, i => by
    rw [scan]
    split
    · rename_i hi
      have h := readN_at b i (by omega)
      cases he : (readN b i).2.2 with
      | ok => exact scan_at b k _
      | code c => rw [he] at h; exact h
      | flt c j => rw [he] at h; exact h
    · exact Nat.zero_le _
theorem scan_len (b : List UInt8) : ∀ (k i : Nat), i ≤ b.length → (scan b k i).1.length ≤ b.length - i
  | 0, i, _ => Nat.zero_le _
  | k + 1, i, hle => by
    rw [scan]
    split
    · rename_i hi
      cases he : (readN b i).2.2 with
      | ok =>
        obtain ⟨n1, n2⟩ := readN_next he
        have := scan_len b k (readN b i).2.1 n2
        simp only [List.length_cons]; omega
      | code c => exact Nat.zero_le _
      | flt c j => exact Nat.zero_le _
    · exact Nat.zero_le _
theorem goF_len (one : Frm → Nat → GNode × Er) (i : Nat) : ∀ l : List (Nat × Frm), (goF one i l).1.length ≤ l.length
  | [] => Nat.zero_le _
  | p :: l => by
    have := goF_len one i l
    simp only [goF]
    split
    · split
      · simp only [List.length_cons]; omega
      · exact Nat.zero_le _
    · exact Nat.zero_le _
theorem parseF_len (m c : Nat) (b : List UInt8) (i : Nat) : (parseF m c b i).1.length ≤ b.length := by
  rw [parseF_eq]
  split
  · exact Nat.le_trans (goF_len _ _ _) (by have := scan_len b b.length 0 (Nat.zero_le _); omega)
  · exact Nat.zero_le _
theorem ysOf_len (l : List (Nat × Frm)) : (ysOf l).length = l.length := by simp [ysOf]
theorem parse_step (m c d : Nat) (hd : d < 2 ^ 60) (b : List UInt8) (i : Nat) (hi : i + b.length ≤ 2 ^ 40)
    (hone : ∀ (f : Frm) (j : Nat), j + 4 + f.val.length ≤ i + b.length → PC Tryz.prog 134 [nat c, frmA true f, nat j, nat d] (.tup [nodeA true (oneD m c f j).1, erA (oneD m c f j).2])) :
    PC Tryz.prog 107 [nat c, .sl false 1 (bys b), nat i, nat d] (.tup [.sl true 3 (nodesA true (parseF m c b i).1), erA (parseF m c b i).2]) := by
  have hsat := scan_at b b.length 0
  have hsf := scan_fit b b.length 0
  have hsl := scan_len b b.length 0 (Nat.zero_le _)
  have hsp := splitN_er b
  have hall := all_iter b (by omega)
  have hO := parseF_eq m c b i
  generalize parseF m c b i = O at hO
  generalize hfe : (scan b b.length 0).1 = fs at hsf hsl hall hO
  generalize (scan b b.length 0).2 = er at hsat hsp hO
  refine PC.of_bodyK (by simp only [push_cast]) Tryz.func107 rfl (by rw [Tryz.ntmps107]; simp) ?_
  refine AWp.regionW ?_
  refine AWp.seqK fun K1 hK1 => ?_
  refine AWp.regionM fun K2 hK2 => ?_
  refine ARun2.callM (split_c b (by omega)) ?_
  refine ARun2.endm (hK2 _ ?_)
  rw [hsp]
  refine AWp.regionW ?_
  refine AWp.condLM (fun c0 => ?_) (fun c0 => ?_)
  · skip
    have he : er ≠ .ok := by intro h; rw [h] at c0; cases c0
    rw [if_neg he] at hO
    refine AWp.regionM fun K3 hK3 => ?_
    refine ARun2.callM (shift_c er i (by omega) (by omega)) ?_
    refine ARun2.endm (hK3 _ ?_)
    refine AWp.ret ?_
    try simp only [thenQ, blockQ, noGo]
    refine bodyQ.m ?_
    clear hK3 K3 hK2 K2 hK1 K1
    subst hO; try rw [hk1]
    first | done | exact Wk.go
  · skip
    have he : er = .ok := by rw [← isOk_iff]; simpa using c0
    rw [if_pos he] at hO
    refine AWp.skip ?_
    refine hK1 _ ?_
    refine AWp.regionW ?_
    refine AWp.nilBox 5 0 63 3 rfl rfl ?_
    simp only [push_cast, ↓reduceIte, Nat.reduceEqDiff, Nat.reduceLT, Nat.reduceAdd, Nat.reduceSub, Nat.reduceMul, Nat.reduceLeDiff, Nat.reducePow, Int.reduceLT, Int.reduceToNat, reduceCtorEq, Int.reduceNeg, Int.reduceEq, Nat.reduceBEq, Nat.reduceBNe, Int.reduceBEq, Int.reduceBNe, String.reduceEq]
    refine AWp.seqK fun K4 hK4 => ?_
    refine AWp.regionM fun K5 hK5 => ?_
    refine ARun2.callM (all_c b) ?_
    refine ARun2.endm (hK5 _ ?_)
    refine AWp.block ?_
    refine AWp.rangeFuncM (hall) [4, 6, 7, 8, 9, 12] (fun pre ob tr go => (goF (oneD m c) i (fs.take pre.length)).2 = .ok ∧ pre.length ≤ fs.length ∧ ob = [.box 3 [nat c], .box 3 [nat i], .box 3 [nat d], .box 29 [.val (.slice none 0 0)], .box 41 [.val .nilIface], .box 29 [.own 6], .row 63 3 (nodesA true (goF (oneD m c) i (fs.take pre.length)).1)]) (fun e ob tr go => e = .ret ∧ ∃ er l, O = ([], er) ∧ ob = [.box 3 [nat c], .box 3 [nat i], .box 3 [nat d], .box 29 [.val (.slice none 0 0)], .box 41 [erA er], .box 29 [.own 6], .row 63 3 l]) ?_ ?_ ?_ ?_ ?_
    · intro x hx
      simp only [ysOf, List.mem_map] at hx
      obtain ⟨q, _, rfl⟩ := hx
      rfl
    · exact ⟨rfl, Nat.zero_le _, rfl⟩
    · rintro pre x post ob tr go hxs ⟨hk1, hk2, rfl⟩
      have hpl : pre.length < fs.length := by rw [← ysOf_len fs, hxs]; simp
      have hx : (ysOf fs)[pre.length]? = some x := by rw [hxs]; simp
      rw [ysOf, List.getElem?_map, List.getElem?_eq_getElem hpl] at hx
      simp only [Option.map_some, Option.some.injEq] at hx
      subst hx
      obtain ⟨hp1, hp2⟩ := hsf fs[pre.length] (List.getElem_mem hpl)
      have hfd : fs = fs.take pre.length ++ fs[pre.length] :: fs.drop (pre.length + 1) := by rw [← List.drop_eq_getElem_cons hpl, List.take_append_drop]
      have hgl := goF_len (oneD m c) i (fs.take pre.length)
      rw [List.length_take] at hgl
      obtain ⟨q, hqe⟩ : ∃ q, fs[pre.length] = q := ⟨_, rfl⟩
      rw [hqe] at hfd hp1 hp2 ⊢
      refine AWp.regionW ?_
      refine AWp.regionV ?_
      change AWp _ _ _ _
      refine AWp.block ?_
      refine AWp.regionM fun K6 hK6 => ?_
      refine ARun2.callM (hone q.2 (i + q.1) (by omega)) ?_
      refine ARun2.endm (hK6 _ ?_)
      refine AWp.seqK fun K7 hK7 => ?_
      refine AWp.regionW ?_
      refine AWp.condLM (fun c1 => ?_) (fun c1 => ?_)
      · skip
        have hne : (oneD m c q.2 (i + q.1)).2 ≠ .ok := by intro h; rw [h] at c1; cases c1
        have hr : O = ([], (oneD m c q.2 (i + q.1)).2) := by rw [hO, hfd]; exact goF_err hk1 hne
        refine AWp.regionW ?_
        refine AWp.ret ?_
        try simp only [thenQ, blockQ, noGo]
        refine ⟨_, (Le.keep (fr' := []) trivial).trans (Le.cut 7 (by first | exact Nat.le_refl _ | decide) rfl (by simp only [push_cast, ↓reduceIte, Nat.reduceEqDiff, Nat.reduceLT, Nat.reduceAdd, Nat.reduceSub, Nat.reduceMul, Nat.reduceLeDiff, Nat.reducePow, Int.reduceLT, Int.reduceToNat, reduceCtorEq, Int.reduceNeg, Int.reduceEq, Nat.reduceBEq, Nat.reduceBNe, Int.reduceBEq, Int.reduceBNe, String.reduceEq])), ?_⟩
        exact ⟨rfl, _, _, hr, rfl⟩
      · skip
        have heq : (oneD m c q.2 (i + q.1)).2 = .ok := by rw [← isOk_iff]; simpa using c1
        refine AWp.skip ?_
        refine hK7 _ ?_
        refine AWp.drE [[(12, none)], [(15, none)], [(44, some 0)], []] fun G hG => ?_
        refine Dr.sim ?_
        try simp only [List.cons_append, List.nil_append]
        refine Dr.sim ?_
        try simp only [List.cons_append, List.nil_append]
        refine Dr.sim ?_
        try simp only [List.cons_append, List.nil_append]
        refine Dr.build ?_
        try simp only [List.cons_append, List.nil_append]
        refine Dr.finTN (n := 4) 4 [(44, 0), (45, 1), (46, 2), (47, 3)] [8, 9, 12] hG YtoapdhogghbojaaGreatDoor.Facts.mixed fun KD hKD => ?_
        clear hG G
        refine AAny.one 4 ?_
        refine ARun.opM ?_
        refine ARun2.appendM ?_ ?_ ?_
        · rw [YtoapdhogghbojaaGreatDoor.Facts.eb29, nodesA_len, List.length_cons, List.length_nil]; omega
        · rw [nodesA_len, List.length_cons, List.length_nil]; omega
        refine ARun2.endm ?_
        refine AAny.two 5 7 ?_ ?_
        ·
          refine ARun.opM ?_
          refine ARun2.indexZM (xs := nodesA true (goF (oneD m c) i (fs.take pre.length)).1 ++ [.agg [.val (.int .u16 0), .val (.slice none 0 0), .val (.slice none 0 0)]]) (goF (oneD m c) i (fs.take pre.length)).1.length (by rw [List.length_append, nodesA_len]; simp) ?_
          refine ARun2.endm ?_
          refine AAny.two 6 7 ?_ ?_
          ·
            refine ARun.opM ?_
            refine ARun2.storeZM (nodesA true (goF (oneD m c) i (fs.take pre.length)).1 ++ [.agg [.val (.int .u16 0), .val (.slice none 0 0), .val (.slice none 0 0)]]) (goF (oneD m c) i (fs.take pre.length)).1.length (nodeA true (oneD m c q.2 (i + q.1)).1) (nodesA true (goF (oneD m c) i (fs.take pre.length)).1 ++ [nodeA true (oneD m c q.2 (i + q.1)).1]) (by rw [List.length_append, nodesA_len]; simp) (by rw [List.set_append_right _ _ (by rw [nodesA_len]; exact Nat.le_refl _), nodesA_len, Nat.sub_self, List.set_cons_zero]) ?_
            refine ARun2.endm ?_
            refine AAny.one 7 ?_
            refine ARun.opM ?_
            refine ARun2.endm ?_
            refine AAny.fin (hKD _ ?_); clear hKD KD
            refine ⟨_, (Le.keep (fr' := []) trivial).trans (Le.cut 7 (by first | exact Nat.le_refl _ | decide) rfl (by simp only [push_cast, ↓reduceIte, Nat.reduceEqDiff, Nat.reduceLT, Nat.reduceAdd, Nat.reduceSub, Nat.reduceMul, Nat.reduceLeDiff, Nat.reducePow, Int.reduceLT, Int.reduceToNat, reduceCtorEq, Int.reduceNeg, Int.reduceEq, Nat.reduceBEq, Nat.reduceBNe, Int.reduceBEq, Int.reduceBNe, String.reduceEq])), ?_⟩
            have ht : fs.take (pre ++ [[nat q.1, frmA true q.2]]).length = fs.take pre.length ++ [q] := by
              rw [List.length_append, List.length_cons, List.length_nil, List.take_succ_eq_append_getElem hpl, hqe]
            have hs := goF_snoc hk1 heq
            rw [← ht] at hs
            refine ⟨by rw [hs], by rw [List.length_append]; simp; omega, ?_⟩
            rw [hs, nodesA_snoc, nodeA_eq]
            rfl
          ·
            refine ARun.opM ?_
            refine ARun2.endm ?_
            refine AAny.one 6 ?_
            refine ARun.opM ?_
            refine ARun2.storeZM (nodesA true (goF (oneD m c) i (fs.take pre.length)).1 ++ [.agg [.val (.int .u16 0), .val (.slice none 0 0), .val (.slice none 0 0)]]) (goF (oneD m c) i (fs.take pre.length)).1.length (nodeA true (oneD m c q.2 (i + q.1)).1) (nodesA true (goF (oneD m c) i (fs.take pre.length)).1 ++ [nodeA true (oneD m c q.2 (i + q.1)).1]) (by rw [List.length_append, nodesA_len]; simp) (by rw [List.set_append_right _ _ (by rw [nodesA_len]; exact Nat.le_refl _), nodesA_len, Nat.sub_self, List.set_cons_zero]) ?_
            refine ARun2.endm ?_
            refine AAny.fin (hKD _ ?_); clear hKD KD
            refine ⟨_, (Le.keep (fr' := []) trivial).trans (Le.cut 7 (by first | exact Nat.le_refl _ | decide) rfl (by simp only [push_cast, ↓reduceIte, Nat.reduceEqDiff, Nat.reduceLT, Nat.reduceAdd, Nat.reduceSub, Nat.reduceMul, Nat.reduceLeDiff, Nat.reducePow, Int.reduceLT, Int.reduceToNat, reduceCtorEq, Int.reduceNeg, Int.reduceEq, Nat.reduceBEq, Nat.reduceBNe, Int.reduceBEq, Int.reduceBNe, String.reduceEq])), ?_⟩
            have ht : fs.take (pre ++ [[nat q.1, frmA true q.2]]).length = fs.take pre.length ++ [q] := by
              rw [List.length_append, List.length_cons, List.length_nil, List.take_succ_eq_append_getElem hpl, hqe]
            have hs := goF_snoc hk1 heq
            rw [← ht] at hs
            refine ⟨by rw [hs], by rw [List.length_append]; simp; omega, ?_⟩
            rw [hs, nodesA_snoc, nodeA_eq]
            rfl
        ·
          refine ARun.opM ?_
          refine ARun2.endm ?_
          refine AAny.one 5 ?_
          refine ARun.opM ?_
          refine ARun2.indexZM (xs := nodesA true (goF (oneD m c) i (fs.take pre.length)).1 ++ [.agg [.val (.int .u16 0), .val (.slice none 0 0), .val (.slice none 0 0)]]) (goF (oneD m c) i (fs.take pre.length)).1.length (by rw [List.length_append, nodesA_len]; simp) ?_
          refine ARun2.endm ?_
          refine AAny.one 6 ?_
          refine ARun.opM ?_
          refine ARun2.storeZM (nodesA true (goF (oneD m c) i (fs.take pre.length)).1 ++ [.agg [.val (.int .u16 0), .val (.slice none 0 0), .val (.slice none 0 0)]]) (goF (oneD m c) i (fs.take pre.length)).1.length (nodeA true (oneD m c q.2 (i + q.1)).1) (nodesA true (goF (oneD m c) i (fs.take pre.length)).1 ++ [nodeA true (oneD m c q.2 (i + q.1)).1]) (by rw [List.length_append, nodesA_len]; simp) (by rw [List.set_append_right _ _ (by rw [nodesA_len]; exact Nat.le_refl _), nodesA_len, Nat.sub_self, List.set_cons_zero]) ?_
          refine ARun2.endm ?_
          refine AAny.fin (hKD _ ?_); clear hKD KD
          refine ⟨_, (Le.keep (fr' := []) trivial).trans (Le.cut 7 (by first | exact Nat.le_refl _ | decide) rfl (by simp only [push_cast, ↓reduceIte, Nat.reduceEqDiff, Nat.reduceLT, Nat.reduceAdd, Nat.reduceSub, Nat.reduceMul, Nat.reduceLeDiff, Nat.reducePow, Int.reduceLT, Int.reduceToNat, reduceCtorEq, Int.reduceNeg, Int.reduceEq, Nat.reduceBEq, Nat.reduceBNe, Int.reduceBEq, Int.reduceBNe, String.reduceEq])), ?_⟩
          have ht : fs.take (pre ++ [[nat q.1, frmA true q.2]]).length = fs.take pre.length ++ [q] := by
            rw [List.length_append, List.length_cons, List.length_nil, List.take_succ_eq_append_getElem hpl, hqe]
          have hs := goF_snoc hk1 heq
          rw [← ht] at hs
          refine ⟨by rw [hs], by rw [List.length_append]; simp; omega, ?_⟩
          rw [hs, nodesA_snoc, nodeA_eq]
          rfl
    · rintro ob tr go df ⟨hk1, _, rfl⟩
      rw [ysOf_len, List.take_length] at hk1 ⊢
      refine hK4 _ ?_
      refine AWp.pubD 6 ?_
      refine AWp.regionW ?_
      refine AWp.ret ?_
      try simp only [thenQ, blockQ, noGo]
      refine bodyQ.m ?_
      clear hK5 K5 hK4 K4 hK2 K2 hK1 K1
      subst hO; try rw [hk1]
      first | done | exact Wk.go
    · rintro e ob tr go df ⟨rfl, er, l, hr, rfl⟩
      try simp only [thenQ, blockQ, noGo]
      refine bodyQ.m ?_
      rw [hr]
      first | done | exact Wk.go
theorem parse_all : ∀ (m d c : Nat) (b : List UInt8) (i : Nat), d + m = 5 → (c = 1 ∨ c = 2) → i + b.length ≤ 2 ^ 40 →
    PC Tryz.prog 107 [nat c, .sl false 1 (bys b), nat i, nat d] (.tup [.sl true 3 (nodesA true (parseF m c b i).1), erA (parseF m c b i).2]) := by
  intro m
  induction m with
  | zero =>
    intro d c b i hdm hc hi
    refine parse_step 0 c d (by omega) b i hi fun f j hj => ?_
    exact one_deep c d f j (by omega) (by omega)
  | succ m ih =>
    intro d c b i hdm hc hi
    refine parse_step (m + 1) c d (by omega) b i hi fun f j hj => ?_
    exact one_step m c d hc (by omega) f j (by omega) (fun c b i hc hi => ih (d + 1) c b i (by omega) hc hi) (fun c b i => parseF_len m c b i)
theorem parse_nil0 (c : Nat) : PC Tryz.prog 107 [nat c, .sl false 1 (bys []), nat 0, nat 1] (.tup [.sl true 3 (nodesA true (parseF 4 c [] 0).1), erA (parseF 4 c [] 0).2]) :=
  parse_step 4 c 1 (by omega) [] 0 (by simp) fun f j hj => by simp at hj
mutual
def frameN : GNode → Frm
  | .mk t d k => ⟨t, d ++ joinX (framesN k)⟩
def framesN : List GNode → List Frm
  | [] => []
  | n :: l => frameN n :: framesN l
end
theorem framesN_map : ∀ l : List GNode, framesN l = l.map frameN
  | [] => rfl
  | n :: l => by rw [framesN, framesN_map l]; rfl
theorem frameN_eq (n : GNode) : frameN n = ⟨n.ty, n.data ++ joinX (framesN n.kids)⟩ := by cases n; rw [frameN]; rfl
theorem framesN_len (l : List GNode) : (framesN l).length = l.length := by rw [framesN_map]; simp
theorem upN_mono {a b : Nat} (h : a ≤ b) : upN a ≤ upN b := by unfold upN gapN; omega
theorem sumUp_mono {α : Type} (f g : α → Nat) : ∀ (l : List α) (s s' : Nat), s ≤ s' → (∀ x ∈ l, f x ≤ g x) → sumUp s (l.map f) ≤ sumUp s' (l.map g)
  | [], s, s', h, _ => h
  | x :: l, s, s', h, hl => by
    simp only [List.map_cons, sumUp]
    refine sumUp_mono f g l _ _ ?_ fun y hy => hl y (by simp [hy])
    have := upN_mono h
    have := hl x (by simp)
    omega
theorem framesT_of {l : List GNode} (h : ∀ x ∈ l, (frameN x).val.length ≤ vlen x) : tlvSize ((framesN l).map fun f => f.val.length) ≤ nSize l := by
  unfold nSize tlvSize
  rw [framesN_map, nLens_map, List.map_map, List.map_map, List.map_map]
  exact sumUp_mono _ _ l 0 0 (Nat.le_refl _) fun x hx => by simp only [Function.comp]; have := h x hx; omega
theorem joinX_le (l : List Frm) : (joinX l).length ≤ tlvSize (l.map fun f => f.val.length) := by
  unfold joinX
  split
  · rw [joinF_len]; exact Nat.le_refl _
  · simp
mutual
theorem frameN_le : ∀ n : GNode, (frameN n).val.length ≤ vlen n
  | .mk t d k => by
    have h1 := framesT_of (framesL_le k)
    have h2 := joinX_le (framesN k)
    simp only [frameN, vlen, List.length_append]
    unfold nSize at h1
    omega
theorem framesL_le : ∀ (l : List GNode), ∀ x ∈ l, (frameN x).val.length ≤ vlen x
  | [], x, h => by simp at h
  | n :: l, x, h => (List.mem_cons.1 h).elim (fun e => e ▸ frameN_le n) (fun h => framesL_le l x h)
end
theorem framesT_le (l : List GNode) : tlvSize ((framesN l).map fun f => f.val.length) ≤ nSize l := framesT_of (framesL_le l)
theorem framesN_le (l : List GNode) : (joinX (framesN l)).length ≤ nSize l := Nat.le_trans (joinX_le _) (framesT_le l)
theorem framesN_snoc (l : List GNode) (n : GNode) : framesN (l ++ [n]) = framesN l ++ [frameN n] := by rw [framesN_map, framesN_map]; simp
@[push_cast] theorem errA_zero : errA 0 = .val .nilIface := rfl
theorem frameN_ty (n : GNode) : (frameN n).ty = n.ty := by rw [frameN_eq]
theorem frames_step (w : Nat) (ih : ∀ l : List GNode, wts l < w → nSize l ≤ 2 ^ 30 → tysOk l = true → PC Tryz.prog 104 [.sl false 3 (nodesA false l)] (.sl true 2 (frmsA true (framesN l)))) (l : List GNode) (hw : wts l ≤ w) (hs : nSize l ≤ 2 ^ 30) (ht : tysOk l = true) :
    PC Tryz.prog 104 [.sl false 3 (nodesA false l)] (.sl true 2 (frmsA true (framesN l))) := by
  have hlen := nSize_len l
  refine PC.of_bodyK (by simp only [push_cast]) Tryz.func104 rfl (by rw [Tryz.ntmps104]; simp) ?_
  refine AWp.regionW ?_
  refine AWp.regionW ?_
  refine AWp.seqK fun K1 hK1 => ?_
  refine AWp.regionW ?_
  refine AWp.block ?_
  -- SLOTS THAT TURN AND ARE NOT TOLD: [3]
  refine AWp.nilOwn 3 161 2 (by simp only [push_cast, ↓reduceIte, Nat.reduceEqDiff, Nat.reduceLT, Nat.reduceAdd, Nat.reduceSub, Nat.reduceMul, Nat.reduceLeDiff, Nat.reducePow, Int.reduceLT, Int.reduceToNat, reduceCtorEq, Int.reduceNeg, Int.reduceEq, Nat.reduceBEq, Nat.reduceBNe, Int.reduceBEq, Int.reduceBNe, String.reduceEq]) ?_
  simp only [push_cast, ↓reduceIte, Nat.reduceEqDiff, Nat.reduceLT, Nat.reduceAdd, Nat.reduceSub, Nat.reduceMul, Nat.reduceLeDiff, Nat.reducePow, Int.reduceLT, Int.reduceToNat, reduceCtorEq, Int.reduceNeg, Int.reduceEq, Nat.reduceBEq, Nat.reduceBNe, Int.reduceBEq, Int.reduceBNe, String.reduceEq]
  refine AWp.loopK [3, 8, 9] (fun (i : Nat) => [(10, nat i)]) (fun i => [.row 161 2 (frmsA true (framesN (l.take i)))]) (fun i => i ≤ l.length) (fun i => l.length - i) (0) ?_ (Nat.zero_le _) ?_
  · skip
    refine Le.m 1 ?_ ?_
    · try simp only [push_cast, ↓reduceIte, Nat.reduceEqDiff, Nat.reduceLT, Nat.reduceAdd, Nat.reduceSub, Nat.reduceMul, Nat.reduceLeDiff, Nat.reducePow, Int.reduceLT, Int.reduceToNat, reduceCtorEq, Int.reduceNeg, Int.reduceEq, Nat.reduceBEq, Nat.reduceBNe, Int.reduceBEq, Int.reduceBNe, String.reduceEq]
      try simp (disch := omega) only [w_nat, w_add, w_addl, w_addr, w_sub, w_subl, w_mul, w_mull, w_mulr, w_u32, w_u16, w_u8, w_u32a, N_zero]
      first | done | skip
      rfl
    · exact Go.Abs.evN
  · intro i hi K2 hK2
    refine AWp.regionW ?_
    refine AWp.seqK fun K3 hK3 => ?_
    refine AWp.condLM (fun c0 => ?_) (fun c0 => ?_)
    · skip
      have hil : i < l.length := by simpa using c0
      have hm := List.getElem_mem hil
      have hv := vlen_mem hm
      have he := vlen_eq l[i]
      have hk := nSize_kids hm
      have hkl := nSize_len l[i].kids
      have hkt := GNode.tyOk_kids (tysOk_mem ht _ hm)
      have hfl := framesN_le l[i].kids
      refine AWp.skip ?_
      refine hK3 _ ?_
      refine AWp.seqK fun K4 hK4 => ?_
      refine AWp.block ?_
      refine AWp.regionM fun K5 hK5 => ?_
      refine ARun2.indexM (i) (nodeA false l[i]) ?_ ?_
      · exact nodesA_at _ _ _ hil
      refine ARun2.endm (hK5 _ ?_)
      refine AWp.regionM fun K6 hK6 => ?_
      refine ARun2.callM (ih l[i].kids (by have := kids_lt hm; omega) (by omega) hkt) ?_
      refine ARun2.callM (join_c (framesN l[i].kids) (by intro f hf; rw [framesN_map] at hf; obtain ⟨n, hn, rfl⟩ := List.mem_map.1 hf; rw [frameN_ty]; exact GNode.tyOk_ty (tysOk_mem hkt _ hn)) (by have := framesT_le l[i].kids; omega) (by rw [framesN_len]; omega)) ?_
      refine ARun2.endm (hK6 _ ?_)
      have hj := wjoin_c [l[i].data, joinX (framesN l[i].kids)] (by simp [lens]; omega) (by simp)
      rw [show [l[i].data, joinX (framesN l[i].kids)].flatten = l[i].data ++ joinX (framesN l[i].kids) by simp] at hj
      refine AWp.drE [[(3, none)], [(5, none)], [(22, some 1)], [(5, none)], [(24, some 3)], [(6, none)], [(25, some 4), (26, some 5)], [(27, some 6)], [(23, some 2), (28, some 7)], [(29, some 8)]] fun G hG => ?_
      refine Dr.sim ?_
      try simp only [List.cons_append, List.nil_append]
      refine Dr.sim ?_
      try simp only [List.cons_append, List.nil_append]
      refine Dr.sim ?_
      try simp only [List.cons_append, List.nil_append]
      refine Dr.sim ?_
      try simp only [List.cons_append, List.nil_append]
      refine Dr.sim ?_
      try simp only [List.cons_append, List.nil_append]
      refine Dr.sim ?_
      try simp only [List.cons_append, List.nil_append]
      refine Dr.build ?_
      try simp only [List.cons_append, List.nil_append]
      refine Dr.call (hj) ?_
      try simp only [List.cons_append, List.nil_append]
      refine Dr.sim ?_
      try simp only [List.cons_append, List.nil_append]
      refine Dr.build ?_
      try simp only [List.cons_append, List.nil_append]
      refine Dr.finN (n := 10) [(21, 0), (30, 9)] [8, 9, 10] hG YtoapdhogghbojaaGreatDoor.Facts.mixed fun KD hKD => ?_
      refine ARun2.appendM ?_ ?_ ?_
      · rw [YtoapdhogghbojaaGreatDoor.Facts.eb158, frmsA_len, framesN_len, List.length_take, List.length_cons, List.length_nil]; omega
      · rw [frmsA_len, framesN_len, List.length_take, List.length_cons, List.length_nil]; omega
      refine ARun2.endm (hKD _ ?_); clear hKD KD hG G
      refine hK4 _ ?_
      refine AWp.regionV ?_
      refine hK2 _ (i + 1) (by omega) (by omega) ?_
      refine Le.m 1 ?_ ?_
      · try simp only [push_cast, ↓reduceIte, Nat.reduceEqDiff, Nat.reduceLT, Nat.reduceAdd, Nat.reduceSub, Nat.reduceMul, Nat.reduceLeDiff, Nat.reducePow, Int.reduceLT, Int.reduceToNat, reduceCtorEq, Int.reduceNeg, Int.reduceEq, Nat.reduceBEq, Nat.reduceBNe, Int.reduceBEq, Int.reduceBNe, String.reduceEq]
        try simp (disch := omega) only [w_nat, w_add, w_addl, w_addr, w_sub, w_subl, w_mul, w_mull, w_mulr, w_u32, w_u16, w_u8, w_u32a, N_zero]
        first | done | skip
        rw [List.take_succ_eq_append_getElem hil, framesN_snoc, frmsA_snoc, frameN_eq l[i]]; rfl
      · exact Go.Abs.evN
    · skip
      have hil : i = l.length := by simp at c0; omega
      subst hil
      refine AWp.exit ?_
      try simp only [thenQ, blockQ, noGo, reduceIte, Nat.reduceEqDiff]
      refine hK1 _ ?_
      refine AWp.pubD 0 ?_
      refine AWp.regionW ?_
      refine AWp.ret ?_
      try simp only [thenQ, blockQ, noGo]
      refine bodyQ.m ?_
      clear hK3 K3 hK2 K2 hK1 K1
      rw [List.take_length]
      first | done | exact Wk.go
theorem frames_w : ∀ (w : Nat) (l : List GNode), wts l ≤ w → nSize l ≤ 2 ^ 30 → tysOk l = true → PC Tryz.prog 104 [.sl false 3 (nodesA false l)] (.sl true 2 (frmsA true (framesN l))) := by
  intro w
  induction w with
  | zero => exact frames_step 0 (fun l h => by omega)
  | succ w ih => exact frames_step (w + 1) (fun l h => ih l (by omega))
theorem frames_c (l : List GNode) (hs : nSize l ≤ 2 ^ 30) (ht : tysOk l = true) : PC Tryz.prog 104 [.sl false 3 (nodesA false l)] (.sl true 2 (frmsA true (framesN l))) := frames_w _ l (Nat.le_refl _) hs ht
def encN (l : List GNode) : List UInt8 := joinX (framesN l)
theorem ifcEq_err (e c : Nat) (hc : c ≠ 0) : ifcEq (errA e) 96 .i64 (N c) = some (e == c) := by
  unfold errA
  by_cases he : e = 0
  · subst he
    have : (0 == c) = false := by simpa using Ne.symm hc
    rw [this]; rfl
  · have h1 : (e == 0) = false := by simpa using he
    rw [h1]
    simp only [cond_false, ifcEq, if_true, Option.some.injEq, N]
    rw [Bool.eq_iff_iff]; simp; omega
def toldN (e : Er) (c i : Nat) : Bool := bif c == 0 then e.isOk else (e.codeOf.2 && e.codeOf.1 == c && e.atOf.2 && e.atOf.1 == i)
mutual
def refV : GNode → List UInt8
  | .mk _ d k => d ++ joinF (refFs k)
def refFs : List GNode → List Frm
  | [] => []
  | n :: l => ⟨n.ty, refV n⟩ :: refFs l
end
theorem refV_eq (n : GNode) : refV n = n.data ++ joinF (refFs n.kids) := by cases n; simp [refV, GNode.data, GNode.kids]
theorem refFs_map : ∀ l : List GNode, refFs l = l.map fun n => ⟨n.ty, refV n⟩
  | [] => by simp [refFs]
  | n :: l => by simp [refFs, refFs_map l]
mutual
theorem refV_len : ∀ n : GNode, (refV n).length = vlen n
  | .mk t d k => by rw [refV, List.length_append, joinF_len, vlen, refFs_len k]
theorem refFs_len : ∀ l : List GNode, ((refFs l).map fun f => f.val.length) = nLens l
  | [] => by simp [refFs, nLens]
  | n :: l => by simp [refFs, nLens, refV_len n, refFs_len l]
end
theorem refB_len (l : List GNode) : (joinF (refFs l)).length = nSize l := by rw [joinF_len, refFs_len]; rfl
theorem padB_mod (l : List UInt8) : (padB l).length % 4 = 0 := by rw [padB_len]; unfold upN gapN; omega
theorem padB_app (A X : List UInt8) (h : A.length % 4 = 0) : padB (A ++ X) = A ++ padB X := by
  have : gapN (A ++ X).length = gapN X.length := by rw [List.length_append]; unfold gapN; omega
  unfold padB; rw [this, List.append_assoc]
theorem join_app (A : List UInt8) (h : A.length % 4 = 0) : ∀ (l : List Frm) (X : List UInt8), l.foldl (fun out f => padB out ++ putF f) (A ++ X) = A ++ l.foldl (fun out f => padB out ++ putF f) X
  | [], X => rfl
  | f :: l, X => by rw [List.foldl_cons, List.foldl_cons, padB_app A X h, List.append_assoc, join_app A h l]
theorem padB_nil : padB [] = [] := by simp [padB, gapN]
theorem joinF_one (f : Frm) : joinF [f] = putF f := by simp [joinF, padB_nil]
theorem joinF_two (f g : Frm) (l : List Frm) : joinF (f :: g :: l) = padB (putF f) ++ joinF (g :: l) := by
  unfold joinF
  rw [List.foldl_cons, List.foldl_cons, padB_nil, List.nil_append, join_app _ (padB_mod _), List.foldl_cons, padB_nil, List.nil_append]
theorem checkL_mem {c dp : Nat} : ∀ {l : List GNode}, checkL c dp l = 0 → ∀ n ∈ l, checkN c dp n = 0
  | [], h, n, hn => by simp at hn
  | m :: l, h, n, hn => by
    rw [checkL] at h
    split at h
    · rename_i hm; exact absurd h hm
    · rename_i hm
      rcases List.mem_cons.1 hn with rfl | hn
      · simpa using hm
      · exact checkL_mem h n hn
theorem checkN_zero {c dp : Nat} {n : GNode} (h : checkN c dp n = 0) : dp ≤ 4 ∧ badN c n.ty n.data.length n.kids = false ∧ countedN c n.ty n.data = false ∧ checkL (insideN (shapeOf c n.ty).kids).1 (dp + 1) n.kids = 0 ∧ nSize [n] ≤ 65535 := by
  rw [checkN_eq] at h
  split at h
  · cases h
  · rename_i h1
    split at h
    · cases h
    · rename_i h2
      split at h
      · cases h
      · rename_i h3
        split at h
        · rename_i h4; exact absurd h h4
        · rename_i h4
          split at h
          · cases h
          · rename_i h5
            exact ⟨by omega, by simpa using h2, by simpa using h3, by simpa using h4, by omega⟩
theorem size_one (n : GNode) : nSize [n] = 4 + vlen n := by simp [nSize, nLens, tlvSize, sumUp, upN, gapN]
theorem enc_rt : ∀ (w dp c : Nat) (l : List GNode), wts l ≤ w → checkL c dp l = 0 → encN l = joinF (refFs l)
  | w, dp, c, l, hw, h => by
    have key : ∀ n ∈ l, frameN n = ⟨n.ty, refV n⟩ := by
      intro n hn
      have hz := checkN_zero (checkL_mem h n hn)
      have hlt := kids_lt hn
      match w with
      | 0 => omega
      | w + 1 =>
        have := enc_rt w (dp + 1) _ n.kids (by omega) hz.2.2.2.1
        unfold encN at this
        rw [frameN_eq, this, ← refV_eq]
    have e : framesN l = refFs l := by
      rw [framesN_map, refFs_map]
      exact List.map_congr_left key
    unfold encN joinX
    rw [e, if_pos]
    rw [List.all_eq_true]
    intro f hf
    rw [refFs_map] at hf
    obtain ⟨n, hn, rfl⟩ := List.mem_map.1 hf
    have hz := (checkN_zero (checkL_mem h n hn)).2.2.2.2
    rw [size_one] at hz
    have := refV_len n
    simp [fitF]; omega
theorem putB4_2 (a b c d : UInt8) (r : List UInt8) (v : List UInt8) (hv : v = r) (hn : beN [c, d] = 4 + r.length) : putF ⟨beN [a, b], v⟩ = a :: b :: c :: d :: r := by
  subst hv
  simp only [putF, putB2_be, ← hn]
  rfl
theorem zeroB_iff (l : List UInt8) : zeroB l = true ↔ l = List.replicate l.length 0 := by
  unfold zeroB
  rw [List.all_eq_true, List.eq_replicate_iff]
  simp
theorem read_back (A X : List UInt8) (hA : A.length % 4 = 0) (hX : X ≠ []) (he : (readN (A ++ X) A.length).2.2 = .ok) :
    (X = putF (readN (A ++ X) A.length).1 ∧ (readN (A ++ X) A.length).2.1 = (A ++ X).length) ∨
    (∃ Y, Y ≠ [] ∧ X = padB (putF (readN (A ++ X) A.length).1) ++ Y ∧ (readN (A ++ X) A.length).2.1 = (A ++ padB (putF (readN (A ++ X) A.length).1)).length) := by
  have hd : (A ++ X).drop A.length = X := by rw [List.drop_append_of_le_length (Nat.le_refl _), List.drop_of_length_le (Nat.le_refl _), List.nil_append]
  have hl : (A ++ X).length = A.length + X.length := List.length_append
  unfold readN at he ⊢
  rw [hd, hl] at he ⊢
  split at he
  case isFalse => cases he
  rename_i hc
  rw [if_pos hc]
  obtain ⟨c1, c2, c3⟩ := hc
  obtain ⟨a, b, c, d, r, rfl⟩ : ∃ a b c d r, X = a :: b :: c :: d :: r := by
    match X, hX, c1 with
    | a :: b :: c :: d :: r, _, _ => exact ⟨a, b, c, d, r, rfl⟩
    | [a], _, h => simp at h
    | [a, b], _, h => simp at h
    | [a, b, c], _, h => simp at h
  have p2 : peekN 2 (a :: b :: c :: d :: r) 2 = beN [c, d] := by unfold peekN; rw [if_pos (by simp)]; rfl
  have p0 : peekN 2 (a :: b :: c :: d :: r) 0 = beN [a, b] := by unfold peekN; rw [if_pos (by simp)]; rfl
  have hrl : (a :: b :: c :: d :: r).length = 4 + r.length := by simp; omega
  rw [p2] at c2 c3 he ⊢
  rw [p0]
  rw [hrl] at c1 c3 he ⊢
  obtain ⟨n, hn⟩ : ∃ n, n = beN [c, d] := ⟨_, rfl⟩
  rw [← hn] at c2 c3 he ⊢
  have hv : ((a :: b :: c :: d :: r).drop 4).take (n - 4) = r.take (n - 4) := rfl
  rw [hv]
  have hpf : putF ⟨beN [a, b], r.take (n - 4)⟩ = (a :: b :: c :: d :: r).take n := by
    rw [putB4_2 a b c d (r.take (n - 4)) _ rfl (by rw [← hn, List.length_take]; omega)]
    obtain ⟨k, rfl⟩ : ∃ k, n = 4 + k := ⟨n - 4, by omega⟩
    rw [show 4 + k - 4 = k by omega, show 4 + k = k + 1 + 1 + 1 + 1 by omega]
    simp only [List.take_succ_cons]
  split at he
  · rename_i h1
    rw [if_pos h1]
    left
    refine ⟨?_, h1⟩
    show _ = putF ⟨beN [a, b], r.take (n - 4)⟩
    rw [hpf, List.take_of_length_le (by rw [hrl]; omega)]
  · rename_i h1
    rw [if_neg h1]
    split at he
    case isFalse => cases he
    rename_i h2
    rw [if_pos h2]
    right
    obtain ⟨h2, h3⟩ := h2
    obtain ⟨X, hXe⟩ : ∃ X, X = a :: b :: c :: d :: r := ⟨_, rfl⟩
    rw [← hXe] at h2 h3 hpf ⊢
    have hXl : X.length = 4 + r.length := by rw [hXe]; exact hrl
    have hnx : nextN (A ++ X) (A.length + n) = some (upN (A.length + n)) ∧ upN (A.length + n) ≤ (A ++ X).length ∧ zeroB (((A ++ X).take (upN (A.length + n))).drop (A.length + n)) = true := by
      unfold nextN at h2 ⊢
      split at h2
      · rename_i hc; exact ⟨by rw [if_pos hc], hc.2.1, hc.2.2⟩
      · simp at h2
    obtain ⟨q1, q2, q3⟩ := hnx
    rw [q1, Option.getD_some] at h3 ⊢
    have hu : upN (A.length + n) = A.length + upN n := by unfold upN gapN; omega
    have hun : upN n = n + gapN n := rfl
    have hlen : (X.take n).length = n := by rw [List.length_take]; omega
    rw [List.length_append] at q2
    have hpad : padB (X.take n) = X.take (upN n) := by
      unfold padB
      rw [hlen, hun, List.take_add]
      congr 1
      have hz : ((A ++ X).take (upN (A.length + n))).drop (A.length + n) = (X.drop n).take (gapN n) := by
        rw [hu, List.take_append, List.take_of_length_le (by omega), show A.length + upN n - A.length = upN n by omega, List.drop_append, List.drop_of_length_le (by omega), List.nil_append, show A.length + n - A.length = n by omega, List.drop_take, hun, show n + gapN n - n = gapN n by omega]
      rw [hz, zeroB_iff] at q3
      rw [q3, List.length_take, List.length_drop, Nat.min_eq_left (by omega)]
    refine ⟨X.drop (upN n), ?_, ?_, ?_⟩
    · intro h0
      have := congrArg List.length h0
      simp at this
      omega
    · show X = padB (putF ⟨beN [a, b], r.take (n - 4)⟩) ++ _
      rw [hpf, hpad, List.take_append_drop]
    · show _ = (A ++ padB (putF ⟨beN [a, b], r.take (n - 4)⟩)).length
      rw [hpf, List.length_append, padB_len, hlen, hu]
theorem scan_back : ∀ (k : Nat) (A X : List UInt8), A.length % 4 = 0 → X.length ≤ k → (scan (A ++ X) k A.length).2 = .ok → joinF ((scan (A ++ X) k A.length).1.map (·.2)) = X
  | 0, A, X, hA, hk, h => by
    obtain rfl : X = [] := List.eq_nil_of_length_eq_zero (by omega)
    rfl
  | k + 1, A, X, hA, hk, h => by
    rw [scan] at h ⊢
    by_cases hX : X = []
    · subst hX
      rw [if_neg (by simp)]; rfl
    · have hpos : 0 < X.length := List.length_pos_iff.2 hX
      rw [if_pos (by simp; omega)] at h ⊢
      cases he : (readN (A ++ X) A.length).2.2 with
      | code c => simp [he] at h
      | flt c j => simp [he] at h
      | ok =>
        simp only [he] at h ⊢
        rcases read_back A X hA hX he with ⟨h1, h2⟩ | ⟨Y, h1, h2, h3⟩
        · have hs : scan (A ++ X) k (A ++ X).length = ([], .ok) := by
            cases k with
            | zero => rfl
            | succ k => rw [scan, if_neg (by omega)]
          rw [h2, hs]
          simp only [List.map_cons, List.map_nil]
          rw [joinF_one]; exact h1.symm
        · generalize hr : readN (A ++ X) A.length = q at h1 h2 h3 h he
          rw [h3] at h ⊢
          have e : A ++ X = (A ++ padB (putF q.1)) ++ Y := by rw [h2, List.append_assoc]
          rw [e] at h ⊢
          have hl : (putF q.1).length = 4 + q.1.val.length := putF_len _
          have hp := padB_len (putF q.1)
          have hXl : X.length = (padB (putF q.1)).length + Y.length := by rw [h2, List.length_append]
          have hu : (putF q.1).length ≤ upN (putF q.1).length := by unfold upN; omega
          have ih := scan_back k (A ++ padB (putF q.1)) Y (by rw [List.length_append]; have := padB_mod (putF q.1); omega) (by omega) h
          cases hz : (scan ((A ++ padB (putF q.1)) ++ Y) k (A ++ padB (putF q.1)).length).1 with
          | nil => rw [hz] at ih; exact absurd ih.symm h1
          | cons p l =>
            rw [hz] at ih
            simp only [List.map_cons] at ih ⊢
            rw [joinF_two, ih]; exact h2.symm
theorem readN_val (b : List UInt8) (i : Nat) : (readN b i).1.val.length ≤ 65531 := by
  have hp := peek2_lt (b.drop i) 2
  unfold readN
  split
  · split
    · simp only [List.length_take]; omega
    · split
      · simp only [List.length_take]; omega
      · simp [frm0]
  · simp [frm0]
theorem scan_val (b : List UInt8) : ∀ (k i : Nat), ∀ p ∈ (scan b k i).1, p.2.val.length ≤ 65531 ∧ p.2.ty < 65536
  | 0, i, p, h => by simp [scan] at h
  | k + 1, i, p, h => by
    rw [scan] at h
    split at h
    · rename_i hi
      cases he : (readN b i).2.2 with
      | ok =>
        simp only [he] at h
        rcases List.mem_cons.1 h with rfl | h
        · exact ⟨readN_val b i, readN_ty b i⟩
        · exact scan_val b k _ p h
      | code c => simp [he] at h
      | flt c j => simp [he] at h
    · simp at h
def Back (c dp : Nat) (l : List GNode) (b : List UInt8) : Prop := checkL c dp l = 0 ∧ joinF (refFs l) = b ∧ tysOk l = true
theorem kidsOk_nil {f : ShForm} (h : f.kids = 0) : kidsOk f [] = true := by unfold kidsOk; rw [h]; rfl
theorem one_back (m c dp : Nat) (hdp : dp ≤ 4) (f : Frm) (i : Nat) (hf : f.val.length ≤ 65531) (hty : f.ty < 65536)
    (ih : ∀ (c : Nat) (b : List UInt8) (i : Nat), (c = 1 ∨ c = 2) → (parseF m c b i).2 = .ok → Back c (dp + 1) (parseF m c b i).1 b)
    (h : (oneF (parseF m) c f i).2 = .ok) : checkN c dp (oneF (parseF m) c f i).1 = 0 ∧ (⟨(oneF (parseF m) c f i).1.ty, refV (oneF (parseF m) c f i).1⟩ : Frm) = f ∧ (oneF (parseF m) c f i).1.tyOk = true := by
  have key : ∀ (d : List UInt8) (k : List GNode), badN c f.ty d.length k = false → countedN c f.ty d = false → checkL (insideN (shapeOf c f.ty).kids).1 (dp + 1) k = 0 → d ++ joinF (refFs k) = f.val → tysOk k = true →
      checkN c dp (.mk f.ty d k) = 0 ∧ (⟨(GNode.mk f.ty d k).ty, refV (.mk f.ty d k)⟩ : Frm) = f ∧ (GNode.mk f.ty d k).tyOk = true := by
    intro d k h1 h2 h3 h4 h5
    have hv : refV (.mk f.ty d k) = f.val := by rw [refV]; exact h4
    have hs : nSize [GNode.mk f.ty d k] = 4 + f.val.length := by rw [size_one, ← refV_len, hv]
    refine ⟨?_, ?_, ?_⟩
    · rw [checkN_eq]
      simp only [GNode.ty, GNode.data, GNode.kids]
      have hs' : ¬ 65535 < nSize [GNode.mk f.ty d k] := by rw [hs]; omega
      have hdp' : ¬ 4 < dp := by omega
      simp [h1, h2, h3, hs', hdp']
    · rw [hv]; rfl
    · rw [GNode.tyOk_eq]; simp [GNode.ty, GNode.kids, h5, hty]
  unfold oneF at h ⊢
  split at h
  · rename_i hs
    rw [if_pos hs]
    refine key f.val [] ?_ ?_ rfl (by simp [refFs, joinF]) rfl
    · unfold badN; rw [hs]; simp
    · unfold countedN
      cases hz : (c == 2 && (f.ty == 2 && (!decide (4 ≤ f.val.length) || peekN 4 f.val 0 != (f.val.length - 4) / 2))) with
      | false => rfl
      | true =>
        exfalso
        simp only [Bool.and_eq_true, beq_iff_eq] at hz
        rw [hz.1, hz.2.1] at hs
        cases hs
  · rename_i hs
    have hs' : shapeHas c f.ty = true := by simpa using hs
    rw [if_neg hs]
    split at h
    · cases h
    · rename_i hft
      have hft' : fitsN (shapeOf c f.ty) (dataOf c f).length = true := by simpa using hft
      rw [if_neg hft]
      split at h
      · cases h
      · rename_i hct
        rw [if_neg hct]
        have hct' : countedN c f.ty (dataOf c f) = false := by simpa using hct
        split at h
        · rename_i hk0
          rw [if_pos hk0]
          have hd : dataOf c f = f.val := by unfold dataOf; rw [if_neg (by simp [hk0])]
          refine key (dataOf c f) [] ?_ hct' rfl (by simp [refFs, joinF, hd]) rfl
          unfold badN; rw [hs', hft', kidsOk_nil hk0]; simp
        · rename_i hk0
          rw [if_neg hk0]
          have hcl := inside_cls (shape_kids4 c f.ty) hk0
          obtain ⟨R, hR⟩ : ∃ R, R = parseF m (insideN (shapeOf c f.ty).kids).1 (f.val.drop (shapeOf c f.ty).least) (i + 4 + (shapeOf c f.ty).least) := ⟨_, rfl⟩
          have hih := ih (insideN (shapeOf c f.ty).kids).1 (f.val.drop (shapeOf c f.ty).least) (i + 4 + (shapeOf c f.ty).least) hcl
          rw [← hR] at h hih ⊢
          split at h
          · rename_i hno; exact absurd h hno
          · rename_i hok
            have hok' : R.2 = .ok := by simpa using hok
            rw [if_neg hok]
            split at h
            · cases h
            · rename_i hkk
              have hkk' : kidsOk (shapeOf c f.ty) R.1 = true := by simpa using hkk
              rw [if_neg hkk]
              obtain ⟨b1, b2, b3⟩ := hih hok'
              have hle := fits_least hft'
              have hdl := dataOf_len c f
              have hd : dataOf c f = f.val.take (shapeOf c f.ty).least := by unfold dataOf; rw [if_pos ⟨hk0, by omega⟩]
              refine key (dataOf c f) R.1 ?_ hct' b1 ?_ b3
              · unfold badN; rw [hs', hft', hkk']; simp
              · rw [b2, hd, List.take_append_drop]
theorem goF_back (one : Frm → Nat → GNode × Er) (i c dp : Nat) : ∀ (l : List (Nat × Frm)), (∀ p ∈ l, (one p.2 (i + p.1)).2 = .ok → checkN c dp (one p.2 (i + p.1)).1 = 0 ∧ (⟨(one p.2 (i + p.1)).1.ty, refV (one p.2 (i + p.1)).1⟩ : Frm) = p.2 ∧ (one p.2 (i + p.1)).1.tyOk = true) →
    (goF one i l).2 = .ok → checkL c dp (goF one i l).1 = 0 ∧ refFs (goF one i l).1 = l.map (·.2) ∧ tysOk (goF one i l).1 = true
  | [], _, _ => ⟨rfl, by simp [goF, refFs], rfl⟩
  | p :: l, hp, h => by
    simp only [goF] at h ⊢
    split at h
    · rename_i h1
      split at h
      · rename_i h2
        rw [if_pos h1, if_pos h2]
        obtain ⟨a1, a2, a3⟩ := hp p (by simp) h1
        obtain ⟨b1, b2, b3⟩ := goF_back one i c dp l (fun q hq => hp q (by simp [hq])) h2
        refine ⟨by rw [checkL, a1]; simpa using b1, ?_, by rw [tysOk, a3, b3]; rfl⟩
        simp only [refFs, List.map_cons, b2, a2]
      · rename_i h2; exact absurd h h2
    · rename_i h1; exact absurd h h1
theorem parse_back : ∀ (m dp c : Nat) (b : List UInt8) (i : Nat), dp + m = 5 → (c = 1 ∨ c = 2) → (parseF m c b i).2 = .ok → Back c dp (parseF m c b i).1 b := by
  intro m
  induction m with
  | zero =>
    intro dp c b i hdm hc h
    rw [parseF_eq] at h ⊢
    split at h
    · rename_i hs
      rw [if_pos hs]
      have hb := scan_back b.length [] b rfl (Nat.le_refl _) hs
      have := goF_back (oneD 0 c) i c dp (scan b b.length 0).1 (fun p _ hp => by cases hp) h
      exact ⟨this.1, by rw [this.2.1]; exact hb, this.2.2⟩
    · rename_i hs
      cases he : (scan b b.length 0).2 <;> simp [he, Er.shift] at h hs
  | succ m ih =>
    intro dp c b i hdm hc h
    rw [parseF_eq] at h ⊢
    split at h
    · rename_i hs
      rw [if_pos hs]
      have hb := scan_back b.length [] b rfl (Nat.le_refl _) hs
      have hv := scan_val b b.length 0
      have := goF_back (oneD (m + 1) c) i c dp (scan b b.length 0).1 (fun p hp h1 => one_back m c dp (by omega) p.2 _ (hv p hp).1 (hv p hp).2 (fun c b i hc h => ih (dp + 1) c b i (by omega) hc h) h1) h
      exact ⟨this.1, by rw [this.2.1]; exact hb, this.2.2⟩
    · rename_i hs
      cases he : (scan b b.length 0).2 <;> simp [he, Er.shift] at h hs
def headB (c : GChunk) : List UInt8 := [UInt8.ofNat c.ty, UInt8.ofNat c.flags]
def bytesC (c : GChunk) : List UInt8 := headB c ++ (putB 2 (4 + c.data.length + nSize c.kids) ++ (c.data ++ joinF (refFs c.kids)))
theorem bytesC_len (c : GChunk) : (bytesC c).length = 4 + c.data.length + nSize c.kids := by
  simp only [bytesC, headB, List.length_append, putB_len, refB_len, List.length_cons, List.length_nil]; omega
def headC (b : List UInt8) : GChunk := ⟨(b.getD 0 0).toNat, (b.getD 1 0).toNat, b.drop 4, []⟩
def cutC (c : GChunk) : GChunk := if (kindOf c.ty).kids ≠ 0 ∧ (kindOf c.ty).least ≤ c.data.length then { c with data := c.data.take (kindOf c.ty).least } else c
def dataE4 (c : GChunk) : Er := firstE [flagsE c (kindOf c.ty), dataE c (kindOf c.ty), countE c, valueE c]
def insC (c : GChunk) (r : List GNode × Er) : GChunk × Er :=
  if r.2 ≠ .ok then (.zero, r.2.shift (4 + c.data.length)) else if kkidsOk (kindOf c.ty) r.1 = false then (.zero, .flt 7 0) else ({ c with kids := r.1 }, .ok)
def restC (c : GChunk) (d : List UInt8) : GChunk × Er :=
  if dataE4 c ≠ .ok then (.zero, dataE4 c) else insC c (parseF 4 (classOf c.ty) (d.drop c.data.length) 0)
def parseC (b : List UInt8) : GChunk × Er :=
  if b.length < 4 ∨ peekN 2 b 2 ≠ b.length then (.zero, .flt 4 0)
  else if kindHas (headC b).ty = false then (headC b, .ok)
  else restC (cutC (headC b)) (b.drop 4)
theorem kinds_exact : ∀ f ∈ kindForms, f.kids ≠ 0 → f.most = f.least := by decide
theorem kind_exact (t : Nat) (h : (kindOf t).kids ≠ 0) : (kindOf t).most = (kindOf t).least := by
  unfold kindOf at h ⊢
  cases hf : kindForms.find? (fun f => f.ty == t) with
  | none => rw [hf] at h; simp [zeroK] at h
  | some f => exact kinds_exact f (List.mem_of_find?_eq_some hf) (by rw [hf] at h; exact h)
theorem fit_len {k : KForm} {n : Nat} (h : kfitsN k n = true) : k.least ≤ n ∧ n ≤ k.most := by
  unfold kfitsN at h; simp only [Bool.and_eq_true, decide_eq_true_eq] at h; exact h.1
theorem pre_dataE4 {c : GChunk} (h : dataE4 c = .ok) (hk : kkidsOk (kindOf c.ty) c.kids = true) : preE c = .ok := by
  have hp := firstE_pre h
  have h1 := hp (flagsE c (kindOf c.ty)) (by simp)
  have h2 := hp (dataE c (kindOf c.ty)) (by simp)
  have h3 := hp (countE c) (by simp)
  have h4 := hp (valueE c) (by simp)
  have h5 : kidsE c (kindOf c.ty) = .ok := if_neg (by rw [hk]; simp)
  unfold preE
  simp only [h1, h2, h3, h4, h5, firstE, reduceIte]
theorem check_pre {c : GChunk} (h : checkC c = 0) (hh : kindHas c.ty = true) : preE c = .ok := by
  have hs : startC c = 0 := by
    unfold checkC at h
    split at h
    · rename_i h1; exact absurd h h1
    · rename_i h1; simpa using h1
  unfold startC at hs
  rw [if_pos hh] at hs
  exact (isN_ok (preE_isN c)).1 hs
theorem check_size {c : GChunk} (h : checkC c = 0) : 4 + c.data.length + nSize c.kids ≤ 65535 ∧ checkL (classOf c.ty) 1 c.kids = 0 := by
  unfold checkC at h
  split at h
  · rename_i h1; exact absurd h h1
  split at h
  · rename_i h1; exact absurd h h1
  rename_i h2
  split at h
  · cases h
  · rename_i h1; exact ⟨by omega, by simpa using h2⟩
theorem check_none {c : GChunk} (h : checkC c = 0) (hh : kindHas c.ty = false) : c.kids = [] := by
  by_cases h2 : 0 < c.kids.length
  · have hs : startC c = 7 := by unfold startC; rw [if_neg (by rw [hh]; simp), if_pos h2]
    unfold checkC at h
    rw [hs] at h
    simp at h
  · exact List.length_eq_zero_iff.1 (by omega)
theorem parse_empty (m c i : Nat) : parseF m c [] i = ([], .ok) := by
  rw [parseF_eq]; simp [scan, goF]
theorem u8_nat {n : Nat} (h : n < 256) : (UInt8.ofNat n).toNat = n := by rw [UInt8.toNat_ofNat']; omega
theorem kind_class {t : Nat} (h : (kindOf t).kids ≠ 0) : classOf t = 1 ∨ classOf t = 2 := by
  have hb := (kind_bd t).2.2.2.2.1
  unfold classOf
  have hh : (kindOf t).kids = 1 ∨ (kindOf t).kids = 2 ∨ (kindOf t).kids = 3 ∨ (kindOf t).kids = 4 ∨ (kindOf t).kids = 5 ∨ (kindOf t).kids = 6 := by omega
  rcases hh with e | e | e | e | e | e <;> rw [e] <;> first | exact .inl rfl | exact .inr rfl
theorem cut_ty (c : GChunk) : (cutC c).ty = c.ty ∧ (cutC c).flags = c.flags ∧ (cutC c).kids = c.kids := by
  unfold cutC; split <;> exact ⟨rfl, rfl, rfl⟩
theorem chunk_back {b : List UInt8} {c : GChunk} (h : parseC b = (c, .ok)) : checkC c = 0 ∧ bytesC c = b ∧ tysOk c.kids = true ∧ c.ty < 256 ∧ c.flags < 256 ∧ c.data.length ≤ b.length := by
  unfold parseC at h
  split at h
  · cases h
  rename_i h1
  have h4 : 4 ≤ b.length := by omega
  have hpk : peekN 2 b 2 = b.length := by
    rcases Nat.decEq (peekN 2 b 2) b.length with h | h
    · exact absurd (Or.inr h) h1
    · exact h
  obtain ⟨b0, b1, b2, b3, r, rfl⟩ : ∃ b0 b1 b2 b3 r, b = b0 :: b1 :: b2 :: b3 :: r := by
    match b, h4 with
    | b0 :: b1 :: b2 :: b3 :: r, _ => exact ⟨b0, b1, b2, b3, r, rfl⟩
  have hlt := peek2_lt (b0 :: b1 :: b2 :: b3 :: r) 2
  have hbe : beN [b2, b3] = 4 + r.length := by
    have : peekN 2 (b0 :: b1 :: b2 :: b3 :: r) 2 = beN [b2, b3] := by unfold peekN; rw [if_pos (by simp)]; rfl
    rw [← this, hpk]; simp; omega
  have hput : putB 2 (4 + r.length) = [b2, b3] := by rw [← hbe, putB2_be]
  have hr : r.length ≤ 65531 := by rw [hpk] at hlt; simp at hlt; omega
  have hhead : headC (b0 :: b1 :: b2 :: b3 :: r) = ⟨b0.toNat, b1.toNat, r, []⟩ := rfl
  have ht : b0.toNat < 256 := b0.toNat_lt
  have hf : b1.toNat < 256 := b1.toNat_lt
  have hB : ∀ (d : List UInt8) (l : List GNode), d ++ joinF (refFs l) = r → bytesC ⟨b0.toNat, b1.toNat, d, l⟩ = b0 :: b1 :: b2 :: b3 :: r ∧ d.length + nSize l = r.length := by
    intro d l e
    have hl : d.length + nSize l = r.length := by rw [← refB_len, ← List.length_append, e]
    refine ⟨?_, hl⟩
    unfold bytesC headB
    rw [Nat.add_assoc, hl, hput, e]
    simp
  rw [hhead] at h
  split at h
  · rename_i hk
    injection h with h2 h3
    subst h2
    obtain ⟨e1, e2⟩ := hB r [] (by simp [refFs, joinF])
    refine ⟨?_, e1, rfl, ht, hf, by simp; omega⟩
    unfold checkC startC
    rw [if_neg (by rw [hk]; simp)]
    simp [checkL, nSize, nLens, tlvSize, sumUp] at e2 ⊢
    omega
  · rename_i hk
    have hk' : kindHas b0.toNat = true := by simpa using hk
    obtain ⟨c1, hc1⟩ : ∃ c1, c1 = cutC ⟨b0.toNat, b1.toNat, r, []⟩ := ⟨_, rfl⟩
    have hty := cut_ty ⟨b0.toNat, b1.toNat, r, []⟩
    rw [← hc1] at h hty
    obtain ⟨t1, t2, t3⟩ := hty
    simp only at t1 t2 t3
    unfold restC at h
    split at h
    · rename_i h2; injection h with h3 h5; exact absurd h5 h2
    rename_i h2
    have he4 : dataE4 c1 = .ok := by
      cases hx : dataE4 c1 with
      | ok => rfl
      | code x => exact absurd (by rw [hx]; simp) h2
      | flt x y => exact absurd (by rw [hx]; simp) h2
    unfold insC at h
    have hd4 : List.drop 4 (b0 :: b1 :: b2 :: b3 :: r) = r := rfl
    rw [hd4, t1] at h
    split at h
    · rename_i h5
      injection h with h6 h7
      cases hx : (parseF 4 (classOf b0.toNat) (List.drop c1.data.length r) 0).2 <;> simp [hx, Er.shift] at h5 h7
    rename_i h5
    split at h
    · injection h with h6 h7; cases h7
    rename_i h6
    injection h with h7 h8
    have hpo : (parseF 4 (classOf b0.toNat) (List.drop c1.data.length r) 0).2 = .ok := by
      cases hx : (parseF 4 (classOf b0.toNat) (List.drop c1.data.length r) 0).2 with
      | ok => rfl
      | code x => exact absurd (by rw [hx]; simp) h5
      | flt x y => exact absurd (by rw [hx]; simp) h5
    obtain ⟨R, hR⟩ : ∃ R, R = parseF 4 (classOf b0.toNat) (List.drop c1.data.length r) 0 := ⟨_, rfl⟩
    rw [← hR] at h7 hpo h6
    have hko : kkidsOk (kindOf b0.toNat) R.1 = true := by simpa using h6
    have hfit : kfitsN (kindOf b0.toNat) c1.data.length = true := by
      have := firstE_pre he4 (dataE c1 (kindOf c1.ty)) (by simp)
      rw [t1] at this
      unfold dataE at this
      cases hx : kfitsN (kindOf b0.toNat) c1.data.length with
      | true => rfl
      | false => rw [hx] at this; cases this
    obtain ⟨f1, f2⟩ := fit_len hfit
    have key : checkL (classOf b0.toNat) 1 R.1 = 0 ∧ c1.data ++ joinF (refFs R.1) = r ∧ tysOk R.1 = true := by
      by_cases h0 : (kindOf b0.toNat).kids = 0
      · have hcc : c1 = ⟨b0.toNat, b1.toNat, r, []⟩ := by rw [hc1]; unfold cutC; rw [if_neg (by simp [h0])]
        have hRe : R = ([], .ok) := by rw [hR, hcc]; simp only [List.drop_length]; exact parse_empty 4 _ 0
        rw [hRe, hcc]
        exact ⟨rfl, by simp [refFs, joinF], rfl⟩
      · have he := kind_exact _ h0
        have hcc : (kindOf b0.toNat).least ≤ r.length ∧ c1.data = r.take (kindOf b0.toNat).least := by
          rw [hc1] at f1 f2 ⊢
          unfold cutC at f1 f2 ⊢
          split at f1
          · rename_i h9; rw [if_pos h9]; exact ⟨h9.2, rfl⟩
          · rename_i h9; exact absurd ⟨h0, f1⟩ h9
        have hdl : c1.data.length = (kindOf b0.toNat).least := by rw [hcc.2, List.length_take]; omega
        have hb := parse_back 4 1 _ (List.drop c1.data.length r) 0 rfl (kind_class h0) (by rw [← hR]; exact hpo)
        rw [← hR] at hb
        obtain ⟨a1, a2, a3⟩ := hb
        refine ⟨a1, ?_, a3⟩
        rw [a2, hdl, hcc.2, List.take_append_drop]
    obtain ⟨k1, k2, k3⟩ := key
    obtain ⟨e1, e2⟩ := hB _ _ k2
    have hce : c = ⟨b0.toNat, b1.toNat, c1.data, R.1⟩ := by rw [← h7, ← t1, ← t2]
    subst hce
    refine ⟨?_, e1, k3, ht, hf, by simp; omega⟩
    have hpre : preE ⟨b0.toNat, b1.toNat, c1.data, R.1⟩ = .ok := by
      refine pre_dataE4 ?_ hko
      have : dataE4 ⟨b0.toNat, b1.toNat, c1.data, R.1⟩ = dataE4 c1 := by
        cases c1; simp only at t1 t2 t3; subst t1; subst t2; rfl
      rw [this]; exact he4
    unfold checkC startC
    simp only [hk', if_true, hpre, k1, Er.codeOf]
    rw [if_neg (by simp), if_neg (by simp), if_neg (by omega)]
theorem zeroB_take {l : List UInt8} {i : Nat} (hil : i < l.length) (h : zeroB (l.take i) = true) (h0 : l[i] = 0) : zeroB (l.take (i + 1)) = true := by
  unfold zeroB at *
  rw [List.take_succ_eq_append_getElem hil, List.all_append, h]
  simp [h0]
theorem zeroB_no {l : List UInt8} {i : Nat} (hil : i < l.length) (h0 : l[i] ≠ 0) : zeroB l = false := by
  unfold zeroB
  rw [List.all_eq_false]
  exact ⟨l[i], List.getElem_mem hil, by simpa using h0⟩
theorem zero03_c (l : List UInt8) (hl : l.length ≤ 2 ^ 40) : PC Tryz.prog 135 [.sl false 1 (bys l)] (bool (zeroB l)) := by
  refine PC.of_bodyW (by simp only [push_cast]) Tryz.func135 rfl (by rw [Tryz.ntmps135]; simp) ?_
  refine AWp.regionW ?_
  refine AWp.seqK fun K1 hK1 => ?_
  refine AWp.regionW ?_
  refine AWp.block ?_
  refine AWp.loopK0 [0] (fun (i : Nat) => [(3, nat i)]) (fun i => i ≤ l.length ∧ zeroB (l.take i) = true) (fun i => l.length - i) (0) ?_ ⟨Nat.zero_le _, rfl⟩ ?_
  · skip
    refine Le.m 0 ?_ ?_
    · exact Go.Abs.evM
    · exact Go.Abs.evN
  · intro i hi K2 hK2
    refine AWp.seqK fun K3 hK3 => ?_
    refine AWp.regionW ?_
    refine AWp.condLM (fun c0 => ?_) (fun c0 => ?_)
    · skip
      have hil : i < l.length := by simpa using c0
      refine AWp.skip ?_
      refine hK3 _ ?_
      refine AWp.seqK fun K4 hK4 => ?_
      refine AWp.block ?_
      refine AWp.regionM fun K5 hK5 => ?_
      refine ARun2.indexM (i) (.val (.int .u8 (N l[i].toNat))) ?_ ?_
      · rw [bys_get, List.getElem?_eq_getElem hil]; rfl
      refine ARun2.endm (hK5 _ ?_)
      refine AWp.condLM (fun c1 => ?_) (fun c1 => ?_)
      · skip
        have hne : l[i] ≠ 0 := by
          intro h; rw [h] at c1; simp [N] at c1
        have hz := zeroB_no hil hne
        refine AWp.regionW ?_
        refine AWp.ret ?_
        try simp only [thenQ, blockQ, noGo]
        refine bodyQ.m ?_
        clear hK5 K5 hK4 K4 hK3 K3 hK2 K2 hK1 K1
        rw [hz]
        first | done | exact Hand.go
      · skip
        have heq : l[i] = 0 := by
          apply UInt8.toNat_inj.1; simp [N] at c1; simpa using c1
        refine AWp.skip ?_
        refine hK4 _ ?_
        refine AWp.regionV ?_
        refine hK2 _ (i + 1) (⟨hil, zeroB_take hil hi.2 heq⟩) (by omega) ?_
        refine Le.m 0 ?_ ?_
        · exact Go.Abs.evM
        · exact Go.Abs.evN
    · skip
      have hil : i = l.length := by have := hi.1; simp at c0; omega
      have hz : zeroB l = true := by have := hi.2; rwa [hil, List.take_length] at this
      refine AWp.exit ?_
      try simp only [thenQ, blockQ, noGo, reduceIte, Nat.reduceEqDiff]
      refine hK1 _ ?_
      refine AWp.regionW ?_
      refine AWp.ret ?_
      try simp only [thenQ, blockQ, noGo]
      refine bodyQ.m ?_
      clear hK3 K3 hK2 K2 hK1 K1
      rw [hz]
      first | done | exact Hand.go
theorem peekN_drop (k : Nat) (b : List UInt8) (i j : Nat) (h : i ≤ b.length) : peekN k (b.drop i) j = peekN k b (i + j) := by
  unfold peekN
  rw [List.length_drop, List.drop_drop]
  by_cases hc : i + j + k ≤ b.length
  · rw [if_pos hc, if_pos (by omega)]
  · rw [if_neg hc, if_neg (by omega)]
theorem readN_ref (b : List UInt8) (i : Nat) (h4 : i + 4 ≤ b.length) (hi4 : i % 4 = 0) (n : Nat) (hn : peekN 2 b (i + 2) = n) :
    ((n < 4 ∨ b.length < i + n) → readN b i = (frm0, 0, .flt 4 i)) ∧
    (4 ≤ n → i + n = b.length → readN b i = (⟨peekN 2 b i, (b.take (i + n)).drop (i + 4)⟩, i + n, .ok)) ∧
    (4 ≤ n → i + n < b.length → (b.length ≤ i + n + gapN n ∨ zeroB ((b.take (i + n + gapN n)).drop (i + n)) = false) → readN b i = (frm0, 0, .flt 5 (i + n))) ∧
    (4 ≤ n → i + n < b.length → i + n + gapN n < b.length → zeroB ((b.take (i + n + gapN n)).drop (i + n)) = true → readN b i = (⟨peekN 2 b i, (b.take (i + n)).drop (i + 4)⟩, i + n + gapN n, .ok)) := by
  have e2 := peekN_drop 2 b i 2 (by omega)
  have e0 := peekN_drop 2 b i 0 (by omega)
  rw [Nat.add_zero] at e0
  have hv : ((b.drop i).drop 4).take (n - 4) = (b.take (i + n)).drop (i + 4) := by
    rw [List.drop_drop, List.drop_take, show i + n - (i + 4) = n - 4 by omega]
  have hu : upN (i + n) = i + n + gapN n := by unfold upN gapN; omega
  unfold readN
  rw [e2, e0, hn, hv]
  refine ⟨fun h => ?_, fun h1 h2 => ?_, fun h1 h2 h3 => ?_, fun h1 h2 h3 h5 => ?_⟩
  · rw [if_neg (by omega)]
  · rw [if_pos (by omega), if_pos h2]
  · rw [if_pos (by omega), if_neg (by omega), if_neg]
    rintro ⟨k1, k2⟩
    unfold nextN at k1 k2
    rw [hu] at k1 k2
    split at k1
    · rename_i hc
      rw [if_pos hc, Option.getD_some] at k2
      rcases h3 with h3 | h3
      · omega
      · rw [h3] at hc; simp at hc
    · simp at k1
  · rw [if_pos (by omega), if_neg (by omega)]
    have hnx : nextN b (i + n) = some (i + n + gapN n) := by
      unfold nextN
      rw [hu, if_pos ⟨by omega, by omega, h5⟩]
    rw [hnx, if_pos ⟨rfl, by rw [Option.getD_some]; omega⟩]
    rfl
theorem readN_short (b : List UInt8) (i : Nat) (h4 : ¬ i + 4 ≤ b.length) : readN b i = (frm0, 0, .flt 4 i) := by
  unfold readN; rw [if_neg (by omega)]
theorem nats_at (l : List Nat) (i : Nat) (h : i < l.length) : (nats l)[i]? = some (nat l[i]) := by simp [nats, h]
theorem nats_snoc (l : List Nat) (n : Nat) : nats (l ++ [n]) = nats l ++ [nat n] := by simp [nats]
theorem split06_c (b : List UInt8) (hl : b.length ≤ 2 ^ 40) : PC Tryz.prog 109 [.sl false 1 (bys b)]
    (.agg [.sl false 2 (frmsA false ((scan b b.length 0).1.map (·.2))), .sl false 1 (nats ((scan b b.length 0).1.map (·.1))), nat (scan b b.length 0).2.codeOf.1, nat (scan b b.length 0).2.atOf.1]) := by
  obtain ⟨O, hO⟩ : ∃ O, O = scan b b.length 0 := ⟨_, rfl⟩
  rw [← hO]
  refine PC.of_bodyW (by simp only [push_cast]) Tryz.func109 rfl (by rw [Tryz.ntmps109]; simp) ?_
  refine AWp.regionW ?_
  refine AWp.regionW ?_
  refine AWp.regionW ?_
  refine AWp.seqK fun K1 hK1 => ?_
  refine AWp.block ?_
  refine AWp.nilBox 1 0 171 2 rfl rfl ?_
  simp only [push_cast, ↓reduceIte, Nat.reduceEqDiff, Nat.reduceLT, Nat.reduceAdd, Nat.reduceSub, Nat.reduceMul, Nat.reduceLeDiff, Nat.reducePow, Int.reduceLT, Int.reduceToNat, reduceCtorEq, Int.reduceNeg, Int.reduceEq, Nat.reduceBEq, Nat.reduceBNe, Int.reduceBEq, Int.reduceBNe, String.reduceEq]
  refine AWp.nilBox 1 1 3 1 rfl rfl ?_
  simp only [push_cast, ↓reduceIte, Nat.reduceEqDiff, Nat.reduceLT, Nat.reduceAdd, Nat.reduceSub, Nat.reduceMul, Nat.reduceLeDiff, Nat.reducePow, Int.reduceLT, Int.reduceToNat, reduceCtorEq, Int.reduceNeg, Int.reduceEq, Nat.reduceBEq, Nat.reduceBNe, Int.reduceBEq, Int.reduceBNe, String.reduceEq]
  refine AWp.loopK [0, 2, 3] (fun (g : List (Nat × Frm) × Nat × Nat) => [(4, nat g.2.2)]) (fun g => [.box 169 [.val (.slice none 0 0), .val (.slice none 0 0), nat 0, nat 0], .box 169 [.own 2, .own 3, nat 0, nat 0], .row 171 2 (frmsA false (g.1.map (·.2))), .row 3 1 (nats (g.1.map (·.1)))]) (fun g => scanInv b g.1 g.2.1 g.2.2 ∧ (g.2.2 < b.length → g.2.2 % 4 = 0)) (fun g => b.length - g.2.2) (([], b.length, 0)) ?_ ⟨scanInv_0 b, fun _ => rfl⟩ ?_
  · skip
    refine Le.m 4 ?_ ?_
    · exact Go.Abs.evM
    · exact Go.Abs.evN
  · intro g hg K2 hK2
    obtain ⟨p, k, i⟩ := g
    dsimp only at hg ⊢
    obtain ⟨hg, hi4⟩ := hg
    refine AWp.seqK fun K3 hK3 => ?_
    refine AWp.regionW ?_
    refine AWp.condLM (fun c0 => ?_) (fun c0 => ?_)
    · skip
      have hil : i < b.length := by simpa using c0
      refine AWp.skip ?_
      refine hK3 _ ?_
      refine AWp.block ?_
      refine AWp.seqK fun K4 hK4 => ?_
      refine AWp.regionW ?_
      refine AWp.condLM (fun c1 => ?_) (fun c1 => ?_)
      · skip
        have h4 : ¬ i + 4 ≤ b.length := by simpa using c1
        have hr := readN_short b i h4
        have hs := scanInv_err hg hil (by rw [hr]; intro h; cases h)
        rw [hr] at hs
        refine AWp.regionW ?_
        refine AWp.regionW ?_
        refine AWp.pubD 2 ?_
        refine AWp.pubD 3 ?_
        refine AWp.regionW ?_
        refine AWp.ret ?_
        try simp only [thenQ, blockQ, noGo]
        refine bodyQ.m ?_
        clear hK4 K4 hK3 K3 hK2 K2 hK1 K1
        rw [hs] at hO; subst hO
        first | done | exact Hand.go
      · skip
        have h4 : i + 4 ≤ b.length := by simpa using c1
        refine AWp.skip ?_
        refine hK4 _ ?_
        refine AWp.regionM fun K5 hK5 => ?_
        refine ARun2.callM (number01_c 2 b i (by omega) hl (by omega)) ?_
        refine ARun2.endm (hK5 _ ?_)
        refine AWp.regionM fun K6 hK6 => ?_
        refine ARun2.callM (number01_c 2 b (i + 2) (by omega) hl (by omega)) ?_
        refine ARun2.endm (hK6 _ ?_)
        obtain ⟨n, hn⟩ : ∃ n, peekN 2 b (i + 2) = n := ⟨_, rfl⟩
        obtain ⟨q1, q2, q3, q4⟩ := readN_ref b i h4 (hi4 hil) n hn
        have hn16 := peek2_lt b (i + 2)
        have ht16 := peek2_lt b i
        have hg3 := gapN_le n
        rw [hn] at hn16 ⊢
        refine AWp.regionW ?_
        refine AWp.seqK fun K7 hK7 => ?_
        refine AWp.regionA fun K8 hK8 => ?_
        refine ARun.segm 3 fun KS hKS => ?_
        refine ARun2.endm (hKS _ ?_); clear hKS KS
        apply ARun.grpM 6 2 false 50 [0, 2, 3, 4, 5, 9, 44]
        · intro g2 KG hKG
          refine ARun2.gom ?_
          exact ARun2.endm (hKG _ Le.grpM)
        refine ARun2.gom ?_
        refine ARun2.endm (hK8 _ ?_)
        refine AWp.condLM (fun c2 => ?_) (fun c2 => ?_)
        · skip
          have hr := q1 (by simp at c2; omega)
          have hs := scanInv_err hg hil (by rw [hr]; intro h; cases h)
          rw [hr] at hs
          refine AWp.regionW ?_
          refine AWp.regionW ?_
          refine AWp.pubD 2 ?_
          refine AWp.pubD 3 ?_
          refine AWp.regionW ?_
          refine AWp.ret ?_
          try simp only [thenQ, blockQ, noGo]
          refine bodyQ.m ?_
          clear hK8 K8 hK7 K7 hK6 K6 hK5 K5 hK4 K4 hK3 K3 hK2 K2 hK1 K1
          rw [hs] at hO; subst hO
          first | done | exact Hand.go
        · skip
          have hn4 : 4 ≤ n ∧ i + n ≤ b.length := by simp at c2; omega
          refine AWp.skip ?_
          refine hK7 _ ?_
          refine AWp.regionW ?_
          refine AWp.regionW ?_
          refine AWp.seqK fun K9 hK9 => ?_
          refine AWp.regionW ?_
          refine AWp.condLM (fun c3 => ?_) (fun c3 => ?_)
          · skip
            have hlt : i + n < b.length := by simpa using c3
            refine AWp.regionM fun K10 hK10 => ?_
            refine ARun2.callM (gap03_c n (by omega)) ?_
            refine ARun2.endm (hK10 _ ?_)
            refine AWp.seqK fun K11 hK11 => ?_
            refine AWp.regionA fun K12 hK12 => ?_
            refine ARun.segm 5 fun KS hKS => ?_
            refine ARun2.endm (hKS _ ?_); clear hKS KS
            apply ARun.grpM 6 4 false 78 [0, 2, 3, 4, 5, 10, 12, 72]
            · intro g4 KG hKG
              have hk : i + n + gapN n < b.length := by simpa using g4
              refine ARun2.gom ?_
              refine ARun2.sliceM (i + n) (i + n + gapN n) ?_ ?_ ?_
              · omega
              · rw [bys_len]; omega
              refine ARun2.callM (zero03_c ((b.take (i + n + gapN n)).drop (i + n)) (by rw [List.length_drop, List.length_take]; omega)) ?_
              exact ARun2.endm (hKG _ Le.grpM)
            refine ARun2.gom ?_
            refine ARun2.endm (hK12 _ ?_)
            refine AWp.condLM (fun c4 => ?_) (fun c4 => ?_)
            · skip
              have hr := q3 hn4.1 hlt (by simp at c4; exact c4.elim .inl (fun c => .inr (by first | exact c | exact c.2)))
              have hs := scanInv_err hg hil (by rw [hr]; intro h; cases h)
              rw [hr] at hs
              refine AWp.regionW ?_
              refine AWp.regionW ?_
              refine AWp.pubD 2 ?_
              refine AWp.pubD 3 ?_
              refine AWp.regionW ?_
              refine AWp.ret ?_
              try simp only [thenQ, blockQ, noGo]
              refine bodyQ.m ?_
              clear hK12 K12 hK11 K11 hK10 K10 hK9 K9 hK8 K8 hK7 K7 hK6 K6 hK5 K5 hK4 K4 hK3 K3 hK2 K2 hK1 K1
              rw [hs] at hO; subst hO
              first | done | exact Hand.go
            · skip
              have hr := q4 hn4.1 hlt (by simp at c4; omega) (by simp at c4; exact c4.2)
              refine AWp.skip ?_
              refine hK11 _ ?_
              refine AWp.regionV ?_
              refine hK9 _ ?_
              have hst := scanInv_step hg hil (by rw [hr])
              have hpl := hg.2.2.2
              have hnx := readN_next (b := b) (i := i) (by rw [hr])
              rw [hr] at hst hnx
              refine AWp.drS [[(3, none)], [(85, some 0)], [(5, none)], [(87, some 2)], [(0, none)], [(4, none)], [(90, some 5)], [(10, none)], [(89, some 4), (91, some 6), (92, some 7)], [(88, some 3), (93, some 8)], [(94, some 9)]] fun G hG => ?_
              refine Dr.sim ?_
              try simp only [List.cons_append, List.nil_append]
              refine Dr.sim ?_
              try simp only [List.cons_append, List.nil_append]
              refine Dr.sim ?_
              try simp only [List.cons_append, List.nil_append]
              refine Dr.sim ?_
              try simp only [List.cons_append, List.nil_append]
              refine Dr.sim ?_
              try simp only [List.cons_append, List.nil_append]
              refine Dr.sim ?_
              try simp only [List.cons_append, List.nil_append]
              refine Dr.sim ?_
              try simp only [List.cons_append, List.nil_append]
              refine Dr.sim ?_
              try simp only [List.cons_append, List.nil_append]
              refine Dr.slice (i + 4) (i + n) ?_ ?_ ?_
              · omega
              · rw [bys_len]; omega
              try simp only [List.cons_append, List.nil_append]
              refine Dr.sim ?_
              try simp only [List.cons_append, List.nil_append]
              refine Dr.build ?_
              try simp only [List.cons_append, List.nil_append]
              refine Dr.finM (n := 11) [(86, 1), (95, 10)] [0, 2, 3, 4, 11] hG YtoapdhogghbojaaGreatDoor.Facts.mixed fun KD hKD => ?_
              refine ARun2.appendM ?_ ?_ ?_
              · rw [YtoapdhogghbojaaGreatDoor.Facts.eb166, frmsA_len, List.length_map, List.length_cons, List.length_nil]; omega
              · rw [frmsA_len, List.length_map, List.length_cons, List.length_nil]; omega
              refine ARun2.endm (hKD _ ?_); clear hKD KD hG G
              refine AWp.regionM fun K13 hK13 => ?_
              refine ARun2.appendM ?_ ?_ ?_
              · rw [YtoapdhogghbojaaGreatDoor.Facts.eb167, nats_len, List.length_map, List.length_cons, List.length_nil]; omega
              · rw [nats_len, List.length_map, List.length_cons, List.length_nil]; omega
              refine ARun2.endm (hK13 _ ?_)
              refine AWp.regionV ?_
              refine hK2 _ ((p ++ [(i, ⟨peekN 2 b i, (b.take (i + n)).drop (i + 4)⟩)], k - 1, i + n + gapN n)) (⟨hst, fun _ => by have := hi4 hil; show (i + n + gapN n) % 4 = 0; unfold gapN; omega⟩) (by show b.length - (i + n + gapN n) < b.length - i; omega) ?_
              refine Le.m 4 ?_ ?_
              · try simp only [push_cast, ↓reduceIte, Nat.reduceEqDiff, Nat.reduceLT, Nat.reduceAdd, Nat.reduceSub, Nat.reduceMul, Nat.reduceLeDiff, Nat.reducePow, Int.reduceLT, Int.reduceToNat, reduceCtorEq, Int.reduceNeg, Int.reduceEq, Nat.reduceBEq, Nat.reduceBNe, Int.reduceBEq, Int.reduceBNe, String.reduceEq]
                try simp (disch := omega) only [w_nat, w_add, w_addl, w_addr, w_sub, w_subl, w_mul, w_mull, w_mulr, w_u32, w_u16, w_u8, w_u32a, N_zero]
                first | done | skip
                rw [List.map_append, List.map_append, List.map_cons, List.map_cons, List.map_nil, List.map_nil, frmsA_snoc, nats_snoc]; rfl
              · exact Go.Abs.evN
          · skip
            have he : i + n = b.length := by simp at c3; omega
            have hr := q2 hn4.1 he
            refine AWp.skip ?_
            refine hK9 _ ?_
            have hst := scanInv_step hg hil (by rw [hr])
            have hpl := hg.2.2.2
            have hnx := readN_next (b := b) (i := i) (by rw [hr])
            rw [hr] at hst hnx
            refine AWp.drS [[(3, none)], [(85, some 0)], [(5, none)], [(87, some 2)], [(0, none)], [(4, none)], [(90, some 5)], [(10, none)], [(89, some 4), (91, some 6), (92, some 7)], [(88, some 3), (93, some 8)], [(94, some 9)]] fun G hG => ?_
            refine Dr.sim ?_
            try simp only [List.cons_append, List.nil_append]
            refine Dr.sim ?_
            try simp only [List.cons_append, List.nil_append]
            refine Dr.sim ?_
            try simp only [List.cons_append, List.nil_append]
            refine Dr.sim ?_
            try simp only [List.cons_append, List.nil_append]
            refine Dr.sim ?_
            try simp only [List.cons_append, List.nil_append]
            refine Dr.sim ?_
            try simp only [List.cons_append, List.nil_append]
            refine Dr.sim ?_
            try simp only [List.cons_append, List.nil_append]
            refine Dr.sim ?_
            try simp only [List.cons_append, List.nil_append]
            refine Dr.slice (i + 4) (i + n) ?_ ?_ ?_
            · omega
            · rw [bys_len]; omega
            try simp only [List.cons_append, List.nil_append]
            refine Dr.sim ?_
            try simp only [List.cons_append, List.nil_append]
            refine Dr.build ?_
            try simp only [List.cons_append, List.nil_append]
            refine Dr.finM (n := 11) [(86, 1), (95, 10)] [0, 2, 3, 4, 11] hG YtoapdhogghbojaaGreatDoor.Facts.mixed fun KD hKD => ?_
            refine ARun2.appendM ?_ ?_ ?_
            · rw [YtoapdhogghbojaaGreatDoor.Facts.eb166, frmsA_len, List.length_map, List.length_cons, List.length_nil]; omega
            · rw [frmsA_len, List.length_map, List.length_cons, List.length_nil]; omega
            refine ARun2.endm (hKD _ ?_); clear hKD KD hG G
            refine AWp.regionM fun K14 hK14 => ?_
            refine ARun2.appendM ?_ ?_ ?_
            · rw [YtoapdhogghbojaaGreatDoor.Facts.eb167, nats_len, List.length_map, List.length_cons, List.length_nil]; omega
            · rw [nats_len, List.length_map, List.length_cons, List.length_nil]; omega
            refine ARun2.endm (hK14 _ ?_)
            refine AWp.regionV ?_
            refine hK2 _ ((p ++ [(i, ⟨peekN 2 b i, (b.take (i + n)).drop (i + 4)⟩)], k - 1, i + n)) (⟨hst, fun h => absurd h (by show ¬ i + n < b.length; omega)⟩) (by show b.length - (i + n) < b.length - i; omega) ?_
            refine Le.m 4 ?_ ?_
            · try simp only [push_cast, ↓reduceIte, Nat.reduceEqDiff, Nat.reduceLT, Nat.reduceAdd, Nat.reduceSub, Nat.reduceMul, Nat.reduceLeDiff, Nat.reducePow, Int.reduceLT, Int.reduceToNat, reduceCtorEq, Int.reduceNeg, Int.reduceEq, Nat.reduceBEq, Nat.reduceBNe, Int.reduceBEq, Int.reduceBNe, String.reduceEq]
              try simp (disch := omega) only [w_nat, w_add, w_addl, w_addr, w_sub, w_subl, w_mul, w_mull, w_mulr, w_u32, w_u16, w_u8, w_u32a, N_zero]
              first | done | skip
              rw [List.map_append, List.map_append, List.map_cons, List.map_cons, List.map_nil, List.map_nil, frmsA_snoc, nats_snoc]; rfl
            · exact Go.Abs.evN
    · skip
      have hil : ¬ i < b.length := by simpa using c0
      have hs := scanInv_end hg hil
      refine AWp.exit ?_
      try simp only [thenQ, blockQ, noGo, reduceIte, Nat.reduceEqDiff]
      refine hK1 _ ?_
      refine AWp.pubD 2 ?_
      refine AWp.pubD 3 ?_
      refine AWp.regionW ?_
      refine AWp.ret ?_
      try simp only [thenQ, blockQ, noGo]
      refine bodyQ.m ?_
      clear hK3 K3 hK2 K2 hK1 K1
      rw [hs] at hO; subst hO
      first | done | exact Hand.go
theorem min_take (l : List UInt8) (k : Nat) : l.take (min k l.length) = if k ≤ l.length then l.take k else l := by
  split
  · rw [Nat.min_eq_left (by assumption)]
  · rw [Nat.min_eq_right (by omega), List.take_length]
theorem counted_par (c t : Nat) (d : List UInt8) (h : shapeHas c t = true → fitsN (shapeOf c t) d.length = true) : (c == 2 && (t == 2 && !countedR d)) = countedN c t d := by
  by_cases hc : c = 2
  · by_cases ht : t = 2
    · subst hc; subst ht
      have hf := h rfl
      have hb : badN 2 2 d.length [] = false := by
        have hs : shapeHas 2 2 = true := rfl
        have hk : kidsOk (shapeOf 2 2) [] = true := rfl
        unfold badN; rw [hs, hf, hk]; rfl
      have := counted_eq 2 2 d [] hb rfl rfl
      rw [this]; rfl
    · unfold countedN
      have : (t == 2) = false := by simpa using ht
      rw [this]; simp
  · unfold countedN
    have : (c == 2) = false := by simpa using hc
    rw [this]; rfl
theorem takePre {α : Type} (fs : List α) (k : Nat) (h : k < fs.length) : fs = fs.take k ++ fs[k] :: fs.drop (k + 1) := by rw [← List.drop_eq_getElem_cons h, List.take_append_drop]
@[push_cast] def resP (r : List GNode × Er) : AV := .agg [.sl false 3 (nodesA false r.1), nat r.2.codeOf.1, nat r.2.atOf.1]
def Er.num : Er → Bool
  | .ok => true
  | .code _ => false
  | .flt c _ => c != 0
theorem readN_num (b : List UInt8) (i : Nat) : (readN b i).2.2.num = true := by
  unfold readN; split
  · split
    · rfl
    · split <;> rfl
  · rfl
theorem scan_num (b : List UInt8) : ∀ (k i : Nat), (scan b k i).2.num = true
  | 0, i => rfl
  | k + 1, i => by
    rw [scan]
    split
    · have h := readN_num b i
      cases he : (readN b i).2.2 with
      | ok => exact scan_num b k _
      | code c => rw [he] at h; exact h
      | flt c j => rw [he] at h; exact h
    · rfl
theorem num_ok {e : Er} (h : e.num = true) : e.codeOf.1 = 0 ↔ e = .ok := by
  cases e with
  | ok => simp [Er.codeOf]
  | code c => cases h
  | flt c i => simp [Er.codeOf, Er.num] at *; exact h
theorem goF_num {one : Frm → Nat → GNode × Er} {i : Nat} : ∀ (l : List (Nat × Frm)), (∀ p ∈ l, (one p.2 (i + p.1)).2.num = true) → (goF one i l).2.num = true
  | [], _ => rfl
  | p :: l, h => by
    have h1 := h p (by simp)
    have h2 := goF_num l fun q hq => h q (by simp [hq])
    simp only [goF]
    split
    · split
      · rfl
      · exact h2
    · exact h1
theorem parseF_num : ∀ (m c : Nat) (b : List UInt8) (i : Nat), (parseF m c b i).2.num = true := by
  intro m
  induction m with
  | zero =>
    intro c b i
    rw [parseF_eq]
    split
    · exact goF_num _ fun p _ => rfl
    · have := scan_num b b.length 0
      cases h : (scan b b.length 0).2 <;> rw [h] at this <;> first | exact this | cases this
  | succ m ih =>
    intro c b i
    rw [parseF_eq]
    split
    · refine goF_num _ fun p _ => ?_
      show (oneF (parseF m) c p.2 _).2.num = true
      unfold oneF
      split
      · rfl
      · split
        · rfl
        · split
          · rfl
          · split
            · rfl
            · split
              · exact ih _ _ _
              · split <;> rfl
    · have := scan_num b b.length 0
      cases h : (scan b b.length 0).2 <;> rw [h] at this <;> first | exact this | cases this
theorem shift_num {e : Er} (h : e.num = true) (hne : e ≠ .ok) (i : Nat) : (e.shift i).codeOf.1 = e.codeOf.1 ∧ (e.shift i).atOf.1 = i + e.atOf.1 := by
  cases e with
  | ok => exact absurd rfl hne
  | code c => cases h
  | flt c j => exact ⟨rfl, Nat.add_comm _ _⟩
theorem goF_nil {one : Frm → Nat → GNode × Er} {i : Nat} : ∀ (l : List (Nat × Frm)), (goF one i l).2 ≠ .ok → (goF one i l).1 = []
  | [], h => rfl
  | p :: l, h => by
    simp only [goF] at h ⊢
    split
    · rename_i h1
      split
      · rename_i h2
        rw [if_pos h1, if_pos h2] at h
        exact absurd rfl h
      · rfl
    · rfl
theorem parseF_nil (m c : Nat) (b : List UInt8) (i : Nat) (h : (parseF m c b i).2 ≠ .ok) : (parseF m c b i).1 = [] := by
  rw [parseF_eq] at h ⊢
  split
  · rename_i hs
    rw [if_pos hs] at h
    exact goF_nil _ h
  · rfl
theorem oneF_eq (rec : Nat → List UInt8 → Nat → List GNode × Er) (c : Nat) (f : Frm) (i : Nat) (S : ShForm) (hS : shapeOf c f.ty = S) : oneF rec c f i =
  if shapeHas c f.ty = false then (.mk f.ty f.val [], .ok)
  else if fitsN S (dataOf c f).length = false then (.zero, .flt 7 i)
  else if countedN c f.ty (dataOf c f) = true then (.zero, .flt 8 (i + 4))
  else if S.kids = 0 then (.mk f.ty (dataOf c f) [], .ok)
  else if (rec (insideN S.kids).1 (f.val.drop S.least) (i + 4 + S.least)).2 ≠ .ok then
    (.zero, (rec (insideN S.kids).1 (f.val.drop S.least) (i + 4 + S.least)).2)
  else if kidsOk S (rec (insideN S.kids).1 (f.val.drop S.least) (i + 4 + S.least)).1 = false then (.zero, .flt 7 i)
  else (.mk f.ty (dataOf c f) (rec (insideN S.kids).1 (f.val.drop S.least) (i + 4 + S.least)).1, .ok) := by
  subst hS; rfl
set_option maxHeartbeats 2000000 in
theorem parse08_step (m c d : Nat) (hdm : d + m = 5) (b : List UInt8) (hc : 0 < b.length → c = 1 ∨ c = 2) (i : Nat) (hi : i + b.length ≤ 2 ^ 40)
    (ih : ∀ (m' : Nat), m = m' + 1 → ∀ (c : Nat) (b : List UInt8) (i : Nat), (c = 1 ∨ c = 2) → i + b.length ≤ 2 ^ 40 → PC Tryz.prog 78 [nat c, .sl false 1 (bys b), nat i, nat (d + 1)] (resP (parseF m' c b i))) :
    PC Tryz.prog 78 [nat c, .sl false 1 (bys b), nat i, nat d] (resP (parseF m c b i)) := by
  have hsat := scan_at b b.length 0
  have hsf := scan_fit b b.length 0
  have hsl := scan_len b b.length 0 (Nat.zero_le _)
  have hsn := scan_num b b.length 0
  have hsp := split06_c b (by omega)
  have hO := parseF_eq m c b i
  generalize parseF m c b i = O at hO
  generalize (scan b b.length 0).1 = fs at hsf hsl hsp hO
  generalize (scan b b.length 0).2 = er at hsat hsp hO hsn
  refine PC.of_bodyW (by simp only [push_cast]) Tryz.func78 rfl (by rw [Tryz.ntmps78]; simp) ?_
  refine AWp.regionW ?_
  refine AWp.regionM fun K1 hK1 => ?_
  refine ARun2.callM (hsp) ?_
  refine ARun2.endm (hK1 _ ?_)
  refine AWp.seqK fun K2 hK2 => ?_
  refine AWp.regionW ?_
  refine AWp.condLM (fun c0 => ?_) (fun c0 => ?_)
  · skip
    have he : er ≠ .ok := by intro h; rw [h] at c0; cases c0
    rw [if_neg he] at hO
    obtain ⟨s1, s2⟩ := shift_num hsn he i
    refine AWp.regionW ?_
    refine AWp.ret ?_
    try simp only [thenQ, blockQ, noGo]
    refine bodyQ.m ?_
    clear hK2 K2 hK1 K1
    subst hO; simp only [resP, s1, s2]
    first | done | exact Hand.go
  · skip
    have he : er = .ok := by rw [← num_ok hsn]; simpa using c0
    rw [if_pos he] at hO
    subst he
    refine AWp.skip ?_
    refine hK2 _ ?_
    refine AWp.regionW ?_
    refine AWp.seqK fun K3 hK3 => ?_
    refine AWp.regionW ?_
    refine AWp.block ?_
    refine AWp.nilBox 2 0 63 3 rfl rfl ?_
    simp only [push_cast, ↓reduceIte, Nat.reduceEqDiff, Nat.reduceLT, Nat.reduceAdd, Nat.reduceSub, Nat.reduceMul, Nat.reduceLeDiff, Nat.reducePow, Int.reduceLT, Int.reduceToNat, reduceCtorEq, Int.reduceNeg, Int.reduceEq, Nat.reduceBEq, Nat.reduceBNe, Int.reduceBEq, Int.reduceBNe, String.reduceEq]
    refine AWp.loopK [0, 2, 3, 8, 9, 10] (fun (k : Nat) => [(11, nat k)]) (fun k => [.box 117 [.val (.slice none 0 0), nat 0, nat 0], .box 169 [.sl false 2 (frmsA false (fs.map (·.2))), .sl false 1 (nats (fs.map (·.1))), nat 0, nat 0], .box 117 [.own 3, nat 0, nat 0], .row 63 3 (nodesA false (goF (oneD m c) i (fs.take k)).1)]) (fun k => k ≤ fs.length ∧ (goF (oneD m c) i (fs.take k)).2 = .ok) (fun k => fs.length - k) (0) ?_ ⟨Nat.zero_le _, rfl⟩ ?_
    · skip
      refine Le.m 4 ?_ ?_
      · exact Go.Abs.evM
      · exact Go.Abs.evN
    · intro k hk K4 hK4
      refine AWp.seqK fun K5 hK5 => ?_
      refine AWp.regionW ?_
      refine AWp.condLM (fun c1 => ?_) (fun c1 => ?_)
      · skip
        have hil : k < fs.length := by simpa using c1
        obtain ⟨hk1, hk2⟩ := hk
        have hfd := takePre fs k hil
        have hgl := goF_len (oneD m c) i (fs.take k)
        rw [List.length_take] at hgl
        obtain ⟨hp1, hp2⟩ := hsf fs[k] (List.getElem_mem hil)
        have a1 : (fs.map (·.1)).length = fs.length := List.length_map ..
        have a2 : (fs.map (·.2)).length = fs.length := List.length_map ..
        have a3 := nats_at (fs.map (·.1)) k (by omega)
        have a4 := frmsA_at false (fs.map (·.2)) k (by omega)
        rw [List.getElem_map] at a3 a4
        have ht : fs.take (k + 1) = fs.take k ++ [fs[k]] := List.take_succ_eq_append_getElem hil
        obtain ⟨q, hqe⟩ : ∃ q, fs[k] = q := ⟨_, rfl⟩
        rw [hqe] at hfd hp1 hp2 a3 a4 ht
        have hdl := dataOf_len c q.2
        have hof := of07_c c q.2.ty (hc (by omega))
        obtain ⟨f1, f2, f3, f4, f5, f6⟩ := form_small c q.2.ty
        have hdo : dataOf c q.2 = if (shapeOf c q.2.ty).kids ≠ 0 ∧ (shapeOf c q.2.ty).least ≤ q.2.val.length then q.2.val.take (shapeOf c q.2.ty).least else q.2.val := rfl
        have hcl : decide (0 < (shapeOf c q.2.ty).cls) = shapeHas c q.2.ty := by
          cases h : shapeHas c q.2.ty with
          | true => rw [(f5 h).1]; simp; omega
          | false => rw [f6 h]; rfl
        obtain ⟨S, hS⟩ : ∃ S, shapeOf c q.2.ty = S := ⟨_, rfl⟩
        rw [hS] at hof f1 f2 f3 f4 f5 f6 hdo hcl
        refine AWp.skip ?_
        refine hK5 _ ?_
        refine AWp.seqK fun K6 hK6 => ?_
        refine AWp.block ?_
        refine AWp.regionM fun K7 hK7 => ?_
        refine ARun2.indexM (k) (nat q.1) ?_ ?_
        · exact a3
        refine ARun2.endm (hK7 _ ?_)
        refine AWp.regionM fun K8 hK8 => ?_
        refine ARun2.indexM (k) (frmA false q.2) ?_ ?_
        · exact a4
        refine ARun2.endm (hK8 _ ?_)
        refine AWp.regionM fun K9 hK9 => ?_
        refine ARun2.indexM (k) (frmA false q.2) ?_ ?_
        · exact a4
        refine ARun2.endm (hK9 _ ?_)
        refine AWp.regionM fun K10 hK10 => ?_
        refine ARun2.callM (hof) ?_
        refine ARun2.endm (hK10 _ ?_)
        refine AWp.seqK fun K11 hK11 => ?_
        refine AWp.regionW ?_
        refine AWp.condLM (fun c2 => ?_) (fun c2 => ?_)
        · skip
          have hm : m = 0 := by simp at c2; omega
          have hr : O = ([], .flt 9 (i + q.1)) := by
            subst hm
            rw [hO, hfd]; exact goF_err hk2 (by intro h; cases h)
          refine AWp.regionW ?_
          refine AWp.ret ?_
          try simp only [thenQ, blockQ, noGo]
          refine bodyQ.m ?_
          clear hK11 K11 hK10 K10 hK9 K9 hK8 K8 hK7 K7 hK6 K6 hK5 K5 hK4 K4 hK3 K3 hK2 K2 hK1 K1
          rw [hr]; simp only [resP, Er.codeOf, Er.atOf]
          first | done | exact Hand.go
        · skip
          obtain ⟨m, rfl⟩ : ∃ m', m = m' + 1 := ⟨m - 1, by simp at c2; omega⟩
          have hone : oneD (m + 1) c q.2 (i + q.1) = _ := oneF_eq (parseF m) c q.2 (i + q.1) S hS
          refine AWp.skip ?_
          refine hK11 _ ?_
          refine AWp.seqK fun K12 hK12 => ?_
          refine AWp.regionW ?_
          refine AWp.condLM (fun c3 => ?_) (fun c3 => ?_)
          · skip
            have hk0 : S.kids ≠ 0 := by intro h; rw [h] at c3; cases c3
            have hdm3 : q.2.val.take (min S.least q.2.val.length) = dataOf c q.2 := by rw [min_take, hdo]; simp [hk0]
            have hdm2 : dataOf c q.2 = dataOf c q.2 := rfl
            refine AWp.regionN fun K13 hK13 => ?_
            refine ARun2.iminM ?_
            refine ARun2.sliceHiM (min S.least q.2.val.length) ?_ ?_
            · rw [bys_len]; omega
            refine ARun2.endm (hK13 _ ?_)
            rw [hdm3]
            refine hK12 _ ?_
            refine AWp.seqK fun K14 hK14 => ?_
            refine AWp.regionA fun K15 hK15 => ?_
            refine ARun.segm 4 fun KS hKS => ?_
            refine ARun2.endm (hKS _ ?_); clear hKS KS
            apply ARun.grpM 6 3 true 86 [0, 2, 3, 8, 9, 10, 11, 12, 13, 14, 15, 80]
            · intro g3 KG hKG
              have hhas : shapeHas c q.2.ty = true := by rw [← hcl]; exact g3
              obtain ⟨u1, u2⟩ := f5 hhas
              refine ARun2.gom ?_
              refine ARun2.callM (fits07_c S (dataOf c q.2).length (by omega) f2 f3 u2 f4) ?_
              exact ARun2.endm (hKG _ Le.grpM)
            refine ARun2.gom ?_
            refine ARun2.endm (hK15 _ ?_)
            refine AWp.condLM (fun c4 => ?_) (fun c4 => ?_)
            · skip
              rw [hcl] at c4
              simp at c4
              rw [← hdm2] at hone
              rw [if_neg (by rw [c4.1]; simp), if_pos (by simpa [hdm2] using c4.2)] at hone
              have hr : O = ([], .flt 7 (i + q.1)) := by rw [hO, hfd, goF_err hk2 (by rw [hone]; intro h; cases h), hone]
              refine AWp.regionW ?_
              refine AWp.ret ?_
              try simp only [thenQ, blockQ, noGo]
              refine bodyQ.m ?_
              clear hK15 K15 hK14 K14 hK13 K13 hK12 K12 hK11 K11 hK10 K10 hK9 K9 hK8 K8 hK7 K7 hK6 K6 hK5 K5 hK4 K4 hK3 K3 hK2 K2 hK1 K1
              rw [hr]; simp only [resP, Er.codeOf, Er.atOf]
              first | done | exact Hand.go
            · skip
              rw [hcl] at c4
              have hfit : shapeHas c q.2.ty = true → fitsN S (dataOf c q.2).length = true := by
                intro h; rw [← hdm2]; simpa [h] using c4
              refine AWp.skip ?_
              refine hK14 _ ?_
              refine AWp.seqK fun K16 hK16 => ?_
              refine AWp.regionA fun K17 hK17 => ?_
              refine ARun.segm 3 fun KS hKS => ?_
              refine ARun2.endm (hKS _ ?_); clear hKS KS
              apply ARun.grpM 3 2 true 95 [0, 2, 3, 8, 9, 10, 11, 12, 13, 14, 15, 92]
              · intro g2 KG hKG
                refine ARun2.gom ?_
                exact ARun2.endm (hKG _ Le.grpM)
              refine ARun.segm 2 fun KS hKS => ?_
              refine ARun2.endm (hKS _ ?_); clear hKS KS
              apply ARun.grpM 4 7 true 101 [0, 2, 3, 8, 9, 10, 11, 12, 13, 14, 15, 97]
              · intro g7 KG hKG
                refine ARun2.gom ?_
                refine ARun2.callM (counted08_c (dataOf c q.2) (by omega)) ?_
                exact ARun2.endm (hKG _ Le.grpM)
              refine ARun2.gom ?_
              refine ARun2.endm (hK17 _ ?_)
              refine AWp.condLM (fun c5 => ?_) (fun c5 => ?_)
              · skip
                have hcn : countedN c q.2.ty (dataOf c q.2) = true := by rw [← counted_par c q.2.ty (dataOf c q.2) (by rw [hS]; exact hfit), ← hdm2]; simpa [Bool.and_assoc] using c5
                have hhas : shapeHas c q.2.ty = true := by unfold countedN at hcn; simp at hcn; rw [hcn.1, hcn.2.1]; rfl
                rw [if_neg (by rw [hhas]; simp), if_neg (by rw [hfit hhas]; simp), if_pos hcn] at hone
                have hr : O = ([], .flt 8 (i + q.1 + 4)) := by rw [hO, hfd, goF_err hk2 (by rw [hone]; intro h; cases h), hone]
                refine AWp.regionW ?_
                refine AWp.ret ?_
                try simp only [thenQ, blockQ, noGo]
                refine bodyQ.m ?_
                clear hK17 K17 hK16 K16 hK15 K15 hK14 K14 hK13 K13 hK12 K12 hK11 K11 hK10 K10 hK9 K9 hK8 K8 hK7 K7 hK6 K6 hK5 K5 hK4 K4 hK3 K3 hK2 K2 hK1 K1
                rw [hr]; simp only [resP, Er.codeOf, Er.atOf]
                first | done | exact Hand.go
              · skip
                have hcn : countedN c q.2.ty (dataOf c q.2) = false := by rw [← counted_par c q.2.ty (dataOf c q.2) (by rw [hS]; exact hfit), ← hdm2]; simpa [Bool.and_assoc] using c5
                refine AWp.skip ?_
                refine hK16 _ ?_
                refine AWp.seqK fun K18 hK18 => ?_
                refine AWp.regionW ?_
                refine AWp.condLM (fun c6 => ?_) (fun c6 => ?_)
                · skip
                  have hhas : shapeHas c q.2.ty = true := by
                    cases h : shapeHas c q.2.ty with
                    | true => rfl
                    | false => exact absurd (by rw [f6 h]; rfl) hk0
                  have hle := fits_least (hfit hhas)
                  have ihr := ih m rfl (insideN S.kids).1 (q.2.val.drop S.least) (i + q.1 + 4 + S.least) (inside_cls f1 hk0) (by rw [List.length_drop]; omega)
                  have ihn := parseF_len m (insideN S.kids).1 (q.2.val.drop S.least) (i + q.1 + 4 + S.least)
                  have ihm := parseF_num m (insideN S.kids).1 (q.2.val.drop S.least) (i + q.1 + 4 + S.least)
                  have ihz := parseF_nil m (insideN S.kids).1 (q.2.val.drop S.least) (i + q.1 + 4 + S.least)
                  rw [List.length_drop] at ihn
                  rw [if_neg (by rw [hhas]; simp), if_neg (by rw [hfit hhas]; simp), if_neg (by rw [hcn]; simp), if_neg hk0] at hone
                  obtain ⟨R, hR⟩ : ∃ R, R = parseF m (insideN S.kids).1 (q.2.val.drop S.least) (i + q.1 + 4 + S.least) := ⟨_, rfl⟩
                  rw [← hR] at ihr ihn ihm ihz hone
                  refine AWp.drS [[(15, none)], [(109, some 0)], [(110, some 1)], [(13, none)], [(15, none)], [(113, some 4)], [(112, some 3), (114, some 5)], [(12, none)], [(116, some 7)], [(15, none)], [(118, some 9)], [(117, some 8), (119, some 10)], [(3, none)], [(121, some 12)], [(111, some 2), (115, some 6), (120, some 11), (122, some 13)], []] fun G hG => ?_
                  refine Dr.sim ?_
                  try simp only [List.cons_append, List.nil_append]
                  refine Dr.sim ?_
                  try simp only [List.cons_append, List.nil_append]
                  refine Dr.call (inside08_c S.kids f1) ?_
                  try simp only [List.cons_append, List.nil_append]
                  refine Dr.sim ?_
                  try simp only [List.cons_append, List.nil_append]
                  refine Dr.sim ?_
                  try simp only [List.cons_append, List.nil_append]
                  refine Dr.sim ?_
                  try simp only [List.cons_append, List.nil_append]
                  refine Dr.sliceLo (S.least) ?_ ?_
                  · rw [bys_len]; omega
                  try simp only [List.cons_append, List.nil_append]
                  refine Dr.sim ?_
                  try simp only [List.cons_append, List.nil_append]
                  refine Dr.sim ?_
                  try simp only [List.cons_append, List.nil_append]
                  refine Dr.sim ?_
                  try simp only [List.cons_append, List.nil_append]
                  refine Dr.sim ?_
                  try simp only [List.cons_append, List.nil_append]
                  refine Dr.sim ?_
                  try simp only [List.cons_append, List.nil_append]
                  refine Dr.sim ?_
                  try simp only [List.cons_append, List.nil_append]
                  refine Dr.sim ?_
                  try simp only [List.cons_append, List.nil_append]
                  refine Dr.call (ihr) ?_
                  try simp only [List.cons_append, List.nil_append]
                  refine Dr.al ?_
                  try simp only [List.cons_append, List.nil_append]
                  refine Dr.finA (n := 16) 15 [(123, 14), (16, 15)] [0, 2, 3, 8, 9, 10, 11, 12, 14, 15] hG YtoapdhogghbojaaGreatDoor.Facts.mixed fun KD hKD => ?_
                  refine ARun2.endm (hKD _ ?_); clear hKD KD hG G
                  refine AWp.seqK fun K19 hK19 => ?_
                  refine AWp.regionW ?_
                  refine AWp.condLM (fun c7 => ?_) (fun c7 => ?_)
                  · skip
                    have he : R.2 ≠ .ok := by intro h; rw [h] at c7; cases c7
                    have hz := ihz he
                    rw [if_pos he] at hone
                    have hr : O = ([], R.2) := by rw [hO, hfd, goF_err hk2 (by rw [hone]; exact he), hone]
                    refine AWp.regionW ?_
                    refine AWp.ret ?_
                    try simp only [thenQ, blockQ, noGo]
                    refine bodyQ.m ?_
                    clear hK19 K19 hK18 K18 hK17 K17 hK16 K16 hK15 K15 hK14 K14 hK13 K13 hK12 K12 hK11 K11 hK10 K10 hK9 K9 hK8 K8 hK7 K7 hK6 K6 hK5 K5 hK4 K4 hK3 K3 hK2 K2 hK1 K1
                    rw [hr, hz]
                    first | done | exact Hand.go
                  · skip
                    have he : R.2 = .ok := by rw [← num_ok ihm]; simpa using c7
                    rw [if_neg (by simpa using he)] at hone
                    refine AWp.skip ?_
                    refine hK19 _ ?_
                    refine AWp.regionW ?_
                    refine AWp.regionM fun K20 hK20 => ?_
                    refine ARun2.callM (wanted_c S R.1 (by omega) f1) ?_
                    refine ARun2.endm (hK20 _ ?_)
                    refine AWp.condLM (fun c8 => ?_) (fun c8 => ?_)
                    · skip
                      have hkk : kidsOk S R.1 = false := by simpa using c8
                      rw [if_pos hkk] at hone
                      have hr : O = ([], .flt 7 (i + q.1)) := by rw [hO, hfd, goF_err hk2 (by rw [hone]; intro h; cases h), hone]
                      refine AWp.regionW ?_
                      refine AWp.ret ?_
                      try simp only [thenQ, blockQ, noGo]
                      refine bodyQ.m ?_
                      clear hK20 K20 hK19 K19 hK18 K18 hK17 K17 hK16 K16 hK15 K15 hK14 K14 hK13 K13 hK12 K12 hK11 K11 hK10 K10 hK9 K9 hK8 K8 hK7 K7 hK6 K6 hK5 K5 hK4 K4 hK3 K3 hK2 K2 hK1 K1
                      rw [hr]; simp only [resP, Er.codeOf, Er.atOf]
                      first | done | exact Hand.go
                    · skip
                      have hkk : kidsOk S R.1 = true := by simpa using c8
                      rw [if_neg (by rw [hkk]; simp)] at hone
                      have hs := goF_snoc hk2 (p := q) (by rw [hone])
                      rw [← ht, hone] at hs
                      refine AWp.skip ?_
                      refine hK18 _ ?_
                      refine AWp.regionN fun K21 hK21 => ?_
                      refine ARun2.appendM ?_ ?_ ?_
                      · rw [YtoapdhogghbojaaGreatDoor.Facts.eb29, nodesA_len, List.length_cons, List.length_nil]; omega
                      · rw [nodesA_len, List.length_cons, List.length_nil]; omega
                      refine ARun2.endm (hK21 _ ?_)
                      refine hK6 _ ?_
                      refine AWp.regionV ?_
                      refine hK4 _ (k + 1) (⟨hil, by rw [hs]⟩) (by omega) ?_
                      refine Le.m 4 ?_ ?_
                      · try simp only [push_cast, ↓reduceIte, Nat.reduceEqDiff, Nat.reduceLT, Nat.reduceAdd, Nat.reduceSub, Nat.reduceMul, Nat.reduceLeDiff, Nat.reducePow, Int.reduceLT, Int.reduceToNat, reduceCtorEq, Int.reduceNeg, Int.reduceEq, Nat.reduceBEq, Nat.reduceBNe, Int.reduceBEq, Int.reduceBNe, String.reduceEq]
                        try simp (disch := omega) only [w_nat, w_add, w_addl, w_addr, w_sub, w_subl, w_mul, w_mull, w_mulr, w_u32, w_u16, w_u8, w_u32a, N_zero]
                        first | done | skip
                        rw [hs, nodesA_snoc, nodeA_eq]; rfl
                      · exact Go.Abs.evN
                · skip
                  exfalso; simp at c6; omega
          · skip
            have hk0 : S.kids = 0 := by simpa using c3
            have hdm2 : q.2.val = dataOf c q.2 := by rw [hdo, if_neg (by simp [hk0])]
            refine AWp.skip ?_
            refine hK12 _ ?_
            refine AWp.seqK fun K22 hK22 => ?_
            refine AWp.regionA fun K23 hK23 => ?_
            refine ARun.segm 4 fun KS hKS => ?_
            refine ARun2.endm (hKS _ ?_); clear hKS KS
            apply ARun.grpM 6 3 true 86 [0, 2, 3, 8, 9, 10, 11, 12, 13, 14, 15, 80]
            · intro g3 KG hKG
              have hhas : shapeHas c q.2.ty = true := by rw [← hcl]; exact g3
              obtain ⟨u1, u2⟩ := f5 hhas
              refine ARun2.gom ?_
              refine ARun2.callM (fits07_c S q.2.val.length (by omega) f2 f3 u2 f4) ?_
              exact ARun2.endm (hKG _ Le.grpM)
            refine ARun2.gom ?_
            refine ARun2.endm (hK23 _ ?_)
            refine AWp.condLM (fun c4 => ?_) (fun c4 => ?_)
            · skip
              rw [hcl] at c4
              simp at c4
              rw [← hdm2] at hone
              rw [if_neg (by rw [c4.1]; simp), if_pos (by simpa [hdm2] using c4.2)] at hone
              have hr : O = ([], .flt 7 (i + q.1)) := by rw [hO, hfd, goF_err hk2 (by rw [hone]; intro h; cases h), hone]
              refine AWp.regionW ?_
              refine AWp.ret ?_
              try simp only [thenQ, blockQ, noGo]
              refine bodyQ.m ?_
              clear hK23 K23 hK22 K22 hK12 K12 hK11 K11 hK10 K10 hK9 K9 hK8 K8 hK7 K7 hK6 K6 hK5 K5 hK4 K4 hK3 K3 hK2 K2 hK1 K1
              rw [hr]; simp only [resP, Er.codeOf, Er.atOf]
              first | done | exact Hand.go
            · skip
              rw [hcl] at c4
              have hfit : shapeHas c q.2.ty = true → fitsN S (dataOf c q.2).length = true := by
                intro h; rw [← hdm2]; simpa [h] using c4
              refine AWp.skip ?_
              refine hK22 _ ?_
              refine AWp.seqK fun K24 hK24 => ?_
              refine AWp.regionA fun K25 hK25 => ?_
              refine ARun.segm 3 fun KS hKS => ?_
              refine ARun2.endm (hKS _ ?_); clear hKS KS
              apply ARun.grpM 3 2 true 95 [0, 2, 3, 8, 9, 10, 11, 12, 13, 14, 15, 92]
              · intro g2 KG hKG
                refine ARun2.gom ?_
                exact ARun2.endm (hKG _ Le.grpM)
              refine ARun.segm 2 fun KS hKS => ?_
              refine ARun2.endm (hKS _ ?_); clear hKS KS
              apply ARun.grpM 4 7 true 101 [0, 2, 3, 8, 9, 10, 11, 12, 13, 14, 15, 97]
              · intro g7 KG hKG
                refine ARun2.gom ?_
                refine ARun2.callM (counted08_c q.2.val (by omega)) ?_
                exact ARun2.endm (hKG _ Le.grpM)
              refine ARun2.gom ?_
              refine ARun2.endm (hK25 _ ?_)
              refine AWp.condLM (fun c5 => ?_) (fun c5 => ?_)
              · skip
                have hcn : countedN c q.2.ty (dataOf c q.2) = true := by rw [← counted_par c q.2.ty (dataOf c q.2) (by rw [hS]; exact hfit), ← hdm2]; simpa [Bool.and_assoc] using c5
                have hhas : shapeHas c q.2.ty = true := by unfold countedN at hcn; simp at hcn; rw [hcn.1, hcn.2.1]; rfl
                rw [if_neg (by rw [hhas]; simp), if_neg (by rw [hfit hhas]; simp), if_pos hcn] at hone
                have hr : O = ([], .flt 8 (i + q.1 + 4)) := by rw [hO, hfd, goF_err hk2 (by rw [hone]; intro h; cases h), hone]
                refine AWp.regionW ?_
                refine AWp.ret ?_
                try simp only [thenQ, blockQ, noGo]
                refine bodyQ.m ?_
                clear hK25 K25 hK24 K24 hK23 K23 hK22 K22 hK12 K12 hK11 K11 hK10 K10 hK9 K9 hK8 K8 hK7 K7 hK6 K6 hK5 K5 hK4 K4 hK3 K3 hK2 K2 hK1 K1
                rw [hr]; simp only [resP, Er.codeOf, Er.atOf]
                first | done | exact Hand.go
              · skip
                have hcn : countedN c q.2.ty (dataOf c q.2) = false := by rw [← counted_par c q.2.ty (dataOf c q.2) (by rw [hS]; exact hfit), ← hdm2]; simpa [Bool.and_assoc] using c5
                refine AWp.skip ?_
                refine hK24 _ ?_
                refine AWp.seqK fun K26 hK26 => ?_
                refine AWp.regionW ?_
                refine AWp.condLM (fun c6 => ?_) (fun c6 => ?_)
                · skip
                  exfalso; rw [hk0] at c6; cases c6
                · skip
                  have hone2 : oneD (m + 1) c q.2 (i + q.1) = (.mk q.2.ty (dataOf c q.2) [], .ok) := by
                    cases h : shapeHas c q.2.ty with
                    | false => rw [hone, if_pos h, ← hdm2]
                    | true => rw [hone, if_neg (by rw [h]; simp), if_neg (by rw [hfit h]; simp), if_neg (by rw [hcn]; simp), if_pos hk0]
                  have hs := goF_snoc hk2 (p := q) (by rw [hone2])
                  rw [← ht, hone2] at hs
                  refine AWp.skip ?_
                  refine hK26 _ ?_
                  refine AWp.subBox 4 [u16 q.2.ty, .sl false 1 (bys q.2.val), .sl false 3 []] ?_ ?_
                  exact Hand.goL
                  refine AWp.regionN fun K27 hK27 => ?_
                  refine ARun2.appendM ?_ ?_ ?_
                  · rw [YtoapdhogghbojaaGreatDoor.Facts.eb29, nodesA_len, List.length_cons, List.length_nil]; omega
                  · rw [nodesA_len, List.length_cons, List.length_nil]; omega
                  refine ARun2.endm (hK27 _ ?_)
                  refine hK6 _ ?_
                  refine AWp.regionV ?_
                  refine hK4 _ (k + 1) (⟨hil, by rw [hs]⟩) (by omega) ?_
                  refine Le.m 4 ?_ ?_
                  · try simp only [push_cast, ↓reduceIte, Nat.reduceEqDiff, Nat.reduceLT, Nat.reduceAdd, Nat.reduceSub, Nat.reduceMul, Nat.reduceLeDiff, Nat.reducePow, Int.reduceLT, Int.reduceToNat, reduceCtorEq, Int.reduceNeg, Int.reduceEq, Nat.reduceBEq, Nat.reduceBNe, Int.reduceBEq, Int.reduceBNe, String.reduceEq]
                    try simp (disch := omega) only [w_nat, w_add, w_addl, w_addr, w_sub, w_subl, w_mul, w_mull, w_mulr, w_u32, w_u16, w_u8, w_u32a, N_zero]
                    first | done | skip
                    rw [hs, nodesA_snoc, nodeA_eq, ← hdm2]; rfl
                  · exact Go.Abs.evN
      · skip
        have hkl : k = fs.length := by have := hk.1; simp at c1; omega
        subst hkl
        have hk2 := hk.2
        rw [List.take_length] at hk2 ⊢
        refine AWp.exit ?_
        try simp only [thenQ, blockQ, noGo, reduceIte, Nat.reduceEqDiff]
        refine hK3 _ ?_
        refine AWp.pubD 3 ?_
        refine AWp.regionW ?_
        refine AWp.ret ?_
        try simp only [thenQ, blockQ, noGo]
        refine bodyQ.m ?_
        clear hK5 K5 hK4 K4 hK3 K3 hK2 K2 hK1 K1
        subst hO; simp only [resP, hk2, Er.codeOf, Er.atOf]
        first | done | exact Hand.go
theorem parse08_w : ∀ (m d c : Nat) (b : List UInt8) (i : Nat), d + m = 5 → (c = 1 ∨ c = 2) → i + b.length ≤ 2 ^ 40 →
    PC Tryz.prog 78 [nat c, .sl false 1 (bys b), nat i, nat d] (resP (parseF m c b i)) := by
  intro m
  induction m with
  | zero => intro d c b i hdm hc hi; exact parse08_step 0 c d hdm b (fun _ => hc) i hi (fun m' h => by omega)
  | succ m ih => intro d c b i hdm hc hi; exact parse08_step (m + 1) c d hdm b (fun _ => hc) i hi (fun m' h c b i hc hi => by obtain rfl : m = m' := (by omega); exact ih (d + 1) c b i (by omega) hc hi)
theorem parse08_n (c : Nat) (b : List UInt8) (hc : 0 < b.length → c = 1 ∨ c = 2) (i : Nat) (hi : i + b.length ≤ 2 ^ 40) : PC Tryz.prog 78 [nat c, .sl false 1 (bys b), nat i, nat 1] (resP (parseF 4 c b i)) :=
  parse08_step 4 c 1 rfl b hc i hi (fun m' h c b i hc hi => by
    obtain rfl : m' = 3 := by omega
    exact parse08_w 3 2 c b i rfl hc hi)
theorem Er.shift_ok {e : Er} {n : Nat} : e.shift n = .ok ↔ e = .ok := by cases e <;> simp [Er.shift]
theorem Er.shift_shift (e : Er) (a b : Nat) : (e.shift a).shift b = e.shift (a + b) := by cases e <;> simp [Er.shift, Nat.add_assoc]
theorem goF_shift {one : Frm → Nat → GNode × Er} {n : Nat} (h : ∀ f j, one f (j + n) = ((one f j).1, (one f j).2.shift n)) (i : Nat) : ∀ l, goF one (i + n) l = ((goF one i l).1, (goF one i l).2.shift n)
  | [] => rfl
  | p :: l => by
    have h1 := h p.2 (i + p.1)
    have e : i + n + p.1 = i + p.1 + n := by omega
    simp only [goF, e, h1, goF_shift h i l, Er.shift_ok]
    split
    · split <;> rfl
    · rfl
theorem oneF_shift {rec : Nat → List UInt8 → Nat → List GNode × Er} (n : Nat) (h : ∀ c b i, rec c b (i + n) = ((rec c b i).1, (rec c b i).2.shift n)) (c : Nat) (f : Frm) (i : Nat) : oneF rec c f (i + n) = ((oneF rec c f i).1, (oneF rec c f i).2.shift n) := by
  have e : i + n + 4 + (shapeOf c f.ty).least = i + 4 + (shapeOf c f.ty).least + n := by omega
  have e2 : i + n + 4 = i + 4 + n := by omega
  unfold oneF
  rw [e, h]
  simp only [Er.shift_ok, ne_eq]
  by_cases h1 : shapeHas c f.ty = false
  · simp only [if_pos h1]; rfl
  by_cases h2 : fitsN (shapeOf c f.ty) (dataOf c f).length = false
  · simp only [if_neg h1, if_pos h2]; rfl
  by_cases h3 : countedN c f.ty (dataOf c f) = true
  · simp only [if_neg h1, if_neg h2, if_pos h3, e2]; rfl
  by_cases h4 : (shapeOf c f.ty).kids = 0
  · simp only [if_neg h1, if_neg h2, if_neg h3, if_pos h4]; rfl
  by_cases h5 : (rec (insideN (shapeOf c f.ty).kids).1 (f.val.drop (shapeOf c f.ty).least) (i + 4 + (shapeOf c f.ty).least)).2 = .ok
  · by_cases h6 : kidsOk (shapeOf c f.ty) (rec (insideN (shapeOf c f.ty).kids).1 (f.val.drop (shapeOf c f.ty).least) (i + 4 + (shapeOf c f.ty).least)).1 = false
    · simp only [if_neg h1, if_neg h2, if_neg h3, if_neg h4, h5, not_true_eq_false, if_false, if_pos h6]; rfl
    · simp only [if_neg h1, if_neg h2, if_neg h3, if_neg h4, h5, not_true_eq_false, if_false, if_neg h6]; rfl
  · simp only [if_neg h1, if_neg h2, if_neg h3, if_neg h4, h5, not_false_eq_true, if_true]
theorem parseF_shift : ∀ (m c : Nat) (b : List UInt8) (i n : Nat), parseF m c b (i + n) = ((parseF m c b i).1, (parseF m c b i).2.shift n)
  | m, c, b, i, n => by
    rw [parseF_eq, parseF_eq]
    split
    · refine goF_shift (fun f j => ?_) i _
      match m with
      | 0 => rfl
      | m + 1 => exact oneF_shift n (fun c b i => parseF_shift m c b i n) c f j
    · show ([], _) = ([], _)
      rw [Er.shift_shift]
theorem goF_at {one : Frm → Nat → GNode × Er} {i n : Nat} : ∀ l : List (Nat × Frm), (∀ p ∈ l, (one p.2 (i + p.1)).2.atOf.1 ≤ n) → (goF one i l).2.atOf.1 ≤ n
  | [], _ => Nat.zero_le _
  | p :: l, h => by
    have h1 := h p (by simp)
    have h2 := goF_at l (fun q hq => h q (by simp [hq]))
    simp only [goF]
    split
    · split
      · exact Nat.zero_le _
      · exact h2
    · exact h1
theorem oneF_at {rec : Nat → List UInt8 → Nat → List GNode × Er} (h : ∀ c b i, (rec c b i).2.atOf.1 ≤ i + b.length) (c : Nat) (f : Frm) (i : Nat) : (oneF rec c f i).2.atOf.1 ≤ i + 4 + f.val.length := by
  unfold oneF
  have hd := dataOf_len c f
  split
  · exact Nat.zero_le _
  split
  · show i ≤ _; omega
  split
  · show i + 4 ≤ _; omega
  split
  · exact Nat.zero_le _
  rename_i h2 h3 h4
  have hf := fits_least (f := shapeOf c f.ty) (n := (dataOf c f).length) (by
    cases hx : fitsN (shapeOf c f.ty) (dataOf c f).length with
    | true => rfl
    | false => exact absurd hx h2)
  split
  · have := h (insideN (shapeOf c f.ty).kids).1 (f.val.drop (shapeOf c f.ty).least) (i + 4 + (shapeOf c f.ty).least)
    rw [List.length_drop] at this
    exact Nat.le_trans this (by omega)
  split
  · show i ≤ _; omega
  · exact Nat.zero_le _
theorem shift_at (e : Er) (i n : Nat) (h : e.atOf.1 ≤ n) : (e.shift i).atOf.1 ≤ i + n := by
  cases e <;> simp [Er.shift, Er.atOf] at * <;> omega
theorem parseF_at : ∀ (m c : Nat) (b : List UInt8) (i : Nat), (parseF m c b i).2.atOf.1 ≤ i + b.length
  | m, c, b, i => by
    rw [parseF_eq]
    split
    · refine goF_at _ fun p hp => ?_
      have hs := (scan_fit b b.length 0 p hp).1
      match m with
      | 0 => show i + p.1 ≤ _; omega
      | m + 1 =>
        have := oneF_at (rec := parseF m) (fun c b i => parseF_at m c b i) c p.2 (i + p.1)
        exact Nat.le_trans this (by omega)
    · exact shift_at _ _ _ (scan_at b b.length 0)
theorem nparse_n (c : Nat) (b : List UInt8) (hc : 0 < b.length → c = 1 ∨ c = 2) (hl : b.length ≤ 2 ^ 40) : PC Tryz.prog 74 [nat c, .sl false 1 (bys b)] (.tup [.sl true 3 (nodesA true (parseF 4 c b 0).1), erA (parseF 4 c b 0).2]) := by
  have h : PC Tryz.prog 107 [nat c, .sl false 1 (bys b), nat 0, nat 1] (.tup [.sl true 3 (nodesA true (parseF 4 c b 0).1), erA (parseF 4 c b 0).2]) := by
    cases b with
    | nil => exact parse_nil0 c
    | cons x r => exact parse_all 4 1 c (x :: r) 0 rfl (hc (by simp)) (by omega)
  refine PC.of_bodyK (by simp only [push_cast]) Tryz.func74 rfl (by rw [Tryz.ntmps74]; simp) ?_
  refine AWp.regionW ?_
  refine AWp.regionM fun K1 hK1 => ?_
  refine ARun2.callM (h) ?_
  refine ARun2.endm (hK1 _ ?_)
  refine AWp.ret ?_
  try simp only [thenQ, blockQ, noGo]
  refine bodyQ.m ?_
  clear hK1 K1
  first | done | exact Wk.go
set_option maxRecDepth 100000 in
theorem firsts4_c (c : GChunk) (hd : c.data.length ≤ 2 ^ 40) (hk : c.kids.length ≤ 2 ^ 40) (hh : kindHas c.ty = true) :
    PC Tryz.prog 55 [chunkA false c, kformA (kindOf c.ty), .sl false 1 [.fn (.func 56) [] [], .fn (.func 57) [] [], .fn (.func 59) [] [], .fn (.func 60) [] []]] (erA (dataE4 c)) := by
  have hb := kind_bd c.ty
  have hu := (hb.2.2.2.2.2.2.1 hh).1
  refine cfirst_c c (kindOf c.ty) [56, 57, 59, 60] [flagsE c (kindOf c.ty), dataE c (kindOf c.ty), countE c, valueE c] rfl (by decide) ?_ ?_
  · intro i hi
    match i, hi with
    | 0, _ => rfl
    | 1, _ => rfl
    | 2, _ => rfl
    | 3, _ => rfl
    | i + 4, h => simp at h; omega
  · intro i hi hok
    match i, hi with
    | 0, _ => exact cflags_c c _
    | 1, _ => exact cdata_c c _ hd (by omega) hu (by omega)
    | 2, _ => exact ccount_c c _ hd (data_ok (hok 1 (by omega))).1
    | 3, _ => exact cvalue_c c _ hd (data_ok (hok 1 (by omega))).2.1 (data_ok (hok 1 (by omega))).2.2
    | i + 4, h => simp at h; omega
end Go.Proofs.YtoapdhogghbojaaGreatDoor.C
namespace Go.Abs
set_option linter.unusedSectionVars false
@[push_cast] def eqAll : List (IntKind × Int × Int) → Bool
  | [] => true
  | p :: r => (p.2.1 == p.2.2) && eqAll r
section
variable {P : Program} {ops : Array Oper} {E : Env} {s s' : AS} {ρ : List Value} {B : Nat → Prop} {a : Act} {w w' : World} {o : Oper} {rest : List Oper} {Q : AS → Prop} {R : Exit → AS → Prop} {nds : List (List (Nat × Option Nat))} {vals : List AV} {G : Prop}
end
set_option linter.unusedSectionVars false
section
variable {P : Program} {ops : Array Oper} {E : Env} {s s' : AS} {ρ : List Value} {B : Nat → Prop} {a : Act} {w w' : World} {o : Oper} {rest : List Oper} {Q : AS → Prop} {R : Exit → AS → Prop} {nds : List (List (Nat × Option Nat))} {vals : List AV} {G : Prop}
def tailF (ops : Array Oper) (n q : Nat) : Bool :=
  decide (n < ops.size) && ((List.range n).all fun i => decide (i = q) || Region.waitsFor .any ops n i || (List.range n).any fun j => decide (i < j) && decide (j ≠ q) && Region.waitsFor .any ops j i) &&
  ((List.range ops.size).all fun j => decide (j ≤ n) || (List.range j).any fun i => decide (n ≤ i) && Region.waitsFor .any ops j i)
theorem tailF.tail {n q : Nat} (h : tailF ops n q = true) {listed : Array Bool} (inv : HeadInv .any ops n listed) : ∀ (d i : Nat), n - i = d → i < n → i ≠ q → listed.getD i true = false → ∀ t, n ≤ t → t ∉ Region.ready .any ops listed := by
  simp only [tailF, Bool.and_eq_true, decide_eq_true_eq] at h
  obtain ⟨⟨hn, hs⟩, hc⟩ := h
  intro d
  induction d using Nat.strongRecOn with
  | _ d ih =>
    intro i hd hi hiq hun t ht hr
    obtain ⟨_, ot, hot, hall⟩ := mem_ready.1 hr
    have htlt : t < ops.size := (Array.getElem?_eq_some_iff.1 hot).1
    by_cases htn : t = n
    · subst htn
      have h1 := List.all_eq_true.1 hs i (List.mem_range.2 hi)
      simp only [Bool.or_eq_true, decide_eq_true_eq] at h1
      rcases h1 with (h1 | h1) | h1
      · exact hiq h1
      · obtain ⟨oj, hoj, e, he, hb, hon⟩ := Region.waitsFor_spec h1
        have : oj = ot := Option.some.inj (hoj.symm.trans hot)
        subst this
        have h2 := hall e he hb
        rw [hon, getD_both hun] at h2
        cases h2
      · obtain ⟨j, hj, hj2⟩ := List.any_eq_true.1 h1
        simp only [Bool.and_eq_true, decide_eq_true_eq] at hj2
        obtain ⟨oj, hoj, e, he, hb, hon⟩ := Region.waitsFor_spec hj2.2
        have hjlt := List.mem_range.1 hj
        cases hl : listed.getD j false with
        | true =>
          have h2 := inv.closed j oj hoj hl e he hb
          rw [hon, getD_both hun] at h2
          cases h2
        | false =>
          have hjs : j < listed.size := by rw [inv.size]; omega
          exact ih (t - j) (by omega) j rfl (by omega) hj2.1.2 (getD_in hjs hl) t (Nat.le_refl _) hr
    · have h1 := List.all_eq_true.1 hc t (List.mem_range.2 htlt)
      simp only [Bool.or_eq_true, decide_eq_true_eq] at h1
      rcases h1 with h1 | h1
      · omega
      · obtain ⟨i', hi', h1⟩ := List.any_eq_true.1 h1
        simp only [Bool.and_eq_true, decide_eq_true_eq] at h1
        obtain ⟨o', ho', e, he, hb, hon⟩ := Region.waitsFor_spec h1.2
        have : o' = ot := Option.some.inj (ho'.symm.trans hot)
        subst this
        have h2 := hall e he hb
        have := List.mem_range.1 hi'
        rw [hon, getD_both (inv.tail i' h1.1 (by omega))] at h2
        cases h2
section fin
variable {id n : Nat} {y : Code} {T : TypeId} {z : List Value}
end fin
end
set_option linter.unusedSectionVars false
section
variable {P : Program} {ops : Array Oper} {E : Env} {s s' : AS} {ρ σ : List Value} {B : Nat → Prop} {a : Act} {w w' : World} {o : Oper} {rest : List Oper} {Q : AS → Prop} {R : Exit → AS → Prop}
variable {nds : List (List (Nat × Option Nat))} {vals : List AV} {G : Prop} {nds1 : List (List (Nat × Option Nat))} {X XL : List Ob} {i : Nat} {r : List Nat}
end
set_option linter.unusedSectionVars false
section
variable {P : Program} {ops : Array Oper} {E : Env} {s s' : AS} {ρ σ : List Value} {B : Nat → Prop} {a : Act} {w w' : World} {o : Oper} {rest : List Oper} {Q : AS → Prop} {R : Exit → AS → Prop}
end
section
variable {P : Program} {ops : Array Oper} {E : Env} {s s' : AS} {ρ σ : List Value} {B : Nat → Prop} {a : Act} {w w' : World} {o : Oper} {rest : List Oper} {Q : AS → Prop} {R : Exit → AS → Prop}
theorem obInval_nil (o : Ob) : Ob.invalL [] o = o := by
  cases o with
  | box T cs =>
    simp only [Ob.invalL]
    have : cs.map (AV.invalL []) = cs := by
      conv => rhs; rw [← List.map_id cs]
      exact List.map_congr_left fun x _ => by simp [AV.invalL]
    rw [this]
  | _ => simp [Ob.invalL]
theorem CSpec.callO {f : FuncId} {args : Array Operand} {ts : Array TypeId} {ys xs : List AV} {e : TypeId} {sz : Nat} (hp : OC P f ys [] (.own 0) [.row e sz xs]) (hx : AV.idsOkL (fun _ => false) xs = true) (hg : gd ops s o = some true)
    (ho : o.op = .call { callee := .value (.func f), args := args, argTypes := ts }) (hc : callable P f = true) (hsub : HandL [] (args.toList.map s.ev) ys) : CSpec P ops o s [] [.row e sz xs] (.own s.ob.length) := by
  intro E hE ρ B a w hs K Q' hK
  have hs' : RS E s ρ B a w := by simpa using hs
  rw [if_pos (gd_wanted hg hs')]
  unfold callable at hc
  split at hc <;> (try (simp at hc; done))
  rename_i fn hf
  simp only [Bool.and_eq_true, Bool.not_eq_true'] at hc
  have hr := run_call_func (P := P) (w := w) (args := args) (ts := ts) (ty := o.type) (ρe := a.eval) hf hc.1 hc.2 rfl
  have he : (execOp a.eval o).run P w = .ok (.enter f (args.map a.eval)) w := by
    simp only [execOp, ho]; exact hr
  have hrel : RelL w B E.bs ρ (args.toList.map s.ev) (args.toList.map a.eval) := RelL.map_ev hs' _
  have hsub' : SubXL [] (args.toList.map s.ev) ys := hsub
  refine owp_enter he ?_
  have hargs : args.map a.eval = (args.toList.map a.eval).toArray := by apply Array.ext'; simp
  rw [hargs]
  refine hp E.bs w [] B _ (hE.glb.call hs'.rw_ (fun _ h => h) (by intro v hv; simp at hv)) hs'.rw_.callee (hsub'.rel (Nat.le_refl _) (by intro i k hik; simp at hik) hrel) _ ?_
  rintro r' v τ' σ' B' w' ⟨rfl, rfl⟩ hw hv
  have haft := hs'.after (ids := []) (τ := []) List.nodup_nil trivial (by simpa [pick] using hw) (Nat.zero_le _)
  have e1 : obAfter s.ob [] [] [Ob.row e sz xs] = s.ob ++ [Ob.row e sz xs] := by
    unfold obAfter
    have h1 : s.ob.map (Ob.invalL (rowIds [] [])) = s.ob := by
      conv => rhs; rw [← List.map_id s.ob]
      exact List.map_congr_left fun x _ => obInval_nil x
    rw [h1]
    simp only [setAll, List.length_nil, List.drop_zero, List.map_cons, List.map_nil, Ob.ren, AV.renL_closed _ _ hx]
  have e2 : setAll ρ [] σ' ++ σ'.drop ([] : List Nat).length = ρ ++ σ' := by simp [setAll]
  rw [e1, e2] at haft
  have hl := hs'.rw_.len
  refine ⟨v, rfl, hK v w' (ρ ++ σ') B' ⟨haft.rw_, haft.jj⟩ hw.bsub (fun b hb => hw.block b (hs'.rw_.blt b hb) ⟨by rintro ⟨v, hv, _⟩; simp at hv, by simp⟩) (fun j u hj h => by rw [List.getElem?_append_left (by omega)]; exact h) ?_⟩
  cases hv with
  | own hq h1 => exact .own (by rw [← hl, List.getElem?_append_right (Nat.le_refl _), Nat.sub_self]; exact hq) h1
variable {nds : List (List (Nat × Option Nat))} {vals : List AV} {G : Prop} {nds1 : List (List (Nat × Option Nat))} {X XL : List Ob} {i : Nat} {r : List Nat}
theorem CL.callO {f : FuncId} {args : Array Operand} {ts : Array TypeId} {ys xs : List AV} {e : TypeId} {sz : Nat} (hp : OC P f ys [] (.own 0) [.row e sz xs]) (k : CL P ops s nds1 vals r [.row e sz xs] XL) (hx : AV.idsOkL (fun _ => false) xs = true := by simp only [push_cast]) (hol : ops[i]? = some o := by exact Go.Abs.evT)
    (ho : o.op = .call { callee := .value (.func f), args := args, argTypes := ts } := by rfl) (hg : gd ops { s with fr := needFr s.fr vals (nds1.getD i []) } o = some true := by exact Go.Abs.evT) (hc : callable P f = true := by exact Go.Abs.evT)
    (hsub : HandL [] (args.toList.map (AS.ev { s with fr := needFr s.fr vals (nds1.getD i []) })) ys := by
      exact Go.Abs.evH)
    (hv : vals.getD i .any = .own s.ob.length := by rfl) : CL P ops s nds1 vals (i :: r) [] XL :=
  ⟨_, fun o' ho' => by
    have : o' = o := Option.some.inj (ho'.symm.trans hol)
    subst this
    rw [hv]
    exact CSpec.callO (s := { s with fr := needFr s.fr vals (nds1.getD i []) }) hp hx hg ho hc hsub, k⟩
end
set_option linter.unusedSectionVars false
section
variable {P : Program} {ops : Array Oper} {E : Env} {s s' : AS} {ρ σ : List Value} {B : Nat → Prop} {a : Act} {w w' : World} {o : Oper} {rest : List Oper} {Q : AS → Prop} {R : Exit → AS → Prop}
end
set_option linter.unusedSectionVars false
section
variable {P : Program} {ops : Array Oper} {E : Env} {s s' : AS} {ρ σ : List Value} {B : Nat → Prop} {a : Act} {w w' : World} {o : Oper} {rest : List Oper} {Q : AS → Prop} {R : Exit → AS → Prop} {nds : List (List (Nat × Option Nat))} {vals : List AV} {G : Prop}
theorem NSpec.callLend {f : FuncId} {args : Array Operand} {ts : Array TypeId} {ys : List AV} {r : AV} {k : Nat} {e : TypeId} {sz : Nat} {xs : List AV} (hg : gd ops s o = some true) (ho : o.op = .call { callee := .value (.func f), args := args, argTypes := ts }) (hc : callable P f = true)
    (hp : PC P f ys r) (hk : s.ob[k]? = some (.row e sz xs)) (hf : r.fresh = true) (hsub : SubL ((args.toList.map s.ev).map (AV.osub1 k (.sl false sz xs))) ys) (hpl : AV.plL ys = true) : NSpec P ops o s r := by
  intro E hE ρ B a w ob hs K Q' hK
  rw [if_pos (gd_wanted (s := { s with ob := s.ob ++ ob }) hg hs)]
  unfold callable at hc
  split at hc <;> (try (simp at hc; done))
  rename_i fn hfn
  simp only [Bool.and_eq_true, Bool.not_eq_true'] at hc
  have hr := run_call_func (P := P) (w := w) (args := args) (ts := ts) (ty := o.type) (ρe := a.eval) hfn hc.1 hc.2 rfl
  have he : (execOp a.eval o).run P w = .ok (.enter f (args.map a.eval)) w := by
    simp only [execOp, ho]; exact hr
  have hev : AS.ev { s with ob := s.ob ++ ob } = s.ev := funext fun y => by cases y <;> rfl
  have hrel : RelL w B E.bs ρ (args.toList.map s.ev) (args.toList.map a.eval) := by have := RelL.map_ev hs args.toList; rwa [hev] at this
  have hk' : ({ s with ob := s.ob ++ ob } : AS).ob[k]? = some (.row e sz xs) := get_append_some hk
  obtain ⟨B1, v, l1, l2, l3, l4, l5⟩ := hs.rw_.lend hk'
  have hrel1 := osubL_map l1 l5 (hrel.mono l2 (fun _ _ => rfl) (Nat.le_refl _) (fun _ _ h => h))
  refine owp_enter he ?_
  have hargs : args.map a.eval = (args.toList.map a.eval).toArray := by apply Array.ext'; simp
  rw [hargs]
  have hrw1 : RW (E0 w.heap.size w B1 []) [] [] B1 w :=
    { ep := Nat.le_refl _, os := rfl, tape := rfl, output := rfl, size := Nat.le_refl _, block := fun _ _ _ => rfl, pre := fun k v h => by simp at h, bsub := fun _ h => h, bnew := fun _ h => .inl h,
      blt := l3, len := rfl, obs := fun k o h => by simp at h, dis := fun i j o o' u v b _ h => by simp at h, prv := fun k o v b h => by simp at h }
  refine hp.2 w.heap.size w [] B1 _ (hE.glb.call hs.rw_ l2 (by intro v hv; simp at hv)) hrw1 ((hsub.rel (Nat.le_refl _) hrel1).pl hpl) _ ?_
  rintro r' v' τ' ρ' B' w' ⟨rfl, rfl⟩ hw hv
  have hρ : ρ' = [] := by have := hw.len; simpa using this
  subst hρ
  have hw2 : RW (E0 w.heap.size w B []) [] [] (fun b => B' b ∧ (B1 b → B b)) w' :=
    { ep := hw.ep, os := hw.os, tape := hw.tape, output := hw.output, size := hw.size, block := fun k h1 h2 => hw.block k h1 ⟨h2.1, fun h => by cases h⟩, pre := fun k v h => by simp at h, bsub := fun b h => ⟨hw.bsub b (l2 b h), fun _ => h⟩,
      bnew := fun b h => (hw.bnew b h.1).elim (fun h1 => .inl (h.2 h1)) .inr, blt := fun b h => hw.blt b h.1, len := rfl, obs := fun k o h => by simp at h, dis := fun i j o o' u v b _ h => by simp at h, prv := fun k o v b h => by simp at h }
  obtain ⟨hb, hsame⟩ := hs.rw_.back hw2
  refine ⟨v', rfl, hK _ _ _ (hs.back hw2).rj (fun b h => ⟨hw.bsub b (l2 b h), fun _ => h⟩) (fun b h => hsame.block b (hs.rw_.blt b h)) ?_⟩
  have hfr := (hv.fresh hf).mono (B' := fun b => B' b ∧ (B1 b → B b)) (w' := w') (bs' := E.bs) (ρ' := ([] : List Value)) (fun b hb => ⟨hb.1, fun h1 => by have h3 := l3 b h1; have h2 : w.heap.size ≤ b := hb.2; omega⟩) (fun _ _ => rfl) hs.rw_.le (fun _ _ h => h)
  refine hfr.ids (p := fun _ => false) ?_ hp.1
  intro _ _ h; simp at h
theorem Dr.callLend {f : FuncId} {args : Array Operand} {ts : Array TypeId} {ys : List AV} {r : AV} {e : TypeId} {sz : Nat} {xs : List AV} (k : Nat) (hp : PC P f ys r) (K : Dr P ops s nds (vals ++ [r]) G) (hn : ndsB nds = true := by first | rfl | decide) (hol : ops[vals.length]? = some o := by exact Go.Abs.evT)
    (ho : o.op = .call { callee := .value (.func f), args := args, argTypes := ts } := by rfl) (hg : gd ops { s with fr := needFr s.fr vals (nds.getD vals.length []) } o = some true := by exact Go.Abs.evT) (hc : callable P f = true := by first | exact Go.Abs.evT | assumption)
    (hk : s.ob[k]? = some (.row e sz xs) := by rfl) (hf : r.fresh = true := by exact Go.Abs.evT)
    (hsub : HandL [] ((args.toList.map (AS.ev { s with fr := needFr s.fr vals (nds.getD vals.length []) })).map (AV.osub1 k (.sl false sz xs))) ys := by
      exact Go.Abs.evH) (hpl : AV.plL ys = true := by exact Go.Abs.evT) : Dr P ops s nds vals G :=
  Dr.step hn hol (NSpec.callLend (s := { s with fr := needFr s.fr vals (nds.getD vals.length []) }) hg ho hc hp hk hf (SubL.of hsub) hpl) K
end
end Go.Abs
