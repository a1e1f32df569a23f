/- data: Make, Of. -/
import Derived.Test.YtoapdhogghbojaaDoorM3
import Derived.WalkKit
import Derived.ProofKit
import Derived.OpenShut
import Derived.JoinedCond
import Derived.Carry
import Derived.ChangeSlices
import Derived.Test.YtoapdhogghbojaaDoorRows
import Derived.Deep.Strs
import Derived.LaidLaws
import Derived.LaidHandle
import Derived.Stop.Joined
import Derived.Test.YtoapdhogghbojaaDoorCards
import Derived.Test.YtoapdhogghbojaaDoorTie
import Derived.Deep.DeepHandedRow
set_option linter.unusedVariables false
set_option linter.unusedSimpArgs false
namespace Go.Proofs.YtoapdhogghbojaaDoor.C
open Go.Abs
/-- what a data chunk has -/
structure GPart where
  inter : Bool
  tsn : Nat
  stream : Nat
  seq : Nat
  proto : Nat
  beg : Bool
  fin : Bool
  unord : Bool
  now : Bool
  user : List UInt8
@[push_cast] def partA (b : Bool) (p : GPart) : AV := .agg [bool p.inter, u32 p.tsn, u16 p.stream, u32 p.seq, u32 p.proto, bool p.beg, bool p.fin, bool p.unord, bool p.now, .sl b 1 (bys p.user)]
def GPart.zero : GPart := ⟨false, 0, 0, 0, 0, false, false, false, false, []⟩
def orF (f b : Nat) (on : Bool) : Nat := bif on then f ||| b else f
theorem or_tab : ((List.range 16).all fun f => [1, 2, 4, 8].all fun b => bitsV .or .u8 (N f) (N b) == N (f ||| b) && decide (f ||| b < 16)) = true := by kernel_rfl
theorem or_eq (f b : Nat) (hf : f < 16) (hb : b ∈ [1, 2, 4, 8]) : bitsV .or .u8 (N f) (N b) = N (f ||| b) ∧ f ||| b < 16 := by
  have h := List.all_eq_true.1 (List.all_eq_true.1 or_tab f (List.mem_range.2 hf)) b hb
  simpa using h
theorem orF_lt {f b : Nat} (on : Bool) (hf : f < 16) (hb : b ∈ [1, 2, 4, 8]) : orF f b on < 16 := by
  cases on
  · exact hf
  · exact (or_eq f b hf hb).2
theorem dput_c (b f : Nat) (on : Bool) (hf : f < 16) (hb : b ∈ [1, 2, 4, 8]) : OC Tryd.prog 23 [u8 b, bool on, .ptr 0 0] [.box 44 [.val (.int .u8 0), u8 f, .val (.slice none 0 0), .val (.slice none 0 0)]] (.tup []) [.box 44 [.val (.int .u8 0), u8 (orF f b on), .val (.slice none 0 0), .val (.slice none 0 0)]] := by
  have hor := (or_eq f b hf hb).1
  refine OC.of_body [0] (by intro k hk; simp at hk; subst hk; rfl) Tryd.func23 rfl (by rw [Tryd.ntmps23]; simp) ?_
  refine AWp.regionW ?_
  refine AWp.condLM (fun c0 => ?_) (fun c0 => ?_)
  · skip
    have hon : on = true := by simpa using c0
    subst hon
    refine AWp.regionV ?_
    try simp only [thenQ, blockQ, noGo]
    refine bodyQ.n ?_
    refine endO.m ?_ ?_
    · first | done | rfl | (rw [hor]; rfl)
    · skip
      first | done | exact Hand.go
  · skip
    have hon : on = false := by simpa using c0
    subst hon
    refine AWp.skip ?_
    try simp only [thenQ, blockQ, noGo]
    refine bodyQ.n ?_
    refine endO.m ?_ ?_
    · first | done | rfl | (rw [hor]; rfl)
    · skip
      first | done | exact Hand.go
/-- the flags of a description -/
def flagsP (p : GPart) : Nat := orF (orF (orF (orF 0 1 p.fin) 2 p.beg) 4 p.unord) 8 p.now
def seqP (p : GPart) : List UInt8 := bif p.inter then [0, 0] ++ putB 4 p.seq else putB 2 p.seq
def dataP (p : GPart) : List UInt8 := [putB 4 p.tsn, putB 2 p.stream, seqP p, putB 4 p.proto, p.user].flatten
def dataC (p : GPart) : GChunk := ⟨bif p.inter then 64 else 0, flagsP p, dataP p, []⟩
structure GPart.Ok (p : GPart) : Prop where
  tsn : p.tsn < 2 ^ 32
  stream : p.stream < 2 ^ 16
  seq : p.seq < 2 ^ 32
  proto : p.proto < 2 ^ 32
  user : p.user.length ≤ 2 ^ 24
theorem seqP_len (p : GPart) : (seqP p).length = bif p.inter then 6 else 2 := by unfold seqP; cases p.inter <;> simp [putB_len]
theorem dataP_len (p : GPart) : (dataP p).length = (bif p.inter then 16 else 12) + p.user.length := by
  unfold dataP
  simp only [List.flatten_cons, List.flatten_nil, List.length_append, putB_len, seqP_len, List.length_nil]
  cases p.inter <;> simp <;> omega
theorem flagsP_lt (p : GPart) : flagsP p < 16 := by
  unfold flagsP
  exact orF_lt _ (orF_lt _ (orF_lt _ (orF_lt _ (by decide) (by decide)) (by decide)) (by decide)) (by decide)
theorem small_data {p : GPart} (h : p.Ok) : Small (dataC p) := by
  refine ⟨?_, ?_, ?_, ?_⟩
  · simp only [dataC]; cases p.inter <;> decide
  · have := flagsP_lt p; simp only [dataC]; omega
  · have := dataP_len p; have := h.user; simp only [dataC]; cases hh : p.inter <;> simp_all <;> omega
  · simp [dataC, szs]
def makePt (p : GPart) : GChunk × Bool := if (!p.inter && decide (65535 < p.seq)) = false ∧ checkC (dataC p) = 0 then (dataC p, true) else (.zero, false)
theorem hp_putk (k id : Nat) (hk : k = 1 ∨ k = 2 ∨ k = 4) (h : id < 2 ^ 32) : PC Tryd.prog 24 [nat k, .sl false 1 [u32 id]] (.sl true 1 (bys (putB k id))) := by
  have := wire_put k [id] hk (by intro x hx; simp at hx; omega) (by simp)
  simpa [u32s, List.flatMap_cons, List.flatMap_nil] using this
theorem djoin_c (l : List (List UInt8)) (h : lens l ≤ 2 ^ 25) (hn : l.length ≤ 2 ^ 10) : PC Tryd.prog 25 [.sl false 1 (rowsA l)] (.sl true 1 (bys l.flatten)) := wjoin_c l (by omega) (by omega)
set_option maxHeartbeats 1000000 in
theorem dmake_c (p : GPart) (h : p.Ok) : PC Tryd.prog 15 [partA false p] (.tup [chunkA true (makePt p).1, bool (makePt p).2]) := by
  obtain ⟨inter, tsn, stream, seq, proto, beg, fin, unord, now, user⟩ := p
  have hsm := (small_data h).check
  obtain ⟨ht, hst, hse, hpr, hus⟩ := h
  simp only at ht hst hse hpr hus
  have p1 := hp_putk 4 tsn (by decide) ht
  have p2 := hp_putk 2 stream (by decide) (by omega)
  have p3 := hp_putk 2 seq (by decide) hse
  have p4 := hp_putk 4 seq (by decide) hse
  have p5 := hp_putk 4 proto (by decide) hpr
  have j1 : PC Tryd.prog 25 [.sl false 1 [.sl false 1 [.val (.int .u8 0), .val (.int .u8 0)], .sl false 1 (bys (putB 4 seq))]] (.sl true 1 (bys ([0, 0] ++ putB 4 seq))) := by
    have := djoin_c [[0, 0], putB 4 seq] (by simp [lens, putB_len]) (by simp)
    have e : [[0, 0], putB 4 seq].flatten = [0, 0] ++ putB 4 seq := by simp
    rw [e] at this; exact this
  have j2 : ∀ x : List UInt8, x.length ≤ 6 → PC Tryd.prog 25 [.sl false 1 [.sl false 1 (bys (putB 4 tsn)), .sl false 1 (bys (putB 2 stream)), .sl false 1 (bys x), .sl false 1 (bys (putB 4 proto)), .sl false 1 (bys user)]] (.sl true 1 (bys ([putB 4 tsn, putB 2 stream, x, putB 4 proto, user].flatten))) := by
    intro x hx
    exact djoin_c [putB 4 tsn, putB 2 stream, x, putB 4 proto, user] (by simp only [lens, List.map_cons, List.map_nil, List.sum_cons, List.sum_nil, putB_len]; omega) (by simp)
  have jT := j2 ([0, 0] ++ putB 4 seq) (by simp [putB_len])
  have jF := j2 (putB 2 seq) (by simp [putB_len])
  have o1 : orF 0 1 fin < 16 := orF_lt _ (by decide) (by decide)
  have o2 : orF (orF 0 1 fin) 2 beg < 16 := orF_lt _ o1 (by decide)
  have o3 : orF (orF (orF 0 1 fin) 2 beg) 4 unord < 16 := orF_lt _ o2 (by decide)
  refine PC.of_bodyK (by simp only [push_cast]) Tryd.func15 rfl (by rw [Tryd.ntmps15]; simp) ?_
  refine AWp.regionW ?_
  refine AWp.regionW ?_
  refine AWp.regionW ?_
  refine AWp.regionM fun K1 hK1 => ?_
  refine ARun2.callOM [2] (dput_c 1 0 fin (by decide) (by decide)) ?_
  refine ARun2.endm (hK1 _ ?_)
  refine AWp.regionM fun K2 hK2 => ?_
  refine ARun2.callOM [2] (dput_c 2 (orF 0 1 fin) beg o1 (by decide)) ?_
  refine ARun2.endm (hK2 _ ?_)
  refine AWp.regionM fun K3 hK3 => ?_
  refine ARun2.callOM [2] (dput_c 4 (orF (orF 0 1 fin) 2 beg) unord o2 (by decide)) ?_
  refine ARun2.endm (hK3 _ ?_)
  refine AWp.regionM fun K4 hK4 => ?_
  refine ARun2.callOM [2] (dput_c 8 (orF (orF (orF 0 1 fin) 2 beg) 4 unord) now o3 (by decide)) ?_
  refine ARun2.endm (hK4 _ ?_)
  refine AWp.regionM fun K5 hK5 => ?_
  refine ARun2.callM (p3) ?_
  refine ARun2.endm (hK5 _ ?_)
  refine AWp.seqK fun K6 hK6 => ?_
  refine AWp.regionW ?_
  refine AWp.condLM (fun c0 => ?_) (fun c0 => ?_)
  · skip
    have hin : inter = true := by simpa using c0
    subst hin
    refine AWp.regionW ?_
    refine AWp.regionN fun K7 hK7 => ?_
    refine ARun2.callM (p4) ?_
    refine ARun2.callM (j1) ?_
    refine ARun2.endm (hK7 _ ?_)
    refine hK6 _ ?_
    refine AWp.drS [[(1, none)], [(39, some 0)], [(40, some 1)], [(41, some 2)], [(1, none)], [(43, some 4)], [(44, some 5)], [(45, some 6)], [(46, some 7)], [(6, none)], [(1, none)], [(49, some 10)], [(50, some 11)], [(51, some 12)], [(1, none)], [(53, some 14)], [(42, some 3), (47, some 8), (48, some 9), (52, some 13), (54, some 15)], [(55, some 16)], [(4, none)]] fun G hG => ?_
    refine Dr.sim ?_
    try simp only [List.cons_append, List.nil_append]
    refine Dr.sim ?_
    try simp only [List.cons_append, List.nil_append]
    refine Dr.build ?_
    try simp only [List.cons_append, List.nil_append]
    refine Dr.call (p1) ?_
    try simp only [List.cons_append, List.nil_append]
    refine Dr.sim ?_
    try simp only [List.cons_append, List.nil_append]
    refine Dr.sim ?_
    try simp only [List.cons_append, List.nil_append]
    refine Dr.sim ?_
    try simp only [List.cons_append, List.nil_append]
    refine Dr.build ?_
    try simp only [List.cons_append, List.nil_append]
    refine Dr.call (p2) ?_
    try simp only [List.cons_append, List.nil_append]
    refine Dr.sim ?_
    try simp only [List.cons_append, List.nil_append]
    refine Dr.sim ?_
    try simp only [List.cons_append, List.nil_append]
    refine Dr.sim ?_
    try simp only [List.cons_append, List.nil_append]
    refine Dr.build ?_
    try simp only [List.cons_append, List.nil_append]
    refine Dr.call (p5) ?_
    try simp only [List.cons_append, List.nil_append]
    refine Dr.sim ?_
    try simp only [List.cons_append, List.nil_append]
    refine Dr.sim ?_
    try simp only [List.cons_append, List.nil_append]
    refine Dr.build ?_
    try simp only [List.cons_append, List.nil_append]
    refine Dr.call (jT) ?_
    try simp only [List.cons_append, List.nil_append]
    refine Dr.sim ?_
    try simp only [List.cons_append, List.nil_append]
    refine Dr.finM (n := 19) [(56, 17), (57, 18)] [1, 2, 4] hG YtoapdhogghbojaaDoor.Facts.mixed fun KD hKD => ?_
    refine ARun2.endm (hKD _ ?_); clear hKD KD hG G
    refine AWp.seqK fun K8 hK8 => ?_
    refine AWp.regionA fun K9 hK9 => ?_
    refine ARun.segm 4 fun KS hKS => ?_
    refine ARun2.endm (hKS _ ?_); clear hKS KS
    apply ARun.grpM 3 3 true 64 [2, 4, 61]
    · intro g3 KG hKG
      refine ARun2.gom ?_
      exact ARun2.endm (hKG _ Le.grpM)
    refine ARun.segm 2 fun KS hKS => ?_
    refine ARun2.endm (hKS _ ?_); clear hKS KS
    apply ARun.grpM 3 8 false 69 [2, 4, 66]
    · intro g8 KG hKG
      refine ARun2.gom ?_
      refine ARun2.callM (hsm) ?_
      exact ARun2.endm (hKG _ Le.grpM)
    refine ARun2.gom ?_
    refine ARun2.endm (hK9 _ ?_)
    refine AWp.condLM (fun c1 => ?_) (fun c1 => ?_)
    · skip
      have hr : makePt ⟨true, tsn, stream, seq, proto, beg, fin, unord, now, user⟩ = (.zero, false) := if_neg (by simpa using c1)
      refine AWp.regionW ?_
      refine AWp.ret ?_
      try simp only [thenQ, blockQ, noGo]
      refine bodyQ.m ?_
      clear hK9 K9 hK8 K8 hK7 K7 hK6 K6 hK5 K5 hK4 K4 hK3 K3 hK2 K2 hK1 K1
      rw [hr]
      try simp only [GChunk.zero]
      try simp only [dataC, flagsP, dataP, seqP, cond_true, cond_false]
      first | done | exact Wk.go
    · skip
      have hr : makePt ⟨true, tsn, stream, seq, proto, beg, fin, unord, now, user⟩ = (dataC ⟨true, tsn, stream, seq, proto, beg, fin, unord, now, user⟩, true) := if_pos (by simpa using c1)
      refine AWp.skip ?_
      refine hK8 _ ?_
      refine AWp.regionW ?_
      refine AWp.ret ?_
      try simp only [thenQ, blockQ, noGo]
      refine bodyQ.m ?_
      clear hK9 K9 hK8 K8 hK7 K7 hK6 K6 hK5 K5 hK4 K4 hK3 K3 hK2 K2 hK1 K1
      rw [hr]
      try simp only [GChunk.zero]
      try simp only [dataC, flagsP, dataP, seqP, cond_true, cond_false]
      first | done | exact Wk.go
  · skip
    have hin : inter = false := by simpa using c0
    subst hin
    refine AWp.skip ?_
    refine hK6 _ ?_
    refine AWp.drS [[(1, none)], [(39, some 0)], [(40, some 1)], [(41, some 2)], [(1, none)], [(43, some 4)], [(44, some 5)], [(45, some 6)], [(46, some 7)], [(6, none)], [(1, none)], [(49, some 10)], [(50, some 11)], [(51, some 12)], [(1, none)], [(53, some 14)], [(42, some 3), (47, some 8), (48, some 9), (52, some 13), (54, some 15)], [(55, some 16)], [(4, none)]] fun G hG => ?_
    refine Dr.sim ?_
    try simp only [List.cons_append, List.nil_append]
    refine Dr.sim ?_
    try simp only [List.cons_append, List.nil_append]
    refine Dr.build ?_
    try simp only [List.cons_append, List.nil_append]
    refine Dr.call (p1) ?_
    try simp only [List.cons_append, List.nil_append]
    refine Dr.sim ?_
    try simp only [List.cons_append, List.nil_append]
    refine Dr.sim ?_
    try simp only [List.cons_append, List.nil_append]
    refine Dr.sim ?_
    try simp only [List.cons_append, List.nil_append]
    refine Dr.build ?_
    try simp only [List.cons_append, List.nil_append]
    refine Dr.call (p2) ?_
    try simp only [List.cons_append, List.nil_append]
    refine Dr.sim ?_
    try simp only [List.cons_append, List.nil_append]
    refine Dr.sim ?_
    try simp only [List.cons_append, List.nil_append]
    refine Dr.sim ?_
    try simp only [List.cons_append, List.nil_append]
    refine Dr.build ?_
    try simp only [List.cons_append, List.nil_append]
    refine Dr.call (p5) ?_
    try simp only [List.cons_append, List.nil_append]
    refine Dr.sim ?_
    try simp only [List.cons_append, List.nil_append]
    refine Dr.sim ?_
    try simp only [List.cons_append, List.nil_append]
    refine Dr.build ?_
    try simp only [List.cons_append, List.nil_append]
    refine Dr.call (jF) ?_
    try simp only [List.cons_append, List.nil_append]
    refine Dr.sim ?_
    try simp only [List.cons_append, List.nil_append]
    refine Dr.finM (n := 19) [(56, 17), (57, 18)] [1, 2, 4] hG YtoapdhogghbojaaDoor.Facts.mixed fun KD hKD => ?_
    refine ARun2.endm (hKD _ ?_); clear hKD KD hG G
    refine AWp.seqK fun K10 hK10 => ?_
    refine AWp.regionA fun K11 hK11 => ?_
    refine ARun.segm 4 fun KS hKS => ?_
    refine ARun2.endm (hKS _ ?_); clear hKS KS
    apply ARun.grpM 3 3 true 64 [2, 4, 61]
    · intro g3 KG hKG
      refine ARun2.gom ?_
      exact ARun2.endm (hKG _ Le.grpM)
    refine ARun.segm 2 fun KS hKS => ?_
    refine ARun2.endm (hKS _ ?_); clear hKS KS
    apply ARun.grpM 3 8 false 69 [2, 4, 66]
    · intro g8 KG hKG
      refine ARun2.gom ?_
      refine ARun2.callM (hsm) ?_
      exact ARun2.endm (hKG _ Le.grpM)
    refine ARun2.gom ?_
    refine ARun2.endm (hK11 _ ?_)
    refine AWp.condLM (fun c1 => ?_) (fun c1 => ?_)
    · skip
      have hr : makePt ⟨false, tsn, stream, seq, proto, beg, fin, unord, now, user⟩ = (.zero, false) := if_neg (by
        rintro ⟨e1, e2⟩
        have e3 : ¬ 65535 < seq := by simpa using e1
        simp [e2, e3] at c1)
      refine AWp.regionW ?_
      refine AWp.ret ?_
      try simp only [thenQ, blockQ, noGo]
      refine bodyQ.m ?_
      clear hK11 K11 hK10 K10 hK6 K6 hK5 K5 hK4 K4 hK3 K3 hK2 K2 hK1 K1
      rw [hr]
      try simp only [GChunk.zero]
      try simp only [dataC, flagsP, dataP, seqP, cond_true, cond_false]
      first | done | exact Wk.go
    · skip
      have hr : makePt ⟨false, tsn, stream, seq, proto, beg, fin, unord, now, user⟩ = (dataC ⟨false, tsn, stream, seq, proto, beg, fin, unord, now, user⟩, true) := if_pos (by simpa using c1)
      refine AWp.skip ?_
      refine hK10 _ ?_
      refine AWp.regionW ?_
      refine AWp.ret ?_
      try simp only [thenQ, blockQ, noGo]
      refine bodyQ.m ?_
      clear hK11 K11 hK10 K10 hK6 K6 hK5 K5 hK4 K4 hK3 K3 hK2 K2 hK1 K1
      rw [hr]
      try simp only [GChunk.zero]
      try simp only [dataC, flagsP, dataP, seqP, cond_true, cond_false]
      first | done | exact Wk.go
/-! Of -/
def onF (f b : Nat) : Bool := decide (0 < bitsV .and .u8 (N f) (N b))
theorem don_c (c : GChunk) (b : Nat) : PC Tryd.prog 28 [u8 b, .ref false (chunkA false c)] (bool (onF c.flags b)) := by
  refine PC.of_bodyW (by simp only [push_cast]) Tryd.func28 rfl (by rw [Tryd.ntmps28]; simp) ?_
  refine AWp.regionW ?_
  refine AWp.regionW ?_
  refine AWp.ret ?_
  try simp only [thenQ, blockQ, noGo]
  refine bodyQ.m ?_
  simp only [onF]
  first | done | exact Hand.go
def isD (c : GChunk) : Bool := ((c.ty == 0) || (c.ty == 64)) && (checkC c == 0)
theorem isD_not (c : GChunk) : isD c = !(c.ty != 0 && c.ty != 64 || !(checkC c == 0)) := by
  unfold isD bne
  cases c.ty == 0 <;> cases c.ty == 64 <;> cases checkC c == 0 <;> rfl
theorem isD_len {c : GChunk} (h : isD c = true) : (c.ty = 0 ∧ 13 ≤ c.data.length ∨ c.ty = 64 ∧ 17 ≤ c.data.length) ∧ c.data.length ≤ 65531 := by
  unfold isD at h
  simp only [Bool.and_eq_true, Bool.or_eq_true, beq_iff_eq] at h
  obtain ⟨ht, hc⟩ := h
  obtain ⟨h1, h2, h3, h4⟩ := check_zero hc (by rcases ht with e | e <;> rw [e] <;> rfl)
  obtain ⟨f1, f2⟩ := fit_len h2
  rcases ht with e | e
  · rw [e] at f1 f2
    have e1 : (kindOf 0).least = 13 ∧ (kindOf 0).most = 65531 := ⟨rfl, rfl⟩
    exact ⟨.inl ⟨e, by omega⟩, by omega⟩
  · rw [e] at f1 f2
    have e1 : (kindOf 64).least = 17 ∧ (kindOf 64).most = 65531 := ⟨rfl, rfl⟩
    exact ⟨.inr ⟨e, by omega⟩, by omega⟩
def partOf (c : GChunk) : GPart := ⟨c.ty == 64, peekN 4 c.data 0, peekN 2 c.data 4, bif c.ty == 64 then peekN 4 c.data 8 else peekN 2 c.data 6, peekN 4 c.data (bif c.ty == 64 then 12 else 8), onF c.flags 2, onF c.flags 1, onF c.flags 4, onF c.flags 8, c.data.drop (bif c.ty == 64 then 16 else 12)⟩
def ofD (c : GChunk) : GPart × Bool := if isD c = true then (partOf c, true) else (.zero, false)
theorem dof_c (c : GChunk) (h : Small c) : PC Tryd.prog 17 [chunkA false c] (.tup [partA true (ofD c).1, bool (ofD c).2]) := by
  have hck := h.check
  have hd := h.data
  have hst := peek2_lt c.data 4
  refine PC.of_bodyK (by simp only [push_cast]) Tryd.func17 rfl (by rw [Tryd.ntmps17]; simp) ?_
  refine AWp.regionW ?_
  refine AWp.seqK fun K1 hK1 => ?_
  refine AWp.regionA fun K2 hK2 => ?_
  refine ARun.segm 4 fun KS hKS => ?_
  refine ARun2.endm (hKS _ ?_); clear hKS KS
  apply ARun.grpM 3 3 true 15 [1, 2, 12]
  · intro g3 KG hKG
    refine ARun2.gom ?_
    exact ARun2.endm (hKG _ Le.grpM)
  refine ARun.segm 2 fun KS hKS => ?_
  refine ARun2.endm (hKS _ ?_); clear hKS KS
  apply ARun.grpM 3 8 false 20 [1, 2, 17]
  · intro g8 KG hKG
    refine ARun2.gom ?_
    refine ARun2.callM (hck) ?_
    exact ARun2.endm (hKG _ Le.grpM)
  refine ARun2.gom ?_
  refine ARun2.endm (hK2 _ ?_)
  refine AWp.condLM (fun c0 => ?_) (fun c0 => ?_)
  · skip
    have hr : ofD c = (.zero, false) := if_neg (by rw [isD_not, c0]; decide)
    refine AWp.regionW ?_
    refine AWp.ret ?_
    try simp only [thenQ, blockQ, noGo]
    refine bodyQ.m ?_
    clear hK2 K2 hK1 K1
    rw [hr]
    try simp only [GPart.zero]
    try rw [hp]
    first | done | exact Wk.go
  · skip
    have hi : isD c = true := by rw [isD_not, c0]; rfl
    have hr : ofD c = (partOf c, true) := if_pos hi
    obtain ⟨hl1, hl2⟩ := isD_len hi
    refine AWp.skip ?_
    refine hK1 _ ?_
    refine AWp.pubBox 0 rfl (Nat.zero_le _) rfl (by simp) ?_
    simp only [push_cast, ↓reduceIte, Nat.reduceEqDiff, Nat.reduceLT, Nat.reduceAdd, Nat.reduceSub, Nat.reduceMul, Nat.reduceLeDiff, Nat.reducePow, Int.reduceLT, Int.reduceToNat, reduceCtorEq, Int.reduceNeg, Int.reduceEq, Nat.reduceBEq, Nat.reduceBNe, Int.reduceBEq, Int.reduceBNe, String.reduceEq]
    refine AWp.regionW ?_
    refine AWp.drS [[(1, none)], [(24, some 0)], [(25, some 1)], [(4, none)], [(27, some 3)], [(4, none)], [(29, some 5)], [(4, none)], [(31, some 7)], [(4, none)], [(33, some 9)], [(26, some 2), (28, some 4), (30, some 6), (32, some 8), (34, some 10)], []] fun G hG => ?_
    refine Dr.sim ?_
    try simp only [List.cons_append, List.nil_append]
    refine Dr.sim ?_
    try simp only [List.cons_append, List.nil_append]
    refine Dr.sim ?_
    try simp only [List.cons_append, List.nil_append]
    refine Dr.sim ?_
    try simp only [List.cons_append, List.nil_append]
    refine Dr.callV (don_c c 2) ?_
    refine Dr.sim ?_
    try simp only [List.cons_append, List.nil_append]
    refine Dr.callV (don_c c 1) ?_
    refine Dr.sim ?_
    try simp only [List.cons_append, List.nil_append]
    refine Dr.callV (don_c c 4) ?_
    refine Dr.sim ?_
    try simp only [List.cons_append, List.nil_append]
    refine Dr.callV (don_c c 8) ?_
    refine Dr.sim ?_
    try simp only [List.cons_append, List.nil_append]
    refine Dr.al ?_
    try simp only [List.cons_append, List.nil_append]
    refine Dr.finA (n := 13) 12 [(35, 11), (5, 12)] [1, 2] hG YtoapdhogghbojaaDoor.Facts.mixed fun KD hKD => ?_
    refine ARun2.endm (hKD _ ?_); clear hKD KD hG G
    refine AWp.regionM fun K3 hK3 => ?_
    refine ARun2.callOM [] (new_c c.data (by omega)) ?_
    refine ARun2.endm (hK3 _ ?_)
    refine AWp.regionM fun K4 hK4 => ?_
    refine ARun2.callOM [3] (num_hit 4 c.data 0 (by decide) (by omega) (by omega)) ?_
    refine ARun2.endm (hK4 _ ?_)
    refine AWp.regionM fun K5 hK5 => ?_
    refine ARun2.callOM [3] (num_hit 2 c.data 4 (by decide) (by omega) (by omega)) ?_
    refine ARun2.endm (hK5 _ ?_)
    refine AWp.regionW ?_
    refine AWp.regionM fun K6 hK6 => ?_
    refine ARun2.callOM [3] (num_hit 2 c.data 6 (by decide) (by omega) (by omega)) ?_
    refine ARun2.endm (hK6 _ ?_)
    refine AWp.seqK fun K7 hK7 => ?_
    refine AWp.regionW ?_
    refine AWp.condLM (fun c1 => ?_) (fun c1 => ?_)
    · skip
      have hty : c.ty = 64 := by simpa using c1
      have h64 : 17 ≤ c.data.length := by omega
      have ht : (c.data.drop 16).take (c.data.length - 16) = c.data.drop 16 := List.take_of_length_le (by rw [List.length_drop]; exact Nat.le_refl _)
      have hp : partOf c = ⟨c.ty == 64, peekN 4 c.data 0, peekN 2 c.data 4, peekN 4 c.data 8, peekN 4 c.data 12, onF c.flags 2, onF c.flags 1, onF c.flags 4, onF c.flags 8, (c.data.drop 16).take (c.data.length - 16)⟩ := by rw [ht]; simp only [partOf, hty]; rfl
      refine AWp.regionN fun K8 hK8 => ?_
      refine ARun2.callOM [3] (num_hit 4 c.data 8 (by decide) (by omega) (by omega)) ?_
      refine ARun2.endm (hK8 _ ?_)
      refine hK7 _ ?_
      refine AWp.regionM fun K9 hK9 => ?_
      refine ARun2.callOM [3] (num_hit 4 c.data 12 (by decide) (by omega) (by omega)) ?_
      refine ARun2.endm (hK9 _ ?_)
      refine AWp.regionM fun K10 hK10 => ?_
      refine ARun2.callOM [3] (left_c c.data 16 (by omega) (by omega)) ?_
      refine ARun2.callOM [3] (take_ok c.data 16 (c.data.length - 16) (by omega) (by omega)) ?_
      refine ARun2.endm (hK10 _ ?_)
      refine AWp.regionW ?_
      refine AWp.ret ?_
      try simp only [thenQ, blockQ, noGo]
      refine bodyQ.m ?_
      clear hK10 K10 hK9 K9 hK8 K8 hK7 K7 hK6 K6 hK5 K5 hK4 K4 hK3 K3 hK2 K2 hK1 K1
      rw [hr]
      try simp only [GPart.zero]
      try rw [hp]
      first | done | exact Wk.go
    · skip
      have hty : ¬ c.ty = 64 := by simpa using c1
      have hty2 : (c.ty == 64) = false := by simpa using hty
      have ht : (c.data.drop 12).take (c.data.length - 12) = c.data.drop 12 := List.take_of_length_le (by rw [List.length_drop]; exact Nat.le_refl _)
      have hp : partOf c = ⟨c.ty == 64, peekN 4 c.data 0, peekN 2 c.data 4, peekN 2 c.data 6, peekN 4 c.data 8, onF c.flags 2, onF c.flags 1, onF c.flags 4, onF c.flags 8, (c.data.drop 12).take (c.data.length - 12)⟩ := by rw [ht]; simp only [partOf, hty2]; rfl
      refine AWp.skip ?_
      refine hK7 _ ?_
      refine AWp.regionM fun K11 hK11 => ?_
      refine ARun2.callOM [3] (num_hit 4 c.data 8 (by decide) (by omega) (by omega)) ?_
      refine ARun2.endm (hK11 _ ?_)
      refine AWp.regionM fun K12 hK12 => ?_
      refine ARun2.callOM [3] (left_c c.data 12 (by omega) (by omega)) ?_
      refine ARun2.callOM [3] (take_ok c.data 12 (c.data.length - 12) (by omega) (by omega)) ?_
      refine ARun2.endm (hK12 _ ?_)
      refine AWp.regionW ?_
      refine AWp.ret ?_
      try simp only [thenQ, blockQ, noGo]
      refine bodyQ.m ?_
      clear hK12 K12 hK11 K11 hK7 K7 hK6 K6 hK5 K5 hK4 K4 hK3 K3 hK2 K2 hK1 K1
      rw [hr]
      try simp only [GPart.zero]
      try rw [hp]
      first | done | exact Wk.go
end Go.Proofs.YtoapdhogghbojaaDoor.C
/- stream: right, list, Outgoing, Incoming, Reset, Response, More, is, Seq, Streams, Answers, Make. -/
set_option linter.unusedVariables false
set_option linter.unusedSimpArgs false
namespace Go.Proofs.YtoapdhogghbojaaDoor.C
open Go.Abs
def isS (n : GNode) (a b : Nat) : Bool := decide (a ≤ n.ty) && decide (n.ty ≤ b) && (checkN 1 1 n == 0)
end Go.Proofs.YtoapdhogghbojaaDoor.C
/- stream: Make; wharfref17: Is, Seq, Streams, Equal, Build. -/
set_option linter.unusedVariables false
set_option linter.unusedSimpArgs false
namespace Go.Proofs.YtoapdhogghbojaaDoor.C
open Go.Abs
end Go.Proofs.YtoapdhogghbojaaDoor.C
/- wharfref13: Right, Same, Make, Of. -/
set_option linter.unusedVariables false
set_option linter.unusedSimpArgs false
namespace Go.Proofs.YtoapdhogghbojaaDoor.C
open Go.Abs
def rightD (p : GPart) : Bool := bif p.inter then decide (1 ≤ p.user.length) && decide (p.user.length ≤ 65515) else decide (p.seq ≤ 65535) && decide (1 ≤ p.user.length) && decide (p.user.length ≤ 65519)
theorem rright13_c (p : GPart) : PC Tryd.prog 9 [partA false p] (bool (rightD p)) := by
  obtain ⟨inter, tsn, stream, seq, proto, beg, fin, unord, now, user⟩ := p
  refine PC.of_bodyW (by simp only [push_cast]) Tryd.func9 rfl (by rw [Tryd.ntmps9]; simp) ?_
  refine AWp.regionW ?_
  refine AWp.seqK fun K1 hK1 => ?_
  refine AWp.regionW ?_
  refine AWp.condLM (fun c0 => ?_) (fun c0 => ?_)
  · skip
    have hin : inter = true := by simpa using c0
    subst hin
    refine AWp.regionA fun K2 hK2 => ?_
    refine ARun.segm 5 fun KS hKS => ?_
    refine ARun2.endm (hKS _ ?_); clear hKS KS
    apply ARun.grpM 4 4 true 13 [9]
    · intro g4 KG hKG
      refine ARun2.gom ?_
      exact ARun2.endm (hKG _ Le.grpM)
    refine ARun2.gom ?_
    refine ARun2.endm (hK2 _ ?_)
    refine AWp.ret ?_
    try simp only [thenQ, blockQ, noGo]
    refine bodyQ.m ?_
    clear hK2 K2 hK1 K1
    simp only [rightD, cond_true, cond_false]
    first | done | exact Hand.go
  · skip
    have hin : inter = false := by simpa using c0
    subst hin
    refine AWp.skip ?_
    refine hK1 _ ?_
    refine AWp.regionA fun K3 hK3 => ?_
    refine ARun.segm 4 fun KS hKS => ?_
    refine ARun2.endm (hKS _ ?_); clear hKS KS
    apply ARun.grpM 4 3 true 22 [1, 18]
    · intro g3 KG hKG
      refine ARun2.gom ?_
      exact ARun2.endm (hKG _ Le.grpM)
    refine ARun.segm 2 fun KS hKS => ?_
    refine ARun2.endm (hKS _ ?_); clear hKS KS
    apply ARun.grpM 4 9 true 28 [24]
    · intro g9 KG hKG
      refine ARun2.gom ?_
      exact ARun2.endm (hKG _ Le.grpM)
    refine ARun2.gom ?_
    refine ARun2.endm (hK3 _ ?_)
    refine AWp.ret ?_
    try simp only [thenQ, blockQ, noGo]
    refine bodyQ.m ?_
    clear hK3 K3 hK1 K1
    simp only [rightD, cond_true, cond_false]
    first | done | exact Hand.go
def sameP (a b : GPart) : Bool := (a.inter == b.inter) && (a.tsn == b.tsn) && (a.stream == b.stream) && (a.seq == b.seq) && (a.proto == b.proto) && (a.beg == b.beg) && (a.fin == b.fin) && (a.unord == b.unord) && (a.now == b.now) && decide (a.user = b.user)
theorem sameP_self (a : GPart) : sameP a a = true := by simp [sameP]
set_option maxRecDepth 100000 in
set_option maxHeartbeats 1000000 in
theorem same13_c (a b : GPart) (h : a.user.length ≤ 2 ^ 40) : PC Tryd.prog 11 [partA false a, partA false b] (bool (sameP a b)) := by
  refine PC.of_bodyW (by simp only [push_cast]) Tryd.func11 rfl (by rw [Tryd.ntmps11]; simp) ?_
  refine AWp.regionW ?_
  refine AWp.regionA fun K1 hK1 => ?_
  refine ARun.segm 6 fun KS hKS => ?_
  refine ARun2.boolEqM ?_
  refine ARun2.endm (hKS _ ?_); clear hKS KS
  apply ARun.grpM 5 5 true 15 [2, 3, 10]
  · intro g5 KG hKG
    refine ARun2.gom ?_
    exact ARun2.endm (hKG _ Le.grpM)
  refine ARun.segm 2 fun KS hKS => ?_
  refine ARun2.endm (hKS _ ?_); clear hKS KS
  apply ARun.grpM 5 12 true 22 [2, 3, 17]
  · intro g12 KG hKG
    refine ARun2.gom ?_
    exact ARun2.endm (hKG _ Le.grpM)
  refine ARun.segm 2 fun KS hKS => ?_
  refine ARun2.endm (hKS _ ?_); clear hKS KS
  apply ARun.grpM 5 19 true 29 [2, 3, 24]
  · intro g19 KG hKG
    refine ARun2.gom ?_
    exact ARun2.endm (hKG _ Le.grpM)
  refine ARun.segm 2 fun KS hKS => ?_
  refine ARun2.endm (hKS _ ?_); clear hKS KS
  apply ARun.grpM 5 26 true 36 [2, 3, 31]
  · intro g26 KG hKG
    refine ARun2.gom ?_
    exact ARun2.endm (hKG _ Le.grpM)
  refine ARun.segm 2 fun KS hKS => ?_
  refine ARun2.endm (hKS _ ?_); clear hKS KS
  apply ARun.grpM 5 33 true 43 [2, 3, 38]
  · intro g33 KG hKG
    refine ARun2.gom ?_
    refine ARun2.boolEqM ?_
    exact ARun2.endm (hKG _ Le.grpM)
  refine ARun.segm 2 fun KS hKS => ?_
  refine ARun2.endm (hKS _ ?_); clear hKS KS
  apply ARun.grpM 5 40 true 50 [2, 3, 45]
  · intro g40 KG hKG
    refine ARun2.gom ?_
    refine ARun2.boolEqM ?_
    exact ARun2.endm (hKG _ Le.grpM)
  refine ARun.segm 2 fun KS hKS => ?_
  refine ARun2.endm (hKS _ ?_); clear hKS KS
  apply ARun.grpM 5 47 true 57 [2, 3, 52]
  · intro g47 KG hKG
    refine ARun2.gom ?_
    refine ARun2.boolEqM ?_
    exact ARun2.endm (hKG _ Le.grpM)
  refine ARun.segm 2 fun KS hKS => ?_
  refine ARun2.endm (hKS _ ?_); clear hKS KS
  apply ARun.grpM 5 54 true 64 [2, 3, 59]
  · intro g54 KG hKG
    refine ARun2.gom ?_
    refine ARun2.boolEqM ?_
    exact ARun2.endm (hKG _ Le.grpM)
  refine ARun.segm 2 fun KS hKS => ?_
  refine ARun2.endm (hKS _ ?_); clear hKS KS
  apply ARun.grpM 5 61 true 71 [66]
  · intro g61 KG hKG
    refine ARun2.gom ?_
    refine ARun2.callM (same01_c a.user b.user h) ?_
    exact ARun2.endm (hKG _ Le.grpM)
  refine ARun2.gom ?_
  refine ARun2.endm (hK1 _ ?_)
  refine AWp.ret ?_
  try simp only [thenQ, blockQ, noGo]
  refine bodyQ.m ?_
  clear hK1 K1
  simp only [sameP]
  first | done | exact Hand.go
end Go.Proofs.YtoapdhogghbojaaDoor.C
/- One field of an element of a row of the call's own is written. No condition. -/
namespace Go.Abs
set_option linter.unusedVariables false
set_option linter.unusedSectionVars false
set_option linter.unusedSimpArgs false
set_option linter.unnecessarySimpa false
section
variable {P : Program} {ops : Array Oper} {E : Env} {s s' : AS} {ρ σ : List Value} {B : Nat → Prop} {a : Act} {w w' : World} {o : Oper} {rest : List Oper} {Q : AS → Prop} {R : Exit → AS → Prop}
theorem flat_setF {sz d : Nat} {m : List AV} {y0 y1 : AV} : ∀ {xs : List AV} {j : Nat}, xs[j]? = some y0 → (∀ x ∈ xs, x.cells.length = sz) → d + m.length ≤ sz → y1.cells = splice y0.cells d m → splice (xs.flatMap AV.cells) (j * sz + d) m = (xs.set j y1).flatMap AV.cells
  | [], j, h, _, _, _ => by simp at h
  | x :: xs, 0, h, hx, hd, hy => by
    have hl := hx x (by simp)
    have e : x = y0 := by simpa using h
    subst e
    simp only [List.set_cons_zero, List.flatMap_cons, hy]
    unfold splice
    rw [Nat.zero_mul, Nat.zero_add, List.take_append_of_le_length (by omega), List.drop_append_of_le_length (by omega)]
    simp
  | x :: xs, j + 1, h, hx, hd, hy => by
    have hl := hx x (by simp)
    have ih := flat_setF (xs := xs) (j := j) (by simpa using h) (fun z hz => hx z (by simp [hz])) hd hy
    simp only [List.set_cons_succ, List.flatMap_cons, ← ih]
    unfold splice
    have e1 : (j + 1) * sz + d = x.cells.length + (j * sz + d) := by rw [hl, Nat.add_mul]; omega
    rw [e1, Nat.add_assoc x.cells.length, List.take_append, List.drop_append]
    simp only [Nat.add_sub_cancel_left]
    rw [List.take_of_length_le (by omega), List.drop_of_length_le (by omega)]
    simp
theorem AOp.storeF {T : TypeId} {x y : Operand} {k j sz d m : Nat} {y0 y1 : AV} {e : TypeId} {xs : List AV} (ho : o.op = .store T x y) (hx : s.ev x = .ept k (j * sz + d)) (hk : s.ob[k]? = some (.row e sz xs)) (ht : tkLen (tk P T) = m) (h0 : 0 < m) (hj0 : xs[j]? = some y0) (hd : d + m ≤ sz) (hf : (s.ev y).flat = true) (hl : (s.ev y).cells.length = m) (hy1 : y1.cells = splice y0.cells d (s.ev y).cells)
    (K : ARun P ops rest ({ s with ob := s.ob.set k (.row e sz (xs.set j y1)) }.put o.dst .any) Q) : AOp P ops o rest s Q := by
  have hj : j < xs.length := get_lt hj0
  have hy0 : y0 ∈ xs := List.mem_of_getElem? hj0
  refine AOp.unit (s' := { s with ob := s.ob.set k (.row e sz (xs.set j y1)) }) (fun E ρ B a w hs => ?_) (by rw [ho]; intro c h; cases h) K
  obtain ⟨b, cap, vs, ws, fz, r1, r2, r3, r4, r5, r6, r7⟩ := rowZ (hs.rw_.obs k _ hk) (by rintro rfl; simp at hj)
  have hxr := hs.ev x
  rw [hx] at hxr
  obtain ⟨t1, t2⟩ := (hs.ev y).toCells hf
  have hi : ∃ i, P.info? T = some i ∧ i.size = m := by
    rw [← ht]
    cases hq : tk P T with
    | scal => obtain ⟨d, i, _, hi, hs, _⟩ := tk_scal hq; exact ⟨i, hi, hs⟩
    | aggr n => obtain ⟨d, i, _, hi, hs, _⟩ := tk_aggr hq; exact ⟨i, hi, hs⟩
    | bad => rw [hq] at ht; simp [tkLen] at ht; omega
  obtain ⟨i, hi, hsz⟩ := hi
  have hul : (a.eval y).cells.toList.length = m := by rw [← t1.length_eq, hl]
  have hvl : vs.length = xs.length * sz := by rw [← r6.length_eq]; exact flat_len fun y hy => (r7 y hy).1
  have hjs : j * sz + sz ≤ xs.length * sz := by
    have : (j + 1) * sz ≤ xs.length * sz := Nat.mul_le_mul_right _ hj
    rw [Nat.add_mul] at this; omega
  have hjm : j * sz + d + m ≤ xs.length * sz := by omega
  have hst := run_storeVar (P := P) (w := w) (t := T) (b := b) (o := j * sz + d) (T := e) hi (v := a.eval y) rfl (by rw [hsz, hul]) r2 r5 (by rw [List.length_append, hul, hvl]; omega) (t1.ones t2)
  have hset : (vs ++ ws).take (j * sz + d) ++ (a.eval y).cells.toList ++ (vs ++ ws).drop (j * sz + d + (a.eval y).cells.toList.length) = (vs.take (j * sz + d) ++ (a.eval y).cells.toList ++ vs.drop (j * sz + d + (a.eval y).cells.toList.length)) ++ ws := by
    rw [List.take_append_of_le_length (by omega), List.drop_append_of_le_length (by omega)]
    simp
  rw [hset] at hst
  generalize hq : vs.take (j * sz + d) ++ (a.eval y).cells.toList ++ vs.drop (j * sz + d + (a.eval y).cells.toList.length) = us at hst
  have husl : us.length = vs.length := by rw [← hq]; simp only [List.length_append, List.length_take, List.length_drop]; omega
  have hw : RS E { s with ob := s.ob.set k (.row e sz (xs.set j y1)) } ρ B a (setBlk w b (.cells (us ++ ws).toArray e fz)) := by
    obtain ⟨p1, p2, p3⟩ := hs.rw_.prv k _ _ b hk rfl r1 rfl
    have hB : ∀ b', B b' → (setBlk w b (.cells (us ++ ws).toArray e fz)).heap[b']? = w.heap[b']? := fun b' hb' => by
      rw [setBlk_get _ _ _ _ p2, if_neg (by rintro rfl; exact p1 hb')]
    refine hs.write (b := b) hk rfl r1 rfl ⟨?_, .inr ⟨b, cap, us, ws, fz, by rw [List.length_set]; exact r1, by rw [setBlk_get _ _ _ _ p2, if_pos rfl], by rw [← r3]; simp [husl], by rw [List.length_set]; exact r4, by simpa [husl] using r5, ?_⟩⟩
    · intro c hc
      rcases List.mem_or_eq_of_mem_set hc with hc | rfl
      · exact r7 c hc
      · have hc0 := r7 y0 hy0
        refine ⟨?_, fun c hc => ?_⟩
        · rw [hy1]; unfold Abs.splice
          simp only [List.length_append, List.length_take, List.length_drop, hl, hc0.1]; omega
        · rw [hy1] at hc; unfold Abs.splice at hc
          simp only [List.mem_append] at hc
          rcases hc with (hc | hc) | hc
          · exact hc0.2 c (List.mem_of_mem_take hc)
          · exact t2 c hc
          · exact hc0.2 c (List.mem_of_mem_drop hc)
    · rw [← flat_setF hj0 (fun z hz => (r7 z hz).1) (by rw [hl]; exact hd) hy1]
      have hsp := r6.splice t1 (j * sz + d)
      rw [hq] at hsp
      exact hsp.mono (fun _ h => h) hB (Nat.le_refl _) (fun _ _ h => h)
  refine ⟨_, ρ, B, ?_, hw⟩
  simp only [execOp, ho]
  generalize a.eval x = u at hxr
  cases hxr with
  | ept hp =>
    rw [r1] at hp
    simp only [Option.some.injEq, Value.slice.injEq, Addr.mk.injEq, and_true] at hp
    obtain ⟨rfl, _, _⟩ := hp
    simp [Instr.storeAt, Instr.sureAddr, hst]
theorem ARun2.storeFM {T : TypeId} {x y : Operand} {k sz : Nat} {e : TypeId} {p : List Oper × AS} (xs : List AV) (j d m : Nat) (y0 v y1 : AV) (xs' : List AV) (hj : xs[j]? = some y0) (hs' : xs.set j y1 = xs') (hy1 : y1.cells = splice y0.cells d v.cells) (K : ARun2 P ops p Q) (ho : o.op = .store T x y := by rfl) (hg : gd ops s o = some true := by exact Go.Abs.evT) (hx : s.ev x = .ept k (j * sz + d) := by exact Go.Abs.evT) (hk : s.ob[k]? = some (.row e sz xs) := by rfl)
    (hy : s.ev y = v := by exact Go.Abs.evT) (ht : tkLen (tk P T) = m := by exact Go.Abs.evT) (h0 : decide (0 < m) = true := by first | rfl | decide) (hd : decide (d + m ≤ sz) = true := by first | rfl | decide) (hf : v.flat = true := by exact Go.Abs.evT) (hl : v.cells.length = m := by exact Go.Abs.evT) (h : srun P ops rest ({ s with ob := s.ob.set k (.row e sz xs') }.put o.dst .any) = p := by
        exact Go.Abs.evE) : ARun2 P ops (o :: rest, s) Q := by
  subst hy
  exact ARun.exec hg (AOp.storeF ho hx hk ht (of_decide_eq_true h0) hj (of_decide_eq_true hd) hf hl hy1 (ARun.srun (by rw [hs', h]; exact K)))
end
end Go.Abs
/- A place in an array that stands in a variable of the call's own. No condition. -/
namespace Go.Abs
set_option linter.unusedVariables false
set_option linter.unusedSectionVars false
set_option linter.unusedSimpArgs false
section
variable {P : Program} {ops : Array Oper} {E : Env} {s s' : AS} {ρ σ : List Value} {B : Nat → Prop} {a : Act} {w w' : World} {o : Oper} {rest : List Oper} {Q : AS → Prop} {R : Exit → AS → Prop}
theorem indexP_run (hs : RS E s ρ B a w) {T : TypeId} {x i : Operand} {k off len sz : Nat} {kk : IntKind} (n : Nat) (hn : n < len) (hz : arSz P T = some (len, sz)) (hx : s.ev x = .ptr k off) (hi : s.ev i = .val (.int kk (N n))) (ho : o.op = .indexAddr T x i) :
    ∃ v, (execOp a.eval o).run P w = .ok (.value v) w ∧ Rel w B E.bs ρ (.ptr k (off + n * sz)) v := by
  have hv := (hi ▸ hs.ev i : Rel w B E.bs ρ (.val (.int kk (N n))) (a.eval i)).val_eq
  have hxr := hs.ev x
  rw [hx] at hxr
  simp only [execOp, ho, hv]
  generalize a.eval x = u at hxr
  cases hxr with
  | ptr hp =>
    rename_i b
    refine ⟨.pointer (some ⟨b, off + n * sz, none⟩), ?_, .ptr hp⟩
    refine val_run ?_
    have := run_index_arr (P := P) (w := w) (b := b) (o' := off) (k := kk) (j := N n) hz (Int.natCast_nonneg n) (Int.ofNat_lt.2 hn)
    rw [N_toNat] at this
    exact this
theorem ARun2.indexPM {T : TypeId} {x i : Operand} {k off len sz : Nat} {kk : IntKind} {p : List Oper × AS} (n : Nat) (hn : n < len) (hz : arSz P T = some (len, sz)) (K : ARun2 P ops p Q) (ho : o.op = .indexAddr T x i := by rfl) (hg : gd ops s o = some true := by exact Go.Abs.evT) (hx : s.ev x = .ptr k off := by exact Go.Abs.evT)
    (hi : s.ev i = .val (.int kk (N n)) := by exact Go.Abs.evT) (h : srun P ops rest (s.put o.dst (.ptr k (off + n * sz))) = p := by
        exact Go.Abs.evE) : ARun2 P ops (o :: rest, s) Q :=
  ARun.exec hg (AOp.pure1 (fun E ρ B a w hs => indexP_run hs n hn hz hx hi ho) (ARun.srun (h ▸ K)))
end
end Go.Abs
/- Arrays of numbers compared. No condition. -/
namespace Go.Abs
set_option linter.unusedVariables false
set_option linter.unusedSectionVars false
set_option linter.unusedSimpArgs false
def isArN (P : Program) (T : TypeId) (n : Nat) : Bool := match P.underlying T with
  | some (.array m e) => decide (m = n) && isNum P e && decide (P.cellsOf e = 1) && (P.info? e).isSome && !P.eqGuardType P.depth T
  | _ => false
section
variable {P : Program} {ops : Array Oper} {E : Env} {s s' : AS} {ρ : List Value} {B : Nat → Prop} {a : Act} {w w' : World} {o : Oper} {rest : List Oper} {Q : AS → Prop} {R : Exit → AS → Prop} {nds : List (List (Nat × Option Nat))} {vals : List AV} {G : Prop}
theorem eqItems_run (d : Nat) {e : TypeId} (he : isNum P e = true) (xs ys : Array Value) : ∀ (ls : List (IntKind × Int × Int)) (i : Nat),
    (∀ j p, ls[j]? = some p → xs[i + j]? = some (.int p.1 p.2.1) ∧ ys[i + j]? = some (.int p.1 p.2.2)) → (Op.eqItems (d + 1) e 1 xs ys (List.range' i ls.length)).run P w = .ok (eqAll ls) w
  | [], _, _ => by simp [Op.eqItems, eqAll]
  | p :: q, i, hk => by
    obtain ⟨k, hu⟩ := isNum_spec he
    obtain ⟨hx, hy⟩ := hk 0 p rfl
    rw [Nat.add_zero] at hx hy
    have ih := eqItems_run d he xs ys q (i + 1) fun j p' hj => by
      have := hk (j + 1) p' hj
      rwa [show i + 1 + j = i + (j + 1) by omega]
    have e1 := part_num (w := w) he hx
    have e2 := part_num (w := w) he hy
    have e3 := run_equalIn_int w d e p.1 k p.2.1 p.2.2 hu
    rw [List.length_cons, List.range'_succ]
    simp only [Op.eqItems, Nat.mul_one, Sem.run_bind, e1, e2, e3, Result.andThen_ok, eqAll]
    cases hb : p.2.1 == p.2.2
    · simp
    · simpa using ih
theorem arrEq_run {bs : Nat} {op : BinOp} {T : TypeId} {x y : Operand} {l m : List AV} {ls : List (IntKind × Int × Int)} {vx vy : Value} (hop : op = .eql ∨ op = .neq) (hT : isArN P T ls.length = true) (hp : pairsI l m = some ls)
    (hx : Rel w B bs ρ (.agg l) vx) (hy : Rel w B bs ρ (.agg m) vy) : (eqGuard op T x y vx vy).run P w = .ok () w ∧ (binOp op T vx vy).run P w = .ok (.bool (if op = .eql then eqAll ls else !eqAll ls)) w := by
  unfold isArN at hT
  split at hT
  · rename_i n e hu
    simp only [Bool.and_eq_true, Bool.not_eq_true', decide_eq_true_eq] at hT
    obtain ⟨⟨⟨⟨t1, t2⟩, t3⟩, t5⟩, t4⟩ := hT
    subst t1
    obtain ⟨i, hi⟩ := Option.isSome_iff_exists.1 t5
    cases hx with
    | agg hx =>
      cases hy with
      | agg hy =>
        rename_i cs ds
        refine ⟨run_eqGuard_agg w op T x y _ _ t4, ?_⟩
        have he : (Op.equalIn 10000 T (.agg cs.toArray) (.agg ds.toArray)).run P w = .ok (eqAll ls) w := by
          have h1 := run_equalIn_array (P := P) w 9999 cs.toArray ds.toArray hu hi
          rw [h1, t3, List.range_eq_range']
          refine eqItems_run 9998 t2 _ _ ls 0 fun j p hj => ?_
          have := pairs_rel hp hx hy j p hj
          simpa using this
        rcases hop with rfl | rfl
        · rw [run_eql_struct, he]; rfl
        · rw [run_neq_struct, he]; rfl
  · cases hT
theorem arrEq_exec {op : BinOp} {T X : TypeId} {x y : Operand} {l m : List AV} {ls : List (IntKind × Int × Int)} (ho : o.op = .binOp op T x y X) (hop : op = .eql ∨ op = .neq) (hT : isArN P T ls.length = true) (hp : pairsI l m = some ls)
    {bs : Nat} (hx : Rel w B bs ρ (.agg l) (a.eval x)) (hy : Rel w B bs ρ (.agg m) (a.eval y)) : (execOp a.eval o).run P w = .ok (.value (.bool (if op = .eql then eqAll ls else !eqAll ls))) w := by
  obtain ⟨h1, h2⟩ := arrEq_run (x := x) (y := y) hop hT hp hx hy
  simp only [execOp, ho]
  simp [h1, h2]
theorem NSpec.arrEq {op : BinOp} {T X : TypeId} {x y : Operand} {l m : List AV} {ls : List (IntKind × Int × Int)} (hg : gd ops s o = some true) (ho : o.op = .binOp op T x y X) (hop : op = .eql ∨ op = .neq) (hT : isArN P T ls.length = true) (hp : pairsI l m = some ls) (hx : s.ev x = .agg l) (hy : s.ev y = .agg m) :
    NSpec P ops o s (.val (.bool (if op = .eql then eqAll ls else !eqAll ls))) :=
  NSpec.pureE hg fun E hE ρ B a w ob hs => ⟨_, arrEq_exec ho hop hT hp (show Rel w B E.bs ρ (.agg l) _ from hx ▸ hs.ev x) (show Rel w B E.bs ρ (.agg m) _ from hy ▸ hs.ev y), .val _⟩
theorem Dr.arrEq {op : BinOp} {T X : TypeId} {x y : Operand} {l m : List AV} {ls : List (IntKind × Int × Int)} (k : Dr P ops s nds (vals ++ [.val (.bool (if op = .eql then eqAll ls else !eqAll ls))]) G) (hn : ndsB nds = true := by first | rfl | decide) (hol : ops[vals.length]? = some o := by exact Go.Abs.evT)
    (ho : o.op = .binOp op T x y X := by rfl) (hg : gd ops { s with fr := needFr s.fr vals (nds.getD vals.length []) } o = some true := by exact Go.Abs.evT) (hop : op = .eql ∨ op = .neq := by first | exact .inl rfl | exact .inr rfl)
    (hx : AS.ev { s with fr := needFr s.fr vals (nds.getD vals.length []) } x = .agg l := by exact Go.Abs.evT) (hy : AS.ev { s with fr := needFr s.fr vals (nds.getD vals.length []) } y = .agg m := by exact Go.Abs.evT) (hp : pairsI l m = some ls := by rfl) (hT : isArN P T ls.length = true := by kernel_rfl) : Dr P ops s nds vals G :=
  Dr.step hn hol (NSpec.arrEq (s := { s with fr := needFr s.fr vals (nds.getD vals.length []) }) hg ho hop hT hp hx hy) k
end
end Go.Abs
/- A store at a place in a variable of the call's own that is told by a number. No condition. -/
namespace Go.Abs
set_option linter.unusedVariables false
set_option linter.unusedSectionVars false
set_option linter.unusedSimpArgs false
section
variable {P : Program} {ops : Array Oper} {E : Env} {s s' : AS} {ρ : List Value} {B : Nat → Prop} {a : Act} {w w' : World} {o : Oper} {rest : List Oper} {Q : AS → Prop} {R : Exit → AS → Prop}
end
end Go.Abs
/- data.Same, data.Most. -/
set_option linter.unusedVariables false
set_option linter.unusedSimpArgs false
namespace Go.Proofs.YtoapdhogghbojaaDoor.C
open Go.Abs
def gB (i j : Nat) (b : Bool) : Nat := bif decide (j < i) && b then 1 else 0
def bitL (p : GPart) (i : Nat) : Bool := [p.inter, p.beg, p.fin, p.unord, p.now].getD i false
def headL (p : GPart) (i : Nat) : List AV := [u32 p.tsn, u32 p.stream, u32 p.seq, u32 p.proto, u32 (gB i 0 p.inter), u32 (gB i 1 p.beg), u32 (gB i 2 p.fin), u32 (gB i 3 p.unord), u32 (gB i 4 p.now)]
theorem five {i : Nat} (h : i < 5) : i = 0 ∨ i = 1 ∨ i = 2 ∨ i = 3 ∨ i = 4 := by omega
theorem headL_one (p : GPart) {i : Nat} (h : i < 5) (hb : bitL p i = true) : List.take (0 + (4 + i) * 1) (headL p i) ++ AV.val (.int .u32 1) :: List.drop (0 + (4 + i) * 1 + 1) (headL p i) = headL p (i + 1) := by
  obtain ⟨inter, tsn, stream, seq, proto, beg, fin, unord, now, user⟩ := p
  rcases five h with rfl | rfl | rfl | rfl | rfl <;> (simp only [bitL, List.getD_cons_zero, List.getD_cons_succ] at hb; subst hb; rfl)
theorem headL_no (p : GPart) {i : Nat} (h : i < 5) (hb : bitL p i = false) : headL p i = headL p (i + 1) := by
  obtain ⟨inter, tsn, stream, seq, proto, beg, fin, unord, now, user⟩ := p
  rcases five h with rfl | rfl | rfl | rfl | rfl <;> (simp only [bitL, List.getD_cons_zero, List.getD_cons_succ] at hb; subst hb; rfl)
theorem arsz9 : arSz Tryd.prog 72 = some (9, 1) := by kernel_rfl
@[push_cast] theorem headL_ids (q : Nat → Bool) (p : GPart) (i : Nat) : AV.idsOkL q (headL p i) = true := rfl
@[push_cast] theorem headL_hand (ids : List Nat) (p : GPart) (i : Nat) : AV.handL ids (headL p i) = headL p i := rfl
@[push_cast] theorem headL_pl (p : GPart) (i : Nat) : AV.plL (headL p i) = true := rfl
theorem headL_len (p : GPart) (i : Nat) : (headL p i).length = 9 := rfl
set_option maxRecDepth 100000 in
theorem dhead_c (p : GPart) (hs : p.stream < 2 ^ 16) : PC Tryd.prog 33 [partA false p] (.agg (headL p 5)) := by
  refine PC.of_bodyW (by simp only [push_cast]) Tryd.func33 rfl (by rw [Tryd.ntmps33]; simp) ?_
  refine AWp.regionW ?_
  refine AWp.regionW ?_
  refine AWp.regionW ?_
  refine AWp.seqK fun K1 hK1 => ?_
  refine AWp.regionW ?_
  refine AWp.block ?_
  refine AWp.loopK [2, 4, 28] (fun (i : Nat) => [(29, nat i)]) (fun i => [.box 31 [bool p.inter, u32 p.tsn, u16 p.stream, u32 p.seq, u32 p.proto, bool p.beg, bool p.fin, bool p.unord, bool p.now, .sl false 1 (bys p.user)], .box 72 [u32 0, u32 0, u32 0, u32 0, u32 0, u32 0, u32 0, u32 0, u32 0], .box 73 [bool p.inter, bool p.beg, bool p.fin, bool p.unord, bool p.now], .box 72 (headL p i)]) (fun i => i ≤ 5) (fun i => 5 - i) (0) ?_ (Nat.zero_le _) ?_
  · skip
    refine Le.m 4 ?_ ?_
    · try simp only [push_cast, ↓reduceIte, Nat.reduceEqDiff, Nat.reduceLT, Nat.reduceAdd, Nat.reduceSub, Nat.reduceMul, Nat.reduceLeDiff, Nat.reducePow, Int.reduceLT, Int.reduceToNat, reduceCtorEq, Int.reduceNeg, Int.reduceEq, Nat.reduceBEq, Nat.reduceBNe, Int.reduceBEq, Int.reduceBNe, String.reduceEq]
      try simp (disch := omega) only [w_nat, w_add, w_addl, w_addr, w_sub, w_subl, w_mul, w_mull, w_mulr, w_u32, w_u16, w_u8, w_u32a, N_zero]
      first | done | skip
      rfl
    · first | (simp only [push_cast, ↓reduceIte, Nat.reduceEqDiff, Nat.reduceLT, Nat.reduceAdd, Nat.reduceSub, Nat.reduceMul, Nat.reduceLeDiff, Nat.reducePow, Int.reduceLT, Int.reduceToNat, reduceCtorEq, Int.reduceNeg, Int.reduceEq, Nat.reduceBEq, Nat.reduceBNe, Int.reduceBEq, Int.reduceBNe, String.reduceEq]; first | done | rfl | (simp (disch := omega) only [w_nat, w_add, w_addl, w_addr, w_sub, w_subl, w_mul, w_mull, w_mulr, w_u32, w_u16, w_u8, w_u32a, N_zero]; first | done | rfl))
  · intro i hi K2 hK2
    refine AWp.regionW ?_
    refine AWp.seqK fun K3 hK3 => ?_
    refine AWp.condLM (fun c0 => ?_) (fun c0 => ?_)
    · skip
      have hil : i < 5 := by simpa using c0
      obtain ⟨bb, hbb⟩ : ∃ b, b = bitL p i := ⟨_, rfl⟩
      refine AWp.skip ?_
      refine hK3 _ ?_
      refine AWp.seqK fun K4 hK4 => ?_
      refine AWp.block ?_
      refine AWp.regionM fun K5 hK5 => ?_
      refine ARun2.aindexM (i) (bool bb) ?_ ?_
      · subst hbb; rcases five hil with rfl | rfl | rfl | rfl | rfl <;> rfl
      refine ARun2.endm (hK5 _ ?_)
      refine AWp.regionW ?_
      refine AWp.condLM (fun c1 => ?_) (fun c1 => ?_)
      · skip
        have hb : bitL p i = true := by rw [← hbb]; simpa using c1
        have hst := headL_one p hil hb
        refine AWp.regionN fun K6 hK6 => ?_
        refine ARun2.indexPM (4 + i) (by omega) arsz9 ?_
        rw [if_pos (show 0 + (4 + i) * 1 + 1 ≤ (headL p i).length by rw [headL_len]; omega), hst]
        simp only [push_cast, ↓reduceIte, Nat.reduceEqDiff, Nat.reduceLT, Nat.reduceAdd, Nat.reduceSub, Nat.reduceMul, Nat.reduceLeDiff, Nat.reducePow, Int.reduceLT, Int.reduceToNat, reduceCtorEq, Int.reduceNeg, Int.reduceEq, Nat.reduceBEq, Nat.reduceBNe, Int.reduceBEq, Int.reduceBNe, String.reduceEq]
        refine ARun2.endm (hK6 _ ?_)
        refine hK4 _ ?_
        refine AWp.regionV ?_
        refine hK2 _ (i + 1) (by omega) (by omega) ?_
        refine Le.m 4 ?_ ?_
        · first | with_reducible rfl | (simp only [push_cast, ↓reduceIte, Nat.reduceEqDiff, Nat.reduceLT, Nat.reduceAdd, Nat.reduceSub, Nat.reduceMul, Nat.reduceLeDiff, Nat.reducePow, Int.reduceLT, Int.reduceToNat, reduceCtorEq, Int.reduceNeg, Int.reduceEq, Nat.reduceBEq, Nat.reduceBNe, Int.reduceBEq, Int.reduceBNe, String.reduceEq]; first | done | rfl | (simp (disch := omega) only [w_nat, w_add, w_addl, w_addr, w_sub, w_subl, w_mul, w_mull, w_mulr, w_u32, w_u16, w_u8, w_u32a, N_zero]; first | done | rfl))
        · first | (simp only [push_cast, ↓reduceIte, Nat.reduceEqDiff, Nat.reduceLT, Nat.reduceAdd, Nat.reduceSub, Nat.reduceMul, Nat.reduceLeDiff, Nat.reducePow, Int.reduceLT, Int.reduceToNat, reduceCtorEq, Int.reduceNeg, Int.reduceEq, Nat.reduceBEq, Nat.reduceBNe, Int.reduceBEq, Int.reduceBNe, String.reduceEq]; first | done | rfl | (simp (disch := omega) only [w_nat, w_add, w_addl, w_addr, w_sub, w_subl, w_mul, w_mull, w_mulr, w_u32, w_u16, w_u8, w_u32a, N_zero]; first | done | rfl))
      · skip
        have hb : bitL p i = false := by rw [← hbb]; simpa using c1
        have hst := headL_no p hil hb
        rw [hst]
        refine AWp.skip ?_
        refine hK4 _ ?_
        refine AWp.regionV ?_
        refine hK2 _ (i + 1) (by omega) (by omega) ?_
        refine Le.m 4 ?_ ?_
        · first | with_reducible rfl | (simp only [push_cast, ↓reduceIte, Nat.reduceEqDiff, Nat.reduceLT, Nat.reduceAdd, Nat.reduceSub, Nat.reduceMul, Nat.reduceLeDiff, Nat.reducePow, Int.reduceLT, Int.reduceToNat, reduceCtorEq, Int.reduceNeg, Int.reduceEq, Nat.reduceBEq, Nat.reduceBNe, Int.reduceBEq, Int.reduceBNe, String.reduceEq]; first | done | rfl | (simp (disch := omega) only [w_nat, w_add, w_addl, w_addr, w_sub, w_subl, w_mul, w_mull, w_mulr, w_u32, w_u16, w_u8, w_u32a, N_zero]; first | done | rfl))
        · first | (simp only [push_cast, ↓reduceIte, Nat.reduceEqDiff, Nat.reduceLT, Nat.reduceAdd, Nat.reduceSub, Nat.reduceMul, Nat.reduceLeDiff, Nat.reducePow, Int.reduceLT, Int.reduceToNat, reduceCtorEq, Int.reduceNeg, Int.reduceEq, Nat.reduceBEq, Nat.reduceBNe, Int.reduceBEq, Int.reduceBNe, String.reduceEq]; first | done | rfl | (simp (disch := omega) only [w_nat, w_add, w_addl, w_addr, w_sub, w_subl, w_mul, w_mull, w_mulr, w_u32, w_u16, w_u8, w_u32a, N_zero]; first | done | rfl))
    · skip
      have hil : i = 5 := by have h0 : ¬ i < 5 := (by simpa using c0); omega
      subst hil
      refine AWp.exit ?_
      try simp only [thenQ, blockQ, noGo, reduceIte, Nat.reduceEqDiff]
      refine hK1 _ ?_
      refine AWp.regionW ?_
      refine AWp.ret ?_
      try simp only [thenQ, blockQ, noGo]
      refine bodyQ.m ?_
      clear hK3 K3 hK2 K2 hK1 K1
      first | done | exact Hand.go
def headEq (a b : GPart) : Bool := (a.tsn == b.tsn) && (a.stream == b.stream) && (a.seq == b.seq) && (a.proto == b.proto) && (a.inter == b.inter) && (a.beg == b.beg) && (a.fin == b.fin) && (a.unord == b.unord) && (a.now == b.now)
theorem sameP_head (a b : GPart) : sameP a b = (headEq a b && decide (a.user = b.user)) := by
  unfold sameP headEq
  cases a.inter == b.inter <;> cases a.tsn == b.tsn <;> cases a.stream == b.stream <;> cases a.seq == b.seq <;> cases a.proto == b.proto <;> simp
theorem gB5 (j : Nat) (hj : j < 5) (a b : Bool) : (gB 5 j a == gB 5 j b) = (a == b) := by
  have : decide (j < 5) = true := decide_eq_true hj
  unfold gB; rw [this]
  cases a <;> cases b <;> rfl
theorem headEq_form (a b : GPart) : (a.tsn == b.tsn && (a.stream == b.stream && (a.seq == b.seq && (a.proto == b.proto && (gB 5 0 a.inter == gB 5 0 b.inter && (gB 5 1 a.beg == gB 5 1 b.beg && (gB 5 2 a.fin == gB 5 2 b.fin && (gB 5 3 a.unord == gB 5 3 b.unord && gB 5 4 a.now == gB 5 4 b.now)))))))) = headEq a b := by
  rw [gB5 0 (by decide), gB5 1 (by decide), gB5 2 (by decide), gB5 3 (by decide), gB5 4 (by decide)]
  unfold headEq
  simp only [Bool.and_assoc]
theorem dsame_c (a b : GPart) (ha : a.stream < 2 ^ 16) (hb : b.stream < 2 ^ 16) (h : a.user.length ≤ 2 ^ 40) : PC Tryd.prog 18 [partA false a, partA false b] (bool (sameP a b)) := by
  have k1 := dhead_c a ha
  have k2 := dhead_c b hb
  have k3 := equal_c a.user b.user
  unfold headL at k1 k2
  rw [sameP_head]
  refine PC.of_bodyW (by simp only [push_cast]) Tryd.func18 rfl (by rw [Tryd.ntmps18]; simp) ?_
  refine AWp.regionW ?_
  refine AWp.regionW ?_
  refine AWp.drS [[(5, none)], [(2, none)], [(6, some 0), (7, some 1)], [(5, none)], [(3, none)], [(9, some 3), (10, some 4)], [(8, some 2), (11, some 5)], [(12, some 6)], [(2, none), (13, some 7)], [(14, some 8), (13, some 7)], [(3, none), (13, some 7)], [(16, some 10), (13, some 7)], [(15, some 9), (17, some 11), (13, some 7)], [(13, some 7), (18, some 12)]] fun G hG => ?_
  refine Dr.sim ?_
  try simp only [List.cons_append, List.nil_append]
  refine Dr.sim ?_
  try simp only [List.cons_append, List.nil_append]
  refine Dr.callV k1 ?_
  refine Dr.sim ?_
  try simp only [List.cons_append, List.nil_append]
  refine Dr.sim ?_
  try simp only [List.cons_append, List.nil_append]
  refine Dr.callV k2 ?_
  refine Dr.arrEq ?_
  refine Dr.sim ?_
  try simp only [List.cons_append, List.nil_append]
  refine Dr.simg ?_
  try simp only [List.cons_append, List.nil_append]
  refine Dr.simg ?_
  try simp only [List.cons_append, List.nil_append]
  refine Dr.simg ?_
  try simp only [List.cons_append, List.nil_append]
  refine Dr.simg ?_
  try simp only [List.cons_append, List.nil_append]
  refine Dr.callg (fun g7 => k3) ?_
  try simp only [List.cons_append, List.nil_append]
  refine Dr.sim ?_
  try simp only [List.cons_append, List.nil_append]
  refine Dr.finM (n := 14) [(19, 13)] [] hG YtoapdhogghbojaaDoor.Facts.mixed fun KD hKD => ?_
  refine ARun2.endm (hKD _ ?_); clear hKD KD hG G
  refine AWp.ret ?_
  try simp only [thenQ, blockQ, noGo]
  refine bodyQ.m ?_
  rw [headEq_form]
  first | done | exact Hand.go
end Go.Proofs.YtoapdhogghbojaaDoor.C
/- Lists of descriptions; slices.EqualFunc over them. -/
set_option linter.unusedVariables false
set_option linter.unusedSimpArgs false
namespace Go.Proofs.YtoapdhogghbojaaDoor.C
open Go.Abs
def partsA (b : Bool) (l : List GPart) : List AV := l.map (partA b)
@[push_cast] theorem partsA_len (b : Bool) (l : List GPart) : (partsA b l).length = l.length := by simp [partsA]
theorem partsA_at (b : Bool) (l : List GPart) (i : Nat) (h : i < l.length) : (partsA b l)[i]? = some (partA b l[i]) := by simp [partsA, h]
@[push_cast] theorem partsA_nil (b : Bool) : partsA b [] = [] := rfl
theorem partsA_snoc (b : Bool) (l : List GPart) (p : GPart) : partsA b (l ++ [p]) = partsA b l ++ [partA b p] := by simp [partsA]
@[push_cast] theorem partsA_hand (ids : List Nat) (b : Bool) (l : List GPart) : AV.handL ids (partsA b l) = partsA false l := by
  rw [AV.handL_map]
  simp only [partsA, List.map_map]
  refine List.map_congr_left fun p _ => ?_
  show (partA b p).hand ids = partA false p
  simp [partA, AV.hand, AV.handL, bys_hand]
@[push_cast] theorem partsA_pl (l : List GPart) : AV.plL (partsA false l) = true := by
  rw [AV.plL_iff]; intro x hx; simp only [partsA, List.mem_map] at hx; obtain ⟨p, _, rfl⟩ := hx
  simp [partA, AV.pl, AV.plL, bys_pl]
@[push_cast] theorem partsA_ids (q : Nat → Bool) (b : Bool) (l : List GPart) : AV.idsOkL q (partsA b l) = true := by
  rw [AV.idsOkL_iff]; intro x hx; simp only [partsA, List.mem_map] at hx; obtain ⟨p, _, rfl⟩ := hx
  simp [partA, AV.idsOk, AV.idsOkL, bys_ids]
def sameLP (l m : List GPart) : Bool := decide (l.length = m.length) && (l.zip m).all fun p => sameP p.1 p.2
theorem sameLP_at {l m : List GPart} {i : Nat} (hl : i < l.length) (hm : i < m.length) (h : sameP l[i] m[i] = false) : sameLP l m = false := by
  unfold sameLP
  have : ((l.zip m).all fun p => sameP p.1 p.2) = false := by
    rw [Bool.eq_false_iff]
    intro hh
    have := List.all_eq_true.1 hh (l[i], m[i]) (by
      rw [List.mem_iff_getElem]
      exact ⟨i, by rw [List.length_zip]; omega, by simp⟩)
    rw [h] at this; cases this
  rw [this, Bool.and_false]
theorem sameLP_all {l m : List GPart} (he : l.length = m.length) (h : ∀ i (hl : i < l.length) (hm : i < m.length), sameP l[i] m[i] = true) : sameLP l m = true := by
  unfold sameLP
  rw [decide_eq_true he, Bool.true_and, List.all_eq_true]
  intro p hp
  obtain ⟨i, hi, rfl⟩ := List.mem_iff_getElem.1 hp
  simp only [List.length_zip] at hi
  simp only [List.getElem_zip]
  exact h i (by omega) (by omega)
theorem eqf13_c (l m : List GPart) (hl : l.length ≤ 2 ^ 40) (h1 : ∀ p ∈ l, p.stream < 2 ^ 16 ∧ p.user.length ≤ 2 ^ 40) (h2 : ∀ p ∈ m, p.stream < 2 ^ 16) :
    PC Tryd.prog 22 [.sl false 10 (partsA false l), .sl false 10 (partsA false m), .fn (.func 18) [] []] (bool (sameLP l m)) := by
  refine PC.of_bodyW (by simp only [push_cast]) Tryd.func22 rfl (by rw [Tryd.ntmps22]; simp) ?_
  refine AWp.regionW ?_
  refine AWp.seqK fun K1 hK1 => ?_
  refine AWp.regionW ?_
  refine AWp.condLM (fun c0 => ?_) (fun c0 => ?_)
  · skip
    have hne : ¬ l.length = m.length := by simpa using c0
    have hr : sameLP l m = false := by unfold sameLP; rw [decide_eq_false hne, Bool.false_and]
    refine AWp.regionW ?_
    refine AWp.ret ?_
    try simp only [thenQ, blockQ, noGo]
    refine bodyQ.m ?_
    clear hK1 K1
    rw [hr]
    first | done | exact Hand.go
  · skip
    have he : l.length = m.length := by simpa using c0
    refine AWp.skip ?_
    refine hK1 _ ?_
    refine AWp.seqK fun K2 hK2 => ?_
    refine AWp.regionW ?_
    refine AWp.block ?_
    refine AWp.loopK0 [1, 2, 15, 16] (fun (i : Nat) => [(17, nat i)]) (fun i => i ≤ l.length ∧ ∀ j (hl : j < l.length) (hm : j < m.length), j < i → sameP l[j] m[j] = true) (fun i => l.length - i) (0) ?_ ⟨Nat.zero_le _, fun j _ _ hj => by omega⟩ ?_
    · skip
      refine Le.m 0 ?_ ?_
      · first | with_reducible rfl | (simp only [push_cast, ↓reduceIte, Nat.reduceEqDiff, Nat.reduceLT, Nat.reduceAdd, Nat.reduceSub, Nat.reduceMul, Nat.reduceLeDiff, Nat.reducePow, Int.reduceLT, Int.reduceToNat, reduceCtorEq, Int.reduceNeg, Int.reduceEq, Nat.reduceBEq, Nat.reduceBNe, Int.reduceBEq, Int.reduceBNe, String.reduceEq]; first | done | rfl | (simp (disch := omega) only [w_nat, w_add, w_addl, w_addr, w_sub, w_subl, w_mul, w_mull, w_mulr, w_u32, w_u16, w_u8, w_u32a, N_zero]; first | done | rfl))
      · first | (simp only [push_cast, ↓reduceIte, Nat.reduceEqDiff, Nat.reduceLT, Nat.reduceAdd, Nat.reduceSub, Nat.reduceMul, Nat.reduceLeDiff, Nat.reducePow, Int.reduceLT, Int.reduceToNat, reduceCtorEq, Int.reduceNeg, Int.reduceEq, Nat.reduceBEq, Nat.reduceBNe, Int.reduceBEq, Int.reduceBNe, String.reduceEq]; first | done | rfl | (simp (disch := omega) only [w_nat, w_add, w_addl, w_addr, w_sub, w_subl, w_mul, w_mull, w_mulr, w_u32, w_u16, w_u8, w_u32a, N_zero]; first | done | rfl))
    · intro i hi K3 hK3
      refine AWp.regionW ?_
      refine AWp.seqK fun K4 hK4 => ?_
      refine AWp.condLM (fun c1 => ?_) (fun c1 => ?_)
      · skip
        have hil : i < l.length := by simpa using c1
        have him : i < m.length := by omega
        obtain ⟨q1, q2⟩ := h1 l[i] (List.getElem_mem hil)
        have q3 := h2 m[i] (List.getElem_mem him)
        have ks := dsame_c l[i] m[i] q1 q3 q2
        refine AWp.skip ?_
        refine hK4 _ ?_
        refine AWp.seqK fun K5 hK5 => ?_
        refine AWp.block ?_
        refine AWp.regionM fun K6 hK6 => ?_
        refine ARun2.indexM (i) (partA false l[i]) ?_ ?_
        · exact partsA_at _ _ _ hil
        refine ARun2.endm (hK6 _ ?_)
        refine AWp.regionM fun K7 hK7 => ?_
        refine ARun2.indexM (i) (partA false m[i]) ?_ ?_
        · exact partsA_at _ _ _ him
        refine ARun2.endm (hK7 _ ?_)
        refine AWp.regionM fun K8 hK8 => ?_
        refine ARun2.callVM (ks) ?_
        refine ARun2.endm (hK8 _ ?_)
        refine AWp.condLM (fun c2 => ?_) (fun c2 => ?_)
        · skip
          have hne : sameP l[i] m[i] = false := by simpa using c2
          have hr := sameLP_at hil him hne
          refine AWp.regionW ?_
          refine AWp.ret ?_
          try simp only [thenQ, blockQ, noGo]
          refine bodyQ.m ?_
          clear hK8 K8 hK7 K7 hK6 K6 hK5 K5 hK4 K4 hK3 K3 hK2 K2 hK1 K1
          rw [hr]
          first | done | exact Hand.go
        · skip
          have heq : sameP l[i] m[i] = true := by simpa using c2
          refine AWp.skip ?_
          refine hK5 _ ?_
          refine AWp.regionV ?_
          refine hK3 _ (i + 1) (⟨hil, fun j hl hm hj => (Nat.lt_or_ge j i).elim (fun h => hi.2 j hl hm h) (fun h => by have e : j = i := (by omega); subst e; exact heq)⟩) (by omega) ?_
          refine Le.m 0 ?_ ?_
          · first | with_reducible rfl | (simp only [push_cast, ↓reduceIte, Nat.reduceEqDiff, Nat.reduceLT, Nat.reduceAdd, Nat.reduceSub, Nat.reduceMul, Nat.reduceLeDiff, Nat.reducePow, Int.reduceLT, Int.reduceToNat, reduceCtorEq, Int.reduceNeg, Int.reduceEq, Nat.reduceBEq, Nat.reduceBNe, Int.reduceBEq, Int.reduceBNe, String.reduceEq]; first | done | rfl | (simp (disch := omega) only [w_nat, w_add, w_addl, w_addr, w_sub, w_subl, w_mul, w_mull, w_mulr, w_u32, w_u16, w_u8, w_u32a, N_zero]; first | done | rfl))
          · first | (simp only [push_cast, ↓reduceIte, Nat.reduceEqDiff, Nat.reduceLT, Nat.reduceAdd, Nat.reduceSub, Nat.reduceMul, Nat.reduceLeDiff, Nat.reducePow, Int.reduceLT, Int.reduceToNat, reduceCtorEq, Int.reduceNeg, Int.reduceEq, Nat.reduceBEq, Nat.reduceBNe, Int.reduceBEq, Int.reduceBNe, String.reduceEq]; first | done | rfl | (simp (disch := omega) only [w_nat, w_add, w_addl, w_addr, w_sub, w_subl, w_mul, w_mull, w_mulr, w_u32, w_u16, w_u8, w_u32a, N_zero]; first | done | rfl))
      · skip
        have hil : i = l.length := by have := hi.1; simp at c1; omega
        have hr := sameLP_all he (fun j hl hm => hi.2 j hl hm (by omega))
        refine AWp.exit ?_
        try simp only [thenQ, blockQ, noGo, reduceIte, Nat.reduceEqDiff]
        refine hK2 _ ?_
        refine AWp.regionW ?_
        refine AWp.ret ?_
        try simp only [thenQ, blockQ, noGo]
        refine bodyQ.m ?_
        clear hK4 K4 hK3 K3 hK2 K2 hK1 K1
        rw [hr]
        first | done | exact Hand.go
end Go.Proofs.YtoapdhogghbojaaDoor.C
/- An operation of a region's free tail that only tells a place may be done first. No condition. -/
namespace Go.Abs
set_option linter.unusedVariables false
set_option linter.unusedSectionVars false
set_option linter.unusedSimpArgs false
section
variable {P : Program} {ops : Array Oper} {E : Env} {s s' : AS} {o : Oper} {Q : AS → Prop}
theorem wpOpIn_mono2 {F : Fence} {n : Nat} {i : Nat} {K K' : Act → World → Prop} {Q Q' : Exit → Act → World → Prop} {a : Act} {w : World} (h : ∀ a w, K a w → K' a w) (hq : ∀ e a w, e ≠ .normal → Q e a w → Q' e a w)
    (hh : wpOpIn F n P ops Q i K a w) : wpOpIn F n P ops Q' i K' a w := by
  unfold wpOpIn at *
  split
  · rename_i hn; simp only [hn] at hh; exact h _ _ hh
  · rename_i o ho
    simp only [ho] at hh
    split
    · rename_i hw; simp only [hw, if_true] at hh; exact wpIn_mono2 h hq hh
    · rename_i hw; simp only [hw] at hh; exact ⟨hh.1, h _ _ hh.2⟩
theorem wpAnyIn_monoQ {F : Fence} {n : Nat} {md : Region.Mode} {Q Q' : Exit → Act → World → Prop} (hq : ∀ e a w, Q e a w → Q' e a w) : ∀ (fuel : Nat) (listed : Array Bool) (a : Act) (w : World),
    wpAnyIn F n P md ops Q fuel listed a w → wpAnyIn F n P md ops Q' fuel listed a w
  | 0, _, _, _, h => ⟨h.1, hq _ _ _ h.2⟩
  | fuel + 1, listed, a, w, h => ⟨fun e => hq _ _ _ (h.1 e), fun i hi => wpOpIn_mono2 (fun a w h => wpAnyIn_monoQ hq fuel _ a w h) (fun e a w _ h => hq e a w h) (h.2 i hi)⟩
/-- an operation whose value is known by what the slots tell, whatever the world is: the place of a field, a copy, numbers -/
def placeB (P : Program) (ops : Array Oper) (s : AS) (j : Nat) : Bool :=
  match ops[j]? with
  | some o => o.guard.isNone && match o.op with
    | .fieldAddr T x f => (fld P T f).isSome && (match s.ev x with | .ptr _ _ => true | _ => false)
    | .move _ => true
    | .binOp op _ x y _ => match s.ev x, s.ev y with
      | .val a, .val b => (binV op (.val a) (.val b)).isSome
      | _, _ => false
    | _ => false
  | none => false
theorem placeB.spec {j : Nat} (h : placeB P ops s j = true) {ρ : List Value} {B : Nat → Prop} {a : Act} {w : World} (hs : RS E s ρ B a w) : ∃ o v, ops[j]? = some o ∧ YieldsFenced P ops o v a := by
  unfold placeB at h
  cases ho : ops[j]? with
  | none => simp [ho] at h
  | some o =>
    simp only [ho, Bool.and_eq_true, Option.isNone_iff_eq_none] at h
    obtain ⟨h1, h2⟩ := h
    have hw : Region.wanted o (yielded ops a.tmps) = true := by unfold Region.wanted; rw [h1]
    split at h2
    · rename_i T x f hop
      simp only [Bool.and_eq_true] at h2
      obtain ⟨h2, h3⟩ := h2
      obtain ⟨⟨o', k'⟩, hf⟩ := Option.isSome_iff_exists.1 h2
      split at h3
      · rename_i k off e
        have hy := hs.ev x
        rw [e] at hy
        generalize hu : a.eval x = u at hy
        cases hy with
        | ptr hp =>
          rename_i b
          refine ⟨o, .pointer (some ⟨b, off + o', none⟩), rfl, .inl ⟨hw, fun w' => ?_⟩, fun w' => by unfold Oper.about; rw [hop]⟩
          simp only [execOp, hop, hu]
          exact val_run (run_fieldAt hf)
      · cases h3
    · rename_i x hop
      refine ⟨o, a.eval x, rfl, .inl ⟨hw, fun w' => ?_⟩, fun w' => by unfold Oper.about; rw [hop]⟩
      simp [execOp, hop]
    · rename_i op T x y T2 hop
      split at h2
      · rename_i u v e1 e2
        obtain ⟨z, hz⟩ := Option.isSome_iff_exists.1 h2
        have hx : a.eval x = u := (e1 ▸ hs.ev x : Rel w B E.bs ρ (.val u) (a.eval x)).val_eq
        have hy : a.eval y = v := (e2 ▸ hs.ev y : Rel w B E.bs ρ (.val v) (a.eval y)).val_eq
        obtain ⟨r, _, hr, _⟩ := binV_run (P := P) (w := w) (B := B) (E := E) (ρ := ρ) (T := T) hz (.val u) (.val v)
        refine ⟨o, r, rfl, .inl ⟨hw, fun w' => ?_⟩, fun w' => by unfold Oper.about; rw [hop]⟩
        obtain ⟨r', h3, h4, h5⟩ := binV_run (P := P) (w := w') (B := B) (E := E) (ρ := ρ) (T := T) hz (.val u) (.val v)
        have hrr : r' = r := by rw [hr] at h4; injection h4 with h4; exact h4.symm
        subst hrr
        simp only [execOp, hop, hx, hy]
        exact val_run (by simp only [Sem.run_bind, h5 x y, Result.andThen_ok]; exact h3)
      · cases h2
    · cases h2
theorem yields_wpOpIn {F : Fence} {n : Nat} {Q : Exit → Act → World → Prop} {i : Nat} {o : Oper} {v : Value} {a : Act} (hd : ∀ c, o.op ≠ .defer c) (hi : ops[i]? = some o) (hy : YieldsFenced P ops o v a)
    {K : Act → World → Prop} {w : World} (h : K (a.put o.dst v) w) : wpOpIn F n P ops Q i K a w := by
  unfold wpOpIn
  simp only [hi]
  have hab : ∀ f, o.about P w a.eval = some f → F.fn f := fun f hf => by rw [hy.2 w] at hf; cases hf
  rcases hy.1 with ⟨hw, hv⟩ | ⟨hw, rfl⟩
  · simp only [hw, if_true, Oper.wpIn, Oper.semAt_eq _ _ _ hd, hv w, Oper.uponIn]; exact ⟨hab, h⟩
  · simp only [hw, Bool.false_eq_true, if_false]; exact ⟨hab, h⟩
theorem wpOpIn_putR {F : Fence} {n : Nat} {Q : Exit → Act → World → Prop} {j : Nat} {oi oj : Oper} {v : Value} (hdj : ∀ c, oj.op ≠ .defer c) (hj : ops[j]? = some oj) (hap : oi.apart ops oj = true)
    (hsi : ∀ cs b, oi.op ≠ .select cs b) (hsj : ∀ cs b, oj.op ≠ .select cs b)
    (hQ : ∀ c a w, Q (.panic c) (a.put oi.dst v) w → Q (.panic c) a w) {K : Act → World → Prop} {a : Act} {w : World}
    (hy : YieldsFenced P ops oi v a) (h : wpOpIn F n P ops Q j K (a.put oi.dst v) w) :
    wpOpIn F n P ops Q j (fun a' w' => YieldsFenced P ops oi v a' ∧ K (a'.put oi.dst v) w') a w := by
  obtain ⟨h1, h2, h3⟩ := Oper.apart_spec hap
  have keep : ∀ (a : Act), YieldsFenced P ops oi v a → ∀ u, YieldsFenced P ops oi v (a.put oj.dst u) := fun a hy u =>
    hy.of_same (execOp_put oi hsi a oj.dst u h3) (wanted_put oi a oj.dst u h3) (fun w => about_put oi w a oj.dst u h3)
  have keepD : ∀ d, YieldsFenced P ops oi v { a with defers := d :: a.defers } := fun d => hy.of_same rfl rfl (fun _ => rfl)
  unfold wpOpIn at *
  simp only [hj] at *
  rw [wanted_put oj a oi.dst v h1, about_put oj w a oi.dst v h1] at h
  split
  · rename_i hw
    simp only [hw, if_true] at h
    unfold Oper.wpIn at *
    rw [about_put oj w a oi.dst v h1] at h
    refine ⟨h.1, ?_⟩
    have h := h.2
    rw [Oper.semAt_eq _ _ _ hdj, execOp_put oj hsj a oi.dst v h1] at h
    rw [Oper.semAt_eq _ _ _ hdj]
    generalize (execOp a.eval oj).run P w = r at *
    cases r with
    | ok x w' =>
      cases x <;> simp only [Oper.uponIn] at h ⊢
      case value u => exact ⟨keep a hy u, by rw [← Act.put_comm a v u h2]; exact h⟩
      case skip => exact ⟨keep a hy _, by rw [← Act.put_comm a v undef h2]; exact h⟩
      case defer d =>
        refine ⟨keep _ (keepD d) _, ?_⟩
        rw [← Act.put_comm _ v undef h2, ← Act.put_defers]
        exact h
      case enter f args =>
        refine ⟨h.1, CallsIn.mono h.2 fun e w'' he => ?_⟩
        cases e with
        | returned u => exact ⟨keep a hy u, by rw [← Act.put_comm a v u h2]; exact he⟩
        | panicked c => exact hQ _ _ _ he
        | outgrown => exact he
      case row row args => exact ⟨h.1, RowsIn.mono h.2 fun u w'' he => ⟨keep a hy u, by rw [← Act.put_comm a v u h2]; exact he⟩⟩
      case round l f tmps assign body =>
        refine ⟨h.1, RoundIn.mono h.2 fun e w'' he => ?_⟩
        cases e with
        | returned u => exact ⟨keep a hy u, by rw [← Act.put_comm a v u h2]; exact he⟩
        | panicked c => exact hQ _ _ _ he
        | outgrown => exact he
    | halt x w' =>
      cases x <;> simp only [Oper.uponIn] at h ⊢
      case panic u => exact hQ _ _ _ h
  · rename_i hw
    simp only [hw] at h
    exact ⟨h.1, keep a hy _, by rw [← Act.put_comm a v undef h2]; exact h.2⟩
theorem wpAnyIn_firstR {F : Fence} {n : Nat} {md : Region.Mode} {Q : Exit → Act → World → Prop} {i : Nat} {oi : Oper} {v : Value} (hdf : ∀ (j : Nat) (o : Oper) c, ops[j]? = some o → o.op ≠ .defer c) (hi : ops[i]? = some oi) (hsel : ∀ (j : Nat) (o : Oper) cs b, ops[j]? = some o → o.op ≠ .select cs b)
    (hQ : ∀ c a w, Q (.panic c) (a.put oi.dst v) w → Q (.panic c) a w) :
    ∀ (fuel : Nat) (listed : Array Bool) (a : Act) (w : World),
      (∀ j oj, ops[j]? = some oj → j ≠ i → listed.getD j true = false → (∀ e ∈ oj.after, Region.binds md e = true → e.on ≠ i) → oi.apart ops oj = true) →
      i ∈ Region.ready md ops listed → YieldsFenced P ops oi v a →
      wpAnyIn F n P md ops Q fuel (listed.setIfInBounds i true) (a.put oi.dst v) w → wpAnyIn F n P md ops Q (fuel + 1) listed a w := by
  intro fuel
  induction fuel with
  | zero =>
    intro listed a w _ hr hy H
    refine ⟨fun h => (by rw [h] at hr; cases hr), fun j hj => ?_⟩
    by_cases hji : j = i
    · subst hji; exact yields_wpOpIn (fun c => hdf _ _ c hi) hi hy H
    · have := ready_mono hj hji
      rw [H.1] at this
      cases this
  | succ fuel ih =>
    intro listed a w hfree hr hy H
    refine ⟨fun h => (by rw [h] at hr; cases hr), fun j hj => ?_⟩
    by_cases hji : j = i
    · subst hji; exact yields_wpOpIn (fun c => hdf _ _ c hi) hi hy H
    · have h1 := H.2 j (ready_mono hj hji)
      obtain ⟨hjun, oj, hoj, hall⟩ := mem_ready.1 hj
      have hnot : ∀ e ∈ oj.after, Region.binds md e = true → e.on ≠ i := fun e he hb heq => by
        have h1 := hall e he hb
        have h0 := (mem_ready.1 hr).1
        rw [heq] at h1
        rcases Nat.lt_or_ge i listed.size with h' | h'
        · simp [h'] at h0 h1; rw [h0] at h1; cases h1
        · simp [Array.getElem?_eq_none h'] at h1
      have h2 := wpOpIn_putR (fun c => hdf _ _ c hoj) hoj (hfree j oj hoj hji hjun hnot) (fun cs b => hsel i oi cs b hi) (fun cs b => hsel j oj cs b hoj) hQ hy h1
      have hfree' : ∀ k ok, ops[k]? = some ok → k ≠ i → (listed.setIfInBounds j true).getD k true = false →
          (∀ e ∈ ok.after, Region.binds md e = true → e.on ≠ i) → oi.apart ops ok = true := fun k ok hk hki hun hno => by
        refine hfree k ok hk hki ?_ hno
        by_cases hjk : j = k
        · subst hjk; exact hjun
        · rw [getD_set_ne true hjk] at hun; exact hun
      refine wpOpIn_mono (fun a' w' h3 => ih (listed.setIfInBounds j true) a' w' hfree' (ready_mono hr (Ne.symm hji)) h3.1 ?_) h2
      rw [Array.setIfInBounds_comm _ _ hji]
      exact h3.2
def noDefer (ops : Array Oper) : Bool := ops.all fun o => match o.op with | .defer .. => false | _ => true
theorem noDefer_spec (h : noDefer ops = true) (j : Nat) (o : Oper) (c) (ho : ops[j]? = some o) : o.op ≠ .defer c := by
  intro heq
  have := Array.all_eq_true_iff_forall_mem.1 h o (Array.mem_of_getElem? ho)
  simp [heq] at this
theorem AAny.first {fuel : Nat} {listed : Array Bool} (j : Nat) (k : ARun P ops (ops[j]?).toList s (fun s' => AAny P ops fuel (listed.setIfInBounds j true) Q s'))
    (hp : placeB P ops s j = true := by kernel_rfl) (hns : (Region.noSelect ops && noDefer ops) = true := by kernel_rfl) (hf : Region.free .any ops listed j = true := by kernel_rfl) (hr : (Region.ready .any ops listed).contains j = true := by kernel_rfl) :
    AAny P ops (fuel + 1) listed Q s := by
  intro E hE ρ B a w hs Q' hQ
  obtain ⟨o, v, ho, hy⟩ := placeB.spec hp hs
  refine wpAnyIn_monoQ (Q := fun e a w => e = .normal ∧ Q' e a w) (fun e a w h => h.2) _ _ _ _ ?_
  rw [Bool.and_eq_true] at hns
  refine wpAnyIn_firstR (oi := o) (v := v) (noDefer_spec hns.2) ho (Region.noSelect_spec hns.1) (fun c a w h => by cases h.1) fuel listed a w (Region.free_spec ho hf) (by simpa using hr) hy ?_
  rw [ho] at k
  have := k E hE ρ B a w hs (fun e a w => match e with | .normal => wpAnyIn (FR E.rnd) 0 P .any ops (fun e a w => e = .normal ∧ Q' e a w) fuel (listed.setIfInBounds j true) a w | e => False)
    (fun s' ρ' B' a' w' q hs' => q E hE ρ' B' a' w' hs' _ (fun s2 ρ2 B2 a2 w2 q2 hs2 => ⟨rfl, hQ _ _ _ _ _ q2 hs2⟩))
  simp only [Option.toList_some, lwp] at this
  rcases hy.1 with ⟨hw, hv⟩ | ⟨hw, hv⟩
  · rw [if_pos hw] at this
    unfold owp Oper.wpIn at this
    have h2 := this.2
    rw [Oper.semAt_eq _ _ _ (fun c => noDefer_spec hns.2 j o c ho), hv w] at h2
    exact h2
  · rw [if_neg (by rw [hw]; simp)] at this
    rw [hv]; exact this
end
end Go.Abs
/- The builtin max of two numbers. No condition. -/
namespace Go.Abs
set_option linter.unusedVariables false
set_option linter.unusedSectionVars false
set_option linter.unusedSimpArgs false
section
variable {P : Program} {ops : Array Oper} {E : Env} {s s' : AS} {o : Oper} {rest : List Oper} {Q : AS → Prop}
theorem ARun2.imaxM {x y : Operand} {ts : Array TypeId} {k k' : IntKind} {m n : Int} {p : List Oper × AS} (r : Nat) (hr : Max.max m n = N r) (K : ARun2 P ops p Q)
    (ho : o.op = .call { callee := .builtin .max, args := #[x, y], argTypes := ts } := by rfl) (hg : gd ops s o = some true := by exact Go.Abs.evT) (hx : s.ev x = .val (.int k m) := by exact Go.Abs.evT) (hy : s.ev y = .val (.int k' n) := by exact Go.Abs.evT)
    (h : srun P ops rest (s.put o.dst (.val (.int k (N r)))) = p := by
        exact Go.Abs.evE) : ARun2 P ops (o :: rest, s) Q := by
  refine ARun.exec hg (AOp.pure1 (fun E ρ B a w hs => ⟨.int k (N r), ?_, .val _⟩) (ARun.srun (h ▸ K)))
  have hxv := (hx ▸ hs.ev x : Rel w B E.bs ρ (.val (.int k m)) (a.eval x)).val_eq
  have hyv := (hy ▸ hs.ev y : Rel w B E.bs ρ (.val (.int k' n)) (a.eval y)).val_eq
  have hm : (if n > m then n else m) = N r := by rw [← hr]; split <;> omega
  have hm' : (if m < n then n else m) = N r := hm
  simp [execOp, ho, resolve, invoke, builtin, hxv, hyv, Builtin.max_, Builtin.max2, hm']
end
end Go.Abs
/- data.Split (under way). -/
set_option linter.unusedVariables false
set_option linter.unusedSimpArgs false
namespace Go.Proofs.YtoapdhogghbojaaDoor.C
open Go.Abs
def pieceP (p : GPart) (n k : Nat) : GPart := ⟨p.inter, (p.tsn + k) % 2 ^ 32, p.stream, p.seq, bif p.inter && decide (0 < k) then k else p.proto, k == 0, false, p.unord, p.now, (p.user.drop (k * n)).take n⟩
def piecesP (p : GPart) (n : Nat) : List GPart := (List.range (cdiv p.user.length n)).map (pieceP p n)
@[push_cast] theorem piecesP_len (p : GPart) (n : Nat) : (piecesP p n).length = cdiv p.user.length n := by simp [piecesP]
theorem piecesP_at (p : GPart) (n i : Nat) (h : i < cdiv p.user.length n) : (piecesP p n)[i]'(by rw [piecesP_len]; exact h) = pieceP p n i := by simp [piecesP]
theorem piecesP_snoc (p : GPart) (n i : Nat) (h : i < cdiv p.user.length n) : (piecesP p n).take (i + 1) = (piecesP p n).take i ++ [pieceP p n i] := by
  rw [List.take_succ_eq_append_getElem (by rw [piecesP_len]; exact h), piecesP_at p n i h]
def endP (p : GPart) : GPart := { p with fin := true }
/-- the pieces, the last of which ends -/
def splitP (p : GPart) (n : Nat) : List GPart := (piecesP p n).set (cdiv p.user.length n - 1) (endP (pieceP p n (cdiv p.user.length n - 1)))
theorem cdiv_pos (a n : Nat) (ha : 1 ≤ a) (hn : 1 ≤ n) : 1 ≤ cdiv a n := (Nat.le_div_iff_mul_le hn).2 (by omega)
theorem wrap_tsn (a b : Nat) : IntKind.u32.wrap (N a + N b) = N ((a + b) % 2 ^ 32) := by rw [IntKind.wrap_u32]; unfold N; omega
@[push_cast] theorem N_succ_ne (m : Nat) : (N (m + 1) = 0) = False := by simp only [eq_iff_iff, iff_false]; unfold N; omega
@[push_cast] theorem N_tdiv (a b : Nat) : (N a).tdiv (N b) = N (a / b) := by unfold N; exact (Int.ofNat_tdiv a b).symm
set_option maxRecDepth 100000 in
set_option maxHeartbeats 1000000 in
theorem dsplit_yes (p : GPart) (n : Nat) (h : p.Ok) (hn : 1 ≤ n) (hn2 : n < 2 ^ 63) (hl1 : 1 ≤ p.user.length) (c : GChunk) (km : PC Tryd.prog 15 [partA false p] (.tup [chunkA true c, bool true])) (hb : p.beg = true) (hf : p.fin = true) (hm : (p.user.length - 1) / n < 65536) :
    PC Tryd.prog 8 [partA false p, nat n] (.sl true 10 (partsA true (splitP p n))) := by
  obtain ⟨ht, hst, hse, hpr, hus⟩ := h
  obtain ⟨inter, tsn, stream, seq, proto, beg, fin, unord, now, user⟩ := p
  simp only at ht hst hse hpr hus hb hf hm hl1
  subst hb; subst hf
  have hcd : cdiv user.length n ≤ user.length := by
    obtain ⟨a, ha⟩ : ∃ a, user.length = a + 1 := ⟨user.length - 1, by omega⟩
    obtain ⟨m, rfl⟩ : ∃ m, n = m + 1 := ⟨n - 1, by omega⟩
    rw [ha]
    have e : (m + 1) * (a + 1) = m * a + m + a + 1 := by rw [Nat.add_mul, Nat.mul_add]; omega
    exact Nat.div_le_of_le_mul (by rw [e]; omega)
  obtain ⟨m, rfl⟩ : ∃ m, n = m + 1 := ⟨n - 1, by omega⟩
  refine PC.of_bodyK (by simp only [push_cast]) Tryd.func8 rfl (by rw [Tryd.ntmps8]; simp) ?_
  refine AWp.regionW ?_
  refine AWp.seqK fun K1 hK1 => ?_
  refine AWp.regionM fun K2 hK2 => ?_
  refine ARun2.callM (km) ?_
  refine ARun2.endm (hK2 _ ?_)
  refine AWp.regionA fun K3 hK3 => ?_
  refine ARun.segm 17 fun KS hKS => ?_
  refine ARun2.endm (hKS _ ?_); clear hKS KS
  apply ARun.grpM 7 16 false 39 [1, 2, 32]
  · intro g16 KG hKG
    refine ARun2.gom ?_
    exact ARun2.endm (hKG _ Le.grpM)
  refine ARun2.gom ?_
  refine ARun2.endm (hK3 _ ?_)
  refine AWp.condLM (fun c0 => ?_) (fun c0 => ?_)
  · skip
    exfalso; revert c0; simp; omega
  · skip
    refine AWp.skip ?_
    refine hK1 _ ?_
    refine AWp.regionW ?_
    refine AWp.nilBox 2 0 31 10 rfl rfl ?_
    simp only [push_cast, ↓reduceIte, Nat.reduceEqDiff, Nat.reduceLT, Nat.reduceAdd, Nat.reduceSub, Nat.reduceMul, Nat.reduceLeDiff, Nat.reducePow, Int.reduceLT, Int.reduceToNat, reduceCtorEq, Int.reduceNeg, Int.reduceEq, Nat.reduceBEq, Nat.reduceBNe, Int.reduceBEq, Int.reduceBNe, String.reduceEq]
    refine AWp.seqK fun K4 hK4 => ?_
    refine AWp.regionM fun K5 hK5 => ?_
    refine ARun2.callM (chunk_c (m + 1) user (by omega)) ?_
    refine ARun2.endm (hK5 _ ?_)
    refine AWp.block ?_
    refine AWp.rangeFuncM (chunk_iter (m + 1) user (by omega) (by omega) (by omega)) [2, 7] (fun pre ob tr go => pre.length ≤ cdiv user.length (m + 1) ∧ ∃ L, L = (piecesP ⟨inter, tsn, stream, seq, proto, true, true, unord, now, user⟩ (m + 1)).take pre.length ∧ ob = [.box 31 [bool inter, u32 tsn, u16 stream, u32 seq, u32 proto, bool true, bool true, bool unord, bool now, .sl false 1 (bys user)], .box 44 [u8 c.ty, u8 c.flags, .sl true 1 (bys c.data), .sl true 3 (nodesA true c.kids)], .box 29 [.own 3], .row 31 10 (partsA true L)]) (fun _ _ _ _ => False) ?_ ?_ ?_ ?_ ?_
    · intro x hx
      simp only [chunkYs, List.mem_map] at hx
      obtain ⟨q, _, rfl⟩ := hx
      rfl
    · exact ⟨Nat.zero_le _, [], rfl, rfl⟩
    · rintro pre x post ob tr go hxs ⟨hk1, L, hL, rfl⟩
      have hpl : pre.length < cdiv user.length (m + 1) := by rw [← chunkYs_len (m + 1) user, hxs]; simp
      have hx : (chunkYs (m + 1) user)[pre.length]? = some x := by rw [hxs]; simp
      rw [chunkYs_get hpl] at hx
      simp only [Option.some.injEq] at hx
      subst hx
      have hsn := piecesP_snoc ⟨inter, tsn, stream, seq, proto, true, true, unord, now, user⟩ (m + 1) pre.length hpl
      have hcl := clone_c ((user.drop (pre.length * (m + 1))).take (m + 1)) (by rw [List.length_take, List.length_drop]; omega)
      have htl : L.length = pre.length := by rw [hL, List.length_take, piecesP_len]; exact Nat.min_eq_left (Nat.le_of_lt hpl)
      refine AWp.regionV ?_
      change AWp _ _ _ _
      refine AWp.block ?_
      refine AWp.regionW ?_
      refine AWp.regionW ?_
      refine AWp.drS [] fun G hG => ?_
      refine Dr.finZM 16 [2, 7, 8, 9, 10] hG YtoapdhogghbojaaDoor.Facts.mixed fun KD hKD => ?_
      clear hG G
      refine AAny.first 4 ?_
      refine ARun.opM ?_
      refine ARun2.endm ?_
      refine AAny.first 5 ?_
      refine ARun.opM ?_
      refine ARun2.endm ?_
      refine AAny.first 6 ?_
      refine ARun.opM ?_
      refine ARun2.endm ?_
      refine AAny.first 0 ?_
      refine ARun.opM ?_
      refine ARun2.endm ?_
      refine AAny.first 2 ?_
      refine ARun.opM ?_
      refine ARun2.endm ?_
      refine AAny.two 1 7 ?_ ?_
      ·
        refine ARun.opM ?_
        refine ARun2.endm ?_
        refine AAny.first 3 ?_
        refine ARun.opM ?_
        refine ARun2.endm ?_
        refine AAny.first 8 ?_
        refine ARun.opM ?_
        refine ARun2.endm ?_
        refine AAny.one 7 ?_
        refine ARun.opM ?_
        refine ARun2.callM (hcl) ?_
        refine ARun2.endm ?_
        refine AAny.one 9 ?_
        refine ARun.opM ?_
        refine ARun2.endm ?_
        refine AAny.one 10 ?_
        refine ARun.opM ?_
        refine ARun2.endm ?_
        refine AAny.one 11 ?_
        refine ARun.opM ?_
        refine ARun2.endm ?_
        refine AAny.one 12 ?_
        refine ARun.opM ?_
        refine ARun2.endm ?_
        refine AAny.one 13 ?_
        refine ARun.opM ?_
        refine ARun2.endm ?_
        refine AAny.one 14 ?_
        refine ARun.opM ?_
        refine ARun2.endm ?_
        refine AAny.one 15 ?_
        refine ARun.opM ?_
        refine ARun2.endm ?_
        refine AAny.fin (hKD _ ?_); clear hKD KD
        refine AWp.seqK fun K6 hK6 => ?_
        refine AWp.regionA fun K7 hK7 => ?_
        refine ARun.segm 3 fun KS hKS => ?_
        refine ARun2.endm (hKS _ ?_); clear hKS KS
        apply ARun.grpM 2 2 true 66 [7, 9, 10, 64]
        · intro g2 KG hKG
          refine ARun2.gom ?_
          exact ARun2.endm (hKG _ Le.grpM)
        refine ARun2.gom ?_
        refine ARun2.endm (hK7 _ ?_)
        refine AWp.condLM (fun c1 => ?_) (fun c1 => ?_)
        · skip
          have hpc : partA true (pieceP ⟨inter, tsn, stream, seq, proto, true, true, unord, now, user⟩ (m + 1) pre.length) = AV.agg [bool inter, .val (.int .u32 (IntKind.u32.wrap (N tsn + N L.length))), u16 stream, u32 seq, u32 L.length, bool (L.length == 0), bool false, bool unord, bool now, .sl true 1 (bys (List.take (m + 1) (List.drop (pre.length * (m + 1)) user)))] := by
            rw [htl] at c1
            rw [wrap_tsn, htl]; simp only [partA, pieceP]; rw [c1]; rfl
          refine AWp.regionV ?_
          refine hK6 _ ?_
          refine AWp.regionN fun K8 hK8 => ?_
          refine ARun2.appendM ?_ ?_ ?_
          · rw [YtoapdhogghbojaaDoor.Facts.eb29, partsA_len, htl, List.length_cons, List.length_nil]; omega
          · rw [partsA_len, htl, List.length_cons, List.length_nil]; omega
          refine ARun2.endm (hK8 _ ?_)
          refine ⟨_, (Le.keep (fr' := []) trivial).trans (Le.cut 4 (by first | exact Nat.le_refl _ | decide) rfl (by simp only [push_cast, ↓reduceIte, Nat.reduceEqDiff, Nat.reduceLT, Nat.reduceAdd, Nat.reduceSub, Nat.reduceMul, Nat.reduceLeDiff, Nat.reducePow, Int.reduceLT, Int.reduceToNat, reduceCtorEq, Int.reduceNeg, Int.reduceEq, Nat.reduceBEq, Nat.reduceBNe, Int.reduceBEq, Int.reduceBNe, String.reduceEq])), ?_⟩
          refine ⟨by rw [List.length_append, List.length_singleton]; omega, L ++ [pieceP ⟨inter, tsn, stream, seq, proto, true, true, unord, now, user⟩ (m + 1) pre.length], by rw [List.length_append, List.length_singleton, hsn, hL], ?_⟩
          have hfin : partsA true (L ++ [pieceP ⟨inter, tsn, stream, seq, proto, true, true, unord, now, user⟩ (m + 1) pre.length]) = partsA true L ++ [_] := (partsA_snoc true L _).trans (congrArg (fun z => partsA true L ++ [z]) hpc)
          exact congrArg (fun z => [Ob.box 31 [bool inter, u32 tsn, u16 stream, u32 seq, u32 proto, bool true, bool true, bool unord, bool now, .sl false 1 (bys user)], Ob.box 44 [u8 c.ty, u8 c.flags, .sl true 1 (bys c.data), .sl true 3 (nodesA true c.kids)], Ob.box 29 [.own 3], Ob.row 31 10 z]) hfin.symm
        · skip
          have hpc : partA true (pieceP ⟨inter, tsn, stream, seq, proto, true, true, unord, now, user⟩ (m + 1) pre.length) = AV.agg [bool inter, .val (.int .u32 (IntKind.u32.wrap (N tsn + N L.length))), u16 stream, u32 seq, u32 proto, bool (L.length == 0), bool false, bool unord, bool now, .sl true 1 (bys (List.take (m + 1) (List.drop (pre.length * (m + 1)) user)))] := by
            rw [htl] at c1
            rw [wrap_tsn, htl]; simp only [partA, pieceP]; rw [c1]; rfl
          refine AWp.skip ?_
          refine hK6 _ ?_
          refine AWp.regionN fun K9 hK9 => ?_
          refine ARun2.appendM ?_ ?_ ?_
          · rw [YtoapdhogghbojaaDoor.Facts.eb29, partsA_len, htl, List.length_cons, List.length_nil]; omega
          · rw [partsA_len, htl, List.length_cons, List.length_nil]; omega
          refine ARun2.endm (hK9 _ ?_)
          refine ⟨_, (Le.keep (fr' := []) trivial).trans (Le.cut 4 (by first | exact Nat.le_refl _ | decide) rfl (by simp only [push_cast, ↓reduceIte, Nat.reduceEqDiff, Nat.reduceLT, Nat.reduceAdd, Nat.reduceSub, Nat.reduceMul, Nat.reduceLeDiff, Nat.reducePow, Int.reduceLT, Int.reduceToNat, reduceCtorEq, Int.reduceNeg, Int.reduceEq, Nat.reduceBEq, Nat.reduceBNe, Int.reduceBEq, Int.reduceBNe, String.reduceEq])), ?_⟩
          refine ⟨by rw [List.length_append, List.length_singleton]; omega, L ++ [pieceP ⟨inter, tsn, stream, seq, proto, true, true, unord, now, user⟩ (m + 1) pre.length], by rw [List.length_append, List.length_singleton, hsn, hL], ?_⟩
          have hfin : partsA true (L ++ [pieceP ⟨inter, tsn, stream, seq, proto, true, true, unord, now, user⟩ (m + 1) pre.length]) = partsA true L ++ [_] := (partsA_snoc true L _).trans (congrArg (fun z => partsA true L ++ [z]) hpc)
          exact congrArg (fun z => [Ob.box 31 [bool inter, u32 tsn, u16 stream, u32 seq, u32 proto, bool true, bool true, bool unord, bool now, .sl false 1 (bys user)], Ob.box 44 [u8 c.ty, u8 c.flags, .sl true 1 (bys c.data), .sl true 3 (nodesA true c.kids)], Ob.box 29 [.own 3], Ob.row 31 10 z]) hfin.symm
      ·
        refine ARun.opM ?_
        refine ARun2.callM (hcl) ?_
        refine ARun2.endm ?_
        refine AAny.one 1 ?_
        refine ARun.opM ?_
        refine ARun2.endm ?_
        refine AAny.first 3 ?_
        refine ARun.opM ?_
        refine ARun2.endm ?_
        refine AAny.first 8 ?_
        refine ARun.opM ?_
        refine ARun2.endm ?_
        refine AAny.one 9 ?_
        refine ARun.opM ?_
        refine ARun2.endm ?_
        refine AAny.one 10 ?_
        refine ARun.opM ?_
        refine ARun2.endm ?_
        refine AAny.one 11 ?_
        refine ARun.opM ?_
        refine ARun2.endm ?_
        refine AAny.one 12 ?_
        refine ARun.opM ?_
        refine ARun2.endm ?_
        refine AAny.one 13 ?_
        refine ARun.opM ?_
        refine ARun2.endm ?_
        refine AAny.one 14 ?_
        refine ARun.opM ?_
        refine ARun2.endm ?_
        refine AAny.one 15 ?_
        refine ARun.opM ?_
        refine ARun2.endm ?_
        refine AAny.fin (hKD _ ?_); clear hKD KD
        refine AWp.seqK fun K10 hK10 => ?_
        refine AWp.regionA fun K11 hK11 => ?_
        refine ARun.segm 3 fun KS hKS => ?_
        refine ARun2.endm (hKS _ ?_); clear hKS KS
        apply ARun.grpM 2 2 true 66 [7, 9, 10, 64]
        · intro g2 KG hKG
          refine ARun2.gom ?_
          exact ARun2.endm (hKG _ Le.grpM)
        refine ARun2.gom ?_
        refine ARun2.endm (hK11 _ ?_)
        refine AWp.condLM (fun c1 => ?_) (fun c1 => ?_)
        · skip
          have hpc : partA true (pieceP ⟨inter, tsn, stream, seq, proto, true, true, unord, now, user⟩ (m + 1) pre.length) = AV.agg [bool inter, .val (.int .u32 (IntKind.u32.wrap (N tsn + N L.length))), u16 stream, u32 seq, u32 L.length, bool (L.length == 0), bool false, bool unord, bool now, .sl true 1 (bys (List.take (m + 1) (List.drop (pre.length * (m + 1)) user)))] := by
            rw [htl] at c1
            rw [wrap_tsn, htl]; simp only [partA, pieceP]; rw [c1]; rfl
          refine AWp.regionV ?_
          refine hK10 _ ?_
          refine AWp.regionN fun K12 hK12 => ?_
          refine ARun2.appendM ?_ ?_ ?_
          · rw [YtoapdhogghbojaaDoor.Facts.eb29, partsA_len, htl, List.length_cons, List.length_nil]; omega
          · rw [partsA_len, htl, List.length_cons, List.length_nil]; omega
          refine ARun2.endm (hK12 _ ?_)
          refine ⟨_, (Le.keep (fr' := []) trivial).trans (Le.cut 4 (by first | exact Nat.le_refl _ | decide) rfl (by simp only [push_cast, ↓reduceIte, Nat.reduceEqDiff, Nat.reduceLT, Nat.reduceAdd, Nat.reduceSub, Nat.reduceMul, Nat.reduceLeDiff, Nat.reducePow, Int.reduceLT, Int.reduceToNat, reduceCtorEq, Int.reduceNeg, Int.reduceEq, Nat.reduceBEq, Nat.reduceBNe, Int.reduceBEq, Int.reduceBNe, String.reduceEq])), ?_⟩
          refine ⟨by rw [List.length_append, List.length_singleton]; omega, L ++ [pieceP ⟨inter, tsn, stream, seq, proto, true, true, unord, now, user⟩ (m + 1) pre.length], by rw [List.length_append, List.length_singleton, hsn, hL], ?_⟩
          have hfin : partsA true (L ++ [pieceP ⟨inter, tsn, stream, seq, proto, true, true, unord, now, user⟩ (m + 1) pre.length]) = partsA true L ++ [_] := (partsA_snoc true L _).trans (congrArg (fun z => partsA true L ++ [z]) hpc)
          exact congrArg (fun z => [Ob.box 31 [bool inter, u32 tsn, u16 stream, u32 seq, u32 proto, bool true, bool true, bool unord, bool now, .sl false 1 (bys user)], Ob.box 44 [u8 c.ty, u8 c.flags, .sl true 1 (bys c.data), .sl true 3 (nodesA true c.kids)], Ob.box 29 [.own 3], Ob.row 31 10 z]) hfin.symm
        · skip
          have hpc : partA true (pieceP ⟨inter, tsn, stream, seq, proto, true, true, unord, now, user⟩ (m + 1) pre.length) = AV.agg [bool inter, .val (.int .u32 (IntKind.u32.wrap (N tsn + N L.length))), u16 stream, u32 seq, u32 proto, bool (L.length == 0), bool false, bool unord, bool now, .sl true 1 (bys (List.take (m + 1) (List.drop (pre.length * (m + 1)) user)))] := by
            rw [htl] at c1
            rw [wrap_tsn, htl]; simp only [partA, pieceP]; rw [c1]; rfl
          refine AWp.skip ?_
          refine hK10 _ ?_
          refine AWp.regionN fun K13 hK13 => ?_
          refine ARun2.appendM ?_ ?_ ?_
          · rw [YtoapdhogghbojaaDoor.Facts.eb29, partsA_len, htl, List.length_cons, List.length_nil]; omega
          · rw [partsA_len, htl, List.length_cons, List.length_nil]; omega
          refine ARun2.endm (hK13 _ ?_)
          refine ⟨_, (Le.keep (fr' := []) trivial).trans (Le.cut 4 (by first | exact Nat.le_refl _ | decide) rfl (by simp only [push_cast, ↓reduceIte, Nat.reduceEqDiff, Nat.reduceLT, Nat.reduceAdd, Nat.reduceSub, Nat.reduceMul, Nat.reduceLeDiff, Nat.reducePow, Int.reduceLT, Int.reduceToNat, reduceCtorEq, Int.reduceNeg, Int.reduceEq, Nat.reduceBEq, Nat.reduceBNe, Int.reduceBEq, Int.reduceBNe, String.reduceEq])), ?_⟩
          refine ⟨by rw [List.length_append, List.length_singleton]; omega, L ++ [pieceP ⟨inter, tsn, stream, seq, proto, true, true, unord, now, user⟩ (m + 1) pre.length], by rw [List.length_append, List.length_singleton, hsn, hL], ?_⟩
          have hfin : partsA true (L ++ [pieceP ⟨inter, tsn, stream, seq, proto, true, true, unord, now, user⟩ (m + 1) pre.length]) = partsA true L ++ [_] := (partsA_snoc true L _).trans (congrArg (fun z => partsA true L ++ [z]) hpc)
          exact congrArg (fun z => [Ob.box 31 [bool inter, u32 tsn, u16 stream, u32 seq, u32 proto, bool true, bool true, bool unord, bool now, .sl false 1 (bys user)], Ob.box 44 [u8 c.ty, u8 c.flags, .sl true 1 (bys c.data), .sl true 3 (nodesA true c.kids)], Ob.box 29 [.own 3], Ob.row 31 10 z]) hfin.symm
    · rintro ob tr go df ⟨hk1, L, hL, rfl⟩
      have hN := cdiv_pos user.length (m + 1) hl1 hn
      have hL2 : L = piecesP ⟨inter, tsn, stream, seq, proto, true, true, unord, now, user⟩ (m + 1) := by rw [hL, chunkYs_len, ← piecesP_len ⟨inter, tsn, stream, seq, proto, true, true, unord, now, user⟩ (m + 1), List.take_length]
      clear hL
      subst hL2
      refine hK4 _ ?_
      refine AWp.regionM fun K14 hK14 => ?_
      refine ARun2.indexZM (xs := partsA true (piecesP ⟨inter, tsn, stream, seq, proto, true, true, unord, now, user⟩ (m + 1))) (cdiv user.length (m + 1) - 1) (by rw [partsA_len, piecesP_len]; show cdiv user.length (m + 1) - 1 < cdiv user.length (m + 1); omega) ?_
      refine ARun2.storeFM (partsA true (piecesP ⟨inter, tsn, stream, seq, proto, true, true, unord, now, user⟩ (m + 1))) (cdiv user.length (m + 1) - 1) 6 1 (partA true (pieceP ⟨inter, tsn, stream, seq, proto, true, true, unord, now, user⟩ (m + 1) (cdiv user.length (m + 1) - 1))) (.val (.bool true)) (partA true (endP (pieceP ⟨inter, tsn, stream, seq, proto, true, true, unord, now, user⟩ (m + 1) (cdiv user.length (m + 1) - 1)))) (partsA true (splitP ⟨inter, tsn, stream, seq, proto, true, true, unord, now, user⟩ (m + 1))) (by rw [partsA_at _ _ _ (by rw [piecesP_len]; show cdiv user.length (m + 1) - 1 < cdiv user.length (m + 1); omega), piecesP_at _ _ _ (by show cdiv user.length (m + 1) - 1 < cdiv user.length (m + 1); omega)]) (by unfold splitP partsA; rw [List.map_set]) rfl ?_
      refine ARun2.endm (hK14 _ ?_)
      refine AWp.pubD 3 ?_
      refine AWp.regionW ?_
      refine AWp.ret ?_
      try simp only [thenQ, blockQ, noGo]
      refine bodyQ.m ?_
      clear hK14 K14 hK5 K5 hK4 K4 hK3 K3 hK2 K2 hK1 K1
      first | done | exact Wk.go
    · rintro e ob tr go df h
      exact h.elim
end Go.Proofs.YtoapdhogghbojaaDoor.C
/- wharfref19: Is, Make, Needs, Blank, Input; wharflaw19: awake. -/
set_option linter.unusedVariables false
set_option linter.unusedSimpArgs false
namespace Go.Proofs.YtoapdhogghbojaaDoor.C
open Go.Abs
end Go.Proofs.YtoapdhogghbojaaDoor.C
/- data: the plain law. -/
set_option linter.unusedVariables false
set_option linter.unusedSimpArgs false
namespace Go.Proofs.YtoapdhogghbojaaDoor.C
open Go.Abs
theorem check_flatF (t f : Nat) (d : List UInt8) (hh : kindHas t = true) (hm : maskBad f (kindOf t).mask = false) (hk : kkidsOk (kindOf t) [] = true) (h3 : ¬ t = 3) (h64 : t = 64 → peekN 2 d 6 = 0) (h194 : ¬ t = 194) (hu : kfitsN (kindOf t) d.length = true → d.length ≤ 65531) :
    checkC ⟨t, f, d, []⟩ = 0 ↔ kfitsN (kindOf t) d.length = true := by
  refine ⟨fun h => (check_zero h hh).2.1, fun hf => ?_⟩
  have hl := hu hf
  have hp : preE ⟨t, f, d, []⟩ = .ok := by
    have e1 : flagsE ⟨t, f, d, []⟩ (kindOf t) = .ok := if_neg (by simp only; rw [hm]; simp)
    have e2 : dataE ⟨t, f, d, []⟩ (kindOf t) = .ok := if_neg (by simp only; rw [hf]; simp)
    have e3 : kidsE ⟨t, f, d, []⟩ (kindOf t) = .ok := if_neg (by simp only; rw [hk]; simp)
    have e4 : countE ⟨t, f, d, []⟩ = .ok := if_neg (by unfold sackBad; simp [h3])
    have e5 : valueE ⟨t, f, d, []⟩ = .ok := by
      unfold valueE oddN
      by_cases h : t = 64
      · simp only [if_pos h, h64 h, ne_eq, not_true_eq_false, if_false]
      · simp only [if_neg h, if_neg h194]
    show firstE [flagsE ⟨t, f, d, []⟩ (kindOf t), dataE ⟨t, f, d, []⟩ (kindOf t), kidsE ⟨t, f, d, []⟩ (kindOf t), countE ⟨t, f, d, []⟩, valueE ⟨t, f, d, []⟩] = .ok
    simp only [e1, e2, e3, e4, e5, firstE, reduceIte]
  have hs : startC ⟨t, f, d, []⟩ = 0 := by
    unfold startC
    rw [if_pos hh, hp]; rfl
  unfold checkC
  rw [hs, if_neg (by simp), if_neg (by simp [checkL])]
  simp [nSize, nLens, tlvSize, sumUp]
  omega
theorem fit0 (n : Nat) : kfitsN (kindOf 0) n = true ↔ 13 ≤ n ∧ n ≤ 65531 := by
  unfold kfitsN; simp [kindOf, kindForms, Nat.mod_one]
theorem fit64 (n : Nat) : kfitsN (kindOf 64) n = true ↔ 17 ≤ n ∧ n ≤ 65531 := by
  unfold kfitsN; simp [kindOf, kindForms, Nat.mod_one]
theorem mask_ok : ((List.range 16).all fun f => !maskBad f 15) = true := by kernel_rfl
theorem mask15 {f : Nat} (h : f < 16) : maskBad f 15 = false := by
  have := List.all_eq_true.1 mask_ok f (List.mem_range.2 h)
  simpa using this
theorem dataP_T (tsn stream seq proto : Nat) (b f u n : Bool) (user : List UInt8) : dataP ⟨true, tsn, stream, seq, proto, b, f, u, n, user⟩ = putB 4 tsn ++ (putB 2 stream ++ (putB 2 0 ++ (putB 4 seq ++ (putB 4 proto ++ user)))) := by
  have e : putB 2 0 = [0, 0] := by decide
  rw [e]
  simp [dataP, seqP]
theorem dataP_F (tsn stream seq proto : Nat) (b f u n : Bool) (user : List UInt8) : dataP ⟨false, tsn, stream, seq, proto, b, f, u, n, user⟩ = putB 4 tsn ++ (putB 2 stream ++ (putB 2 seq ++ (putB 4 proto ++ user))) := by
  simp [dataP, seqP]
theorem data_resv (tsn stream seq proto : Nat) (b f u n : Bool) (user : List UInt8) : peekN 2 (dataP ⟨true, tsn, stream, seq, proto, b, f, u, n, user⟩) 6 = 0 := by
  rw [dataP_T, ← List.append_assoc]
  exact peek_put 2 0 6 _ _ (by rw [List.length_append, putB_len, putB_len]) (by decide)
theorem makePt_eq (p : GPart) : makePt p = if rightD p = true then (dataC p, true) else (.zero, false) := by
  obtain ⟨inter, tsn, stream, seq, proto, beg, fin, unord, now, user⟩ := p
  have hfl := mask15 (flagsP_lt ⟨inter, tsn, stream, seq, proto, beg, fin, unord, now, user⟩)
  have hln := dataP_len ⟨inter, tsn, stream, seq, proto, beg, fin, unord, now, user⟩
  unfold makePt
  cases inter with
  | true =>
    have h := check_flatF 64 _ (dataP ⟨true, tsn, stream, seq, proto, beg, fin, unord, now, user⟩) rfl hfl rfl (by decide) (fun _ => data_resv tsn stream seq proto beg fin unord now user) (by decide) (fun h => ((fit64 _).1 h).2)
    rw [fit64] at h
    simp only [cond_true] at hln
    have e : rightD ⟨true, tsn, stream, seq, proto, beg, fin, unord, now, user⟩ = true ↔ checkC (dataC ⟨true, tsn, stream, seq, proto, beg, fin, unord, now, user⟩) = 0 := by
      refine Iff.trans ?_ h.symm
      simp only [rightD, cond_true, Bool.and_eq_true, decide_eq_true_eq]
      omega
    by_cases hc : checkC (dataC ⟨true, tsn, stream, seq, proto, beg, fin, unord, now, user⟩) = 0
    · rw [if_pos ⟨rfl, hc⟩, if_pos (e.2 hc)]
    · rw [if_neg (fun h => hc h.2), if_neg (fun h => hc (e.1 h))]
  | false =>
    have h := check_flatF 0 _ (dataP ⟨false, tsn, stream, seq, proto, beg, fin, unord, now, user⟩) rfl hfl rfl (by decide) (fun h => by cases h) (by decide) (fun h => ((fit0 _).1 h).2)
    rw [fit0] at h
    simp only [cond_false] at hln
    have e : rightD ⟨false, tsn, stream, seq, proto, beg, fin, unord, now, user⟩ = true ↔ (!false && decide (65535 < seq)) = false ∧ checkC (dataC ⟨false, tsn, stream, seq, proto, beg, fin, unord, now, user⟩) = 0 := by
      refine Iff.trans ?_ (and_congr_right fun _ => h.symm)
      simp only [rightD, cond_false, Bool.and_eq_true, decide_eq_true_eq, Bool.not_false, Bool.true_and, decide_eq_false_iff_not]
      omega
    by_cases hc : (!false && decide (65535 < seq)) = false ∧ checkC (dataC ⟨false, tsn, stream, seq, proto, beg, fin, unord, now, user⟩) = 0
    · rw [if_pos hc, if_pos (e.2 hc)]
    · rw [if_neg hc, if_neg (fun h => hc (e.1 h))]
theorem makePt_chunk {p : GPart} (h : rightD p = true) : makePt p = (dataC p, true) := by rw [makePt_eq, if_pos h]
theorem makePt_no {p : GPart} (h : rightD p = false) : makePt p = (.zero, false) := by rw [makePt_eq, if_neg (by rw [h]; simp)]
theorem check_dataC {p : GPart} (h : rightD p = true) : checkC (dataC p) = 0 := by
  have := makePt_chunk h
  unfold makePt at this
  split at this
  · rename_i hh; exact hh.2
  · simp at this
theorem isD_dataC {p : GPart} (h : rightD p = true) : isD (dataC p) = true := by
  unfold isD; rw [check_dataC h]; unfold dataC; cases p.inter <;> rfl
theorem flags_rt (fin beg unord now : Bool) : onF (orF (orF (orF (orF 0 1 fin) 2 beg) 4 unord) 8 now) 2 = beg ∧ onF (orF (orF (orF (orF 0 1 fin) 2 beg) 4 unord) 8 now) 1 = fin ∧ onF (orF (orF (orF (orF 0 1 fin) 2 beg) 4 unord) 8 now) 4 = unord ∧ onF (orF (orF (orF (orF 0 1 fin) 2 beg) 4 unord) 8 now) 8 = now := by
  cases fin <;> cases beg <;> cases unord <;> cases now <;> exact ⟨by kernel_rfl, by kernel_rfl, by kernel_rfl, by kernel_rfl⟩
theorem partOf_data {p : GPart} (hp : p.Ok) (h : rightD p = true) : partOf (dataC p) = p := by
  obtain ⟨inter, tsn, stream, seq, proto, beg, fin, unord, now, user⟩ := p
  obtain ⟨ht, hst, hse, hpr, hus⟩ := hp
  simp only at ht hst hse hpr hus
  obtain ⟨f1, f2, f3, f4⟩ := flags_rt fin beg unord now
  have l4 : ∀ x, (putB 4 x).length = 4 := fun x => putB_len 4 x
  have l2 : ∀ x, (putB 2 x).length = 2 := fun x => putB_len 2 x
  cases inter with
  | true =>
    have hd := dataP_T tsn stream seq proto beg fin unord now user
    generalize hD : dataP ⟨true, tsn, stream, seq, proto, beg, fin, unord, now, user⟩ = D at hd
    have g1 : peekN 4 D 0 = tsn := by
      rw [hd]; exact peek_put 4 tsn 0 [] _ rfl (beN_put4b _ ht)
    have g2 : peekN 2 D 4 = stream := by
      rw [hd]; exact peek_put 2 stream 4 (putB 4 tsn) _ (l4 _) (beN_put2b _ hst)
    have g3 : peekN 4 D 8 = seq := by
      rw [hd, ← List.append_assoc, ← List.append_assoc]; exact peek_put 4 seq 8 _ _ (by simp [l4, l2]) (beN_put4b _ hse)
    have g4 : peekN 4 D 12 = proto := by
      rw [hd, ← List.append_assoc, ← List.append_assoc, ← List.append_assoc]; exact peek_put 4 proto 12 _ _ (by simp [l4, l2]) (beN_put4b _ hpr)
    have g5 : D.drop 16 = user := by
      rw [hd, ← List.append_assoc, ← List.append_assoc, ← List.append_assoc, ← List.append_assoc, List.drop_append_of_le_length (by simp [l4, l2]), List.drop_of_length_le (by simp [l4, l2]), List.nil_append]
    simp only [partOf, dataC, cond_true, beq_self_eq_true, hD, g1, g2, g3, g4, g5, flagsP, f1, f2, f3, f4]
  | false =>
    have hs : seq < 2 ^ 16 := by simp only [rightD, cond_false, Bool.and_eq_true, decide_eq_true_eq] at h; omega
    have hd := dataP_F tsn stream seq proto beg fin unord now user
    generalize hD : dataP ⟨false, tsn, stream, seq, proto, beg, fin, unord, now, user⟩ = D at hd
    have g1 : peekN 4 D 0 = tsn := by
      rw [hd]; exact peek_put 4 tsn 0 [] _ rfl (beN_put4b _ ht)
    have g2 : peekN 2 D 4 = stream := by
      rw [hd]; exact peek_put 2 stream 4 (putB 4 tsn) _ (l4 _) (beN_put2b _ hst)
    have g3 : peekN 2 D 6 = seq := by
      rw [hd, ← List.append_assoc]; exact peek_put 2 seq 6 _ _ (by simp [l4, l2]) (beN_put2b _ hs)
    have g4 : peekN 4 D 8 = proto := by
      rw [hd, ← List.append_assoc, ← List.append_assoc]; exact peek_put 4 proto 8 _ _ (by simp [l4, l2]) (beN_put4b _ hpr)
    have g5 : D.drop 12 = user := by
      rw [hd, ← List.append_assoc, ← List.append_assoc, ← List.append_assoc, List.drop_append_of_le_length (by simp [l4, l2]), List.drop_of_length_le (by simp [l4, l2]), List.nil_append]
    simp only [partOf, dataC, cond_false, Nat.reduceBEq, hD, g1, g2, g3, g4, g5, flagsP, f1, f2, f3, f4]
theorem ofD_data {p : GPart} (hp : p.Ok) (h : rightD p = true) : ofD (dataC p) = (p, true) := by
  unfold ofD; rw [if_pos (isD_dataC h), partOf_data hp h]
/-! back -/
end Go.Proofs.YtoapdhogghbojaaDoor.C
/- data: pieces of a description. The plain law. -/
set_option linter.unusedVariables false
set_option linter.unusedSimpArgs false
namespace Go.Proofs.YtoapdhogghbojaaDoor.C
open Go.Abs
def pieceR (p : GPart) (n k : Nat) : GPart := ⟨p.inter, (p.tsn + k) % 2 ^ 32, p.stream, p.seq, bif p.inter && decide (0 < k) then k else p.proto, k == 0, decide (p.user.length ≤ k * n + n), p.unord, p.now, (p.user.drop (k * n)).take n⟩
def splitR (p : GPart) (n : Nat) : List GPart := (List.range (cdiv p.user.length n)).map (pieceR p n)
theorem splitR_len (p : GPart) (n : Nat) : (splitR p n).length = cdiv p.user.length n := by simp [splitR]
theorem splitR_at (p : GPart) (n i : Nat) (h : i < cdiv p.user.length n) : (splitR p n)[i]'(by rw [splitR_len]; exact h) = pieceR p n i := by simp [splitR]
theorem splitR_snoc (p : GPart) (n i : Nat) (h : i < cdiv p.user.length n) : (splitR p n).take (i + 1) = (splitR p n).take i ++ [pieceR p n i] := by
  rw [List.take_succ_eq_append_getElem (by rw [splitR_len]; exact h), splitR_at p n i h]
theorem splitP_eq (p : GPart) (n : Nat) (hn : 1 ≤ n) (hl : 1 ≤ p.user.length) : splitP p n = splitR p n := by
  apply List.ext_getElem
  · simp [splitP, splitR, piecesP]
  · intro i h1 h2
    have hi : i < cdiv p.user.length n := by simpa [splitR] using h2
    have hN := cdiv_pos p.user.length n hl hn
    rw [splitR_at p n i hi]
    have h1' : i < ((piecesP p n).set (cdiv p.user.length n - 1) (endP (pieceP p n (cdiv p.user.length n - 1)))).length := h1
    refine (List.getElem_set h1').trans ?_
    split
    · rename_i e
      rw [e]
      have h3 : ¬ i + 1 < cdiv p.user.length n := by omega
      have h4 := mt (cdiv_lt (n := p.user.length) (k := n) (i := i + 1) hn).2 h3
      rw [Nat.add_mul, Nat.one_mul] at h4
      have h5 : decide (p.user.length ≤ i * n + n) = true := decide_eq_true (by omega)
      show endP (pieceP p n i) = pieceR p n i
      unfold pieceR; rw [h5]; rfl
    · rename_i e
      rw [piecesP_at p n i hi]
      have h3 : i + 1 < cdiv p.user.length n := by omega
      have h4 := (cdiv_lt (n := p.user.length) (k := n) (i := i + 1) hn).1 h3
      rw [Nat.add_mul, Nat.one_mul] at h4
      have h5 : decide (p.user.length ≤ i * n + n) = false := decide_eq_false (by omega)
      unfold pieceR; rw [h5]; rfl
theorem cuts_join (l : List UInt8) (k : Nat) : ∀ m, (List.range m).flatMap (fun i => (l.drop (i * k)).take k) = l.take (m * k)
  | 0 => by simp
  | m + 1 => by
    rw [List.range_succ, List.flatMap_append, cuts_join l k m, Nat.add_mul, Nat.one_mul, List.take_add]
    simp
def catU (l : List GPart) : List UInt8 := l.flatMap (·.user)
theorem catU_snoc (l : List GPart) (p : GPart) : catU (l ++ [p]) = catU l ++ p.user := by simp [catU]
theorem catU_split (p : GPart) (n : Nat) (hn : 1 ≤ n) : catU (splitR p n) = p.user := by
  unfold catU splitR
  rw [List.flatMap_map]
  refine (cuts_join p.user n _).trans (List.take_of_length_le ?_)
  have h := mt (cdiv_lt (n := p.user.length) (k := n) (i := cdiv p.user.length n) hn).2 (Nat.lt_irrefl _)
  omega
/-- what has some pieces -/
def joinP : List GPart → GPart
  | [] => .zero
  | q :: r => { q with fin := true, user := catU (q :: r) }
def lenU : List GPart → Nat
  | [] => 0
  | q :: _ => q.user.length
def begL : List GPart → Bool
  | [] => false
  | q :: _ => q.beg
def joinOk (l : List GPart) : Bool := rightD (joinP l) && begL l && decide (1 ≤ lenU l) && sameLP (splitR (joinP l) (lenU l)) l
def joinD (l : List GPart) : GPart × Bool := if joinOk l = true then (joinP l, true) else (.zero, false)
theorem joinD_yes {l : List GPart} (h : joinOk l = true) : joinD l = (joinP l, true) := if_pos h
theorem joinD_no {l : List GPart} (h : joinOk l = false) : joinD l = (.zero, false) := if_neg (by rw [h]; simp)
theorem sameLP_self (l : List GPart) : sameLP l l = true := sameLP_all rfl fun i _ _ => sameP_self _
theorem cdiv_one {a n : Nat} (ha : 1 ≤ a) (hn : a ≤ n) : cdiv a n = 1 := by
  have h1 : ¬ 1 < cdiv a n := mt (cdiv_lt (by omega)).1 (by omega)
  have := cdiv_pos a n ha (by omega)
  omega
theorem splitR_big (p : GPart) (n m : Nat) (hl : 1 ≤ p.user.length) (hn : p.user.length ≤ n) (hm : p.user.length ≤ m) : splitR p n = splitR p m := by
  unfold splitR
  rw [cdiv_one hl hn, cdiv_one hl hm]
  show [pieceR p n 0] = [pieceR p m 0]
  have e1 : decide (p.user.length ≤ 0 * n + n) = true := decide_eq_true (by omega)
  have e2 : decide (p.user.length ≤ 0 * m + m) = true := decide_eq_true (by omega)
  unfold pieceR
  rw [e1, e2, Nat.zero_mul, Nat.zero_mul, List.drop_zero, List.take_of_length_le hn, List.take_of_length_le hm]
theorem splitR_min (p : GPart) (n b : Nat) (hl : 1 ≤ p.user.length) (hb : p.user.length ≤ b) : splitR p (min n b) = splitR p n := by
  rcases Nat.le_total n b with h | h
  · rw [Nat.min_eq_left h]
  · rw [Nat.min_eq_right h]; exact splitR_big p b n hl hb (by omega)
theorem splitR_cons (p : GPart) (n : Nat) (hn : 1 ≤ n) (hl : 1 ≤ p.user.length) : ∃ r, splitR p n = pieceR p n 0 :: r := by
  have hN := cdiv_pos p.user.length n hl hn
  obtain ⟨m, hm⟩ : ∃ m, cdiv p.user.length n = m + 1 := ⟨cdiv p.user.length n - 1, by omega⟩
  unfold splitR
  rw [hm, List.range_succ_eq_map]
  exact ⟨_, rfl⟩
theorem right_len {p : GPart} (h : rightD p = true) : 1 ≤ p.user.length := by
  unfold rightD at h
  cases hi : p.inter <;> rw [hi] at h <;> simp only [cond_true, cond_false, Bool.and_eq_true, decide_eq_true_eq] at h
  · exact h.1.2
  · exact h.1
/-- what is cut is joined again -/
theorem join_split {p : GPart} (hp : p.Ok) (h : rightD p = true) (hb : p.beg = true) (hf : p.fin = true) (n : Nat) (hn : 1 ≤ n) : joinD (splitR p n) = (p, true) := by
  have hl := right_len h
  obtain ⟨r, hr⟩ := splitR_cons p n hn hl
  have hc := catU_split p n hn
  have hj : joinP (splitR p n) = p := by
    rw [hr] at hc ⊢
    show (⟨p.inter, (p.tsn + 0) % 2 ^ 32, p.stream, p.seq, bif p.inter && decide (0 < 0) then 0 else p.proto, true, true, p.unord, p.now, catU (pieceR p n 0 :: r)⟩ : GPart) = p
    rw [hc, Nat.add_zero, Nat.mod_eq_of_lt hp.tsn]
    obtain ⟨inter, tsn, stream, seq, proto, beg, fin, unord, now, user⟩ := p
    simp only at hb hf
    subst hb; subst hf
    simp
  have hu : lenU (splitR p n) = min n p.user.length := by
    rw [hr]
    show ((p.user.drop (0 * n)).take n).length = _
    rw [Nat.zero_mul, List.drop_zero, List.length_take]
  have hg : begL (splitR p n) = true := by rw [hr]; rfl
  have ho : joinOk (splitR p n) = true := by
    unfold joinOk
    rw [hj, h, hg, hu, splitR_min p n _ hl (Nat.le_refl _), sameLP_self, decide_eq_true (by omega)]; rfl
  rw [joinD_yes ho, hj]
end Go.Proofs.YtoapdhogghbojaaDoor.C
/- data.Split, whatever is given; data.Join, data.Most. -/
set_option linter.unusedVariables false
set_option linter.unusedSimpArgs false
namespace Go.Proofs.YtoapdhogghbojaaDoor.C
open Go.Abs
theorem dsplit_no1 (p : GPart) (z : Int) (c : GChunk) (km : PC Tryd.prog 15 [partA false p] (.tup [chunkA true c, bool false])) :
    PC Tryd.prog 8 [partA false p, .val (.int .i64 z)] (.sl true 10 (partsA true [])) := by
  obtain ⟨inter, tsn, stream, seq, proto, beg, fin, unord, now, user⟩ := p
  refine PC.of_bodyK (by simp only [push_cast]) Tryd.func8 rfl (by rw [Tryd.ntmps8]; simp) ?_
  refine AWp.regionW ?_
  refine AWp.seqK fun K1 hK1 => ?_
  refine AWp.regionM fun K2 hK2 => ?_
  refine ARun2.callM (km) ?_
  refine ARun2.endm (hK2 _ ?_)
  refine AWp.regionW ?_
  refine AWp.condT ?_
  refine AWp.regionW ?_
  refine AWp.ret ?_
  try simp only [thenQ, blockQ, noGo]
  refine bodyQ.m ?_
  clear hK2 K2 hK1 K1
  first | done | exact Wk.go
theorem dsplit_no2 (p : GPart) (z : Int) (c : GChunk) (km : PC Tryd.prog 15 [partA false p] (.tup [chunkA true c, bool true])) (hb : p.beg = false) :
    PC Tryd.prog 8 [partA false p, .val (.int .i64 z)] (.sl true 10 (partsA true [])) := by
  obtain ⟨inter, tsn, stream, seq, proto, beg, fin, unord, now, user⟩ := p
  simp only at hb
  subst hb
  refine PC.of_bodyK (by simp only [push_cast]) Tryd.func8 rfl (by rw [Tryd.ntmps8]; simp) ?_
  refine AWp.regionW ?_
  refine AWp.seqK fun K1 hK1 => ?_
  refine AWp.regionM fun K2 hK2 => ?_
  refine ARun2.callM (km) ?_
  refine ARun2.endm (hK2 _ ?_)
  refine AWp.regionW ?_
  refine AWp.condT ?_
  refine AWp.regionW ?_
  refine AWp.ret ?_
  try simp only [thenQ, blockQ, noGo]
  refine bodyQ.m ?_
  clear hK2 K2 hK1 K1
  first | done | exact Wk.go
theorem dsplit_no3 (p : GPart) (z : Int) (c : GChunk) (km : PC Tryd.prog 15 [partA false p] (.tup [chunkA true c, bool true])) (hb : p.beg = true) (hf : p.fin = false) :
    PC Tryd.prog 8 [partA false p, .val (.int .i64 z)] (.sl true 10 (partsA true [])) := by
  obtain ⟨inter, tsn, stream, seq, proto, beg, fin, unord, now, user⟩ := p
  simp only at hb hf
  subst hb; subst hf
  refine PC.of_bodyK (by simp only [push_cast]) Tryd.func8 rfl (by rw [Tryd.ntmps8]; simp) ?_
  refine AWp.regionW ?_
  refine AWp.seqK fun K1 hK1 => ?_
  refine AWp.regionM fun K2 hK2 => ?_
  refine ARun2.callM (km) ?_
  refine ARun2.endm (hK2 _ ?_)
  refine AWp.regionW ?_
  refine AWp.condT ?_
  refine AWp.regionW ?_
  refine AWp.ret ?_
  try simp only [thenQ, blockQ, noGo]
  refine bodyQ.m ?_
  clear hK2 K2 hK1 K1
  first | done | exact Wk.go
theorem dsplit_no4 (p : GPart) (z : Int) (c : GChunk) (km : PC Tryd.prog 15 [partA false p] (.tup [chunkA true c, bool true])) (hb : p.beg = true) (hf : p.fin = true) (hz : decide (z < 1) = true) :
    PC Tryd.prog 8 [partA false p, .val (.int .i64 z)] (.sl true 10 (partsA true [])) := by
  obtain ⟨inter, tsn, stream, seq, proto, beg, fin, unord, now, user⟩ := p
  simp only at hb hf
  subst hb; subst hf
  refine PC.of_bodyK (by simp only [push_cast]) Tryd.func8 rfl (by rw [Tryd.ntmps8]; simp) ?_
  refine AWp.regionW ?_
  refine AWp.seqK fun K1 hK1 => ?_
  refine AWp.regionM fun K2 hK2 => ?_
  refine ARun2.callM (km) ?_
  refine ARun2.endm (hK2 _ ?_)
  refine AWp.regionS fun K3 hK3 => ?_
  simp only [push_cast, ↓reduceIte, Nat.reduceEqDiff, Nat.reduceLT, Nat.reduceAdd, Nat.reduceSub, Nat.reduceMul, Nat.reduceLeDiff, Nat.reducePow, Int.reduceLT, Int.reduceToNat, reduceCtorEq, Int.reduceNeg, Int.reduceEq, Nat.reduceBEq, Nat.reduceBNe, Int.reduceBEq, Int.reduceBNe, String.reduceEq, hz]
  refine ARun2.endm (hK3 _ ?_)
  refine AWp.condT ?_
  refine AWp.regionW ?_
  refine AWp.ret ?_
  try simp only [thenQ, blockQ, noGo]
  refine bodyQ.m ?_
  clear hK3 K3 hK2 K2 hK1 K1
  first | done | exact Wk.go
theorem dsplit_no (p : GPart) (z : Int) (h : p.Ok) (hs : (rightD p && p.beg && p.fin && decide (1 ≤ z)) = false) :
    PC Tryd.prog 8 [partA false p, .val (.int .i64 z)] (.sl true 10 (partsA true [])) := by
  have km := dmake_c p h
  cases h1 : rightD p with
  | false => rw [makePt_no h1] at km; exact dsplit_no1 p z _ km
  | true =>
    rw [makePt_chunk h1] at km
    cases h2 : p.beg with
    | false => exact dsplit_no2 p z _ km h2
    | true =>
      cases h3 : p.fin with
      | false => exact dsplit_no3 p z _ km h2 h3
      | true =>
        refine dsplit_no4 p z _ km h2 h3 ?_
        rw [h1, h2, h3] at hs
        simp at hs ⊢
        omega
theorem dsplit_c (p : GPart) (n : Nat) (h : p.Ok) (h1 : rightD p = true) (hb : p.beg = true) (hf : p.fin = true) (hn : 1 ≤ n) (hn2 : n < 2 ^ 63) :
    PC Tryd.prog 8 [partA false p, nat n] (.sl true 10 (partsA true (splitR p n))) := by
  have km := dmake_c p h
  rw [makePt_chunk h1] at km
  have hl := right_len h1
  rw [← splitP_eq p n hn hl]
  refine dsplit_yes p n h hn hn2 hl _ km hb hf ?_
  have hu : p.user.length ≤ 65519 := by
    unfold rightD at h1
    cases hi : p.inter <;> rw [hi] at h1 <;> simp only [cond_true, cond_false, Bool.and_eq_true, decide_eq_true_eq] at h1
    · exact h1.2
    · omega
  exact Nat.lt_of_le_of_lt (Nat.div_le_self _ _) (by omega)
theorem dmost_c (inter : Bool) (n : Nat) (hn : n < 2 ^ 16) : PC Tryd.prog 14 [bool inter, nat n] (nat (n - (bif inter then 20 else 16))) := by
  refine PC.of_bodyW (by simp only [push_cast]) Tryd.func14 rfl (by rw [Tryd.ntmps14]; simp) ?_
  refine AWp.regionW ?_
  refine AWp.regionW ?_
  refine AWp.seqK fun K1 hK1 => ?_
  refine AWp.regionW ?_
  refine AWp.condLM (fun c0 => ?_) (fun c0 => ?_)
  · skip
    have hin : inter = true := by simpa using c0
    subst hin
    refine AWp.regionV ?_
    refine hK1 _ ?_
    refine AWp.regionM fun K2 hK2 => ?_
    refine ARun2.imaxM (n - 20) ?_ ?_
    · rw [IntKind.wrap_i64]; unfold N; omega
    refine ARun2.endm (hK2 _ ?_)
    refine AWp.ret ?_
    try simp only [thenQ, blockQ, noGo]
    refine bodyQ.m ?_
    clear hK2 K2 hK1 K1
    first | done | exact Hand.go
  · skip
    have hin : inter = false := by simpa using c0
    subst hin
    refine AWp.skip ?_
    refine hK1 _ ?_
    refine AWp.regionM fun K3 hK3 => ?_
    refine ARun2.imaxM (n - 16) ?_ ?_
    · rw [IntKind.wrap_i64]; unfold N; omega
    refine ARun2.endm (hK3 _ ?_)
    refine AWp.ret ?_
    try simp only [thenQ, blockQ, noGo]
    refine bodyQ.m ?_
    clear hK3 K3 hK1 K1
    first | done | exact Hand.go
end Go.Proofs.YtoapdhogghbojaaDoor.C
/- data.Join; wharfref13: Split, Join. -/
set_option linter.unusedVariables false
set_option linter.unusedSimpArgs false
namespace Go.Proofs.YtoapdhogghbojaaDoor.C
open Go.Abs
def partIn (p : GPart) : Prop := p.tsn < 2 ^ 32 ∧ p.stream < 2 ^ 16 ∧ p.seq < 2 ^ 32 ∧ p.proto < 2 ^ 32
theorem catU_len : ∀ (l : List GPart) (b : Nat), (∀ p ∈ l, p.user.length ≤ b) → (catU l).length ≤ l.length * b
  | [], b, _ => by simp [catU]
  | q :: r, b, h => by
    have h1 := h q (by simp)
    have h2 := catU_len r b (fun p hp => h p (by simp [hp]))
    simp only [catU, List.flatMap_cons, List.length_append, List.length_cons] at h2 ⊢
    rw [Nat.add_mul, Nat.one_mul]
    omega
theorem catU_take (l : List GPart) (i : Nat) : (catU (l.take i)).length ≤ (catU l).length := by
  have h : catU l = catU (l.take i) ++ catU (l.drop i) := by
    unfold catU
    rw [← List.flatMap_append, List.take_append_drop]
  rw [h, List.length_append]; omega
/-- lists that data.Join is asked for -/
structure FewL (l : List GPart) : Prop where
  len : l.length ≤ 65536
  cat : (catU l).length ≤ 2 ^ 20
  mem : ∀ p ∈ l, partIn p ∧ p.user.length ≤ 2 ^ 20
theorem fewL_of {l : List GPart} (hl : l.length ≤ 30) (hin : ∀ p ∈ l, partIn p ∧ p.user.length ≤ 1000) : FewL l :=
  ⟨by omega, Nat.le_trans (catU_len l 1000 (fun p hp => (hin p hp).2)) (by omega), fun p hp => ⟨(hin p hp).1, by have := (hin p hp).2; omega⟩⟩
/-- the pieces that data.Join compares with -/
def cutJ (l : List GPart) : List GPart := if (rightD (joinP l) && begL l && decide (1 ≤ lenU l)) = true then splitR (joinP l) (lenU l) else []
theorem cutJ_same {l : List GPart} (hl : 0 < l.length) : sameLP (cutJ l) l = joinOk l := by
  unfold cutJ joinOk
  cases h : (rightD (joinP l) && begL l && decide (1 ≤ lenU l)) with
  | true => rw [if_pos rfl, Bool.true_and]
  | false =>
    rw [if_neg (by simp), Bool.false_and]
    unfold sameLP
    rw [decide_eq_false (by rw [List.length_nil]; omega), Bool.false_and]
theorem pieceR_in {p : GPart} (hs : p.stream < 2 ^ 16) (n k : Nat) : (pieceR p n k).stream < 2 ^ 16 ∧ (pieceR p n k).user.length ≤ p.user.length := by
  refine ⟨hs, ?_⟩
  show ((p.user.drop (k * n)).take n).length ≤ _
  rw [List.length_take, List.length_drop]; omega
theorem splitR_mem {p x : GPart} {n : Nat} (hs : p.stream < 2 ^ 16) (hx : x ∈ splitR p n) : x.stream < 2 ^ 16 ∧ x.user.length ≤ p.user.length := by
  unfold splitR at hx
  obtain ⟨k, _, rfl⟩ := List.mem_map.1 hx
  exact pieceR_in hs n k
theorem cutJ_mem {l : List GPart} {x : GPart} (hs : (joinP l).stream < 2 ^ 16) (hx : x ∈ cutJ l) : x.stream < 2 ^ 16 ∧ x.user.length ≤ (joinP l).user.length := by
  unfold cutJ at hx
  split at hx
  · exact splitR_mem hs hx
  · cases hx
theorem cdiv_le (a n : Nat) (hn : 1 ≤ n) : cdiv a n ≤ a := by
  rcases Nat.lt_or_ge a (cdiv a n) with h | h
  · have := (cdiv_lt (n := a) (k := n) (i := a) hn).1 h
    have h2 := Nat.le_mul_of_pos_right a hn
    omega
  · exact h
theorem cutJ_len (l : List GPart) (hu : (joinP l).user.length ≤ 2 ^ 24) : (cutJ l).length ≤ 2 ^ 25 := by
  unfold cutJ
  split
  · rename_i h
    simp only [Bool.and_eq_true, decide_eq_true_eq] at h
    rw [splitR_len]
    refine Nat.le_trans (cdiv_le _ _ h.2) ?_
    omega
  · simp
theorem joinP_in {l : List GPart} (h : FewL l) : (joinP l).Ok ∧ (joinP l).user.length ≤ 2 ^ 20 := by
  cases l with
  | nil => exact ⟨⟨by decide, by decide, by decide, by decide, by decide⟩, by decide⟩
  | cons q r =>
    obtain ⟨⟨h1, h2, h3, h4⟩, _⟩ := h.mem q (by simp)
    have hc := h.cat
    exact ⟨⟨h1, h2, h3, h4, by show (catU (q :: r)).length ≤ _; omega⟩, hc⟩
theorem dcut_c (l : List GPart) (hf : FewL l) (h0 : 0 < l.length) :
    PC Tryd.prog 8 [partA false (joinP l), nat (lenU l)] (.sl true 10 (partsA true (cutJ l))) := by
  obtain ⟨ho, hu⟩ := joinP_in hf
  cases l with
  | nil => simp at h0
  | cons q r =>
    have hq := (hf.mem q (by simp)).2
    unfold cutJ
    by_cases h : (rightD (joinP (q :: r)) && begL (q :: r) && decide (1 ≤ lenU (q :: r))) = true
    · rw [if_pos h]
      simp only [Bool.and_eq_true, decide_eq_true_eq] at h
      exact dsplit_c _ _ ho h.1.1 h.1.2 rfl h.2 (by show q.user.length < _; omega)
    · rw [if_neg h]
      refine dsplit_no _ (N (lenU (q :: r))) ho ?_
      have e : (joinP (q :: r)).fin = true := rfl
      have e2 : decide (1 ≤ N (lenU (q :: r))) = decide (1 ≤ lenU (q :: r)) := by unfold N; rw [decide_eq_decide]; omega
      have e3 : (joinP (q :: r)).beg = begL (q :: r) := rfl
      rw [e, e2, e3, Bool.and_true]
      exact Bool.eq_false_iff.2 h
set_option maxRecDepth 100000 in
set_option maxHeartbeats 1000000 in
theorem djoin13_c (l : List GPart) (hf : FewL l) : PC Tryd.prog 12 [.sl false 10 (partsA false l)] (.tup [partA true (joinD l).1, bool (joinD l).2]) := by
  obtain ⟨hl, hcu, hin⟩ := hf
  obtain ⟨ho, hu⟩ := joinP_in ⟨hl, hcu, hin⟩
  refine PC.of_bodyK (by simp only [push_cast]) Tryd.func12 rfl (by rw [Tryd.ntmps12]; simp) ?_
  refine AWp.regionW ?_
  refine AWp.seqK fun K1 hK1 => ?_
  refine AWp.regionA fun K2 hK2 => ?_
  refine ARun.segm 4 fun KS hKS => ?_
  refine ARun2.endm (hKS _ ?_); clear hKS KS
  apply ARun.grpM 3 3 false 13 [0, 2, 10]
  · intro g3 KG hKG
    refine ARun2.gom ?_
    exact ARun2.endm (hKG _ Le.grpM)
  refine ARun2.gom ?_
  refine ARun2.endm (hK2 _ ?_)
  refine AWp.condLM (fun c0 => ?_) (fun c0 => ?_)
  · skip
    have h0 : l = [] := List.eq_nil_of_length_eq_zero (by simp only [Bool.or_eq_true, beq_iff_eq, decide_eq_true_eq] at c0; omega)
    have hr : joinD l = (.zero, false) := by subst h0; exact joinD_no (by kernel_rfl)
    refine AWp.regionW ?_
    refine AWp.ret ?_
    try simp only [thenQ, blockQ, noGo]
    refine bodyQ.m ?_
    clear hK2 K2 hK1 K1
    rw [hr]
    try simp only [GPart.zero]
    first | done | exact Wk.go
  · skip
    have h0 : 0 < l.length := by simp only [Bool.or_eq_false_iff, beq_eq_false_iff_ne, ne_eq, decide_eq_false_iff_not] at c0; omega
    obtain ⟨q, r, hq⟩ : ∃ q r, l = q :: r := by cases l with | nil => simp at h0 | cons q r => exact ⟨q, r, rfl⟩
    have hat : (partsA false l)[0]? = some (partA false q) := by rw [hq]; rfl
    have hcut := dcut_c l ⟨hl, hcu, hin⟩ h0
    have heq := eqf13_c (cutJ l) l (by have := cutJ_len l (by omega); omega) (fun p hp => ⟨(cutJ_mem ho.stream hp).1, by have := (cutJ_mem ho.stream hp).2; omega⟩) (fun p hp => (hin p hp).1.2.1)
    rw [cutJ_same h0] at heq
    have hlu : lenU l = q.user.length := by rw [hq]; rfl
    have hjp : joinP l = ⟨q.inter, q.tsn, q.stream, q.seq, q.proto, q.beg, true, q.unord, q.now, catU l⟩ := by rw [hq]; rfl
    rw [hlu, hjp] at hcut
    refine AWp.skip ?_
    refine hK1 _ ?_
    refine AWp.regionM fun K3 hK3 => ?_
    refine ARun2.indexM (0) (partA false q) ?_ ?_
    · exact hat
    refine ARun2.endm (hK3 _ ?_)
    refine AWp.regionW ?_
    refine AWp.seqK fun K4 hK4 => ?_
    refine AWp.regionW ?_
    refine AWp.block ?_
    refine AWp.nilBox 1 9 5 1 rfl rfl ?_
    simp only [push_cast, ↓reduceIte, Nat.reduceEqDiff, Nat.reduceLT, Nat.reduceAdd, Nat.reduceSub, Nat.reduceMul, Nat.reduceLeDiff, Nat.reducePow, Int.reduceLT, Int.reduceToNat, reduceCtorEq, Int.reduceNeg, Int.reduceEq, Nat.reduceBEq, Nat.reduceBNe, Int.reduceBEq, Int.reduceBNe, String.reduceEq]
    refine AWp.loopK [0, 2, 4, 21, 22] (fun (i : Nat) => [(23, nat i)]) (fun i => [.box 31 [bool false, u32 0, u16 0, u32 0, u32 0, bool false, bool false, bool false, bool false, .val (.slice none 0 0)], .box 31 [bool q.inter, u32 q.tsn, u16 q.stream, u32 q.seq, u32 q.proto, bool q.beg, bool true, bool q.unord, bool q.now, .own 2], .row 5 1 (bys (catU (l.take i)))]) (fun i => i ≤ l.length) (fun i => l.length - i) (0) ?_ (Nat.zero_le _) ?_
    · skip
      refine Le.m 3 ?_ ?_
      · try simp only [push_cast, ↓reduceIte, Nat.reduceEqDiff, Nat.reduceLT, Nat.reduceAdd, Nat.reduceSub, Nat.reduceMul, Nat.reduceLeDiff, Nat.reducePow, Int.reduceLT, Int.reduceToNat, reduceCtorEq, Int.reduceNeg, Int.reduceEq, Nat.reduceBEq, Nat.reduceBNe, Int.reduceBEq, Int.reduceBNe, String.reduceEq]
        try simp (disch := omega) only [w_nat, w_add, w_addl, w_addr, w_sub, w_subl, w_mul, w_mull, w_mulr, w_u32, w_u16, w_u8, w_u32a, N_zero]
        first | done | skip
        rfl
      · first | (simp only [push_cast, ↓reduceIte, Nat.reduceEqDiff, Nat.reduceLT, Nat.reduceAdd, Nat.reduceSub, Nat.reduceMul, Nat.reduceLeDiff, Nat.reducePow, Int.reduceLT, Int.reduceToNat, reduceCtorEq, Int.reduceNeg, Int.reduceEq, Nat.reduceBEq, Nat.reduceBNe, Int.reduceBEq, Int.reduceBNe, String.reduceEq]; first | done | rfl | (simp (disch := omega) only [w_nat, w_add, w_addl, w_addr, w_sub, w_subl, w_mul, w_mull, w_mulr, w_u32, w_u16, w_u8, w_u32a, N_zero]; first | done | rfl))
    · intro i hi K5 hK5
      refine AWp.regionW ?_
      refine AWp.seqK fun K6 hK6 => ?_
      refine AWp.condLM (fun c1 => ?_) (fun c1 => ?_)
      · skip
        have hil : i < l.length := by simpa using c1
        have hc1 := catU_take l i
        have hc2 := (hin l[i] (List.getElem_mem hil)).2
        refine AWp.skip ?_
        refine hK6 _ ?_
        refine AWp.seqK fun K7 hK7 => ?_
        refine AWp.block ?_
        refine AWp.regionM fun K8 hK8 => ?_
        refine ARun2.indexM (i) (partA false l[i]) ?_ ?_
        · exact partsA_at _ _ _ hil
        refine ARun2.endm (hK8 _ ?_)
        refine AWp.regionN fun K9 hK9 => ?_
        refine ARun2.appendM ?_ ?_ ?_
        · rw [YtoapdhogghbojaaDoor.Facts.eb24, bys_len, bys_len]; omega
        · rw [bys_len, bys_len]; omega
        refine ARun2.endm (hK9 _ ?_)
        refine hK7 _ ?_
        refine AWp.regionV ?_
        refine hK5 _ (i + 1) (by omega) (by omega) ?_
        refine Le.m 3 ?_ ?_
        · try simp only [push_cast, ↓reduceIte, Nat.reduceEqDiff, Nat.reduceLT, Nat.reduceAdd, Nat.reduceSub, Nat.reduceMul, Nat.reduceLeDiff, Nat.reducePow, Int.reduceLT, Int.reduceToNat, reduceCtorEq, Int.reduceNeg, Int.reduceEq, Nat.reduceBEq, Nat.reduceBNe, Int.reduceBEq, Int.reduceBNe, String.reduceEq]
          try simp (disch := omega) only [w_nat, w_add, w_addl, w_addr, w_sub, w_subl, w_mul, w_mull, w_mulr, w_u32, w_u16, w_u8, w_u32a, N_zero]
          first | done | skip
          rw [List.take_succ_eq_append_getElem hil, catU_snoc, bys_append]
        · first | (simp only [push_cast, ↓reduceIte, Nat.reduceEqDiff, Nat.reduceLT, Nat.reduceAdd, Nat.reduceSub, Nat.reduceMul, Nat.reduceLeDiff, Nat.reducePow, Int.reduceLT, Int.reduceToNat, reduceCtorEq, Int.reduceNeg, Int.reduceEq, Nat.reduceBEq, Nat.reduceBNe, Int.reduceBEq, Int.reduceBNe, String.reduceEq]; first | done | rfl | (simp (disch := omega) only [w_nat, w_add, w_addl, w_addr, w_sub, w_subl, w_mul, w_mull, w_mulr, w_u32, w_u16, w_u8, w_u32a, N_zero]; first | done | rfl))
      · skip
        have hil : i = l.length := by simp at c1; omega
        subst hil
        rw [List.take_length]
        refine AWp.exit ?_
        try simp only [thenQ, blockQ, noGo, reduceIte, Nat.reduceEqDiff]
        refine hK4 _ ?_
        refine AWp.seqK fun K10 hK10 => ?_
        refine AWp.pubD 2 ?_
        refine AWp.drS [[(4, none)], [(0, none)], [(35, some 1)], [(36, some 2)], [(37, some 3)], [(38, some 4)], [(34, some 0), (39, some 5)], [(0, none)], [(40, some 6), (41, some 7)], [(42, some 8)]] fun G hG => ?_
        refine Dr.sim ?_
        try simp only [List.cons_append, List.nil_append]
        refine Dr.sim ?_
        try simp only [List.cons_append, List.nil_append]
        refine Dr.idx (0) (partA false q) ?_ ?_
        · exact hat
        try simp only [List.cons_append, List.nil_append]
        refine Dr.sim ?_
        try simp only [List.cons_append, List.nil_append]
        refine Dr.sim ?_
        try simp only [List.cons_append, List.nil_append]
        refine Dr.sim ?_
        try simp only [List.cons_append, List.nil_append]
        refine Dr.call (hcut) ?_
        try simp only [List.cons_append, List.nil_append]
        refine Dr.sim ?_
        try simp only [List.cons_append, List.nil_append]
        refine Dr.call (heq) ?_
        try simp only [List.cons_append, List.nil_append]
        refine Dr.sim ?_
        try simp only [List.cons_append, List.nil_append]
        refine Dr.finM (n := 10) [(43, 9)] [2, 4] hG YtoapdhogghbojaaDoor.Facts.mixed fun KD hKD => ?_
        refine ARun2.endm (hKD _ ?_); clear hKD KD hG G
        refine AWp.condLM (fun c2 => ?_) (fun c2 => ?_)
        · skip
          have hr : joinD l = (.zero, false) := joinD_no (by simpa using c2)
          refine AWp.regionW ?_
          refine AWp.ret ?_
          try simp only [thenQ, blockQ, noGo]
          refine bodyQ.m ?_
          clear hK10 K10 hK6 K6 hK5 K5 hK4 K4 hK3 K3 hK2 K2 hK1 K1
          rw [hr]
          try simp only [GPart.zero]
          first | done | exact Wk.go
        · skip
          have hr : joinD l = (joinP l, true) := joinD_yes (by simpa using c2)
          rw [hjp] at hr
          refine AWp.skip ?_
          refine hK10 _ ?_
          refine AWp.regionW ?_
          refine AWp.ret ?_
          try simp only [thenQ, blockQ, noGo]
          refine bodyQ.m ?_
          clear hK10 K10 hK6 K6 hK5 K5 hK4 K4 hK3 K3 hK2 K2 hK1 K1
          rw [hr]
          try simp only [GPart.zero]
          first | done | exact Wk.go
end Go.Proofs.YtoapdhogghbojaaDoor.C
/- wharflaw13: awake, few, DataMost. -/
set_option linter.unusedVariables false
set_option linter.unusedSimpArgs false
namespace Go.Proofs.YtoapdhogghbojaaDoor.C
open Go.Abs
theorem few13_c (p : GPart) : PC Tryd.prog 7 [partA false p] (bool (decide (p.user.length ≤ 1000))) := by
  obtain ⟨inter, tsn, stream, seq, proto, beg, fin, unord, now, user⟩ := p
  refine PC.of_bodyW (by simp only [push_cast]) Tryd.func7 rfl (by rw [Tryd.ntmps7]; simp) ?_
  refine AWp.regionW ?_
  refine AWp.regionW ?_
  refine AWp.ret ?_
  try simp only [thenQ, blockQ, noGo]
  refine bodyQ.m ?_
  first | done | exact Hand.go
def exP : GPart := ⟨false, 7, 0, 0, 0, true, true, false, false, [1, 2, 3, 4, 5]⟩
def exL : List GPart := [⟨false, 7, 0, 0, 0, true, false, false, false, [1, 2]⟩, ⟨false, 8, 0, 0, 0, false, false, false, false, [3, 4]⟩, ⟨false, 9, 0, 0, 0, false, true, false, false, [5]⟩]
theorem exP_ok : exP.Ok := ⟨by decide, by decide, by decide, by decide, by decide⟩
theorem exL_ok : FewL exL := ⟨by decide, by decide, by
  intro p hp
  simp only [exL, List.mem_cons, List.not_mem_nil, or_false] at hp
  rcases hp with rfl | rfl | rfl <;> exact ⟨⟨by decide, by decide, by decide, by decide⟩, by decide⟩⟩
set_option maxRecDepth 100000 in
set_option maxHeartbeats 1000000 in
theorem awake13_c : PC Tryd.prog 6 [] (bool true) := by
  have w0 : rightD exP = true := by kernel_rfl
  have k1 := dsplit_c exP 2 exP_ok w0 rfl rfl (by decide) (by decide)
  have w1 : splitR exP 2 = exL := by kernel_rfl
  rw [w1] at k1
  have k2 := djoin13_c exL exL_ok
  have w2 : joinD exL = (exP, true) := by kernel_rfl
  rw [w2] at k2
  have k3 := dmake_c exP exP_ok
  rw [makePt_chunk w0] at k3
  have k4 := dof_c (dataC exP) (small_data exP_ok)
  rw [ofD_data exP_ok w0] at k4
  generalize dataC exP = c at k3 k4
  have k5 := dmake_c ⟨false, 0, 0, 65536, 0, false, false, false, false, [1]⟩ ⟨by decide, by decide, by decide, by decide, by decide⟩
  have w5 : rightD ⟨false, 0, 0, 65536, 0, false, false, false, false, [1]⟩ = false := by kernel_rfl
  rw [makePt_no w5] at k5
  have k6 := dsame_c exP exP (by decide) (by decide) (by decide)
  rw [sameP_self] at k6
  have k7 := dmost_c false 17 (by decide)
  unfold exP at k1 k2 k3 k4 k6
  unfold exL at k1 k2
  simp only [GChunk.zero] at k5
  refine PC.of_bodyW (by simp only [push_cast]) Tryd.func6 rfl (by rw [Tryd.ntmps6]; simp) ?_
  refine AWp.regionW ?_
  refine AWp.regionW ?_
  refine AWp.regionM fun K1 hK1 => ?_
  refine ARun2.callM (k1) ?_
  refine ARun2.endm (hK1 _ ?_)
  refine AWp.seqK fun K2 hK2 => ?_
  refine AWp.regionW ?_
  refine AWp.condF ?_
  refine AWp.skip ?_
  refine hK2 _ ?_
  refine AWp.regionM fun K3 hK3 => ?_
  refine ARun2.callM (k2) ?_
  refine ARun2.endm (hK3 _ ?_)
  refine AWp.regionM fun K4 hK4 => ?_
  refine ARun2.callM (k3) ?_
  refine ARun2.endm (hK4 _ ?_)
  refine AWp.regionM fun K5 hK5 => ?_
  refine ARun2.callM (k4) ?_
  refine ARun2.endm (hK5 _ ?_)
  refine AWp.regionM fun K6 hK6 => ?_
  refine ARun2.callM (k5) ?_
  refine ARun2.endm (hK6 _ ?_)
  refine AWp.regionM fun K7 hK7 => ?_
  refine ARun2.indexM (2) (partA true ⟨false, 9, 0, 0, 0, false, true, false, false, [5]⟩) ?_ ?_
  · exact rfl
  refine ARun2.indexM (2) (partA true ⟨false, 9, 0, 0, 0, false, true, false, false, [5]⟩) ?_ ?_
  · exact rfl
  refine ARun2.indexM (2) (partA true ⟨false, 9, 0, 0, 0, false, true, false, false, [5]⟩) ?_ ?_
  · exact rfl
  refine ARun2.indexM (2) (partA true ⟨false, 9, 0, 0, 0, false, true, false, false, [5]⟩) ?_ ?_
  · exact rfl
  refine ARun2.callM (k6) ?_
  refine ARun2.callM (k6) ?_
  refine ARun2.callM (k7) ?_
  refine ARun2.endm (hK7 _ ?_)
  refine AWp.ret ?_
  try simp only [thenQ, blockQ, noGo]
  refine bodyQ.m ?_
  clear hK7 K7 hK6 K6 hK5 K5 hK4 K4 hK3 K3 hK2 K2 hK1 K1
  first | done | exact Hand.go
theorem bys_rep (n : Nat) : bys (List.replicate n 0) = List.replicate n (.val (.int .u8 0)) := by simp [bys, N]
theorem dataMost_c (inter : Bool) (size : Nat) (hs : size < 2 ^ 16) : PC Tryd.prog 5 [bool inter, u16 size] (bool true) := by
  have k1 := dmost_c inter size hs
  obtain ⟨hd, hhd⟩ : ∃ hd : Nat, hd = bif inter then 20 else 16 := ⟨_, rfl⟩
  rw [← hhd] at k1
  have hk : 1 ≤ size - hd → ∃ c : GChunk, PC Tryd.prog 15 [.agg [bool inter, u32 0, u16 0, u32 0, u32 0, bool false, bool false, bool false, bool false, .sl false 1 (List.replicate (size - hd) (.val (.int .u8 0)))]] (.tup [chunkA true c, bool true]) ∧ PC Tryd.prog 16 [chunkA false c] (nat size) := by
    intro h1
    have hr : rightD ⟨inter, 0, 0, 0, 0, false, false, false, false, List.replicate (size - hd) 0⟩ = true := by
      unfold rightD
      simp only [List.length_replicate]
      cases inter <;> simp only [cond_true, cond_false] at hhd ⊢ <;> simp <;> omega
    have hl : (dataC ⟨inter, 0, 0, 0, 0, false, false, false, false, List.replicate (size - hd) 0⟩).data.length = size - 4 := by
      show (dataP _).length = _
      rw [dataP_len]
      simp only [List.length_replicate]
      cases inter <;> simp only [cond_true, cond_false] at hhd ⊢ <;> omega
    have hz : nSize ([] : List GNode) = 0 := by simp [nSize, nLens, tlvSize, sumUp]
    have k2 := dmake_c ⟨inter, 0, 0, 0, 0, false, false, false, false, List.replicate (size - hd) 0⟩ ⟨by show (0 : Nat) < _; decide, by show (0 : Nat) < _; decide, by show (0 : Nat) < _; decide, by show (0 : Nat) < _; decide, by show (List.replicate _ _).length ≤ _; rw [List.length_replicate]; omega⟩
    rw [makePt_chunk hr] at k2
    have k3 := csize_c (dataC ⟨inter, 0, 0, 0, 0, false, false, false, false, List.replicate (size - hd) 0⟩) (by rw [hl]; omega) (by show nSize [] ≤ _; rw [hz]; omega)
    rw [hl, show (dataC ⟨inter, 0, 0, 0, 0, false, false, false, false, List.replicate (size - hd) 0⟩).kids = [] from rfl, hz, show 4 + (size - 4) + 0 = size by cases inter <;> simp only [cond_true, cond_false] at hhd <;> omega] at k3
    refine ⟨_, ?_, k3⟩
    simpa only [partA, bys_rep] using k2
  refine PC.of_bodyW (by simp only [push_cast]) Tryd.func5 rfl (by rw [Tryd.ntmps5]; simp) ?_
  refine AWp.regionW ?_
  refine AWp.seqK fun K1 hK1 => ?_
  refine AWp.regionM fun K2 hK2 => ?_
  refine ARun2.callM (awake13_c) ?_
  refine ARun2.endm (hK2 _ ?_)
  refine AWp.condF ?_
  refine AWp.skip ?_
  refine hK1 _ ?_
  refine AWp.regionM fun K3 hK3 => ?_
  refine ARun2.callM (k1) ?_
  refine ARun2.endm (hK3 _ ?_)
  refine AWp.regionW ?_
  refine AWp.seqK fun K4 hK4 => ?_
  refine AWp.regionW ?_
  refine AWp.condLM (fun c1 => ?_) (fun c1 => ?_)
  · skip
    have hin : inter = true := by simpa using c1
    subst hin
    have hh : hd = 20 := hhd
    subst hh
    refine AWp.regionV ?_
    refine hK4 _ ?_
    refine AWp.seqK fun K5 hK5 => ?_
    refine AWp.regionW ?_
    refine AWp.condLM (fun c2 => ?_) (fun c2 => ?_)
    · skip
      have hz : size ≤ 20 := by simp at c2; omega
      refine AWp.regionW ?_
      refine AWp.ret ?_
      try simp only [thenQ, blockQ, noGo]
      refine bodyQ.m ?_
      clear hK5 K5 hK4 K4 hK3 K3 hK2 K2 hK1 K1
      first | done | (rw [decide_eq_true hz]; done) | (rw [decide_eq_true hz]; exact Hand.go) | exact Hand.go
      first | done | exact Hand.go
    · skip
      have hz : 20 < size := by simp at c2; omega
      obtain ⟨c, k2, k3⟩ := hk (by omega)
      refine AWp.skip ?_
      refine hK5 _ ?_
      refine AWp.regionM fun K6 hK6 => ?_
      refine ARun2.makeM (size - 20) ?_ ?_
      · omega
      refine ARun2.callM (k2) ?_
      refine ARun2.endm (hK6 _ ?_)
      refine AWp.regionM fun K7 hK7 => ?_
      refine ARun2.callM (k3) ?_
      refine ARun2.endm (hK7 _ ?_)
      refine AWp.ret ?_
      try simp only [thenQ, blockQ, noGo]
      refine bodyQ.m ?_
      clear hK7 K7 hK6 K6 hK5 K5 hK4 K4 hK3 K3 hK2 K2 hK1 K1
      first | done | (rw [decide_eq_true hz]; done) | (rw [decide_eq_true hz]; exact Hand.go) | exact Hand.go
      first | done | exact Hand.go
  · skip
    have hin : inter = false := by simpa using c1
    subst hin
    have hh : hd = 16 := hhd
    subst hh
    refine AWp.skip ?_
    refine hK4 _ ?_
    refine AWp.seqK fun K8 hK8 => ?_
    refine AWp.regionW ?_
    refine AWp.condLM (fun c2 => ?_) (fun c2 => ?_)
    · skip
      have hz : size ≤ 16 := by simp at c2; omega
      refine AWp.regionW ?_
      refine AWp.ret ?_
      try simp only [thenQ, blockQ, noGo]
      refine bodyQ.m ?_
      clear hK8 K8 hK4 K4 hK3 K3 hK2 K2 hK1 K1
      first | done | (rw [decide_eq_true hz]; done) | (rw [decide_eq_true hz]; exact Hand.go) | exact Hand.go
      first | done | exact Hand.go
    · skip
      have hz : 16 < size := by simp at c2; omega
      obtain ⟨c, k2, k3⟩ := hk (by omega)
      refine AWp.skip ?_
      refine hK8 _ ?_
      refine AWp.regionM fun K9 hK9 => ?_
      refine ARun2.makeM (size - 16) ?_ ?_
      · omega
      refine ARun2.callM (k2) ?_
      refine ARun2.endm (hK9 _ ?_)
      refine AWp.regionM fun K10 hK10 => ?_
      refine ARun2.callM (k3) ?_
      refine ARun2.endm (hK10 _ ?_)
      refine AWp.ret ?_
      try simp only [thenQ, blockQ, noGo]
      refine bodyQ.m ?_
      clear hK10 K10 hK9 K9 hK8 K8 hK4 K4 hK3 K3 hK2 K2 hK1 K1
      first | done | (rw [decide_eq_true hz]; done) | (rw [decide_eq_true hz]; exact Hand.go) | exact Hand.go
      first | done | exact Hand.go
end Go.Proofs.YtoapdhogghbojaaDoor.C
/- From the statement's reading to abstract values, and back. No condition. -/
namespace Go.Abs
open Go.ChangeShapes Go.WideShapes Go.RowKit
set_option linter.unusedVariables false
set_option linter.unusedSectionVars false
set_option linter.unusedSimpArgs false
/-- all that is there when the call begins -/
abbrev Old (W : World) : Nat → Prop := fun b => b < W.heap.size
theorem RW.start (W : World) : RW (E0 W.heap.size W (Old W) []) [] [] (Old W) W :=
  { ep := Nat.le_refl _, os := rfl, tape := rfl, output := rfl, size := Nat.le_refl _, block := fun _ _ _ => rfl, pre := fun k v h => by simp at h, bsub := fun _ h => h, bnew := fun _ h => .inl h,
    blt := fun _ h => h, len := rfl, obs := fun k o h => by simp at h, dis := fun i j o o' u v b _ h => by simp at h, prv := fun k o v b h => by simp at h }
theorem PC.answers {P : Program} {f : FuncId} {ys : List AV} {v : Value} (h : PC P f ys (.val v)) {W : World} (hg : Globs W (Old W) []) {args : Array Value} (ha : RelL W (Old W) W.heap.size [] ys args.toList) :
    Calls P f args W fun e W' => e = .returned v ∧ Below W.heap.size W W' := by
  have := h.2 W.heap.size W [] (Old W) args.toList hg (RW.start W) ha (fun e W' => e = .returned v ∧ Below W.heap.size W W') (by
    rintro r' v' τ' ρ' B' w' ⟨rfl, rfl⟩ hw hr
    cases hr
    exact ⟨rfl, ⟨hw.os, hw.tape, hw.output, hw.size, fun k hk => hw.block k hk ⟨fun ⟨u, hu, _⟩ => by simp at hu, fun h => by cases h⟩⟩⟩)
  simpa using this
section
variable {H : Type} {enc : TypeId × Value → H} {P : Program} {W W' : World}
theorem trodAll_stays (hl : laidOutB P = true) (hb : Below W.heap.size W W') {sp' : Nat → Bool} : ∀ {ts : List TypeId} {vs : List Value} {ds : List (DataW H)} {ps : List MemPlace}, (∀ t ∈ ts, P.readableRec t = true ∧ t < P.types.size) →
    DataW.TrodAll enc P W 0 (fun _ => true) true ts vs ds ps → (∀ p ∈ ps, p.block < W.heap.size) → (∀ p ∈ ps, sp' p.block = true) → DataW.TrodAll enc P W' 0 sp' true ts vs ds ps
  | [], _, _, _, _, h, _, _ => by
    obtain ⟨rfl, rfl, rfl⟩ := trodAll_nil h
    rfl
  | t :: ts, _, _, _, ht, h, hlt, hs => by
    obtain ⟨v, vs1, d, ds1, a, b, rfl, rfl, rfl, h1, h2⟩ := trodAll_cons h
    have := ht t (by simp)
    exact ⟨a, b, WideElems.Trod_stays hl this.1 this.2 h1 (fun x hx => hb.same (hlt x (by simp [hx]))) (fun x hx => hs x (by simp [hx])),
      trodAll_stays hl hb (fun u hu => ht u (by simp [hu])) h2 (fun x hx => hlt x (by simp [hx])) (fun x hx => hs x (by simp [hx])), rfl⟩
/-- a law holds: it answers true, and all that was there is as it was -/
theorem post_true {f : Func} {s : ChangeSpec} {fresh : Bool} {args : Array Value} {ds gs : List (DataW H)} {before : List MemPlace} {tb : TypeId}
    (hW : DataW.Whole enc P f.params.toList s.vars false W args.toList ds gs before) (hv : s.vars = []) (hs : s.fn H (ds ++ gs) = { results := [.lit (.bool true)], args := ds }) (hr : f.resultTypes = #[tb]) (hb : P.underlying tb = some .bool)
    (hl : laidOutB P = true) (ht : (f.params.toList.all fun t => P.readableRec t && decide (t < P.types.size)) = true) (hB : Below W.heap.size W W') :
    s.post enc P f false fresh false false W args (.bool true) W' := by
  have hW0 := hW
  obtain ⟨p, q, hA, hV, rfl, hfz, _⟩ := hW
  rw [hv] at hV
  have hg : gs = [] ∧ q = [] := by
    cases gs with
    | nil => exact ⟨rfl, hV⟩
    | cons g gs => exact hV.elim
  obtain ⟨rfl, rfl⟩ := hg
  have hlt : ∀ x ∈ p ++ [], x.block < W.heap.size := fun x hx => by simpa using hW0.lt x hx
  refine ⟨ds, [], p ++ [], [], p, [], hW0, ?_, ?_, ?_, ?_, fun h => by cases h⟩
  · rw [hs, hr]
    exact trodAll_cons_mk (p := []) (p' := []) (shut_bool hb _) trodAll_mk0
  · rw [hs]
    refine trodAll_stays hl hB (fun t h => ?_) hA (fun x hx => hlt x (by simp [hx])) (fun x hx => by simpa using hlt x (by simp [hx]))
    have := List.all_eq_true.1 ht t h
    simpa using this
  · rw [hs, hv]; exact rfl
  · refine ⟨hB.os, hB.output, fun i hi => ?_⟩
    rw [hB.block i hi]
    cases W.heap[i]? with
    | none => rfl
    | some o => cases o <;> simp
theorem addr_of_cell {w : World} {a : Addr} {v : Value} (h : w.cell? a = some v) : a.spot = none := by
  unfold World.cell? at h
  split at h
  · split at h
    · cases h
    · rename_i hs; cases hh : a.spot <;> simp_all
  · cases h
/-- a slice of numbers, read -/
theorem rel_ints0 {t e : TypeId} {k : IntKind} {v : Value} {d : DataW H} {ps : List MemPlace} {fuel : Nat} (ht : P.underlying t = some (.slice e)) (he : P.underlying e = some (.int k)) (hc : P.cellsOf e = 1)
    (hf : DataW.trod enc P W 0 (fun _ => true) true fuel t [v] = some (d, ps)) :
    ∃ (zs : List Int), Rel W (Old W) W.heap.size [] (.sl false 1 (zs.map fun n => .val (.int k n))) v ∧ (∀ n ∈ zs, (Lit.int k n).wf = true) ∧ ((d = .nil ∧ zs = []) ∨ ∃ rest, d = .slice (lits k zs) rest) := by
  rcases open_ints ht he hc hf with ⟨h1, h2⟩ | ⟨a, len, cap, zs, h1, h2, h3, h4, h5, h6, h7, h8⟩
  · simp only [List.cons.injEq, and_true] at h1
    subst h1
    exact ⟨[], .slE _ _ _ _, by simp, .inl ⟨congrArg Prod.fst h2, rfl⟩⟩
  · simp only [List.cons.injEq, and_true] at h1
    subst h1
    simp only [if_true] at h5
    refine ⟨zs.take len, ?_, fun n hn => h8 n (List.mem_of_mem_take hn), .inr ⟨_, congrArg Prod.fst h6⟩⟩
    have hlen : (zs.take len).length = len := by rw [List.length_take]; omega
    cases hq : zs.take len with
    | nil =>
      rw [hq] at hlen
      simp at hlen
      subst hlen
      exact .slE _ _ _ _
    | cons z l =>
      have hpos : 0 < zs.length := by rw [hq] at hlen; simp at hlen; omega
      have h0 := h7 0 hpos
      have hsp : a.spot = none := addr_of_cell (show W.cell? a = _ from h0)
      obtain ⟨b, o, sp⟩ := a
      simp only at hsp
      subst hsp
      have hblk : b < W.heap.size := by
        have := World.block_lt_of_cell? W _ h0
        simpa [Addr.add] using this
      rw [hq] at hlen
      simp only [List.length_cons] at hlen
      subst hlen
      have hrow := RelRow.mk (w := W) (B := Old W) (bs := W.heap.size) (ρ := []) (nw := false) (b := b) (sz := 1) (o := o) (xs := (z :: l).map fun n => AV.val (.int k n)) (vs := (z :: l).map fun n => Value.int k n) hblk (fun h => by cases h) ?_ ?_ ?_
      · have := Rel.sl (cap := cap) (by simpa using hrow) (by simpa using h3)
        simpa using this
      · have : (((z :: l).map fun n => AV.val (.int k n)).flatMap AV.cells) = ((z :: l).map fun n => Value.int k n).map AV.val := by
          generalize z :: l = m
          induction m with
          | nil => rfl
          | cons x m ih => simp only [List.map_cons, List.flatMap_cons, ih]; rfl
        rw [this]
        have key : ∀ l : List Value, RelL W (Old W) W.heap.size [] (l.map AV.val) l := fun l => by induction l with
          | nil => exact .nil
          | cons x l ih => exact .cons (.val x) ih
        exact key _
      · intro x hx
        simp only [List.mem_map] at hx
        obtain ⟨n, _, rfl⟩ := hx
        exact ⟨rfl, fun c hc => by simp [AV.cells] at hc; subst hc; rfl⟩
      · intro j v hj
        rw [← hq, List.getElem?_map, List.getElem?_take] at hj
        split at hj
        · rename_i hjl
          simp only [Option.map_eq_some_iff] at hj
          obtain ⟨n, hn, rfl⟩ := hj
          have hlt : j < zs.length := by have := List.getElem?_eq_some_iff.1 hn; exact this.1
          have := h7 j hlt
          rw [addr_add] at this
          rw [this, List.getD_eq_getElem?_getD, hn]; rfl
        · simp at hj
end
end Go.Abs
/- Nodes, read. -/
set_option linter.unusedVariables false
set_option linter.unusedSimpArgs false
namespace Go.Proofs.YtoapdhogghbojaaDoor.C
open Go.Abs Go.ChangeShapes Go.WideShapes Go.ChangeAt Go.RowKit
theorem own : ownKnob Tryd.prog.godebug = none := by kernel_rfl
theorem laidOut : laidOutB Tryd.prog = true := by kernel_rfl
theorem nat_of {n : Int} {m : Nat} (h : 0 ≤ n ∧ n ≤ m) : ∃ x : Nat, n = N x ∧ x < m + 1 := ⟨n.toNat, by unfold N; omega, by omega⟩
theorem u16_of {n : Int} (h : (Lit.int .u16 n).wf = true) : ∃ m : Nat, n = N m ∧ m < 2 ^ 16 := nat_of (m := 65535) (by simpa [Lit.wf, IntKind.min, IntKind.max, IntKind.signed, IntKind.bits] using h)
theorem u32_of {n : Int} (h : (Lit.int .u32 n).wf = true) : ∃ m : Nat, n = N m ∧ m < 2 ^ 32 := nat_of (m := 4294967295) (by simpa [Lit.wf, IntKind.min, IntKind.max, IntKind.signed, IntKind.bits] using h)
theorem int_bounds {k : IntKind} {n : Int} (h : (Lit.int k n).wf = true) : k.min ≤ n ∧ n ≤ k.max := by simpa [Lit.wf] using h
theorem bys_of {zs : List Int} (h : ∀ n ∈ zs, (Lit.int .u8 n).wf = true) : (zs.map fun n => AV.val (.int .u8 n)) = bys (zs.map fun n => UInt8.ofNat n.toNat) := by
  unfold bys
  rw [List.map_map]
  refine List.map_congr_left fun n hn => ?_
  have h2 : 0 ≤ n ∧ n ≤ 255 := by simpa [Lit.wf, IntKind.min, IntKind.max, IntKind.signed, IntKind.bits] using h n hn
  have h3 : N (UInt8.ofNat n.toNat).toNat = n := by
    rw [UInt8.toNat_ofNat']; unfold N; omega
  show AV.val (.int .u8 n) = .val (.int .u8 (N (UInt8.ofNat n.toNat).toNat))
  rw [h3]
theorem bulk_one {H : Type} (d : DataW H) : 1 ≤ Rows.uptoBulk d := by
  cases d with
  | lit l => cases l <;> simp [Rows.uptoBulk]
  | _ => simp [Rows.uptoBulk]
theorem bulk_len {H : Type} : ∀ l : List (DataW H), l.length ≤ Rows.uptoBulkAll l
  | [] => by simp [Rows.uptoBulkAll]
  | x :: r => by
    have h1 := bulk_one x
    have h2 := bulk_len r
    simp only [Rows.uptoBulkAll, List.length_cons]; omega
theorem bulk_lits' {H : Type} (k : IntKind) (zs : List Int) (rest : List (DataW H)) : zs.length + 1 ≤ Rows.uptoBulk (.slice (lits k zs) rest : DataW H) := by
  have := bulk_len (lits k zs : List (DataW H))
  simp only [lits, List.length_map] at this
  simp only [Rows.uptoBulk, lits]
  omega
section
variable {H : Type} {enc : TypeId × Value → H} {W : World}
/-- bytes -/
theorem rel_bytes0 {v : Value} {d : DataW H} {ps : List MemPlace} {fuel : Nat} (hf : DataW.trod enc Tryd.prog W 0 (fun _ => true) true fuel 24 [v] = some (d, ps)) :
    ∃ l : List UInt8, Rel W (Old W) W.heap.size [] (.sl false 1 (bys l)) v ∧ l.length ≤ Rows.uptoBulk d := by
  have hc : Tryd.prog.cellsOf 5 = 1 := by kernel_rfl
  obtain ⟨zs, k0, k1, k2⟩ := rel_ints0 Tryd.underlying24 Tryd.underlying5 hc hf
  rw [bys_of k1] at k0
  refine ⟨_, k0, ?_⟩
  rw [List.length_map]
  rcases k2 with ⟨_, rfl⟩ | ⟨rest, rfl⟩
  · simp
  · have := bulk_lits' .u8 zs rest; omega
end
end Go.Proofs.YtoapdhogghbojaaDoor.C
/- What a datum of numbers and texts says of the cells that read as it. -/
set_option linter.unusedVariables false
set_option linter.unusedSimpArgs false
namespace Go.Proofs.YtoapdhogghbojaaDoor.C
mutual
def flatD : DataW Unit → List Value
  | .lit (.int k n) => [.int k n]
  | .lit (.string s) => [.string ⟨s.toArray⟩]
  | .agg ps => flatDs ps
  | _ => []
def flatDs : List (DataW Unit) → List Value
  | [] => []
  | d :: r => flatD d ++ flatDs r
end
theorem flatDs_flatMap : ∀ l : List (DataW Unit), flatDs l = l.flatMap flatD
  | [] => rfl
  | d :: r => by rw [flatDs, flatDs_flatMap r, List.flatMap_cons]
section
variable {P : Program} {W : World}
/-- what reads as a datum is its cells -/
def Flat (P : Program) (W : World) (t : TypeId) : Prop := ∀ (fuel : Nat) (cs : List Value) (x : DataW Unit × List MemPlace), DataW.trod (fun _ => ()) P W 0 (fun _ => true) false fuel t cs = some x → cs = flatD x.1
theorem flat_int {t : TypeId} {k : IntKind} (h : P.underlying t = some (.int k)) : Flat P W t := by
  intro fuel cs x hx
  obtain ⟨n, rfl, rfl, _⟩ := DataW.trod_int h hx
  rfl
theorem flat_string {t : TypeId} (h : P.underlying t = some .string) : Flat P W t := by
  intro fuel cs x hx
  obtain ⟨s, rfl, rfl, _⟩ := DataW.trod_string h hx
  simp [flatD]
theorem blocks_flat (f : DataW Unit × List MemPlace → List Value) (m : Nat) : ∀ (xs : List (DataW Unit × List MemPlace)) (cs : List Value), cs.length = xs.length * m → (∀ i x, xs[i]? = some x → (cs.drop (i * m)).take m = f x) → cs = xs.flatMap f
  | [], cs, h, _ => by simpa using h
  | x :: r, cs, h, hk => by
    have h0 := hk 0 x rfl
    rw [Nat.zero_mul, List.drop_zero] at h0
    have ih := blocks_flat f m r (cs.drop m) (by rw [List.length_drop, h, List.length_cons, Nat.succ_mul]; omega) fun i y hy => by
      have := hk (i + 1) y hy
      rwa [Nat.succ_mul, Nat.add_comm, ← List.drop_drop] at this
    rw [List.flatMap_cons, ← h0, ← ih, List.take_append_drop]
theorem flat_of_parts {xs : List (DataW Unit × List MemPlace)} : flatD (.agg (xs.map (·.1))) = xs.flatMap fun x => flatD x.1 := by
  rw [flatD, flatDs_flatMap, List.flatMap_map]
theorem flat_array {t e : TypeId} {n : Nat} (ht : P.underlying t = some (.array n e)) (hc : P.cellsOf t = n * P.cellsOf e) (he : Flat P W e) : Flat P W t := by
  intro fuel cs x hx
  obtain ⟨xs, m, rfl, rfl, hl, hn, hk⟩ := DataW.trod_array ht hx
  show cs = flatD (.agg (xs.map (·.1)))
  rw [flat_of_parts]
  refine blocks_flat _ (P.cellsOf e) xs cs (by rw [hl, hc, hn]) fun i y hy => ?_
  have hi : i < n := by rw [← hn]; exact (List.getElem?_eq_some_iff.1 hy).1
  have := hk i hi
  rw [hy] at this
  exact he _ _ _ this
theorem flat_struct {t : TypeId} {fs : Array Field} (ht : P.underlying t = some (.struct fs)) (hc : P.cellsOf t = fs.size) (hf : ∀ (i : Nat) (f : Field), fs[i]? = some f → f.offset = i ∧ P.cellsOf f.type = 1 ∧ Flat P W f.type) : Flat P W t := by
  intro fuel cs x hx
  obtain ⟨xs, m, rfl, rfl, hl, hn, hk⟩ := DataW.trod_struct ht hx
  show cs = flatD (.agg (xs.map (·.1)))
  rw [flat_of_parts]
  refine blocks_flat _ 1 xs cs (by rw [hl, hc, hn, Nat.mul_one]) fun i y hy => ?_
  have hi : i < fs.size := by rw [← hn]; exact (List.getElem?_eq_some_iff.1 hy).1
  obtain ⟨h1, h2, h3⟩ := hf i fs[i] (Array.getElem?_eq_getElem hi)
  have := hk i fs[i] (Array.getElem?_eq_getElem hi)
  rw [hy, h1, h2] at this
  rw [Nat.mul_one]
  exact h3 _ _ _ this
/-- a listed variable's cells -/
theorem laid_cells {l : List (String × DataW Unit)} (h : laidMet P l W) {n : String} {d : DataW Unit} {g : Nat} {t : TypeId} {L : List Value} (hm : (n, d) ∈ l) (hg : P.globalNamed n = some g) (ht : (P.globals[g]?).map (·.type) = some t) (hf : Flat P W t) (hd : flatD d = L) :
    ∀ (i : Nat) (v : Value), L[i]? = some v → W.cell? ⟨g, i, none⟩ = some v := by
  obtain ⟨ps, hv, _⟩ := h
  have key : ∀ {l : List (String × DataW Unit)} {ps : List MemPlace}, DataW.LaidVars P W l ps → (n, d) ∈ l → ∃ cs fuel p, W.var? P n = some cs ∧ DataW.trod (fun _ => ()) P W 0 (fun _ => true) false fuel t cs.toList = some (d, p) := by
    intro l
    induction l with
    | nil => intro ps _ hm; cases hm
    | cons y r ih =>
      intro ps hv hm
      obtain ⟨g', t', cs, fuel, p, q, h1, h2, h3, h4, h5, _⟩ := hv
      rcases List.mem_cons.1 hm with e | e
      · cases e
        obtain rfl := Option.some.inj (hg.symm.trans h1)
        obtain rfl := Option.some.inj (ht.symm.trans h2)
        exact ⟨cs, fuel, p, h3, h4⟩
      · exact ih h5 e
  obtain ⟨cs, fuel, p, h1, h2⟩ := key hv hm
  have h3 : cs.toList = L := (hf _ _ _ h2).trans hd
  intro i v hi
  rw [World.var?_cell hg h1 i, ← Array.getElem?_toList, h3]
  exact hi
end
end Go.Proofs.YtoapdhogghbojaaDoor.C
/- What the rows' list of package-level variables gives: the tables of kinds, the cell of errors.errorType; a world that meets the list. -/
set_option linter.unusedVariables false
set_option linter.unusedSimpArgs false
namespace Go.Proofs.YtoapdhogghbojaaDoor.C
open Go.Abs Go.ChangeShapes Go.WideShapes Go.ChangeAt Go.RowKit
def laidL : List (String × DataW Unit) := [("errors.errorType", Rows.laid_errors_errorType), ("wharf/kind.table", Rows.laid_wharf_kind_table), ("wharf/kind.inside", Rows.laid_wharf_kind_inside)]
def etCells : List Value := [.iface 152 (.agg #[.pointer (some ⟨3, 61, none⟩)])]
theorem etG : Tryd.prog.globalNamed "errors.errorType" = some 2 := by kernel_rfl
theorem etRt : (Tryd.prog.cutTypes.find? (·.1 == "internal/reflectlite.rtype")).map (·.2) = some 152 := by kernel_rfl
theorem etRow : ((List.range Tryd.prog.types.size).filter fun t => Tryd.prog.rowNamed t [101, 114, 114, 111, 114]) = [61] := by kernel_rfl
theorem etHandle : typeHandle Tryd.prog 61 = .pointer (some ⟨3, 61, none⟩) := by kernel_rfl
theorem laid_parts {W : World} (h : laidMetH Tryd.prog laidL W) : laidMet Tryd.prog [("wharf/kind.table", Rows.laid_wharf_kind_table), ("wharf/kind.inside", Rows.laid_wharf_kind_inside)] W ∧ handlesMet Tryd.prog [("errors.errorType", Rows.laid_errors_errorType)] W := h
theorem handle_of_laid {W : World} (h : laidMetH Tryd.prog laidL W) : W.cell? ⟨2, 0, none⟩ = some (.iface 152 (.agg #[.pointer (some ⟨3, 61, none⟩)])) := by
  have h' := laid_parts h
  obtain ⟨name, u, ty, e1, e2, e3, e4, e5⟩ := h'.2 _ (List.mem_singleton.2 rfl)
  have en : name = [101, 114, 114, 111, 114] := (Option.some.inj e1).symm
  subst en
  obtain rfl := Option.some.inj (etRt.symm.trans e2)
  have hm : ty ∈ (List.range Tryd.prog.types.size).filter fun t => Tryd.prog.rowNamed t [101, 114, 114, 111, 114] := List.mem_filter.2 ⟨List.mem_range.2 e3, e4⟩
  rw [etRow] at hm
  obtain rfl := List.mem_singleton.1 hm
  rw [etHandle] at e5
  simpa using World.var?_cell etG e5 0
theorem cell_lt {W : World} {b i : Nat} {v : Value} (h : W.cell? ⟨b, i, none⟩ = some v) : b < W.heap.size := by
  rcases Nat.lt_or_ge b W.heap.size with h' | h'
  · exact h'
  · simp [World.cell?, Array.getElem?_eq_none h'] at h
theorem flat_kinds (W : World) : Flat Tryd.prog W 103 := by
  have h1 : Flat Tryd.prog W 5 := flat_int Tryd.underlying5
  have h2 : Flat Tryd.prog W 3 := flat_int Tryd.underlying3
  have h3 : Flat Tryd.prog W 9 := flat_string Tryd.underlying9
  refine flat_array Tryd.underlying103 (by kernel_rfl) (flat_struct Tryd.underlying80 (by kernel_rfl) fun i f hf => ?_)
  match i, hf with
  | 0, hf => simp at hf; subst hf; exact ⟨rfl, by kernel_rfl, h1⟩
  | 1, hf => simp at hf; subst hf; exact ⟨rfl, by kernel_rfl, h3⟩
  | 2, hf => simp at hf; subst hf; exact ⟨rfl, by kernel_rfl, h1⟩
  | 3, hf => simp at hf; subst hf; exact ⟨rfl, by kernel_rfl, h2⟩
  | 4, hf => simp at hf; subst hf; exact ⟨rfl, by kernel_rfl, h2⟩
  | 5, hf => simp at hf; subst hf; exact ⟨rfl, by kernel_rfl, h2⟩
  | 6, hf => simp at hf; subst hf; exact ⟨rfl, by kernel_rfl, h2⟩
  | i + 7, hf => simp at hf
theorem flat_inside (W : World) : Flat Tryd.prog W 106 :=
  flat_array Tryd.underlying106 (by kernel_rfl) (flat_array Tryd.underlying105 (by kernel_rfl) (flat_int Tryd.underlying3))
theorem cells_table {W : World} (h : laidMetH Tryd.prog laidL W) : GlobC W 0 kcells :=
  laid_cells (laid_parts h).1 (.head _) (by kernel_rfl) (by kernel_rfl) (flat_kinds W) (by kernel_rfl)
theorem cells_inside {W : World} (h : laidMetH Tryd.prog laidL W) : GlobC W 1 icells :=
  laid_cells (laid_parts h).1 (.tail _ (.head _)) (by kernel_rfl) (by kernel_rfl) (flat_inside W) (by kernel_rfl)
theorem cells_et {W : World} (h : laidMetH Tryd.prog laidL W) : GlobC W 2 etCells := by
  intro i v hi
  match i with
  | 0 => simp [etCells] at hi; subst hi; exact handle_of_laid h
  | i + 1 => simp [etCells] at hi
theorem glb_eq : glb = [(0, kcells), (1, icells), (2, etCells)] := by kernel_rfl
theorem globs_of_laid {W : World} (h : laidMetH Tryd.prog laidL W) : Globs W (Old W) [] := by
  intro p hp
  rw [glb_eq] at hp
  simp only [List.mem_cons, List.not_mem_nil, or_false] at hp
  rcases hp with rfl | rfl | rfl
  · exact ⟨cell_lt (cells_table h 0 _ rfl), fun v hv => (by cases hv), cells_table h⟩
  · exact ⟨cell_lt (cells_inside h 0 _ rfl), fun v hv => (by cases hv), cells_inside h⟩
  · exact ⟨cell_lt (handle_of_laid h), fun v hv => (by cases hv), cells_et h⟩
def setCells (cs : List Value) : Obj → Obj
  | .cells _ t frozen => .cells cs.toArray t frozen
  | o => o
noncomputable def laidWorld (os : Os) : World :=
  let w0 := World.holding Tryd.prog os ⟨#[], #[], []⟩
  { w0 with heap := ((w0.heap.modify 0 (setCells kcells)).modify 1 (setCells icells)).modify 2 (setCells etCells) }
theorem laid_met (os : Os) (args : Array Value) : laidMetH Tryd.prog laidL ((laidWorld os).forCall (fun _ _ => 0) ⟨#[], args, []⟩).memory :=
  laidMetH_of_parts (laidMet_of_run' 8 (by kernel_rfl) (by kernel_rfl)) (by kernel_rfl)
end Go.Proofs.YtoapdhogghbojaaDoor.C
/- Chunks, read. -/
set_option linter.unusedVariables false
set_option linter.unusedSimpArgs false
namespace Go.Proofs.YtoapdhogghbojaaDoor.C
open Go.Abs Go.ChangeShapes Go.WideShapes Go.ChangeAt Go.RowKit
section
variable {H : Type} {enc : TypeId × Value → H} {W : World}
end
end Go.Proofs.YtoapdhogghbojaaDoor.C
/- Lists of numbers, read. -/
set_option linter.unusedVariables false
set_option linter.unusedSimpArgs false
namespace Go.Proofs.YtoapdhogghbojaaDoor.C
open Go.Abs Go.ChangeShapes Go.WideShapes Go.ChangeAt Go.RowKit
section
variable {H : Type} {enc : TypeId × Value → H} {W : World}
end
end Go.Proofs.YtoapdhogghbojaaDoor.C
/- wharfref13: Split, Join. -/
set_option linter.unusedVariables false
set_option linter.unusedSimpArgs false
namespace Go.Proofs.YtoapdhogghbojaaDoor.C
open Go.Abs
theorem min_cut (a n b : Nat) (h : a ≤ b) : min (a + n) b = a + min n (b - a) := by omega
set_option maxRecDepth 100000 in
set_option maxHeartbeats 1000000 in
theorem rsplit13_c (p : GPart) (n : Nat) (hn : 1 ≤ n) (hn2 : n ≤ 2 ^ 40) (ht : p.tsn < 2 ^ 32) (hl : p.user.length ≤ 2 ^ 24) : PC Tryd.prog 10 [partA false p, nat n] (.sl false 10 (partsA false (splitR p n))) := by
  obtain ⟨inter, tsn, stream, seq, proto, beg, fin, unord, now, user⟩ := p
  simp only at ht hl
  have hcd : cdiv user.length n ≤ user.length := cdiv_le _ _ hn
  refine PC.of_bodyW (by simp only [push_cast]) Tryd.func10 rfl (by rw [Tryd.ntmps10]; simp) ?_
  refine AWp.regionW ?_
  refine AWp.regionW ?_
  refine AWp.seqK fun K1 hK1 => ?_
  refine AWp.regionW ?_
  refine AWp.block ?_
  -- SLOTS THAT TURN AND ARE NOT TOLD: [5]
  refine AWp.nilOwn 5 26 10 (by simp only [push_cast, ↓reduceIte, Nat.reduceEqDiff, Nat.reduceLT, Nat.reduceAdd, Nat.reduceSub, Nat.reduceMul, Nat.reduceLeDiff, Nat.reducePow, Int.reduceLT, Int.reduceToNat, reduceCtorEq, Int.reduceNeg, Int.reduceEq, Nat.reduceBEq, Nat.reduceBNe, Int.reduceBEq, Int.reduceBNe, String.reduceEq]) ?_
  simp only [push_cast, ↓reduceIte, Nat.reduceEqDiff, Nat.reduceLT, Nat.reduceAdd, Nat.reduceSub, Nat.reduceMul, Nat.reduceLeDiff, Nat.reducePow, Int.reduceLT, Int.reduceToNat, reduceCtorEq, Int.reduceNeg, Int.reduceEq, Nat.reduceBEq, Nat.reduceBNe, Int.reduceBEq, Int.reduceBNe, String.reduceEq]
  refine AWp.loopK [1, 2, 5] (fun (i : Nat) => [(6, nat (i * n))]) (fun i => [.box 26 [bool inter, u32 tsn, u16 stream, u32 seq, u32 proto, bool beg, bool fin, bool unord, bool now, .sl false 1 (bys user)], .row 26 10 (partsA false ((splitR ⟨inter, tsn, stream, seq, proto, beg, fin, unord, now, user⟩ n).take i))]) (fun i => i ≤ cdiv user.length n) (fun i => cdiv user.length n - i) (0) ?_ (Nat.zero_le _) ?_
  · skip
    refine Le.m 2 ?_ ?_
    · try simp only [push_cast, ↓reduceIte, Nat.reduceEqDiff, Nat.reduceLT, Nat.reduceAdd, Nat.reduceSub, Nat.reduceMul, Nat.reduceLeDiff, Nat.reducePow, Int.reduceLT, Int.reduceToNat, reduceCtorEq, Int.reduceNeg, Int.reduceEq, Nat.reduceBEq, Nat.reduceBNe, Int.reduceBEq, Int.reduceBNe, String.reduceEq]
      try simp (disch := omega) only [w_nat, w_add, w_addl, w_addr, w_sub, w_subl, w_mul, w_mull, w_mulr, w_u32, w_u16, w_u8, w_u32a, N_zero]
      first | done | skip
      try rfl
    · simp only [push_cast, ↓reduceIte, Nat.reduceEqDiff, Nat.reduceLT, Nat.reduceAdd, Nat.reduceSub, Nat.reduceMul, Nat.reduceLeDiff, Nat.reducePow, Int.reduceLT, Int.reduceToNat, reduceCtorEq, Int.reduceNeg, Int.reduceEq, Nat.reduceBEq, Nat.reduceBNe, Int.reduceBEq, Int.reduceBNe, String.reduceEq]
      try simp (disch := omega) only [w_nat, w_add, w_addl, w_addr, w_sub, w_subl, w_mul, w_mull, w_mulr, w_u32, w_u16, w_u8, w_u32a, N_zero]
      simp only [Nat.zero_mul] <;> rfl
  · intro i hi K2 hK2
    refine AWp.seqK fun K3 hK3 => ?_
    refine AWp.regionW ?_
    refine AWp.condLM (fun c0 => ?_) (fun c0 => ?_)
    · skip
      have hlt : i * n < user.length := by simpa using c0
      have hil : i < cdiv user.length n := (cdiv_lt hn).2 hlt
      have htl : ((splitR ⟨inter, tsn, stream, seq, proto, beg, fin, unord, now, user⟩ n).take i).length = i := by rw [List.length_take, splitR_len]; exact Nat.min_eq_left hi
      have hsn := splitR_snoc ⟨inter, tsn, stream, seq, proto, beg, fin, unord, now, user⟩ n i hil
      obtain ⟨L, hL⟩ : ∃ L, L = (splitR ⟨inter, tsn, stream, seq, proto, beg, fin, unord, now, user⟩ n).take i := ⟨_, rfl⟩
      rw [← hL] at htl hsn ⊢
      have hcut : List.drop (i * n) (List.take (min (i * n + n) user.length) user) = (user.drop (i * n)).take n := by rw [min_cut _ _ _ (by omega)]; exact chunk_eq n user i
      have hz : (i * n == 0) = (i == 0) := by rw [Bool.eq_iff_iff]; simp only [beq_iff_eq, Nat.mul_eq_zero]; omega
      have hp : decide (0 < i * n) = decide (0 < i) := by rw [decide_eq_decide]; exact ⟨fun h => by rcases Nat.eq_zero_or_pos i with h0 | h0; rw [h0, Nat.zero_mul] at h; omega; exact h0, fun h => Nat.mul_pos h hn⟩
      refine AWp.skip ?_
      refine hK3 _ ?_
      refine AWp.seqK fun K4 hK4 => ?_
      refine AWp.block ?_
      refine AWp.regionW ?_
      refine AWp.regionW ?_
      refine AWp.regionW ?_
      refine AWp.regionW ?_
      refine AWp.regionM fun K5 hK5 => ?_
      refine ARun2.iminM ?_
      refine ARun2.sliceM (i * n) (min (i * n + n) user.length) ?_ ?_ ?_
      · omega
      · rw [bys_len]; omega
      refine ARun2.endm (hK5 _ ?_)
      refine AWp.seqK fun K6 hK6 => ?_
      refine AWp.regionA fun K7 hK7 => ?_
      refine ARun.segm 3 fun KS hKS => ?_
      refine ARun2.endm (hKS _ ?_); clear hKS KS
      apply ARun.grpM 2 2 true 51 [1, 2, 5, 6, 7, 49]
      · intro g2 KG hKG
        refine ARun2.gom ?_
        exact ARun2.endm (hKG _ Le.grpM)
      refine ARun2.gom ?_
      refine ARun2.endm (hK7 _ ?_)
      refine AWp.condLM (fun c1 => ?_) (fun c1 => ?_)
      · skip
        rw [hp] at c1
        refine AWp.regionV ?_
        refine hK6 _ ?_
        refine AWp.regionN fun K8 hK8 => ?_
        refine ARun2.appendM ?_ ?_ ?_
        · rw [YtoapdhogghbojaaDoor.Facts.eb32, partsA_len, htl, List.length_cons, List.length_nil]; omega
        · rw [partsA_len, htl, List.length_cons, List.length_nil]; omega
        refine ARun2.endm (hK8 _ ?_)
        refine hK4 _ ?_
        refine AWp.regionV ?_
        refine hK2 _ (i + 1) (hil) (by omega) ?_
        refine Le.m 2 ?_ ?_
        · try simp only [push_cast, ↓reduceIte, Nat.reduceEqDiff, Nat.reduceLT, Nat.reduceAdd, Nat.reduceSub, Nat.reduceMul, Nat.reduceLeDiff, Nat.reducePow, Int.reduceLT, Int.reduceToNat, reduceCtorEq, Int.reduceNeg, Int.reduceEq, Nat.reduceBEq, Nat.reduceBNe, Int.reduceBEq, Int.reduceBNe, String.reduceEq]
          try simp (disch := omega) only [w_nat, w_add, w_addl, w_addr, w_sub, w_subl, w_mul, w_mull, w_mulr, w_u32, w_u16, w_u8, w_u32a, N_zero]
          first | done | skip
          rw [hsn, partsA_snoc, wrap_tsn, hcut, hz, htl]
          simp only [partA, pieceR, c1, cond_true, cond_false]
          try rfl
        · simp only [push_cast, ↓reduceIte, Nat.reduceEqDiff, Nat.reduceLT, Nat.reduceAdd, Nat.reduceSub, Nat.reduceMul, Nat.reduceLeDiff, Nat.reducePow, Int.reduceLT, Int.reduceToNat, reduceCtorEq, Int.reduceNeg, Int.reduceEq, Nat.reduceBEq, Nat.reduceBNe, Int.reduceBEq, Int.reduceBNe, String.reduceEq]
          try simp (disch := omega) only [w_nat, w_add, w_addl, w_addr, w_sub, w_subl, w_mul, w_mull, w_mulr, w_u32, w_u16, w_u8, w_u32a, N_zero]
          rw [Nat.add_mul, Nat.one_mul]
      · skip
        rw [hp] at c1
        refine AWp.skip ?_
        refine hK6 _ ?_
        refine AWp.regionN fun K9 hK9 => ?_
        refine ARun2.appendM ?_ ?_ ?_
        · rw [YtoapdhogghbojaaDoor.Facts.eb32, partsA_len, htl, List.length_cons, List.length_nil]; omega
        · rw [partsA_len, htl, List.length_cons, List.length_nil]; omega
        refine ARun2.endm (hK9 _ ?_)
        refine hK4 _ ?_
        refine AWp.regionV ?_
        refine hK2 _ (i + 1) (hil) (by omega) ?_
        refine Le.m 2 ?_ ?_
        · try simp only [push_cast, ↓reduceIte, Nat.reduceEqDiff, Nat.reduceLT, Nat.reduceAdd, Nat.reduceSub, Nat.reduceMul, Nat.reduceLeDiff, Nat.reducePow, Int.reduceLT, Int.reduceToNat, reduceCtorEq, Int.reduceNeg, Int.reduceEq, Nat.reduceBEq, Nat.reduceBNe, Int.reduceBEq, Int.reduceBNe, String.reduceEq]
          try simp (disch := omega) only [w_nat, w_add, w_addl, w_addr, w_sub, w_subl, w_mul, w_mull, w_mulr, w_u32, w_u16, w_u8, w_u32a, N_zero]
          first | done | skip
          rw [hsn, partsA_snoc, wrap_tsn, hcut, hz, htl]
          simp only [partA, pieceR, c1, cond_true, cond_false]
          try rfl
        · simp only [push_cast, ↓reduceIte, Nat.reduceEqDiff, Nat.reduceLT, Nat.reduceAdd, Nat.reduceSub, Nat.reduceMul, Nat.reduceLeDiff, Nat.reducePow, Int.reduceLT, Int.reduceToNat, reduceCtorEq, Int.reduceNeg, Int.reduceEq, Nat.reduceBEq, Nat.reduceBNe, Int.reduceBEq, Int.reduceBNe, String.reduceEq]
          try simp (disch := omega) only [w_nat, w_add, w_addl, w_addr, w_sub, w_subl, w_mul, w_mull, w_mulr, w_u32, w_u16, w_u8, w_u32a, N_zero]
          rw [Nat.add_mul, Nat.one_mul]
    · skip
      have hie : i = cdiv user.length n := by
        have h1 : ¬ i * n < user.length := by simpa using c0
        have := mt (cdiv_lt hn (n := user.length) (i := i)).1 h1
        omega
      subst hie
      rw [← splitR_len ⟨inter, tsn, stream, seq, proto, beg, fin, unord, now, user⟩ n, List.take_length]
      refine AWp.exit ?_
      try simp only [thenQ, blockQ, noGo, reduceIte, Nat.reduceEqDiff]
      refine hK1 _ ?_
      refine AWp.pubD 1 ?_
      refine AWp.regionW ?_
      refine AWp.ret ?_
      try simp only [thenQ, blockQ, noGo]
      refine bodyQ.m ?_
      clear hK3 K3 hK2 K2 hK1 K1
      first | done | exact Hand.go
set_option maxRecDepth 100000 in
set_option maxHeartbeats 1000000 in
theorem rjoin13_c (l : List GPart) (hf : FewL l) : PC Tryd.prog 13 [.sl false 10 (partsA false l)] (.tup [partA false (joinD l).1, bool (joinD l).2]) := by
  obtain ⟨hl, hcu, hin⟩ := hf
  obtain ⟨ho, hu⟩ := joinP_in ⟨hl, hcu, hin⟩
  refine PC.of_bodyW (by simp only [push_cast]) Tryd.func13 rfl (by rw [Tryd.ntmps13]; simp) ?_
  refine AWp.regionW ?_
  refine AWp.seqK fun K1 hK1 => ?_
  refine AWp.regionA fun K2 hK2 => ?_
  refine ARun.segm 4 fun KS hKS => ?_
  refine ARun2.endm (hKS _ ?_); clear hKS KS
  apply ARun.grpM 3 3 false 14 [0, 2, 11]
  · intro g3 KG hKG
    refine ARun2.gom ?_
    exact ARun2.endm (hKG _ Le.grpM)
  refine ARun2.gom ?_
  refine ARun2.endm (hK2 _ ?_)
  refine AWp.condLM (fun c0 => ?_) (fun c0 => ?_)
  · skip
    have h0 : l = [] := List.eq_nil_of_length_eq_zero (by simp only [Bool.or_eq_true, beq_iff_eq, decide_eq_true_eq] at c0; omega)
    have hr : joinD l = (.zero, false) := by subst h0; exact joinD_no (by kernel_rfl)
    refine AWp.regionW ?_
    refine AWp.ret ?_
    try simp only [thenQ, blockQ, noGo]
    refine bodyQ.m ?_
    clear hK2 K2 hK1 K1
    rw [hr]
    try simp only [GPart.zero]
    first | done | exact Hand.go
  · skip
    have h0 : 0 < l.length := by simp only [Bool.or_eq_false_iff, beq_eq_false_iff_ne, ne_eq, decide_eq_false_iff_not] at c0; omega
    obtain ⟨q, r, hq⟩ : ∃ q r, l = q :: r := by cases l with | nil => simp at h0 | cons q r => exact ⟨q, r, rfl⟩
    have hat : (partsA false l)[0]? = some (partA false q) := by rw [hq]; rfl
    have hlu : lenU l = q.user.length := by rw [hq]; rfl
    have hbe : begL l = q.beg := by rw [hq]; rfl
    have hqi := hin q (by rw [hq]; simp)
    have hjp : joinP l = ⟨q.inter, q.tsn, q.stream, q.seq, q.proto, q.beg, true, q.unord, q.now, catU l⟩ := by rw [hq]; rfl
    have kr := rright13_c (joinP l)
    rw [hjp] at kr
    have hjr : rightD ⟨q.inter, q.tsn, q.stream, q.seq, q.proto, q.beg, true, q.unord, q.now, catU l⟩ = rightD (joinP l) := by rw [hjp]
    rw [hjr] at kr
    refine AWp.skip ?_
    refine hK1 _ ?_
    refine AWp.regionM fun K3 hK3 => ?_
    refine ARun2.indexM (0) (partA false q) ?_ ?_
    · exact hat
    refine ARun2.endm (hK3 _ ?_)
    refine AWp.regionW ?_
    refine AWp.regionW ?_
    refine AWp.seqK fun K4 hK4 => ?_
    refine AWp.regionW ?_
    refine AWp.block ?_
    refine AWp.nilBox 1 9 5 1 rfl rfl ?_
    simp only [push_cast, ↓reduceIte, Nat.reduceEqDiff, Nat.reduceLT, Nat.reduceAdd, Nat.reduceSub, Nat.reduceMul, Nat.reduceLeDiff, Nat.reducePow, Int.reduceLT, Int.reduceToNat, reduceCtorEq, Int.reduceNeg, Int.reduceEq, Nat.reduceBEq, Nat.reduceBNe, Int.reduceBEq, Int.reduceBNe, String.reduceEq]
    refine AWp.loopK [0, 2, 4] (fun (i : Nat) => [(5, nat i)]) (fun i => [.box 26 [bool false, u32 0, u16 0, u32 0, u32 0, bool false, bool false, bool false, bool false, .val (.slice none 0 0)], .box 26 [bool q.inter, u32 q.tsn, u16 q.stream, u32 q.seq, u32 q.proto, bool q.beg, bool true, bool q.unord, bool q.now, .own 2], .row 5 1 (bys (catU (l.take i)))]) (fun i => i ≤ l.length) (fun i => l.length - i) (0) ?_ (Nat.zero_le _) ?_
    · skip
      refine Le.m 3 ?_ ?_
      · try simp only [push_cast, ↓reduceIte, Nat.reduceEqDiff, Nat.reduceLT, Nat.reduceAdd, Nat.reduceSub, Nat.reduceMul, Nat.reduceLeDiff, Nat.reducePow, Int.reduceLT, Int.reduceToNat, reduceCtorEq, Int.reduceNeg, Int.reduceEq, Nat.reduceBEq, Nat.reduceBNe, Int.reduceBEq, Int.reduceBNe, String.reduceEq]
        try simp (disch := omega) only [w_nat, w_add, w_addl, w_addr, w_sub, w_subl, w_mul, w_mull, w_mulr, w_u32, w_u16, w_u8, w_u32a, N_zero]
        first | done | skip
        rfl
      · first | (simp only [push_cast, ↓reduceIte, Nat.reduceEqDiff, Nat.reduceLT, Nat.reduceAdd, Nat.reduceSub, Nat.reduceMul, Nat.reduceLeDiff, Nat.reducePow, Int.reduceLT, Int.reduceToNat, reduceCtorEq, Int.reduceNeg, Int.reduceEq, Nat.reduceBEq, Nat.reduceBNe, Int.reduceBEq, Int.reduceBNe, String.reduceEq]; first | done | rfl | (simp (disch := omega) only [w_nat, w_add, w_addl, w_addr, w_sub, w_subl, w_mul, w_mull, w_mulr, w_u32, w_u16, w_u8, w_u32a, N_zero]; first | done | rfl))
    · intro i hi K5 hK5
      refine AWp.seqK fun K6 hK6 => ?_
      refine AWp.regionW ?_
      refine AWp.condLM (fun c1 => ?_) (fun c1 => ?_)
      · skip
        have hil : i < l.length := by simpa using c1
        have hc1 := catU_take l i
        have hc2 := (hin l[i] (List.getElem_mem hil)).2
        refine AWp.skip ?_
        refine hK6 _ ?_
        refine AWp.seqK fun K7 hK7 => ?_
        refine AWp.block ?_
        refine AWp.drE [[(4, none)], [(28, some 0)], [(0, none)], [(5, none)], [(30, some 2), (31, some 3)], [(32, some 4)], [(33, some 5)]] fun G hG => ?_
        refine Dr.sim ?_
        try simp only [List.cons_append, List.nil_append]
        refine Dr.sim ?_
        try simp only [List.cons_append, List.nil_append]
        refine Dr.sim ?_
        try simp only [List.cons_append, List.nil_append]
        refine Dr.sim ?_
        try simp only [List.cons_append, List.nil_append]
        refine Dr.idx (i) (partA false l[i]) ?_ ?_
        · exact partsA_at _ _ _ hil
        try simp only [List.cons_append, List.nil_append]
        refine Dr.sim ?_
        try simp only [List.cons_append, List.nil_append]
        refine Dr.sim ?_
        try simp only [List.cons_append, List.nil_append]
        refine Dr.finN (n := 7) [(29, 1), (34, 6)] [0, 2, 4, 5] hG YtoapdhogghbojaaDoor.Facts.mixed fun KD hKD => ?_
        refine ARun2.appendM ?_ ?_ ?_
        · rw [YtoapdhogghbojaaDoor.Facts.eb24, bys_len, bys_len]; omega
        · rw [bys_len, bys_len]; omega
        refine ARun2.endm (hKD _ ?_); clear hKD KD hG G
        refine hK7 _ ?_
        refine AWp.regionV ?_
        refine hK5 _ (i + 1) (by omega) (by omega) ?_
        refine Le.m 3 ?_ ?_
        · try simp only [push_cast, ↓reduceIte, Nat.reduceEqDiff, Nat.reduceLT, Nat.reduceAdd, Nat.reduceSub, Nat.reduceMul, Nat.reduceLeDiff, Nat.reducePow, Int.reduceLT, Int.reduceToNat, reduceCtorEq, Int.reduceNeg, Int.reduceEq, Nat.reduceBEq, Nat.reduceBNe, Int.reduceBEq, Int.reduceBNe, String.reduceEq]
          try simp (disch := omega) only [w_nat, w_add, w_addl, w_addr, w_sub, w_subl, w_mul, w_mull, w_mulr, w_u32, w_u16, w_u8, w_u32a, N_zero]
          first | done | skip
          rw [List.take_succ_eq_append_getElem hil, catU_snoc, bys_append]
        · first | (simp only [push_cast, ↓reduceIte, Nat.reduceEqDiff, Nat.reduceLT, Nat.reduceAdd, Nat.reduceSub, Nat.reduceMul, Nat.reduceLeDiff, Nat.reducePow, Int.reduceLT, Int.reduceToNat, reduceCtorEq, Int.reduceNeg, Int.reduceEq, Nat.reduceBEq, Nat.reduceBNe, Int.reduceBEq, Int.reduceBNe, String.reduceEq]; first | done | rfl | (simp (disch := omega) only [w_nat, w_add, w_addl, w_addr, w_sub, w_subl, w_mul, w_mull, w_mulr, w_u32, w_u16, w_u8, w_u32a, N_zero]; first | done | rfl))
      · skip
        have hil : i = l.length := by simp at c1; omega
        subst hil
        rw [List.take_length]
        refine AWp.exit ?_
        try simp only [thenQ, blockQ, noGo, reduceIte, Nat.reduceEqDiff]
        refine hK4 _ ?_
        refine AWp.seqK fun K8 hK8 => ?_
        refine AWp.pubD 2 ?_
        refine AWp.regionA fun K9 hK9 => ?_
        refine ARun.segm 4 fun KS hKS => ?_
        refine ARun2.callM (kr) ?_
        refine ARun2.endm (hKS _ ?_); clear hKS KS
        apply ARun.grpM 3 3 false 43 [0, 2, 4, 40]
        · intro g3 KG hKG
          refine ARun2.gom ?_
          exact ARun2.endm (hKG _ Le.grpM)
        refine ARun.segm 2 fun KS hKS => ?_
        refine ARun2.endm (hKS _ ?_); clear hKS KS
        apply ARun.grpM 6 8 false 51 [0, 2, 4, 45]
        · intro g8 KG hKG
          refine ARun2.gom ?_
          refine ARun2.indexM (0) (partA false q) ?_ ?_
          · exact hat
          exact ARun2.endm (hKG _ Le.grpM)
        refine ARun2.gom ?_
        refine ARun2.endm (hK9 _ ?_)
        refine AWp.condLM (fun c2 => ?_) (fun c2 => ?_)
        · skip
          have hr : joinD l = (.zero, false) := joinD_no (by
            unfold joinOk
            rw [hbe, hlu]
            revert c2
            cases rightD (joinP l) <;> cases q.beg <;> simp
            intro h h2; exfalso; revert h2; rw [h]; simp)
          refine AWp.regionW ?_
          refine AWp.ret ?_
          try simp only [thenQ, blockQ, noGo]
          refine bodyQ.m ?_
          clear hK9 K9 hK8 K8 hK6 K6 hK5 K5 hK4 K4 hK3 K3 hK2 K2 hK1 K1
          rw [hr]
          try simp only [GPart.zero]
          first | done | exact Hand.go
        · skip
          have hpre : (rightD (joinP l) && begL l && decide (1 ≤ lenU l)) = true := by
            rw [hbe, hlu]
            revert c2
            cases rightD (joinP l) <;> cases q.beg <;> simp
            intro h; exact List.length_pos_iff.2 h
          have hj2 : joinOk l = sameLP (splitR (joinP l) q.user.length) l := by unfold joinOk; rw [hpre, Bool.true_and, hlu]
          simp only [Bool.and_eq_true, decide_eq_true_eq] at hpre
          have kS := rsplit13_c (joinP l) q.user.length (by omega) (by omega) ho.tsn (by omega)
          have hSm := fun x hx => splitR_mem (p := joinP l) (x := x) (n := q.user.length) ho.stream hx
          obtain ⟨S, hSe⟩ : ∃ S, S = splitR (joinP l) q.user.length := ⟨_, rfl⟩
          rw [← hSe] at kS hj2
          rw [← hSe] at hSm
          rw [hjp] at kS
          refine AWp.skip ?_
          refine hK8 _ ?_
          refine AWp.drS [[(4, none)], [(0, none)], [(55, some 1)], [(56, some 2)], [(57, some 3)], [(58, some 4)], [(54, some 0), (59, some 5)], [(60, some 6)]] fun G hG => ?_
          refine Dr.sim ?_
          try simp only [List.cons_append, List.nil_append]
          refine Dr.sim ?_
          try simp only [List.cons_append, List.nil_append]
          refine Dr.idx (0) (partA false q) ?_ ?_
          · exact hat
          try simp only [List.cons_append, List.nil_append]
          refine Dr.sim ?_
          try simp only [List.cons_append, List.nil_append]
          refine Dr.sim ?_
          try simp only [List.cons_append, List.nil_append]
          refine Dr.sim ?_
          try simp only [List.cons_append, List.nil_append]
          refine Dr.call (kS) ?_
          try simp only [List.cons_append, List.nil_append]
          refine Dr.sim ?_
          try simp only [List.cons_append, List.nil_append]
          refine Dr.finM (n := 8) [(6, 7)] [0, 2, 4] hG YtoapdhogghbojaaDoor.Facts.mixed fun KD hKD => ?_
          refine ARun2.endm (hKD _ ?_); clear hKD KD hG G
          refine AWp.seqK fun K10 hK10 => ?_
          refine AWp.regionW ?_
          refine AWp.condLM (fun c3 => ?_) (fun c3 => ?_)
          · skip
            have hr : joinD l = (.zero, false) := joinD_no (by
              rw [hj2]; unfold sameLP
              rw [decide_eq_false (by simpa using c3), Bool.false_and])
            refine AWp.regionW ?_
            refine AWp.ret ?_
            try simp only [thenQ, blockQ, noGo]
            refine bodyQ.m ?_
            clear hK10 K10 hK9 K9 hK8 K8 hK6 K6 hK5 K5 hK4 K4 hK3 K3 hK2 K2 hK1 K1
            rw [hr]
            try simp only [GPart.zero]
            first | done | exact Hand.go
          · skip
            have he : S.length = l.length := by simpa using c3
            refine AWp.skip ?_
            refine hK10 _ ?_
            refine AWp.seqK fun K11 hK11 => ?_
            refine AWp.regionW ?_
            refine AWp.block ?_
            refine AWp.loopK [0, 2, 4, 6] (fun (i : Nat) => [(7, nat i)]) (fun i => [.box 26 [bool false, u32 0, u16 0, u32 0, u32 0, bool false, bool false, bool false, bool false, .val (.slice none 0 0)], .box 26 [bool q.inter, u32 q.tsn, u16 q.stream, u32 q.seq, u32 q.proto, bool q.beg, bool true, bool q.unord, bool q.now, .sl true 1 (bys (catU l))], .gone]) (fun i => i ≤ l.length ∧ ∀ j (hl : j < S.length) (hm : j < l.length), j < i → sameP S[j] l[j] = true) (fun i => l.length - i) (0) ?_ ⟨Nat.zero_le _, fun j _ _ hj => by omega⟩ ?_
            · skip
              refine Le.m 3 ?_ ?_
              · first | with_reducible rfl | (simp only [push_cast, ↓reduceIte, Nat.reduceEqDiff, Nat.reduceLT, Nat.reduceAdd, Nat.reduceSub, Nat.reduceMul, Nat.reduceLeDiff, Nat.reducePow, Int.reduceLT, Int.reduceToNat, reduceCtorEq, Int.reduceNeg, Int.reduceEq, Nat.reduceBEq, Nat.reduceBNe, Int.reduceBEq, Int.reduceBNe, String.reduceEq]; first | done | rfl | (simp (disch := omega) only [w_nat, w_add, w_addl, w_addr, w_sub, w_subl, w_mul, w_mull, w_mulr, w_u32, w_u16, w_u8, w_u32a, N_zero]; first | done | rfl))
              · first | (simp only [push_cast, ↓reduceIte, Nat.reduceEqDiff, Nat.reduceLT, Nat.reduceAdd, Nat.reduceSub, Nat.reduceMul, Nat.reduceLeDiff, Nat.reducePow, Int.reduceLT, Int.reduceToNat, reduceCtorEq, Int.reduceNeg, Int.reduceEq, Nat.reduceBEq, Nat.reduceBNe, Int.reduceBEq, Int.reduceBNe, String.reduceEq]; first | done | rfl | (simp (disch := omega) only [w_nat, w_add, w_addl, w_addr, w_sub, w_subl, w_mul, w_mull, w_mulr, w_u32, w_u16, w_u8, w_u32a, N_zero]; first | done | rfl))
            · intro i hi K12 hK12
              refine AWp.seqK fun K13 hK13 => ?_
              refine AWp.regionW ?_
              refine AWp.condLM (fun c4 => ?_) (fun c4 => ?_)
              · skip
                have hil : i < l.length := by simpa using c4
                have hiS : i < S.length := by omega
                have ks := same13_c S[i] l[i] (by have := (hSm S[i] (List.getElem_mem hiS)).2; omega)
                refine AWp.skip ?_
                refine hK13 _ ?_
                refine AWp.seqK fun K14 hK14 => ?_
                refine AWp.block ?_
                refine AWp.drS [[(6, none)], [(7, none)], [(73, some 0), (74, some 1)], [(75, some 2)], [(0, none)], [(7, none)], [(77, some 4), (78, some 5)], [(79, some 6)], [(76, some 3), (80, some 7)], [(81, some 8)]] fun G hG => ?_
                refine Dr.sim ?_
                try simp only [List.cons_append, List.nil_append]
                refine Dr.sim ?_
                try simp only [List.cons_append, List.nil_append]
                refine Dr.idx (i) (partA false S[i]) ?_ ?_
                · exact partsA_at _ _ _ hiS
                try simp only [List.cons_append, List.nil_append]
                refine Dr.sim ?_
                try simp only [List.cons_append, List.nil_append]
                refine Dr.sim ?_
                try simp only [List.cons_append, List.nil_append]
                refine Dr.sim ?_
                try simp only [List.cons_append, List.nil_append]
                refine Dr.idx (i) (partA false l[i]) ?_ ?_
                · exact partsA_at _ _ _ hil
                try simp only [List.cons_append, List.nil_append]
                refine Dr.sim ?_
                try simp only [List.cons_append, List.nil_append]
                refine Dr.call (ks) ?_
                try simp only [List.cons_append, List.nil_append]
                refine Dr.sim ?_
                try simp only [List.cons_append, List.nil_append]
                refine Dr.finM (n := 10) [(82, 9)] [0, 2, 4, 6, 7] hG YtoapdhogghbojaaDoor.Facts.mixed fun KD hKD => ?_
                refine ARun2.endm (hKD _ ?_); clear hKD KD hG G
                refine AWp.condLM (fun c5 => ?_) (fun c5 => ?_)
                · skip
                  have hne : sameP S[i] l[i] = false := by simpa using c5
                  have hr : joinD l = (.zero, false) := joinD_no (by rw [hj2]; exact sameLP_at hiS hil hne)
                  refine AWp.regionW ?_
                  refine AWp.ret ?_
                  try simp only [thenQ, blockQ, noGo]
                  refine bodyQ.m ?_
                  clear hK14 K14 hK13 K13 hK12 K12 hK11 K11 hK10 K10 hK9 K9 hK8 K8 hK6 K6 hK5 K5 hK4 K4 hK3 K3 hK2 K2 hK1 K1
                  rw [hr]
                  try simp only [GPart.zero]
                  first | done | exact Hand.go
                · skip
                  have heq : sameP S[i] l[i] = true := by simpa using c5
                  refine AWp.skip ?_
                  refine hK14 _ ?_
                  refine AWp.regionV ?_
                  refine hK12 _ (i + 1) (⟨hil, fun j hl hm hj => (Nat.lt_or_ge j i).elim (fun h => hi.2 j hl hm h) (fun h => by have e : j = i := (by omega); subst e; exact heq)⟩) (by omega) ?_
                  refine Le.m 3 ?_ ?_
                  · first | with_reducible rfl | (simp only [push_cast, ↓reduceIte, Nat.reduceEqDiff, Nat.reduceLT, Nat.reduceAdd, Nat.reduceSub, Nat.reduceMul, Nat.reduceLeDiff, Nat.reducePow, Int.reduceLT, Int.reduceToNat, reduceCtorEq, Int.reduceNeg, Int.reduceEq, Nat.reduceBEq, Nat.reduceBNe, Int.reduceBEq, Int.reduceBNe, String.reduceEq]; first | done | rfl | (simp (disch := omega) only [w_nat, w_add, w_addl, w_addr, w_sub, w_subl, w_mul, w_mull, w_mulr, w_u32, w_u16, w_u8, w_u32a, N_zero]; first | done | rfl))
                  · first | (simp only [push_cast, ↓reduceIte, Nat.reduceEqDiff, Nat.reduceLT, Nat.reduceAdd, Nat.reduceSub, Nat.reduceMul, Nat.reduceLeDiff, Nat.reducePow, Int.reduceLT, Int.reduceToNat, reduceCtorEq, Int.reduceNeg, Int.reduceEq, Nat.reduceBEq, Nat.reduceBNe, Int.reduceBEq, Int.reduceBNe, String.reduceEq]; first | done | rfl | (simp (disch := omega) only [w_nat, w_add, w_addl, w_addr, w_sub, w_subl, w_mul, w_mull, w_mulr, w_u32, w_u16, w_u8, w_u32a, N_zero]; first | done | rfl))
              · skip
                have hr : joinD l = (joinP l, true) := joinD_yes (by rw [hj2]; exact sameLP_all he (fun j hl hm => hi.2 j hl hm (by simp at c4; omega)))
                rw [hjp] at hr
                refine AWp.exit ?_
                try simp only [thenQ, blockQ, noGo, reduceIte, Nat.reduceEqDiff]
                refine hK11 _ ?_
                refine AWp.regionW ?_
                refine AWp.ret ?_
                try simp only [thenQ, blockQ, noGo]
                refine bodyQ.m ?_
                clear hK13 K13 hK12 K12 hK11 K11 hK10 K10 hK9 K9 hK8 K8 hK6 K6 hK5 K5 hK4 K4 hK3 K3 hK2 K2 hK1 K1
                rw [hr]
                try simp only [GPart.zero]
                first | done | exact Hand.go
end Go.Proofs.YtoapdhogghbojaaDoor.C
/- wharflaw13: DataSplits, DataJoins. -/
set_option linter.unusedVariables false
set_option linter.unusedSimpArgs false
namespace Go.Proofs.YtoapdhogghbojaaDoor.C
open Go.Abs
theorem dataJoins_big (l : List GPart) (h : 30 < l.length) (hl : l.length ≤ 2 ^ 40) : PC Tryd.prog 4 [.sl false 10 (partsA false l)] (bool true) := by
  refine PC.of_bodyW (by simp only [push_cast]) Tryd.func4 rfl (by rw [Tryd.ntmps4]; simp) ?_
  refine AWp.regionW ?_
  refine AWp.seqK fun K1 hK1 => ?_
  refine AWp.regionM fun K2 hK2 => ?_
  refine ARun2.callM (awake13_c) ?_
  refine ARun2.endm (hK2 _ ?_)
  refine AWp.condLM (fun c0 => ?_) (fun c0 => ?_)
  · skip
    refine AWp.regionM fun K3 hK3 => ?_
    refine ARun2.callM (awake13_c) ?_
    refine ARun2.endm (hK3 _ ?_)
    refine AWp.ret ?_
    try simp only [thenQ, blockQ, noGo]
    refine bodyQ.m ?_
    clear hK3 K3 hK2 K2 hK1 K1
    first | done | exact Hand.go
  · skip
    exfalso; simp at c0; omega
set_option maxRecDepth 100000 in
theorem dataJoins_w (l : List GPart) (h : l.length ≤ 30) (hin : ∀ p ∈ l, partIn p) (hus : ∀ p ∈ l, p.user.length ≤ 2 ^ 20) : PC Tryd.prog 4 [.sl false 10 (partsA false l)] (bool true) := by
  refine PC.of_bodyW (by simp only [push_cast]) Tryd.func4 rfl (by rw [Tryd.ntmps4]; simp) ?_
  refine AWp.regionW ?_
  refine AWp.seqK fun K1 hK1 => ?_
  refine AWp.regionM fun K2 hK2 => ?_
  refine ARun2.callM (awake13_c) ?_
  refine ARun2.endm (hK2 _ ?_)
  refine AWp.condLM (fun c0 => ?_) (fun c0 => ?_)
  · skip
    exfalso; simp at c0; omega
  · skip
    refine AWp.skip ?_
    refine hK1 _ ?_
    refine AWp.regionW ?_
    refine AWp.seqK fun K3 hK3 => ?_
    refine AWp.regionW ?_
    refine AWp.block ?_
    -- SLOTS THAT TURN AND ARE NOT TOLD: [3]
    refine AWp.nilOwn 3 31 10 (by simp only [push_cast, ↓reduceIte, Nat.reduceEqDiff, Nat.reduceLT, Nat.reduceAdd, Nat.reduceSub, Nat.reduceMul, Nat.reduceLeDiff, Nat.reducePow, Int.reduceLT, Int.reduceToNat, reduceCtorEq, Int.reduceNeg, Int.reduceEq, Nat.reduceBEq, Nat.reduceBNe, Int.reduceBEq, Int.reduceBNe, String.reduceEq]) ?_
    simp only [push_cast, ↓reduceIte, Nat.reduceEqDiff, Nat.reduceLT, Nat.reduceAdd, Nat.reduceSub, Nat.reduceMul, Nat.reduceLeDiff, Nat.reducePow, Int.reduceLT, Int.reduceToNat, reduceCtorEq, Int.reduceNeg, Int.reduceEq, Nat.reduceBEq, Nat.reduceBNe, Int.reduceBEq, Int.reduceBNe, String.reduceEq]
    refine AWp.loopK [0, 3] (fun (i : Nat) => [(4, nat i)]) (fun i => [.row 31 10 (partsA false (l.take i))]) (fun i => i ≤ l.length ∧ ∀ j (hj : j < l.length), j < i → l[j].user.length ≤ 1000) (fun i => l.length - i) (0) ?_ ⟨Nat.zero_le _, fun j _ hj => by omega⟩ ?_
    · skip
      refine Le.m 1 ?_ ?_
      · try simp only [push_cast, ↓reduceIte, Nat.reduceEqDiff, Nat.reduceLT, Nat.reduceAdd, Nat.reduceSub, Nat.reduceMul, Nat.reduceLeDiff, Nat.reducePow, Int.reduceLT, Int.reduceToNat, reduceCtorEq, Int.reduceNeg, Int.reduceEq, Nat.reduceBEq, Nat.reduceBNe, Int.reduceBEq, Int.reduceBNe, String.reduceEq]
        try simp (disch := omega) only [w_nat, w_add, w_addl, w_addr, w_sub, w_subl, w_mul, w_mull, w_mulr, w_u32, w_u16, w_u8, w_u32a, N_zero]
        first | done | skip
        try rfl
      · first | (simp only [push_cast, ↓reduceIte, Nat.reduceEqDiff, Nat.reduceLT, Nat.reduceAdd, Nat.reduceSub, Nat.reduceMul, Nat.reduceLeDiff, Nat.reducePow, Int.reduceLT, Int.reduceToNat, reduceCtorEq, Int.reduceNeg, Int.reduceEq, Nat.reduceBEq, Nat.reduceBNe, Int.reduceBEq, Int.reduceBNe, String.reduceEq]; first | done | rfl | (simp (disch := omega) only [w_nat, w_add, w_addl, w_addr, w_sub, w_subl, w_mul, w_mull, w_mulr, w_u32, w_u16, w_u8, w_u32a, N_zero]; first | done | rfl))
    · intro i hi K4 hK4
      refine AWp.seqK fun K5 hK5 => ?_
      refine AWp.regionW ?_
      refine AWp.condLM (fun c1 => ?_) (fun c1 => ?_)
      · skip
        have hil : i < l.length := by simpa using c1
        have kf := few13_c l[i]
        have htl : (l.take i).length = i := by rw [List.length_take]; exact Nat.min_eq_left hi.1
        refine AWp.skip ?_
        refine hK5 _ ?_
        refine AWp.seqK fun K6 hK6 => ?_
        refine AWp.block ?_
        refine AWp.seqK fun K7 hK7 => ?_
        refine AWp.regionM fun K8 hK8 => ?_
        refine ARun2.indexM (i) (partA false l[i]) ?_ ?_
        · exact partsA_at _ _ _ hil
        refine ARun2.callM (kf) ?_
        refine ARun2.endm (hK8 _ ?_)
        refine AWp.condLM (fun c2 => ?_) (fun c2 => ?_)
        · skip
          refine AWp.regionW ?_
          refine AWp.ret ?_
          try simp only [thenQ, blockQ, noGo]
          refine bodyQ.m ?_
          clear hK8 K8 hK7 K7 hK6 K6 hK5 K5 hK4 K4 hK3 K3 hK2 K2 hK1 K1
          first | done | exact Hand.go | (simp; done) | (simp; exact Hand.go)
          first | done | exact Hand.go
        · skip
          have hfw : l[i].user.length ≤ 1000 := by simpa using c2
          refine AWp.skip ?_
          refine hK7 _ ?_
          refine AWp.regionN fun K9 hK9 => ?_
          refine ARun2.indexM (i) (partA false l[i]) ?_ ?_
          · exact partsA_at _ _ _ hil
          refine ARun2.appendM ?_ ?_ ?_
          · rw [YtoapdhogghbojaaDoor.Facts.eb29, partsA_len, htl, List.length_cons, List.length_nil]; omega
          · rw [partsA_len, htl, List.length_cons, List.length_nil]; omega
          refine ARun2.endm (hK9 _ ?_)
          refine hK6 _ ?_
          refine AWp.regionV ?_
          refine hK4 _ (i + 1) (⟨hil, fun j hj h => (Nat.lt_or_ge j i).elim (fun h => hi.2 j hj h) (fun h => by have e : j = i := (by omega); subst e; exact hfw)⟩) (by omega) ?_
          refine Le.m 1 ?_ ?_
          · try simp only [push_cast, ↓reduceIte, Nat.reduceEqDiff, Nat.reduceLT, Nat.reduceAdd, Nat.reduceSub, Nat.reduceMul, Nat.reduceLeDiff, Nat.reducePow, Int.reduceLT, Int.reduceToNat, reduceCtorEq, Int.reduceNeg, Int.reduceEq, Nat.reduceBEq, Nat.reduceBNe, Int.reduceBEq, Int.reduceBNe, String.reduceEq]
            try simp (disch := omega) only [w_nat, w_add, w_addl, w_addr, w_sub, w_subl, w_mul, w_mull, w_mulr, w_u32, w_u16, w_u8, w_u32a, N_zero]
            first | done | skip
            rw [List.take_succ_eq_append_getElem hil, partsA_snoc]
            rfl
          · first | (simp only [push_cast, ↓reduceIte, Nat.reduceEqDiff, Nat.reduceLT, Nat.reduceAdd, Nat.reduceSub, Nat.reduceMul, Nat.reduceLeDiff, Nat.reducePow, Int.reduceLT, Int.reduceToNat, reduceCtorEq, Int.reduceNeg, Int.reduceEq, Nat.reduceBEq, Nat.reduceBNe, Int.reduceBEq, Int.reduceBNe, String.reduceEq]; first | done | rfl | (simp (disch := omega) only [w_nat, w_add, w_addl, w_addr, w_sub, w_subl, w_mul, w_mull, w_mulr, w_u32, w_u16, w_u8, w_u32a, N_zero]; first | done | rfl))
      · skip
        have hil : i = l.length := by have := hi.1; simp at c1; omega
        subst hil
        have hf := fewL_of h (fun p hp => ⟨hin p hp, by obtain ⟨j, hj, rfl⟩ := List.mem_iff_getElem.1 hp; exact hi.2 j hj hj⟩)
        have k1 := djoin13_c l hf
        have k2 := rjoin13_c l hf
        have hju : (joinD l).1.user.length ≤ 2 ^ 20 := by
          unfold joinD; split
          · exact (joinP_in hf).2
          · show 0 ≤ _; omega
        have k3 := same13_c (joinD l).1 (joinD l).1 (by omega)
        rw [sameP_self] at k3
        generalize (joinD l).1 = J at k1 k2 k3
        generalize (joinD l).2 = jb at k1 k2
        obtain ⟨inter, tsn, stream, seq, proto, beg, fin, unord, now, user⟩ := J
        refine AWp.exit ?_
        try simp only [thenQ, blockQ, noGo, reduceIte, Nat.reduceEqDiff]
        refine hK3 _ ?_
        refine AWp.pubD 0 ?_
        rw [List.take_length]
        refine AWp.regionM fun K10 hK10 => ?_
        refine ARun2.callM (k1) ?_
        refine ARun2.endm (hK10 _ ?_)
        refine AWp.regionM fun K11 hK11 => ?_
        refine ARun2.callM (k2) ?_
        refine ARun2.endm (hK11 _ ?_)
        refine AWp.regionM fun K12 hK12 => ?_
        refine ARun2.callM (k3) ?_
        refine ARun2.boolEqM ?_
        refine ARun2.endm (hK12 _ ?_)
        refine AWp.ret ?_
        try simp only [thenQ, blockQ, noGo]
        refine bodyQ.m ?_
        clear hK12 K12 hK11 K11 hK10 K10 hK5 K5 hK4 K4 hK3 K3 hK2 K2 hK1 K1
        first | done | exact Hand.go | (simp; done) | (simp; exact Hand.go)
        first | done | exact Hand.go
theorem dataSplits_big (p : GPart) (z : Int) (h : ¬ p.user.length ≤ 1000) : PC Tryd.prog 3 [partA false p, .val (.int .i64 z)] (bool true) := by
  have kf := few13_c p
  rw [decide_eq_false h] at kf
  refine PC.of_bodyW (by simp only [push_cast]) Tryd.func3 rfl (by rw [Tryd.ntmps3]; simp) ?_
  refine AWp.regionW ?_
  refine AWp.seqK fun K1 hK1 => ?_
  refine AWp.regionM fun K2 hK2 => ?_
  refine ARun2.callM (awake13_c) ?_
  refine ARun2.callM (kf) ?_
  refine ARun2.endm (hK2 _ ?_)
  refine AWp.condT ?_
  refine AWp.regionM fun K3 hK3 => ?_
  refine ARun2.callM (awake13_c) ?_
  refine ARun2.endm (hK3 _ ?_)
  refine AWp.ret ?_
  try simp only [thenQ, blockQ, noGo]
  refine bodyQ.m ?_
  clear hK3 K3 hK2 K2 hK1 K1
  first | done | exact Hand.go
set_option maxHeartbeats 1000000 in
theorem dataSplits_no (p : GPart) (z : Int) (hp : p.Ok) (h : p.user.length ≤ 1000) (hs : (rightD p && p.beg && p.fin && decide (1 ≤ z)) = false) : PC Tryd.prog 3 [partA false p, .val (.int .i64 z)] (bool true) := by
  have kf := few13_c p
  rw [decide_eq_true h] at kf
  have k1 := dsplit_no p z hp hs
  have k2 := rright13_c p
  generalize rightD p = R at k2 hs
  obtain ⟨inter, tsn, stream, seq, proto, beg, fin, unord, now, user⟩ := p
  simp only at hs
  refine PC.of_bodyW (by simp only [push_cast]) Tryd.func3 rfl (by rw [Tryd.ntmps3]; simp) ?_
  refine AWp.regionW ?_
  refine AWp.seqK fun K1 hK1 => ?_
  refine AWp.regionM fun K2 hK2 => ?_
  refine ARun2.callM (awake13_c) ?_
  refine ARun2.callM (kf) ?_
  refine ARun2.endm (hK2 _ ?_)
  refine AWp.condF ?_
  refine AWp.skip ?_
  refine hK1 _ ?_
  refine AWp.regionM fun K3 hK3 => ?_
  refine ARun2.callM (k1) ?_
  refine ARun2.endm (hK3 _ ?_)
  refine AWp.seqK fun K4 hK4 => ?_
  refine AWp.regionA fun K5 hK5 => ?_
  refine ARun.segm 4 fun KS hKS => ?_
  refine ARun2.callM (k2) ?_
  refine ARun2.endm (hKS _ ?_); clear hKS KS
  apply ARun.grpM 3 3 false 27 [1, 2, 5, 24]
  · intro g3 KG hKG
    refine ARun2.gom ?_
    exact ARun2.endm (hKG _ Le.grpM)
  refine ARun.segm 2 fun KS hKS => ?_
  refine ARun2.endm (hKS _ ?_); clear hKS KS
  apply ARun.grpM 3 8 false 32 [1, 2, 5, 29]
  · intro g8 KG hKG
    refine ARun2.gom ?_
    exact ARun2.endm (hKG _ Le.grpM)
  refine ARun.segm 2 fun KS hKS => ?_
  refine ARun2.endm (hKS _ ?_); clear hKS KS
  apply ARun.grpM 2 13 false 36 [1, 2, 5, 34]
  · intro g13 KG hKG
    refine ARun2.gom ?_
    exact ARun2.endm (hKG _ Le.grpM)
  refine ARun2.gom ?_
  refine ARun2.endm (hK5 _ ?_)
  refine AWp.condLM (fun c1 => ?_) (fun c1 => ?_)
  · skip
    refine AWp.regionW ?_
    refine AWp.ret ?_
    try simp only [thenQ, blockQ, noGo]
    refine bodyQ.m ?_
    clear hK5 K5 hK4 K4 hK3 K3 hK2 K2 hK1 K1
    first | done | exact Hand.go
  · skip
    exfalso
    revert c1 hs
    cases R <;> cases beg <;> cases fin <;> simp <;> omega
set_option maxRecDepth 100000 in
set_option maxHeartbeats 1000000 in
theorem dataSplits_yes (p : GPart) (n : Nat) (hp : p.Ok) (h : p.user.length ≤ 1000) (hr : rightD p = true) (hb : p.beg = true) (hf : p.fin = true) (hn : 1 ≤ n) (hn2 : n < 2 ^ 63) : PC Tryd.prog 3 [partA false p, nat n] (bool true) := by
  have kf := few13_c p
  rw [decide_eq_true h] at kf
  have k1 := dsplit_c p n hp hr hb hf hn hn2
  have k2 := rright13_c p
  rw [hr] at k2
  have hl := right_len hr
  have k3 := rsplit13_c p (min n 5000) (by omega) (by omega) hp.tsn (by have := hp.user; omega)
  rw [splitR_min p n 5000 hl (by omega)] at k3
  have hcd : cdiv p.user.length n ≤ p.user.length := cdiv_le _ _ hn
  have hSL : (splitR p n).length ≤ 1000 := by rw [splitR_len]; omega
  have hSm : ∀ x ∈ splitR p n, partIn x ∧ x.user.length ≤ 2 ^ 20 := by
    intro x hx
    have hx2 := splitR_mem (n := n) hp.stream hx
    unfold splitR at hx
    obtain ⟨k, hk, rfl⟩ := List.mem_map.1 hx
    have hkl := List.mem_range.1 hk
    refine ⟨⟨Nat.mod_lt _ (by decide), hp.stream, hp.seq, ?_⟩, by omega⟩
    show (bif p.inter && decide (0 < k) then k else p.proto) < 2 ^ 32
    have := hp.proto
    cases p.inter && decide (0 < k)
    · exact hp.proto
    · show k < 2 ^ 32; omega
  have hFL : FewL (splitR p n) := ⟨by omega, by rw [catU_split p n hn]; omega, hSm⟩
  have k4 := djoin13_c _ hFL
  rw [join_split hp hr hb hf n hn] at k4
  have k5 := same13_c p p (by omega)
  rw [sameP_self] at k5
  have k6 : ∀ i (hi : i < (splitR p n).length), PC Tryd.prog 11 [partA false (splitR p n)[i], partA false (splitR p n)[i]] (bool true) := by
    intro i hi
    have := same13_c (splitR p n)[i] (splitR p n)[i] (by have := (hSm _ (List.getElem_mem hi)).2; omega)
    rwa [sameP_self] at this
  generalize splitR p n = S at k1 k3 k4 k6 hSL
  clear hSm hFL
  obtain ⟨inter, tsn, stream, seq, proto, beg, fin, unord, now, user⟩ := p
  simp only at hb hf
  subst hb; subst hf
  refine PC.of_bodyW (by simp only [push_cast]) Tryd.func3 rfl (by rw [Tryd.ntmps3]; simp) ?_
  refine AWp.regionW ?_
  refine AWp.seqK fun K1 hK1 => ?_
  refine AWp.regionM fun K2 hK2 => ?_
  refine ARun2.callM (awake13_c) ?_
  refine ARun2.callM (kf) ?_
  refine ARun2.endm (hK2 _ ?_)
  refine AWp.condF ?_
  refine AWp.skip ?_
  refine hK1 _ ?_
  refine AWp.regionM fun K3 hK3 => ?_
  refine ARun2.callM (k1) ?_
  refine ARun2.endm (hK3 _ ?_)
  refine AWp.seqK fun K4 hK4 => ?_
  refine AWp.regionM fun K5 hK5 => ?_
  refine ARun2.callM (k2) ?_
  refine ARun2.endm (hK5 _ ?_)
  refine AWp.condLM (fun c1 => ?_) (fun c1 => ?_)
  · skip
    exfalso; simp at c1; omega
  · skip
    refine AWp.skip ?_
    refine hK4 _ ?_
    refine AWp.regionM fun K6 hK6 => ?_
    refine ARun2.iminM ?_
    refine ARun2.endm (hK6 _ ?_)
    refine AWp.regionM fun K7 hK7 => ?_
    refine ARun2.callM (k3) ?_
    refine ARun2.endm (hK7 _ ?_)
    refine AWp.seqK fun K8 hK8 => ?_
    refine AWp.regionW ?_
    refine AWp.condF ?_
    refine AWp.skip ?_
    refine hK8 _ ?_
    refine AWp.seqK fun K9 hK9 => ?_
    refine AWp.regionW ?_
    refine AWp.block ?_
    refine AWp.loopK [2, 5, 6] (fun (i : Nat) => [(7, nat i)]) (fun i => [.box 26 [bool inter, u32 tsn, u16 stream, u32 seq, u32 proto, bool true, bool true, bool unord, bool now, .sl false 1 (bys user)]]) (fun i => i ≤ S.length) (fun i => S.length - i) (0) ?_ (Nat.zero_le _) ?_
    · skip
      refine Le.m 1 ?_ ?_
      · try simp only [push_cast, ↓reduceIte, Nat.reduceEqDiff, Nat.reduceLT, Nat.reduceAdd, Nat.reduceSub, Nat.reduceMul, Nat.reduceLeDiff, Nat.reducePow, Int.reduceLT, Int.reduceToNat, reduceCtorEq, Int.reduceNeg, Int.reduceEq, Nat.reduceBEq, Nat.reduceBNe, Int.reduceBEq, Int.reduceBNe, String.reduceEq]
        try simp (disch := omega) only [w_nat, w_add, w_addl, w_addr, w_sub, w_subl, w_mul, w_mull, w_mulr, w_u32, w_u16, w_u8, w_u32a, N_zero]
        first | done | skip
        try rfl
      · first | (simp only [push_cast, ↓reduceIte, Nat.reduceEqDiff, Nat.reduceLT, Nat.reduceAdd, Nat.reduceSub, Nat.reduceMul, Nat.reduceLeDiff, Nat.reducePow, Int.reduceLT, Int.reduceToNat, reduceCtorEq, Int.reduceNeg, Int.reduceEq, Nat.reduceBEq, Nat.reduceBNe, Int.reduceBEq, Int.reduceBNe, String.reduceEq]; first | done | rfl | (simp (disch := omega) only [w_nat, w_add, w_addl, w_addr, w_sub, w_subl, w_mul, w_mull, w_mulr, w_u32, w_u16, w_u8, w_u32a, N_zero]; first | done | rfl))
    · intro i hi K10 hK10
      refine AWp.seqK fun K11 hK11 => ?_
      refine AWp.regionW ?_
      refine AWp.condLM (fun c3 => ?_) (fun c3 => ?_)
      · skip
        have hil : i < S.length := by simpa using c3
        have ks := k6 i hil
        refine AWp.skip ?_
        refine hK11 _ ?_
        refine AWp.seqK fun K12 hK12 => ?_
        refine AWp.block ?_
        refine AWp.drS [[(5, none)], [(7, none)], [(57, some 0), (58, some 1)], [(59, some 2)], [(6, none)], [(7, none)], [(61, some 4), (62, some 5)], [(63, some 6)], [(60, some 3), (64, some 7)], [(65, some 8)]] fun G hG => ?_
        refine Dr.sim ?_
        try simp only [List.cons_append, List.nil_append]
        refine Dr.sim ?_
        try simp only [List.cons_append, List.nil_append]
        refine Dr.idx (i) (partA true S[i]) ?_ ?_
        · exact partsA_at _ _ _ hil
        try simp only [List.cons_append, List.nil_append]
        refine Dr.sim ?_
        try simp only [List.cons_append, List.nil_append]
        refine Dr.sim ?_
        try simp only [List.cons_append, List.nil_append]
        refine Dr.sim ?_
        try simp only [List.cons_append, List.nil_append]
        refine Dr.idx (i) (partA false S[i]) ?_ ?_
        · exact partsA_at _ _ _ hil
        try simp only [List.cons_append, List.nil_append]
        refine Dr.sim ?_
        try simp only [List.cons_append, List.nil_append]
        refine Dr.call (ks) ?_
        try simp only [List.cons_append, List.nil_append]
        refine Dr.sim ?_
        try simp only [List.cons_append, List.nil_append]
        refine Dr.finM (n := 10) [(66, 9)] [2, 5, 6, 7] hG YtoapdhogghbojaaDoor.Facts.mixed fun KD hKD => ?_
        refine ARun2.endm (hKD _ ?_); clear hKD KD hG G
        refine AWp.condF ?_
        refine AWp.skip ?_
        refine hK12 _ ?_
        refine AWp.regionV ?_
        refine hK10 _ (i + 1) (by omega) (by omega) ?_
        refine Le.m 1 ?_ ?_
        · try simp only [push_cast, ↓reduceIte, Nat.reduceEqDiff, Nat.reduceLT, Nat.reduceAdd, Nat.reduceSub, Nat.reduceMul, Nat.reduceLeDiff, Nat.reducePow, Int.reduceLT, Int.reduceToNat, reduceCtorEq, Int.reduceNeg, Int.reduceEq, Nat.reduceBEq, Nat.reduceBNe, Int.reduceBEq, Int.reduceBNe, String.reduceEq]
          try simp (disch := omega) only [w_nat, w_add, w_addl, w_addr, w_sub, w_subl, w_mul, w_mull, w_mulr, w_u32, w_u16, w_u8, w_u32a, N_zero]
          first | done | skip
          try rfl
        · first | (simp only [push_cast, ↓reduceIte, Nat.reduceEqDiff, Nat.reduceLT, Nat.reduceAdd, Nat.reduceSub, Nat.reduceMul, Nat.reduceLeDiff, Nat.reducePow, Int.reduceLT, Int.reduceToNat, reduceCtorEq, Int.reduceNeg, Int.reduceEq, Nat.reduceBEq, Nat.reduceBNe, Int.reduceBEq, Int.reduceBNe, String.reduceEq]; first | done | rfl | (simp (disch := omega) only [w_nat, w_add, w_addl, w_addr, w_sub, w_subl, w_mul, w_mull, w_mulr, w_u32, w_u16, w_u8, w_u32a, N_zero]; first | done | rfl))
      · skip
        have hil : i = S.length := by simp at c3; omega
        subst hil
        refine AWp.exit ?_
        try simp only [thenQ, blockQ, noGo, reduceIte, Nat.reduceEqDiff]
        refine hK9 _ ?_
        refine AWp.regionM fun K13 hK13 => ?_
        refine ARun2.callM (k4) ?_
        refine ARun2.endm (hK13 _ ?_)
        refine AWp.regionM fun K14 hK14 => ?_
        refine ARun2.callM (k5) ?_
        refine ARun2.endm (hK14 _ ?_)
        refine AWp.ret ?_
        try simp only [thenQ, blockQ, noGo]
        refine bodyQ.m ?_
        clear hK14 K14 hK13 K13 hK11 K11 hK10 K10 hK9 K9 hK8 K8 hK7 K7 hK6 K6 hK5 K5 hK4 K4 hK3 K3 hK2 K2 hK1 K1
        first | done | exact Hand.go
theorem dataSplits_c (p : GPart) (z : Int) (hp : p.Ok) (hz : z < 2 ^ 63) : PC Tryd.prog 3 [partA false p, .val (.int .i64 z)] (bool true) := by
  by_cases h : p.user.length ≤ 1000
  · cases hs : (rightD p && p.beg && p.fin && decide (1 ≤ z)) with
    | false => exact dataSplits_no p z hp h hs
    | true =>
      simp only [Bool.and_eq_true, decide_eq_true_eq] at hs
      obtain ⟨⟨⟨h1, h2⟩, h3⟩, h4⟩ := hs
      obtain ⟨n, rfl⟩ : ∃ n : Nat, z = N n := ⟨z.toNat, by unfold N; omega⟩
      unfold N at h4 hz
      exact dataSplits_yes p n hp h h1 h2 h3 (by omega) (by omega)
  · exact dataSplits_big p z h
theorem dataJoins_c (l : List GPart) (hl : l.length ≤ 2 ^ 40) (hin : ∀ p ∈ l, partIn p) (hus : ∀ p ∈ l, p.user.length ≤ 2 ^ 20) : PC Tryd.prog 4 [.sl false 10 (partsA false l)] (bool true) := by
  rcases Nat.lt_or_ge 30 l.length with h | h
  · exact dataJoins_big l h hl
  · exact dataJoins_w l h hin hus
end Go.Proofs.YtoapdhogghbojaaDoor.C
/- The numbers of an initial chunk, read. -/
set_option linter.unusedVariables false
set_option linter.unusedSimpArgs false
namespace Go.Proofs.YtoapdhogghbojaaDoor.C
open Go.Abs Go.ChangeShapes Go.WideShapes Go.ChangeAt Go.RowKit
section
variable {H : Type} {enc : TypeId × Value → H} {W : World}
theorem val_u16 {n : Int} (h : (Lit.int .u16 n).wf = true) : ∃ m : Nat, m < 2 ^ 16 ∧ Rel W (Old W) W.heap.size [] (u16 m) (.int .u16 n) := by
  obtain ⟨m, rfl, hm⟩ := u16_of h
  exact ⟨m, hm, .val _⟩
theorem val_u32 {n : Int} (h : (Lit.int .u32 n).wf = true) : ∃ m : Nat, m < 2 ^ 32 ∧ Rel W (Old W) W.heap.size [] (u32 m) (.int .u32 n) := by
  obtain ⟨m, rfl, hm⟩ := u32_of h
  exact ⟨m, hm, .val _⟩
end
end Go.Proofs.YtoapdhogghbojaaDoor.C
/- Lists of any elements, read; lists of chunks. -/
set_option linter.unusedVariables false
set_option linter.unusedSimpArgs false
namespace Go.Proofs.YtoapdhogghbojaaDoor.C
open Go.Abs Go.ChangeShapes Go.WideShapes Go.ChangeAt Go.RowKit
section
variable {H : Type} {enc : TypeId × Value → H} {W : World}
set_option maxRecDepth 100000 in
theorem rel_list0 {α : Type} (A : α → AV) (size : α → Nat) (Pr : α → Prop) {T e : TypeId} {sz : Nat} (hT : Tryd.prog.underlying T = some (.slice e)) (hc : Tryd.prog.cellsOf e = sz) (h0 : 0 < sz) (hcells : ∀ x, (A x).cells.length = sz)
    (hone : ∀ x, ∀ c ∈ (A x).cells, c.one = true)
    (hel0 : ∀ (m : Nat) (cs : List Value) (d : DataW H) (ps : List MemPlace), DataW.trod enc Tryd.prog W 0 (fun _ => true) true m e cs = some (d, ps) → ∃ x : α, RelL W (Old W) W.heap.size [] (A x).cells cs ∧ size x ≤ Rows.uptoBulk d ∧ Pr x)
    {fuel : Nat} {v : Value} {d : DataW H} {ps : List MemPlace} (h : DataW.trod enc Tryd.prog W 0 (fun _ => true) true fuel T [v] = some (d, ps)) :
    ∃ l : List α, Rel W (Old W) W.heap.size [] (.sl false sz (l.map A)) v ∧ (l.map size).sum ≤ Rows.uptoBulk d ∧ ∀ x ∈ l, Pr x := by
  rcases DataW.trod_slice hT h with ⟨h1, h2⟩ | ⟨a, len, cap, elems, rest, m, hm, h1, h2, _, hlc, hcm, hlen, hel, _, _⟩
  · simp only [List.cons.injEq, and_true] at h1
    subst h1
    exact ⟨[], Rel.slE false sz none 0, by simp, by simp⟩
  · simp only [List.cons.injEq, and_true] at h1
    subst h1
    rw [hc] at hel
    have each : ∀ i (hi : i < elems.length), ∃ (x : α) (cs : List Value), cs.length = sz ∧ (∀ j, j < sz → W.cell? ((a.add (i * sz)).add j) = cs[j]?) ∧ RelL W (Old W) W.heap.size [] (A x).cells cs ∧ size x ≤ Rows.uptoBulk elems[i].1 ∧ Pr x := by
      intro i hi
      have hk := hel i (by omega)
      rw [List.getElem?_eq_getElem hi] at hk
      obtain ⟨cs, hcs, hy⟩ := Option.bind_eq_some_iff.1 hk
      obtain ⟨_, hl3, hcell⟩ := World.cells?_some hcs
      obtain ⟨x, r, s, tt⟩ := hel0 m cs elems[i].1 elems[i].2 hy
      exact ⟨x, cs, hl3, hcell, r, s, tt⟩
    cases hq : elems with
    | nil =>
      rw [hq] at hlen
      simp at hlen
      subst hlen
      exact ⟨[], Rel.slE false sz (some a) cap, by simp, by simp⟩
    | cons x r =>
      have hpos : 0 < elems.length := by rw [hq]; simp
      obtain ⟨n0, cs0, hl0, hc0, _, _, _⟩ := each 0 hpos
      have hcell0 := hc0 0 h0
      simp only [Nat.zero_mul] at hcell0
      rw [List.getElem?_eq_getElem (by omega)] at hcell0
      have hsp : a.spot = none := addr_of_cell (show W.cell? a = _ from hcell0)
      obtain ⟨b, o, sp⟩ := a
      simp only at hsp
      subst hsp
      have hblk : b < W.heap.size := by
        have := World.block_lt_of_cell? W _ hcell0
        simpa [Addr.add] using this
      have rows : ∀ k, k ≤ elems.length → ∃ l : List α, l.length = k ∧ RelRow W (Old W) W.heap.size [] false b sz (o + (elems.length - k) * sz) (l.map A) ∧ (l.map size).sum ≤ Rows.uptoBulkAll ((elems.drop (elems.length - k)).map (·.1)) ∧ ∀ x ∈ l, Pr x := by
        intro k
        induction k with
        | zero => exact fun _ => ⟨[], rfl, .nil, by simp, by simp⟩
        | succ k ihk =>
          intro hk
          obtain ⟨l, p1, p2, p3, p4⟩ := ihk (by omega)
          have hi : elems.length - (k + 1) < elems.length := by omega
          obtain ⟨n, cs, q1, q2, q3, q4, q5⟩ := each _ hi
          have hd : elems.drop (elems.length - (k + 1)) = elems[elems.length - (k + 1)] :: elems.drop (elems.length - k) := by
            rw [List.drop_eq_getElem_cons hi, show elems.length - (k + 1) + 1 = elems.length - k by omega]
          refine ⟨n :: l, by simp [p1], ?_, ?_, ?_⟩
          · rw [List.map_cons]
            refine .cons (RelCells.mk (B := Old W) (bs := W.heap.size) (nw := false) hblk (fun h => by cases h) q3 (hone n) ?_) (hcells n) ?_
            · intro j v hj
              have hj3 : j < sz := by rw [← q1]; exact (List.getElem?_eq_some_iff.1 hj).1
              have := q2 j hj3
              rw [addr_add, addr_add] at this
              rw [this, hj]
            · have e1 : (elems.length - (k + 1)) * sz + sz = (elems.length - k) * sz := by
                rw [← Nat.succ_mul]; congr 1; omega
              have e : o + (elems.length - (k + 1)) * sz + sz = o + (elems.length - k) * sz := by omega
              rw [e]; exact p2
          · rw [hd]
            simp only [List.map_cons, List.sum_cons, Rows.uptoBulkAll]
            omega
          · intro x hx
            rcases List.mem_cons.1 hx with rfl | hx
            · exact q5
            · exact p4 x hx
      obtain ⟨l, p1, p2, p3, p4⟩ := rows elems.length (Nat.le_refl _)
      rw [Nat.sub_self, Nat.zero_mul, Nat.add_zero] at p2
      rw [Nat.sub_self] at p3
      have hd : d = .slice (elems.map (·.1)) (rest.map (·.1)) := congrArg Prod.fst h2
      refine ⟨l, ?_, ?_, p4⟩
      · match l, p1 with
        | n :: l, p1 =>
          rw [List.map_cons] at p2 ⊢
          have := Rel.sl (cap := cap) p2 (by rw [List.length_map]; simp at p1; omega)
          rw [List.length_map] at this
          have e : l.length + 1 = len := by simp at p1; omega
          rw [e] at this
          exact this
        | [], p1 => simp at p1; omega
      · rw [hd]
        simp only [Rows.uptoBulk, List.drop_zero] at *
        omega
end
end Go.Proofs.YtoapdhogghbojaaDoor.C
/- Descriptions of data, read. -/
set_option linter.unusedVariables false
set_option linter.unusedSimpArgs false
namespace Go.Proofs.YtoapdhogghbojaaDoor.C
open Go.Abs Go.ChangeShapes Go.WideShapes Go.ChangeAt Go.RowKit
def partSz (p : GPart) : Nat := p.user.length + 1
theorem parts_len : ∀ l : List GPart, l.length ≤ (l.map partSz).sum
  | [] => by simp
  | p :: r => by
    have := parts_len r
    simp only [List.length_cons, List.map_cons, List.sum_cons, partSz]; omega
theorem parts_mem : ∀ (l : List GPart) {p : GPart}, p ∈ l → p.user.length ≤ (l.map partSz).sum
  | [], p, h => by cases h
  | q :: r, p, h => by
    simp only [List.map_cons, List.sum_cons, partSz]
    rcases List.mem_cons.1 h with rfl | h
    · omega
    · have := parts_mem r h; omega
section
variable {H : Type} {enc : TypeId × Value → H} {W : World}
theorem part_fields : ∃ f0 f1 f2 f3 f4 f5 f6 f7 f8 f9 : Field, Tryd.prog.underlying 26 = some (.struct #[f0, f1, f2, f3, f4, f5, f6, f7, f8, f9]) ∧ f0.type = 4 ∧ f0.offset = 0 ∧ f1.type = 22 ∧ f1.offset = 1 ∧ f2.type = 23 ∧ f2.offset = 2 ∧ f3.type = 22 ∧ f3.offset = 3 ∧ f4.type = 22 ∧ f4.offset = 4 ∧ f5.type = 4 ∧ f5.offset = 5 ∧ f6.type = 4 ∧ f6.offset = 6 ∧ f7.type = 4 ∧ f7.offset = 7 ∧ f8.type = 4 ∧ f8.offset = 8 ∧ f9.type = 24 ∧ f9.offset = 9 :=
  ⟨_, _, _, _, _, _, _, _, _, _, Tryd.underlying26, rfl, rfl, rfl, rfl, rfl, rfl, rfl, rfl, rfl, rfl, rfl, rfl, rfl, rfl, rfl, rfl, rfl, rfl, rfl, rfl⟩
theorem partA_one (p : GPart) : ∀ x ∈ (partA false p).cells, x.one = true := by
  simp [partA, AV.cells, AV.one, Value.oneCell']
set_option maxRecDepth 100000 in
set_option maxHeartbeats 1000000 in
theorem rel_part0 {fuel : Nat} (cs : List Value) (d : DataW H) (ps : List MemPlace) (hf : DataW.trod enc Tryd.prog W 0 (fun _ => true) true fuel 26 cs = some (d, ps)) :
    ∃ p : GPart, RelL W (Old W) W.heap.size [] (partA false p).cells cs ∧ partSz p ≤ Rows.uptoBulk d ∧ partIn p := by
  have c32 : Tryd.prog.cellsOf 22 = 1 := by kernel_rfl
  have c16 : Tryd.prog.cellsOf 23 = 1 := by kernel_rfl
  have cbo : Tryd.prog.cellsOf 4 = 1 := by kernel_rfl
  have cby : Tryd.prog.cellsOf 24 = 1 := by kernel_rfl
  have ct : Tryd.prog.cellsOf 26 = 10 := by kernel_rfl
  obtain ⟨f0, f1, f2, f3, f4, f5, f6, f7, f8, f9, hs, a0, b0, a1, b1, a2, b2, a3, b3, a4, b4, a5, b5, a6, b6, a7, b7, a8, b8, a9, b9⟩ := part_fields
  obtain ⟨xs, m, hm, hx, hl, hlen, hall⟩ := DataW.trod_struct hs hf
  have e0 := hall 0 f0 rfl
  have e1 := hall 1 f1 rfl
  have e2 := hall 2 f2 rfl
  have e3 := hall 3 f3 rfl
  have e4 := hall 4 f4 rfl
  have e5 := hall 5 f5 rfl
  have e6 := hall 6 f6 rfl
  have e7 := hall 7 f7 rfl
  have e8 := hall 8 f8 rfl
  have e9 := hall 9 f9 rfl
  rw [a0, b0, cbo] at e0
  rw [a1, b1, c32] at e1
  rw [a2, b2, c16] at e2
  rw [a3, b3, c32] at e3
  rw [a4, b4, c32] at e4
  rw [a5, b5, cbo] at e5
  rw [a6, b6, cbo] at e6
  rw [a7, b7, cbo] at e7
  rw [a8, b8, cbo] at e8
  rw [a9, b9, cby] at e9
  rw [ct] at hl
  match xs, hlen, cs, hl with
  | [y0, y1, y2, y3, y4, y5, y6, y7, y8, y9], _, [v0, v1, v2, v3, v4, v5, v6, v7, v8, v9], _ =>
    simp only [List.drop_zero, List.take_succ_cons, List.take_zero, List.drop_succ_cons, List.getElem?_cons_zero, List.getElem?_cons_succ] at e0 e1 e2 e3 e4 e5 e6 e7 e8 e9
    obtain ⟨n0, h0, hy0⟩ := DataW.trod_bool Tryd.underlying4 e0
    obtain ⟨n1, h1, hy1, hw1⟩ := DataW.trod_int Tryd.underlying22 e1
    obtain ⟨n2, h2, hy2, hw2⟩ := DataW.trod_int Tryd.underlying23 e2
    obtain ⟨n3, h3, hy3, hw3⟩ := DataW.trod_int Tryd.underlying22 e3
    obtain ⟨n4, h4, hy4, hw4⟩ := DataW.trod_int Tryd.underlying22 e4
    obtain ⟨n5, h5, hy5⟩ := DataW.trod_bool Tryd.underlying4 e5
    obtain ⟨n6, h6, hy6⟩ := DataW.trod_bool Tryd.underlying4 e6
    obtain ⟨n7, h7, hy7⟩ := DataW.trod_bool Tryd.underlying4 e7
    obtain ⟨n8, h8, hy8⟩ := DataW.trod_bool Tryd.underlying4 e8
    obtain ⟨l9, r9, s9⟩ := rel_bytes0 (d := y9.1) (ps := y9.2) e9
    obtain ⟨m1, z1, q1⟩ := val_u32 (W := W) hw1
    obtain ⟨m2, z2, q2⟩ := val_u16 (W := W) hw2
    obtain ⟨m3, z3, q3⟩ := val_u32 (W := W) hw3
    obtain ⟨m4, z4, q4⟩ := val_u32 (W := W) hw4
    simp only [List.cons.injEq, and_true] at h0 h1 h2 h3 h4 h5 h6 h7 h8
    subst h0; subst h1; subst h2; subst h3; subst h4; subst h5; subst h6; subst h7; subst h8
    refine ⟨⟨n0, m1, m2, m3, m4, n5, n6, n7, n8, l9⟩, (.cons (.val _) (.cons q1 (.cons q2 (.cons q3 (.cons q4 (.cons (.val _) (.cons (.val _) (.cons (.val _) (.cons (.val _) (.cons r9 .nil)))))))))), ?_, ⟨z1, z2, z3, z4⟩⟩
    have hd : d = .agg [y0.1, y1.1, y2.1, y3.1, y4.1, y5.1, y6.1, y7.1, y8.1, y9.1] := congrArg Prod.fst hx
    have hb0 := bulk_one y0.1
    have hb1 := bulk_one y1.1
    have hb2 := bulk_one y2.1
    have hb3 := bulk_one y3.1
    have hb4 := bulk_one y4.1
    have hb5 := bulk_one y5.1
    have hb6 := bulk_one y6.1
    have hb7 := bulk_one y7.1
    have hb8 := bulk_one y8.1
    rw [hd]
    simp only [partSz, Rows.uptoBulk, Rows.uptoBulkAll]
    omega
set_option maxRecDepth 100000 in
theorem rel_part {r : Reach} {b0 : Nat} {v : Value} {d : DataW H} {ps : List MemPlace} (hval : Value.okWide Tryd.prog W r b0 26 v) (hd : DataW.Trod enc Tryd.prog W 0 (fun _ => true) true 26 v d ps) :
    ∃ p : GPart, Rel W (Old W) W.heap.size [] (partA false p) v ∧ partIn p ∧ partSz p ≤ Rows.uptoBulk d := by
  obtain ⟨f0, f1, f2, f3, f4, f5, f6, f7, f8, f9, hs, _⟩ := part_fields
  obtain ⟨cs, rfl, _⟩ := okWide_struct hs hval
  obtain ⟨fuel, hf⟩ := hd
  obtain ⟨p, h1, h2, h3⟩ := rel_part0 _ d ps hf
  refine ⟨p, ?_, h3, h2⟩
  have := Rel.agg h1
  simpa [partA, AV.cells, Value.cells] using this
set_option maxRecDepth 100000 in
theorem rel_parts {r : Reach} {b0 : Nat} {v : Value} {d : DataW H} {ps : List MemPlace} (hval : Value.okWide Tryd.prog W r b0 32 v) (hd : DataW.Trod enc Tryd.prog W 0 (fun _ => true) true 32 v d ps) :
    ∃ l : List GPart, Rel W (Old W) W.heap.size [] (.sl false 10 (partsA false l)) v ∧ (∀ p ∈ l, partIn p) ∧ (l.map partSz).sum ≤ Rows.uptoBulk d := by
  obtain ⟨A, len0, cap0, rfl⟩ := okWide_slice Tryd.underlying32 hval
  obtain ⟨fuel, hf⟩ := hd
  obtain ⟨l, h1, h2, h3⟩ := rel_list0 (sz := 10) (partA false) partSz partIn Tryd.underlying32 (by kernel_rfl) (by decide) (fun x => by simp [partA, AV.cells]) partA_one (fun m cs d ps h => rel_part0 cs d ps h) hf
  exact ⟨l, h1, h3, h2⟩
end
end Go.Proofs.YtoapdhogghbojaaDoor.C
