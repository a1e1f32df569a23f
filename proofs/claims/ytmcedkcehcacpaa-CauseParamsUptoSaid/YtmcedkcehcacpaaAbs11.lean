/- Loops over functions. No condition. -/
import Derived.Test.YtmcedkcehcacpaaAbs10
namespace Go.Abs
set_option linter.unusedVariables false
set_option linter.unusedSectionVars false
set_option linter.unusedSimpArgs false
set_option linter.unnecessarySimpa false

section
variable {P : Program} {ops : Array Oper} {E : Env} {s s' : AS} {ρ : List Value} {B : Nat → Prop} {a : Act} {w w' : World} {o : Oper} {rest : List Oper}

theorem heapLt {w : World} {b : Nat} {o : Obj} (h : w.heap[b]? = some o) : b < w.heap.size := by
  rcases Nat.lt_or_ge b w.heap.size with h' | h'
  · exact h'
  · simp [Array.getElem?_eq_none h'] at h

/-- what stands beside a round: E: the activation's own environment; l: the loop's record; D2, B2: the iterator's own blocks, and what it reads; W: the world at the round's begin -/
structure J1 (E : Env) (df : List Nat) (l : Nat) (rec : Loop) (D2 B2 : Nat → Prop) (W : World) (tr : List (List AV)) (go : Bool) (D B : Nat → Prop) (w : World) : Prop where
  jj : JJ E tr go df (fun b => D b ∨ b = l ∨ D2 b) B w
  rec_ : w.heap[l]? = some (.loop rec)
  lD : ¬ D l
  lB : ¬ B l
  l2 : ¬ D2 l
  d2 : ∀ b, D2 b → b < W.heap.size ∧ w.heap[b]? = W.heap[b]? ∧ ¬ D b ∧ ¬ B b
  b2 : ∀ b, B2 b → b < W.heap.size ∧ w.heap[b]? = W.heap[b]? ∧ ¬ D b ∧ B b
  os : w.os = W.os
  tape : w.tape = W.tape
  output : w.output = W.output
  size : W.heap.size ≤ w.heap.size
  bd : Bd D B w

theorem J1.chg {df : List Nat} {l : Nat} {rec : Loop} {D2 B2 : Nat → Prop} {W : World} {tr : List (List AV)} {go : Bool} {D D' B' : Nat → Prop} (h : J1 E df l rec D2 B2 W tr go D B w) (c : Chg D B w D' B' w') (hb : Bd D' B' w') :
    J1 E df l rec D2 B2 W tr go D' B' w' := by
  have hl := heapLt h.rec_
  have hlD' : ¬ D' l := fun hd => (c.dsub l hd).elim h.lD (by omega)
  have hlB' : ¬ B' l := fun hd => (c.bnew l hd).elim h.lB fun hd => hd.elim h.lD (by omega)
  have h2D' : ∀ b, D2 b → ¬ D' b := fun b hd hd' => (c.dsub b hd').elim (h.d2 b hd).2.2.1 (by have := (h.d2 b hd).1; have := h.size; omega)
  have h2B' : ∀ b, D2 b → ¬ B' b := fun b hd hd' => (c.bnew b hd').elim (h.d2 b hd).2.2.2 fun hd' => hd'.elim (h.d2 b hd).2.2.1 (by have := (h.d2 b hd).1; have := h.size; omega)
  refine ⟨h.jj.chg ⟨c.os, c.tape, c.output, c.size, fun b h1 h2 => c.block b h1 fun h => h2 (.inl h), ?_, c.bsub, ?_⟩ ⟨hb.1, ?_⟩, (c.block l hl h.lD).trans h.rec_, hlD', hlB', h.l2, ?_, ?_, c.os.trans h.os, c.tape.trans h.tape, c.output.trans h.output, Nat.le_trans h.size c.size, hb⟩
  · rintro b (hd | hd | hd)
    · exact (c.dsub b hd).elim (fun h => .inl (.inl h)) .inr
    · exact .inl (.inr (.inl hd))
    · exact .inl (.inr (.inr hd))
  · intro b hd
    rcases c.bnew b hd with h1 | h1 | h1
    · exact .inl h1
    · exact .inr (.inl (.inl h1))
    · exact .inr (.inr h1)
  · rintro b (hd | rfl | hd)
    · exact hb.2 b hd
    · exact ⟨Nat.lt_of_lt_of_le hl c.size, hlB'⟩
    · exact ⟨Nat.lt_of_lt_of_le (h.d2 b hd).1 (Nat.le_trans h.size c.size), h2B' b hd⟩
  · intro b hd
    obtain ⟨k1, k2, k3, k4⟩ := h.d2 b hd
    exact ⟨k1, (c.block b (by have := h.size; omega) k3).trans k2, h2D' b hd, h2B' b hd⟩
  · intro b hd
    obtain ⟨k1, k2, k3, k4⟩ := h.b2 b hd
    exact ⟨k1, (c.block b (by have := h.size; omega) k3).trans k2, fun hd' => (hb.2 b hd').2 (c.bsub b k4), c.bsub b k4⟩

/-- the environment of a round's code -/
def Env.inRound (E : Env) (pp : List Value) (df : List Nat) (l : Nat) (rec : Loop) (D2 B2 : Nat → Prop) (W : World) : Env :=
  { E with pp := pp, rnd := some l, J := J1 E df l rec D2 B2 W }

theorem Env.inRound_stab {pp : List Value} {df : List Nat} {l : Nat} {rec : Loop} {D2 B2 : Nat → Prop} {W : World} : (E.inRound pp df l rec D2 B2 W).Stab := fun _ _ _ _ _ _ _ _ h c b => J1.chg h c b

theorem Env.inRound_ok {pp : List Value} {df : List Nat} {l : Nat} {rec : Loop} {D2 B2 : Nat → Prop} {W : World} (hE : E.Ok P) : (E.inRound pp df l rec D2 B2 W).Ok P := by
  refine ⟨?_, ?_⟩
  · intro l1 X hy tr x post vs D B w hX hj hrel hb1 hb2
    have hj : J1 E df l rec D2 B2 W tr true D B w := hj
    have hl := heapLt hj.rec_
    obtain ⟨fn, tmps, assign, body, hrun, hround⟩ := hE.yld l1 X hy tr x post vs _ B w hX hj.jj.j hrel hb1 (by
      rintro b ((hd | rfl | hd) | hd)
      · exact hb2 b hd
      · exact ⟨hl, hj.lB⟩
      · exact ⟨Nat.lt_of_lt_of_le (hj.d2 b hd).1 hj.size, (hj.d2 b hd).2.2.2⟩
      · exact ⟨heapLt (hj.jj.mks b hd).1, (hj.jj.mks b hd).2.2.1⟩)
    refine ⟨fn, tmps, assign, body, hrun, hround.mono ?_⟩
    rintro e w' ⟨b, rfl, hk, hj'⟩
    refine ⟨b, rfl, ⟨hk.os, hk.tape, hk.output, hk.size, fun b hb => hk.block b (hb.elim .inl fun h => .inr (.inl (.inl h)))⟩, ?_⟩
    show J1 E df l rec D2 B2 W (tr ++ [x]) b D B w'
    refine ⟨⟨hj', hj.jj.stab, hj.jj.nodup, fun b hb => ?_⟩, (hk.block l (.inr (.inl (.inr (.inl rfl))))).trans hj.rec_, hj.lD, hj.lB, hj.l2, ?_, ?_, hk.os.trans hj.os, hk.tape.trans hj.tape, hk.output.trans hj.output, Nat.le_trans hj.size hk.size, ?_⟩
    · obtain ⟨h1, h2⟩ := hj.jj.mks b hb
      exact ⟨(hk.block b (.inr (.inr hb))).trans h1, h2⟩
    · intro b hd
      obtain ⟨k1, k2, k3⟩ := hj.d2 b hd
      exact ⟨k1, (hk.block b (.inr (.inl (.inr (.inr hd))))).trans k2, k3⟩
    · intro b hd
      obtain ⟨k1, k2, k3, k4⟩ := hj.b2 b hd
      exact ⟨k1, (hk.block b (.inl k4)).trans k2, k3, k4⟩
    · exact ⟨fun b hb => Nat.lt_of_lt_of_le (hb1 b hb) hk.size, fun b hb => ⟨Nat.lt_of_lt_of_le (hb2 b hb).1 hk.size, (hb2 b hb).2⟩⟩
  · intro l1 hl1 tr go D B w hj
    have hj : J1 E df l rec D2 B2 W tr go D B w := hj
    have : l1 = l := (Option.some.inj hl1).symm
    subst this
    exact ⟨_, hj.rec_⟩

mutual
theorem idsOk_mono {p q : Nat → Bool} (h : ∀ k, p k = true → q k = true) : ∀ x : AV, x.idsOk p = true → x.idsOk q = true
  | .val _, _ | .any, _ => rfl
  | .agg l, e | .tup l, e => idsOkL_mono h l e
  | .sl _ _ xs, e => idsOkL_mono h xs e
  | .own k, e | .ptr k _, e | .ept k _, e => h k e
  | .ref _ x, e | .ifc _ x, e => idsOk_mono h x e
  | .fn _ l m, e => by
    simp only [AV.idsOk, Bool.and_eq_true] at e ⊢
    exact ⟨idsOkL_mono h l e.1, idsOkL_mono h m e.2⟩
theorem idsOkL_mono {p q : Nat → Bool} (h : ∀ k, p k = true → q k = true) : ∀ l : List AV, AV.idsOkL p l = true → AV.idsOkL q l = true
  | [], _ => rfl
  | x :: l, e => by
    simp only [AV.idsOkL, Bool.and_eq_true] at e ⊢
    exact ⟨idsOk_mono h x e.1, idsOkL_mono h l e.2⟩
end

mutual
theorem idsOk_true : ∀ x : AV, x.idsOk (fun _ => true) = true
  | .val _ | .any => rfl
  | .agg l | .tup l => idsOkL_true l
  | .sl _ _ xs => idsOkL_true xs
  | .own k | .ptr k _ | .ept k _ => rfl
  | .ref _ x | .ifc _ x => idsOk_true x
  | .fn _ l m => by simp only [AV.idsOk, idsOkL_true l, idsOkL_true m, Bool.and_self]
theorem idsOkL_true : ∀ l : List AV, AV.idsOkL (fun _ => true) l = true
  | [] => rfl
  | x :: l => by simp only [AV.idsOkL, idsOk_true x, idsOkL_true l, Bool.and_self]
end

/-- does this number name a box? -/
def isBox (ob : List Ob) (k : Nat) : Bool :=
  match ob[k]? with
  | some (.box _ _) => true
  | _ => false

/-- the slots that a round begins with -/
def setps (fr : List (Nat × AV)) : List Nat → List AV → List (Nat × AV)
  | p :: ps, x :: xs => setps ((p, x) :: del fr p) ps xs
  | _, _ => fr

def codeOf : Exit → Option Code
  | .ret => some .ret
  | .exit id => some (.exit id)
  | _ => none

def roundQ (I : List (List AV) → List Ob → List (List AV) → Bool → Prop) (Ix : Exit → List Ob → List (List AV) → Bool → Prop) (tr1 : List (List AV)) : Exit → AS → Prop
  | .normal, s => ∃ s2, Le s s2 ∧ I tr1 s2.ob s2.tr s2.go
  | .ret, s => ∃ s2, Le s s2 ∧ Ix .ret s2.ob s2.tr s2.go
  | .exit id, s => ∃ s2, Le s s2 ∧ Ix (.exit id) s2.ob s2.tr s2.go
  | _, _ => False

/-- a suspended activation, as the iterator's keeper -/
structure Susp (E : Env) (df : List Nat) (l : Nat) (t0 : Array Value) (fr0 : List (Nat × AV)) (pp : List Value) (base : Nat) (ob : List Ob) (tr : List (List AV)) (go : Bool) (ρ : List Value) (Bc D2 B2 : Nat → Prop) (W : World) : Prop where
  rw_ : RW E ob ρ Bc W
  jj : JJ E tr go df (fun b => Dof ob ρ b ∨ b = l ∨ D2 b) Bc W
  rf : RF W Bc E.bs ρ t0 fr0
  ptr : ∀ (k : Nat) (v : Value), pp[k]? = some v → isPtr v = true → ρ[k]? = some v
  b2 : ∀ b, B2 b → Bc b
  d2 : ∀ b, D2 b → ¬ Bc b ∧ ¬ Dof ob ρ b ∧ b ≠ l ∧ b < W.heap.size ∧ base ≤ b
  lB : ¬ Bc l
  lD : ¬ Dof ob ρ l
  ll : l < W.heap.size
  lb : base ≤ W.heap.size

theorem Susp.chg {df : List Nat} {l : Nat} {t0 : Array Value} {fr0 : List (Nat × AV)} {pp : List Value} {base : Nat} {ob : List Ob} {tr : List (List AV)} {go : Bool} {Bc D2 B2 D2' B2' : Nat → Prop} {W W' : World}
    (h : Susp E df l t0 fr0 pp base ob tr go ρ Bc D2 B2 W) (hbase : E.w0.heap.size ≤ base) (c : Chg D2 B2 W D2' B2' W') (hb : Bd D2' B2' W') : Susp E df l t0 fr0 pp base ob tr go ρ (fun b => Bc b ∨ B2' b) D2' B2' W' ∧ W'.heap[l]? = W.heap[l]? := by
  have hBw : ∀ b, Bc b → W'.heap[b]? = W.heap[b]? := fun b hb => c.block b (h.rw_.blt b hb) fun hd => (h.d2 b hd).1 hb
  have hDw : ∀ b, Dof ob ρ b → W'.heap[b]? = W.heap[b]? := fun b hb => c.block b (h.rw_.bd.2 b hb).1 fun hd => (h.d2 b hd).2.1 hb
  have hlw : W'.heap[l]? = W.heap[l]? := c.block l h.ll fun hd => (h.d2 l hd).2.2.1 rfl
  have nB : ∀ b, B2' b → Bc b ∨ (base ≤ b ∧ ¬ Dof ob ρ b ∧ b ≠ l) := by
    intro b hb'
    rcases c.bnew b hb' with h1 | h1 | h1
    · exact .inl (h.b2 b h1)
    · obtain ⟨k1, k2, k3, k4, k5⟩ := h.d2 b h1
      exact .inr ⟨k5, k2, k3⟩
    · refine .inr ⟨Nat.le_trans h.lb h1, fun hd => ?_, fun e => ?_⟩
      · have := (h.rw_.bd.2 b hd).1; omega
      · have := h.ll; omega
  have nD : ∀ b, D2' b → ¬ Bc b ∧ ¬ Dof ob ρ b ∧ b ≠ l ∧ base ≤ b := by
    intro b hd
    rcases c.dsub b hd with h1 | h1
    · obtain ⟨k1, k2, k3, k4, k5⟩ := h.d2 b h1
      exact ⟨k1, k2, k3, k5⟩
    · refine ⟨fun hd => ?_, fun hd => ?_, fun e => ?_, Nat.le_trans h.lb h1⟩
      · have := h.rw_.blt b hd; omega
      · have := (h.rw_.bd.2 b hd).1; omega
      · have := h.ll; omega
  have hrw : RW E ob ρ (fun b => Bc b ∨ B2' b) W' := by
    have r := h.rw_
    refine { os := c.os.trans r.os, tape := c.tape.trans r.tape, output := c.output.trans r.output, size := Nat.le_trans r.size c.size,
             block := fun j h1 h2 => (c.block j (Nat.lt_of_lt_of_le h1 r.size) fun hd => ?_).trans (r.block j h1 h2), pre := r.pre, bsub := fun b hb => .inl (r.bsub b hb), bnew := ?_,
             blt := ?_, len := r.len,
             obs := fun j o hj => (r.obs j o hj).mono (fun _ h => .inl h) hBw (fun _ _ h => h) (fun u b l hu hb => hDw b ⟨j, o, u, hj, l, hu, hb⟩), dis := r.dis, prv := ?_ }
    · have := (h.d2 j hd).2.2.2.2; omega
    · rintro b (h1 | h1)
      · exact r.bnew b h1
      · rcases nB b h1 with h2 | h2
        · exact r.bnew b h2
        · exact .inr (Nat.le_trans hbase h2.1)
    · rintro b (h1 | h1)
      · exact Nat.lt_of_lt_of_le (r.blt b h1) c.size
      · exact hb.1 b h1
    · intro j o v b h1 h2 h3 h4
      obtain ⟨a1, a2, a3⟩ := r.prv j o v b h1 h2 h3 h4
      refine ⟨?_, Nat.lt_of_lt_of_le a2 c.size, a3⟩
      rintro (h5 | h5)
      · exact a1 h5
      · rcases nB b h5 with h6 | h6
        · exact a1 h6
        · exact h6.2.1 ⟨j, o, v, h1, h2, h3, h4⟩
  refine ⟨⟨hrw, ?_, fun t x hm => ⟨(h.rf t x hm).1, (h.rf t x hm).2.mono (fun _ h => .inl h) hBw (Nat.le_refl _) (fun _ _ h => h)⟩, h.ptr, fun b hb => .inr hb, ?_, ?_, h.lD, Nat.lt_of_lt_of_le h.ll c.size, Nat.le_trans h.lb c.size⟩, hlw⟩
  · refine h.jj.chg ⟨c.os, c.tape, c.output, c.size, fun b h1 h2 => c.block b h1 fun h => h2 (.inr (.inr h)), ?_, fun _ h => .inl h, ?_⟩ ⟨hrw.blt, ?_⟩
    · rintro b (hd | hd | hd)
      · exact .inl (.inl hd)
      · exact .inl (.inr (.inl hd))
      · exact (c.dsub b hd).elim (fun h => .inl (.inr (.inr h))) .inr
    · rintro b (h1 | h1)
      · exact .inl h1
      · rcases c.bnew b h1 with h2 | h2 | h2
        · exact .inl (h.b2 b h2)
        · exact .inr (.inl (.inr (.inr h2)))
        · exact .inr (.inr h2)
    · rintro b (hd | rfl | hd)
      · exact hrw.bd.2 b hd
      · refine ⟨Nat.lt_of_lt_of_le h.ll c.size, ?_⟩
        rintro (h1 | h1)
        · exact h.lB h1
        · rcases nB _ h1 with h2 | h2
          · exact h.lB h2
          · exact h2.2.2 rfl
      · refine ⟨(hb.2 b hd).1, ?_⟩
        rintro (h1 | h1)
        · exact (nD b hd).1 h1
        · exact (hb.2 b hd).2 h1
  · intro b hd
    obtain ⟨k1, k2, k3, k4⟩ := nD b hd
    refine ⟨?_, k2, k3, (hb.2 b hd).1, k4⟩
    rintro (h1 | h1)
    · exact k1 h1
    · exact (hb.2 b hd).2 h1
  · rintro (h1 | h1)
    · exact h.lB h1
    · rcases nB _ h1 with h2 | h2
      · exact h.lB h2
      · exact h2.2.2 rfl
end
end Go.Abs
