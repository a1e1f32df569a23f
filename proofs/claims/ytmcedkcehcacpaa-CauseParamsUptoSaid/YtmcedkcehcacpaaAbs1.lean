/- States of the claim's own program logic, its judgements for code and calls, and the rules of control. No condition. -/
import Derived.Test.YtmcedkcehcacpaaAbs0
import Derived.Sort.LoopGhostIn
import Derived.OrdersIn
import Derived.RangeFuncNested
import Derived.RangeFuncLeaves
import Derived.StillTail
namespace Go.Abs
set_option linter.unusedVariables false

/-- An object of the call's own: a variable (or struct) in a block, or a growing row. -/
inductive Ob where
  | box (T : TypeId) (cs : List AV)
  | row (T : TypeId) (sz : Nat) (xs : List AV)
  | mp (es : List (Value × Value))
  | gone
  deriving Inhabited

def Ob.live : Ob → Bool
  | .gone => false
  | _ => true

def blk : Value → Option Nat
  | .pointer (some a) => some a.block
  | .slice (some a) _ _ => some a.block
  | .map r => r
  | _ => none

def isPtr : Value → Bool
  | .pointer _ => true
  | _ => false

def thaw (fz : Nat × Nat) (n : Nat) : Prop := fz.2 ≤ fz.1 ∨ n ≤ fz.1

def RO (w : World) (B : Nat → Prop) (bs : Nat) (ρ : List Value) (k : Nat) : Ob → Prop
  | .box T cs => ∃ b vs fz, ρ[k]? = some (.pointer (some ⟨b, 0, none⟩)) ∧ w.heap[b]? = some (.cells (List.toArray vs) T fz) ∧ thaw fz vs.length ∧
      RelL w B bs ρ cs vs ∧ ∀ c ∈ cs, c.oc = true
  | .row T sz xs => (∀ x ∈ xs, x.cells.length = sz ∧ ∀ c ∈ x.cells, c.one = true) ∧ ((xs = [] ∧ ρ[k]? = some (.slice none 0 0)) ∨
      ∃ b cap vs ws fz, ρ[k]? = some (.slice (some ⟨b, 0, none⟩) xs.length cap) ∧ w.heap[b]? = some (.cells (List.toArray (vs ++ ws)) T fz) ∧
        (vs ++ ws).length = cap * sz ∧ xs.length ≤ cap ∧ thaw fz (vs ++ ws).length ∧ RelL w B bs ρ (xs.flatMap AV.cells) vs)
  | .mp es => ∃ b ms c, ρ[k]? = some (.map (some b)) ∧ w.heap[b]? = some (.map ms c) ∧ ms.toList.map (fun e => (e.key, e.val)) = es
  | .gone => True

/-- where a call began; what its yields keep (J: the yields so far; whether the loop goes on; the call's own blocks; what is read; the world); the loop in whose round the code stands; the loop that it yields to -/
structure Env where
  w0 : World
  B0 : Nat → Prop
  ρ0 : List Value
  pp : List Value
  rnd : Option Nat
  yl : Option (Nat × List (List AV))
  J : List (List AV) → Bool → (Nat → Prop) → (Nat → Prop) → World → Prop

@[reducible] def E0 (w : World) (B : Nat → Prop) (ρ : List Value) : Env := ⟨w, B, ρ, [], none, none, fun _ _ _ _ _ => True⟩

/-- how a call may change the world, as seen by who waits for its yields: D: its own blocks; B: what is read -/
structure Chg (D B : Nat → Prop) (w : World) (D' B' : Nat → Prop) (w' : World) : Prop where
  os : w'.os = w.os
  tape : w'.tape = w.tape
  output : w'.output = w.output
  size : w.heap.size ≤ w'.heap.size
  block : ∀ b, b < w.heap.size → ¬ D b → w'.heap[b]? = w.heap[b]?
  dsub : ∀ b, D' b → D b ∨ w.heap.size ≤ b
  bsub : ∀ b, B b → B' b
  bnew : ∀ b, B' b → B b ∨ D b ∨ w.heap.size ≤ b

/-- bounds -/
def Bd (D B : Nat → Prop) (w : World) : Prop := (∀ b, B b → b < w.heap.size) ∧ ∀ b, D b → b < w.heap.size ∧ ¬ B b

def Env.Stab (E : Env) : Prop := ∀ tr go D B w D' B' w', E.J tr go D B w → Chg D B w D' B' w' → Bd D' B' w' → E.J tr go D' B' w'

/-- the blocks of a call's own objects -/
def Dof (ob : List Ob) (ρ : List Value) (b : Nat) : Prop := ∃ (k : Nat) (o : Ob) (v : Value), ob[k]? = some o ∧ o.live = true ∧ ρ[k]? = some v ∧ blk v = some b

def mark (b : Nat) : Deferred := { target := .collected b, args := #[] }

/-- what stands beside a call's own: its yields' keeper, and the marks of its loops over functions -/
structure JJ (E : Env) (tr : List (List AV)) (go : Bool) (df : List Nat) (D B : Nat → Prop) (w : World) : Prop where
  j : E.J tr go (fun b => D b ∨ b ∈ df) B w
  stab : E.Stab
  nodup : df.Nodup
  mks : ∀ b ∈ df, w.heap[b]? = some (.deferred (some [])) ∧ ¬ D b ∧ ¬ B b ∧ E.w0.heap.size ≤ b

theorem JJ.chg {E : Env} {tr : List (List AV)} {go : Bool} {df : List Nat} {D B D' B' : Nat → Prop} {w w' : World} (h : JJ E tr go df D B w) (c : Chg D B w D' B' w') (hb : Bd D' B' w') : JJ E tr go df D' B' w' := by
  have mks : ∀ b ∈ df, w'.heap[b]? = some (.deferred (some [])) ∧ ¬ D' b ∧ ¬ B' b ∧ E.w0.heap.size ≤ b := by
    intro b hb'
    obtain ⟨h1, h2, h3, h4⟩ := h.mks b hb'
    have hlt : b < w.heap.size := by
      rcases Nat.lt_or_ge b w.heap.size with h' | h'
      · exact h'
      · simp [Array.getElem?_eq_none h'] at h1
    refine ⟨(c.block b hlt h2).trans h1, fun hd => ?_, fun hB => ?_, h4⟩
    · rcases c.dsub b hd with h' | h'
      · exact h2 h'
      · omega
    · rcases c.bnew b hB with h' | h' | h'
      · exact h3 h'
      · exact h2 h'
      · omega
  have lt : ∀ {b : Nat}, w'.heap[b]? = some (.deferred (some [])) → b < w'.heap.size := fun {b} h1 => by
    rcases Nat.lt_or_ge b w'.heap.size with h' | h'
    · exact h'
    · simp [Array.getElem?_eq_none h'] at h1
  refine ⟨h.stab _ _ _ _ _ _ _ _ h.j ⟨c.os, c.tape, c.output, c.size, fun b h1 h2 => c.block b h1 fun h => h2 (.inl h), fun b h => h.elim (fun h => (c.dsub b h).elim (fun h => .inl (.inl h)) .inr) (fun h => .inl (.inr h)), c.bsub, fun b h => (c.bnew b h).elim .inl fun h => h.elim (fun h => .inr (.inl (.inl h))) fun h => .inr (.inr h)⟩ ⟨hb.1, fun b h => h.elim (fun h => hb.2 b h) fun h => ⟨lt (mks b h).1, (mks b h).2.2.1⟩⟩, h.stab, h.nodup, mks⟩

def Env.bs (E : Env) : Nat := E.w0.heap.size
def Env.X (E : Env) (b : Nat) : Prop := ∃ v ∈ E.ρ0, blk v = some b

/-- object k lay in block b when the call began -/
def Env.at (E : Env) (k b : Nat) : Prop := ∃ v, E.ρ0[k]? = some v ∧ blk v = some b
theorem Env.at.x {E : Env} {k b : Nat} (h : E.at k b) : E.X b := by obtain ⟨v, h1, h2⟩ := h; exact ⟨v, List.mem_of_getElem? h1, h2⟩

structure RW (E : Env) (ob : List Ob) (ρ : List Value) (B : Nat → Prop) (w : World) : Prop where
  os : w.os = E.w0.os
  tape : w.tape = E.w0.tape
  output : w.output = E.w0.output
  size : E.w0.heap.size ≤ w.heap.size
  block : ∀ k, k < E.w0.heap.size → ¬ E.X k ∧ (E.yl.isSome = true → E.B0 k) → w.heap[k]? = E.w0.heap[k]?
  pre : ∀ (k : Nat) (v : Value), (E.ρ0[k]? = some v ∨ E.pp[k]? = some v) → isPtr v = true → ρ[k]? = some v
  bsub : ∀ b, E.B0 b → B b
  bnew : ∀ b, B b → E.B0 b ∨ E.w0.heap.size ≤ b
  blt : ∀ b, B b → b < w.heap.size
  len : ρ.length = ob.length
  obs : ∀ (k : Nat) (o : Ob), ob[k]? = some o → RO w B E.bs ρ k o
  dis : ∀ (i j : Nat) (o o' : Ob) (u v : Value) (b : Nat), i ≠ j → ob[i]? = some o → o.live = true → ob[j]? = some o' → o'.live = true → ρ[i]? = some u → ρ[j]? = some v → blk u = some b → blk v ≠ some b
  prv : ∀ (k : Nat) (o : Ob) (v : Value) (b : Nat), ob[k]? = some o → o.live = true → ρ[k]? = some v → blk v = some b → ¬ B b ∧ b < w.heap.size ∧ ((E.w0.heap.size ≤ b) ∨ E.at k b)

/-- n: slots of the frame; fr: what is known of them; ob: the call's own objects, the first m of them handed to it; df: what is deferred. -/
structure AS where
  n : Nat
  m : Nat
  fr : List (Nat × AV)
  ob : List Ob
  df : List Nat := []
  yl : Option (Nat × List (List AV)) := none
  tr : List (List AV) := []
  go : Bool := true

def lk : List (Nat × AV) → Nat → AV
  | [], _ => .any
  | (k, a) :: r, t => if k = t then a else lk r t

def del : List (Nat × AV) → Nat → List (Nat × AV)
  | [], _ => []
  | (k, a) :: r, t => if k = t then del r t else (k, a) :: del r t

def AS.put (s : AS) (d : Option Tmp) (x : AV) : AS :=
  match d with
  | none => s
  | some t => { s with fr := if t < s.n then (t, x) :: del s.fr t else del s.fr t }

def AS.ev (s : AS) : Operand → AV
  | .tmp t => lk s.fr t
  | .const v => .val v
  | .func f => .fn (.func f) [] []
  | .global _ => .any

def RF (w : World) (B : Nat → Prop) (bs : Nat) (ρ : List Value) (tmps : Array Value) (fr : List (Nat × AV)) : Prop :=
  ∀ t x, (t, x) ∈ fr → t < tmps.size ∧ Rel w B bs ρ x (tmps.getD t undef)

theorem RW.bd {E : Env} {ob : List Ob} {ρ : List Value} {B : Nat → Prop} {w : World} (h : RW E ob ρ B w) : Bd (Dof ob ρ) B w :=
  ⟨h.blt, fun b ⟨k, o, v, h1, h2, h3, h4⟩ => ⟨(h.prv k o v b h1 h2 h3 h4).2.1, (h.prv k o v b h1 h2 h3 h4).1⟩⟩

structure RS (E : Env) (s : AS) (ρ : List Value) (B : Nat → Prop) (a : Act) (w : World) : Prop where
  rw_ : RW E s.ob ρ B w
  m : E.ρ0.length ≤ s.m ∧ E.pp.length ≤ s.m ∧ E.yl = s.yl
  n : a.tmps.size = s.n
  df : a.defers = s.df.map mark
  jj : JJ E s.tr s.go s.df (Dof s.ob ρ) B w
  rf : RF w B E.bs ρ a.tmps s.fr

theorem lk_mem {fr : List (Nat × AV)} {t : Nat} {x : AV} (h : lk fr t = x) : x = .any ∨ (t, x) ∈ fr := by
  induction fr with
  | nil => exact .inl h.symm
  | cons p r ih =>
    obtain ⟨k, a⟩ := p
    simp only [lk] at h
    split at h
    · rename_i e; subst e; subst h; exact .inr (by simp)
    · rcases ih h with h' | h'
      · exact .inl h'
      · exact .inr (by simp [h'])

theorem del_mem {fr : List (Nat × AV)} {t k : Nat} {x : AV} (h : (k, x) ∈ del fr t) : (k, x) ∈ fr ∧ k ≠ t := by
  induction fr with
  | nil => simp [del] at h
  | cons p r ih =>
    obtain ⟨k', a⟩ := p
    simp only [del] at h
    split at h
    · have := ih h; exact ⟨by simp [this.1], this.2⟩
    · rename_i hne
      cases h with
      | head => exact ⟨by simp, hne⟩
      | tail _ h => have := ih h; exact ⟨by simp [this.1], this.2⟩

theorem RS.get {E : Env} {s : AS} {ρ : List Value} {B : Nat → Prop} {a : Act} {w : World} (h : RS E s ρ B a w) (t : Nat) :
    Rel w B E.bs ρ (lk s.fr t) (a.tmps.getD t undef) := by
  rcases lk_mem (rfl : lk s.fr t = lk s.fr t) with e | e
  · rw [e]; exact .any _
  · exact (h.rf t _ e).2

theorem RS.ev {E : Env} {s : AS} {ρ : List Value} {B : Nat → Prop} {a : Act} {w : World} (h : RS E s ρ B a w) (x : Operand) :
    Rel w B E.bs ρ (s.ev x) (a.eval x) := by
  cases x with
  | tmp t => exact h.get t
  | const v => exact .val v
  | func f => exact .fn .nil .nil
  | global g => exact .any _

theorem RF.put {w : World} {B : Nat → Prop} {bs : Nat} {ρ : List Value} {tmps : Array Value} {fr : List (Nat × AV)} (h : RF w B bs ρ tmps fr) {t : Nat} {x : AV} {v : Value}
    (hv : Rel w B bs ρ x v) : RF w B bs ρ (tmps.setIfInBounds t v) (if t < tmps.size then (t, x) :: del fr t else del fr t) := by
  have hd : ∀ k y, (k, y) ∈ del fr t → k < (tmps.setIfInBounds t v).size ∧ Rel w B bs ρ y ((tmps.setIfInBounds t v).getD k undef) := by
    intro k y hm
    obtain ⟨hm, hne⟩ := del_mem hm
    obtain ⟨h1, h2⟩ := h k y hm
    refine ⟨by simpa using h1, ?_⟩
    have : (tmps.setIfInBounds t v).getD k undef = tmps.getD k undef := by
      simp [Array.getD_eq_getD_getElem?, Array.getElem?_setIfInBounds_ne (Ne.symm hne)]
    rw [this]; exact h2
  intro k y hm
  split at hm
  · rename_i hlt
    cases hm with
    | head =>
      refine ⟨by simpa using hlt, ?_⟩
      have : (tmps.setIfInBounds t v).getD t undef = v := by simp [Array.getD_eq_getD_getElem?, hlt]
      rw [this]; exact hv
    | tail _ hm => exact hd k y hm
  · exact hd k y hm

theorem RS.put {E : Env} {s : AS} {ρ : List Value} {B : Nat → Prop} {a : Act} {w : World} (h : RS E s ρ B a w) (d : Option Tmp) {x : AV} {v : Value}
    (hv : Rel w B E.bs ρ x v) : RS E (s.put d x) ρ B (a.put d v) w := by
  cases d with
  | none => exact h
  | some t =>
    refine ⟨h.rw_, h.m, by simpa [Act.put, AS.put] using h.n, h.df, h.jj, ?_⟩
    have := h.rf.put (t := t) hv
    rw [h.n] at this
    exact this

/-- the world is as it was for all that the state knows -/
structure Same (w w' : World) : Prop where
  os : w'.os = w.os
  tape : w'.tape = w.tape
  output : w'.output = w.output
  size : w.heap.size ≤ w'.heap.size
  block : ∀ k, k < w.heap.size → w'.heap[k]? = w.heap[k]?

theorem Same.chg {w w' : World} {D B : Nat → Prop} (h : Same w w') : Chg D B w D B w' :=
  ⟨h.os, h.tape, h.output, h.size, fun b hb _ => h.block b hb, fun _ h => .inl h, fun _ h => h, fun _ h => .inl h⟩

theorem RO.same {w w' : World} {B : Nat → Prop} {bs : Nat} {ρ : List Value} {k : Nat} {o : Ob} (hs : Same w w') (hB : ∀ b, B b → b < w.heap.size)
    (h : RO w B bs ρ k o) : RO w' B bs ρ k o := by
  have hw : ∀ b, B b → w'.heap[b]? = w.heap[b]? := fun b hb => hs.block b (hB b hb)
  have hlt : ∀ {b : Nat} {o : Obj}, w.heap[b]? = some o → w'.heap[b]? = some o := fun {b o} h => by
    rw [hs.block b (by rcases Nat.lt_or_ge b w.heap.size with h' | h'; exact h'; simp [Array.getElem?_eq_none h'] at h)]; exact h
  cases o with
  | box T cs =>
    obtain ⟨b, vs, fz, h1, h2, h3, h4, h5⟩ := h
    exact ⟨b, vs, fz, h1, hlt h2, h3, h4.mono (fun _ h => h) hw (Nat.le_refl _) (fun _ _ h => h), h5⟩
  | row T sz xs =>
    obtain ⟨h0, h⟩ := h
    refine ⟨h0, ?_⟩
    rcases h with h | ⟨b, cap, vs, ws, fz, h1, h2, h3, h4, h5, h6⟩
    · exact .inl h
    · exact .inr ⟨b, cap, vs, ws, fz, h1, hlt h2, h3, h4, h5, h6.mono (fun _ h => h) hw (Nat.le_refl _) (fun _ _ h => h)⟩
  | mp es =>
    obtain ⟨b, ms, c, h1, h2, h3⟩ := h
    exact ⟨b, ms, c, h1, hlt h2, h3⟩
  | gone => trivial

theorem RS.same {E : Env} {s : AS} {ρ : List Value} {B : Nat → Prop} {a : Act} {w w' : World} (h : RS E s ρ B a w) (hs : Same w w') : RS E s ρ B a w' := by
  have hw : ∀ b, B b → w'.heap[b]? = w.heap[b]? := fun b hb => hs.block b (h.rw_.blt b hb)
  have r := h.rw_
  have r' : RW E s.ob ρ B w' :=
        { os := hs.os.trans r.os, tape := hs.tape.trans r.tape, output := hs.output.trans r.output, size := Nat.le_trans r.size hs.size,
          block := fun k h1 h2 => (hs.block k (Nat.lt_of_lt_of_le h1 r.size)).trans (r.block k h1 h2), pre := r.pre, bsub := r.bsub, bnew := r.bnew,
          blt := fun b hb => Nat.lt_of_lt_of_le (r.blt b hb) hs.size, len := r.len, obs := fun k o hk => (r.obs k o hk).same hs r.blt, dis := r.dis,
          prv := fun k o v b h1 h2 h3 h4 => by obtain ⟨a1, a2, a3⟩ := r.prv k o v b h1 h2 h3 h4; exact ⟨a1, Nat.lt_of_lt_of_le a2 hs.size, a3⟩ }
  exact ⟨r', h.m, h.n, h.df, h.jj.chg hs.chg r'.bd, fun t x hm => ⟨(h.rf t x hm).1, (h.rf t x hm).2.mono (fun _ h => h) hw (Nat.le_refl _) (fun _ _ h => h)⟩⟩

/-! ### judgements -/
abbrev FR (r : Option Nat) : Fence := { Fence.wide with round := r }

theorem calls_FR {r : Option Nat} {n : Nat} {P : Program} {f : FuncId} {args : Array Value} {w : World} {R : Ending → World → Prop} : CallsIn (FR r) n P f args w R ↔ Calls P f args w R :=
  (Iff.rfl : CallsIn (FR r) n P f args w R ↔ CallsIn Fence.wide n P f args w R).trans callsIn_wide

/-- an operation, at a frame of its make -/
def owp (r : Option Nat) (P : Program) (o : Oper) (a : Act) (w : World) (K : Act → World → Prop) (Q : Exit → Act → World → Prop) : Prop := o.wpIn (FR r) 0 P a w K Q

def lwp (r : Option Nat) (P : Program) (ops : Array Oper) (Q : Exit → Act → World → Prop) : List Oper → Act → World → Prop
  | [], a, w => Q .normal a w
  | o :: rest, a, w => if Region.wanted o (yielded ops a.tmps) then owp r P o a w (lwp r P ops Q rest) Q else lwp r P ops Q rest (a.put o.dst undef) w

theorem lwp_ops {r : Option Nat} {P : Program} {ops : Array Oper} {Q : Exit → Act → World → Prop} : ∀ (l : List Oper) (k : Nat) (a : Act) (w : World), (∀ j, l[j]? = ops[k + j]?) → lwp r P ops Q l a w →
    wpOpsIn (FR r) 0 P ops Q (List.range' k l.length) a w
  | [], k, a, w, _, h => h
  | o :: l, k, a, w, hl, h => by
    have h0 : ops[k]? = some o := by simpa using (hl 0).symm
    simp only [List.length_cons, List.range'_succ, wpOpsIn, h0]
    simp only [lwp] at h
    have ih := fun a w => lwp_ops (r := r) (P := P) (ops := ops) (Q := Q) l (k + 1) a w (fun j => by have := hl (j + 1); simpa [Nat.add_assoc, Nat.add_comm 1 j] using this)
    split
    · rename_i hw
      rw [if_pos hw] at h
      exact Oper.wpIn_mono (fun a w h => ih a w h) h
    · rename_i hw
      rw [if_neg hw] at h
      exact ⟨fun _ _ => trivial, ih _ _ h⟩

theorem region_lwp {r : Option Nat} {P : Program} {id : Nat} {ops : Array Oper} {Q : Exit → Act → World → Prop} {a : Act} {w : World} (h : lwp r P ops Q ops.toList a w) : (Code.region id ops false).wpIn (FR r) 0 P Q a w :=
  wpIn_region (by rw [List.range_eq_range', ← Array.length_toList]; exact lwp_ops ops.toList 0 a w (by simp) h)

theorem owp_val {r : Option Nat} {P : Program} {o : Oper} {a : Act} {w w' : World} {v : Value} {K : Act → World → Prop} {Q : Exit → Act → World → Prop} (hr : (execOp a.eval o).run P w = .ok (.value v) w') (h : K (a.put o.dst v) w')
    (hd : ∀ c, o.op ≠ .defer c := by intro c h; simp_all) : owp r P o a w K Q := by
  refine ⟨fun _ _ => trivial, ?_⟩
  rw [Oper.semAt_eq _ _ _ hd, hr]
  exact h

theorem nodefer_of_value {P : Program} {o : Oper} {ρ : Operand → Value} {w w' : World} {v : Value} (hr : (execOp ρ o).run P w = .ok (.value v) w') : ∀ c, o.op ≠ .defer c := by
  intro c h
  simp only [execOp, h] at hr
  revert hr
  simp only [Sem.run_bind]
  cases hq : (resolve ρ c o.type).run P w with
  | ok d w2 => simp [Result.andThen]
  | halt x w2 => simp [Result.andThen]

theorem owp_value {r : Option Nat} {P : Program} {o : Oper} {a : Act} {w w' : World} {v : Value} {K : Act → World → Prop} {Q : Exit → Act → World → Prop} (hr : (execOp a.eval o).run P w = .ok (.value v) w') (h : K (a.put o.dst v) w') :
    owp r P o a w K Q := owp_val hr h (nodefer_of_value hr)

theorem owp_skip {r : Option Nat} {P : Program} {o : Oper} {a : Act} {w w' : World} {K : Act → World → Prop} {Q : Exit → Act → World → Prop} (hr : (execOp a.eval o).run P w = .ok .skip w') (hd : ∀ c, o.op ≠ .defer c) (h : K (a.put o.dst undef) w') :
    owp r P o a w K Q := by
  refine ⟨fun _ _ => trivial, ?_⟩
  rw [Oper.semAt_eq _ _ _ hd, hr]
  exact h

theorem nodefer_of_enter {P : Program} {o : Oper} {ρ : Operand → Value} {w w' : World} {f : FuncId} {args : Array Value} (hr : (execOp ρ o).run P w = .ok (.enter f args) w') : ∀ c, o.op ≠ .defer c := by
  intro c h
  simp only [execOp, h] at hr
  revert hr
  simp only [Sem.run_bind]
  cases hq : (resolve ρ c o.type).run P w with
  | ok d w2 => simp [Result.andThen]
  | halt x w2 => simp [Result.andThen]

theorem owp_enter {r : Option Nat} {P : Program} {o : Oper} {a : Act} {w w' : World} {f : FuncId} {args : Array Value} {K : Act → World → Prop} {Q : Exit → Act → World → Prop} (hr : (execOp a.eval o).run P w = .ok (.enter f args) w')
    (h : Calls P f args w' fun e w'' => ∃ v, e = .returned v ∧ K (a.put o.dst v) w'') : owp r P o a w K Q := by
  refine ⟨fun _ _ => trivial, ?_⟩
  rw [Oper.semAt_eq _ _ _ (nodefer_of_enter hr), hr]
  refine ⟨fun h => by simp [Fence.wide] at h, calls_FR.2 ?_⟩
  refine h.mono ?_
  rintro e w'' ⟨v, rfl, hk⟩
  exact hk

/-- what a yield must answer -/
def Yields (P : Program) (l : Nat) (vs : List Value) (w : World) (R : Bool → World → Prop) : Prop :=
  YieldAt Fence.wide 0 P l vs.toArray w fun e w' => ∃ b, e = .returned (.bool b) ∧ R b w'

/-- what abides a round: the call's own, and what it reads -/
structure Kept (D B : Nat → Prop) (w w' : World) : Prop where
  os : w'.os = w.os
  tape : w'.tape = w.tape
  output : w'.output = w.output
  size : w.heap.size ≤ w'.heap.size
  block : ∀ b, B b ∨ D b → w'.heap[b]? = w.heap[b]?

structure Env.Ok (E : Env) (P : Program) : Prop where
  yld : ∀ l X, E.yl = some (l, X) → ∀ (tr : List (List AV)) (xs : List AV) (post : List (List AV)) (vs : List Value) (D B : Nat → Prop) (w : World), X = tr ++ xs :: post → E.J tr true D B w → RelL w B E.bs [] xs vs → (∀ b, B b → b < w.heap.size) → (∀ b, D b → b < w.heap.size ∧ ¬ B b) →
    Go.Abs.Yields P l vs w fun b w' => Kept D B w w' ∧ E.J (tr ++ [xs]) b D B w'
  rnd : ∀ l, E.rnd = some l → ∀ tr go D B w, E.J tr go D B w → ∃ r, w.heap[l]? = some (.loop r)

def ARun (P : Program) (ops : Array Oper) (l : List Oper) (s : AS) (Q : AS → Prop) : Prop :=
  ∀ (E : Env), E.Ok P → ∀ (ρ : List Value) (B : Nat → Prop) (a : Act) (w : World), RS E s ρ B a w → ∀ Q' : Exit → Act → World → Prop,
    (∀ s' ρ' B' a' w', Q s' → RS E s' ρ' B' a' w' → Q' .normal a' w') → lwp E.rnd P ops Q' l a w

def AWp (P : Program) (c : Code) (s : AS) (Q : Exit → AS → Prop) : Prop :=
  ∀ (E : Env), E.Ok P → ∀ (ρ : List Value) (B : Nat → Prop) (a : Act) (w : World), RS E s ρ B a w → ∀ Q' : Exit → Act → World → Prop,
    (∀ e s' ρ' B' a' w', Q e s' → RS E s' ρ' B' a' w' → Q' e a' w') → c.wpIn (FR E.rnd) 0 P Q' a w

def ACalls (P : Program) (f : FuncId) (args : List AV) (τ : List Ob) (R : AV → List Ob → Prop) : Prop :=
  ∀ (w : World) (ρ : List Value) (B : Nat → Prop) (vs : List Value), RW (E0 w B ρ) τ ρ B w → RelL w B w.heap.size ρ args vs → ∀ R' : Ending → World → Prop,
    (∀ r v τ' ρ' B' w', R r τ' → RW (E0 w B ρ) τ' ρ' B' w' → Rel w' B' w.heap.size ρ' r v → R' (.returned v) w') → Calls P f vs.toArray w R'

section rules
variable {P : Program}
theorem AWp.mono {c : Code} {s : AS} {Q R : Exit → AS → Prop} (h : AWp P c s Q) (hq : ∀ e s, Q e s → R e s) : AWp P c s R :=
  fun E hE ρ B a w hs Q' hQ => h E hE ρ B a w hs Q' fun e s' ρ' B' a' w' q => hQ e s' ρ' B' a' w' (hq _ _ q)

theorem ARun.mono {ops : Array Oper} {l : List Oper} {s : AS} {Q R : AS → Prop} (h : ARun P ops l s Q) (hq : ∀ s, Q s → R s) : ARun P ops l s R :=
  fun E hE ρ B a w hs Q' hQ => h E hE ρ B a w hs Q' fun s' ρ' B' a' w' q => hQ s' ρ' B' a' w' (hq _ q)

theorem AWp.skip {s : AS} {Q : Exit → AS → Prop} (h : Q .normal s) : AWp P .skip s Q :=
  fun E hE ρ B a w hs Q' hQ => wpIn_skip (hQ _ _ _ _ _ _ h hs)

theorem AWp.ret {s : AS} {Q : Exit → AS → Prop} (h : Q .ret s) : AWp P .ret s Q :=
  fun E hE ρ B a w hs Q' hQ => wpIn_ret (hQ _ _ _ _ _ _ h hs)

theorem AWp.exit {s : AS} {Q : Exit → AS → Prop} {id : Nat} (h : Q (.exit id) s) : AWp P (.exit id) s Q :=
  fun E hE ρ B a w hs Q' hQ => wpIn_exit (hQ _ _ _ _ _ _ h hs)

theorem AWp.label {s : AS} {Q : Exit → AS → Prop} {l : Nat} (h : Q .normal s) : AWp P (.label l) s Q :=
  fun E hE ρ B a w hs Q' hQ => wpIn_label (hQ _ _ _ _ _ _ h hs)

def thenQ (next : AS → Prop) (Q : Exit → AS → Prop) : Exit → AS → Prop
  | .normal, s => next s
  | e, s => Q e s

theorem AWp.seq {x y : Code} {s : AS} {Q : Exit → AS → Prop} (h : AWp P x s (thenQ (fun s' => AWp P y s' Q) Q)) : AWp P (.seq x y) s Q := by
  intro E hE ρ B a w hs Q' hQ
  refine wpIn_seq (h E hE ρ B a w hs _ ?_)
  intro e s' ρ' B' a' w' q hs'
  cases e with
  | normal => exact q E hE ρ' B' a' w' hs' Q' hQ
  | _ => exact hQ _ _ _ _ _ _ q hs'

theorem AWp.cond {c : Operand} {x y : Code} {s : AS} {Q : Exit → AS → Prop} {t : Bool} (hc : s.ev c = .val (.bool t))
    (ht : t = true → AWp P x s Q) (hf : t = false → AWp P y s Q) : AWp P (.cond c x y) s Q := by
  intro E hE ρ B a w hs Q' hQ
  have he := hs.ev c
  rw [hc] at he
  have hv : a.eval c = .bool t := by generalize a.eval c = v at he; cases he; rfl
  exact wpIn_cond_split hv (fun h => ht h E hE ρ B a w hs Q' hQ) (fun h => hf h E hE ρ B a w hs Q' hQ)

def blockQ (id : Nat) (Q : Exit → AS → Prop) : Exit → AS → Prop
  | .exit id', s => if id' = id then Q .normal s else Q (.exit id') s
  | e, s => Q e s

theorem AWp.block {id : Nat} {c : Code} {s : AS} {Q : Exit → AS → Prop} (h : AWp P c s (blockQ id Q)) : AWp P (.block id c) s Q := by
  intro E hE ρ B a w hs Q' hQ
  refine wpIn_block (h E hE ρ B a w hs _ ?_)
  intro e s' ρ' B' a' w' q hs'
  cases e with
  | exit id' =>
    simp only [blockQ] at q
    simp only [Exit.inBlock]
    split <;> rename_i hid
    · rw [if_pos hid] at q; exact hQ _ _ _ _ _ _ q hs'
    · rw [if_neg hid] at q; exact hQ _ _ _ _ _ _ q hs'
  | _ => exact hQ _ _ _ _ _ _ q hs'

/-- A loop: an invariant over states and a measure. -/
theorem AWp.loop {c : Code} {s : AS} {Q : Exit → AS → Prop} {α : Type} (I : α → AS → Prop) (μ : α → Nat) (x : α) (h0 : I x s)
    (round : ∀ x s, I x s → AWp P c s (thenQ (fun s' => ∃ y, I y s' ∧ μ y < μ x) Q)) : AWp P (.loop c) s Q := by
  intro E hE ρ B a w hs Q' hQ
  refine wpIn_loop_ghost (fun n a w => ∃ x s ρ B, I x s ∧ RS E s ρ B a w ∧ μ x = n) (μ x) ⟨x, s, ρ, B, h0, hs, rfl⟩ ?_
  rintro n a w ⟨x, s, ρ, B, hx, hs, rfl⟩
  refine round x s hx E hE ρ B a w hs _ ?_
  intro e s' ρ' B' a' w' q hs'
  cases e with
  | normal =>
    obtain ⟨y, hy, hlt⟩ := q
    exact ⟨_, hlt, y, s', ρ', B', hy, hs', rfl⟩
  | _ => exact hQ _ _ _ _ _ _ q hs'

theorem AWp.region {id : Nat} {ops : Array Oper} {s : AS} {Q : Exit → AS → Prop} (h : ARun P ops ops.toList s (Q .normal)) : AWp P (.region id ops false) s Q :=
  fun E hE ρ B a w hs Q' hQ => region_lwp (h E hE ρ B a w hs Q' fun s' ρ' B' a' w' q hs' => hQ _ _ _ _ _ _ q hs')

theorem ARun.nil {ops : Array Oper} {s : AS} {Q : AS → Prop} (h : Q s) : ARun P ops [] s Q :=
  fun E hE ρ B a w hs Q' hQ => hQ _ _ _ _ _ h hs
end rules
end Go.Abs
