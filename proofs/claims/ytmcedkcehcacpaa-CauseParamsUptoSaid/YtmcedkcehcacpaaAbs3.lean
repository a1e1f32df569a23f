/- Operations of the claim's own program logic, one rule each. No condition. -/
import Derived.Test.YtmcedkcehcacpaaAbs2
import Derived.Laws.Build
namespace Go.Abs
set_option linter.unusedVariables false
set_option linter.unusedSectionVars false
set_option linter.unusedSimpArgs false

/-- the operation itself, whatever its guard -/
def AOp (P : Program) (ops : Array Oper) (o : Oper) (rest : List Oper) (s : AS) (Q : AS → Prop) : Prop :=
  ∀ (E : Env), E.Ok P → ∀ (ρ : List Value) (B : Nat → Prop) (a : Act) (w : World), RS E s ρ B a w → ∀ Q' : Exit → Act → World → Prop,
    (∀ s' ρ' B' a' w', Q s' → RS E s' ρ' B' a' w' → Q' .normal a' w') → owp E.rnd P o a w (lwp E.rnd P ops Q' rest) Q'

/-- what a guard says that looks at this value -/
def gdv (x : AV) (want : Bool) : Option Bool :=
  match x with
  | .val (.bool b) => some (b == want)
  | .val (.tuple _) => some false
  | _ => none

/-- is the operation carried out? -/
def gd (ops : Array Oper) (s : AS) (o : Oper) : Option Bool :=
  match o.guard with
  | none => some true
  | some (j, want) =>
    match (ops[j]?).bind (·.dst) with
    | some d => gdv (lk s.fr d) want
    | none => none

section
variable {P : Program} {ops : Array Oper} {o : Oper} {rest : List Oper} {s s' : AS} {Q : AS → Prop}

theorem Rel.val_eq' {w : World} {B : Nat → Prop} {bs : Nat} {ρ : List Value} {u v : Value} (h : Rel w B bs ρ (.val u) v) : v = u := by cases h; rfl

theorem gd_wanted {b : Bool} (h : gd ops s o = some b) {E : Env} {ρ : List Value} {B : Nat → Prop} {a : Act} {w : World} (hs : RS E s ρ B a w) :
    Region.wanted o (yielded ops a.tmps) = b := by
  unfold gd at h
  unfold Region.wanted
  cases hg : o.guard with
  | none => simp [hg] at h; simp [h]
  | some p =>
    obtain ⟨j, want⟩ := p
    simp only [hg] at h ⊢
    cases hd : (ops[j]?).bind (·.dst) with
    | none => simp [hd] at h
    | some d =>
      simp only [hd] at h
      have hv := hs.get d
      generalize lk s.fr d = x at h hv
      unfold gdv at h
      split at h <;> simp only [Option.some.injEq, reduceCtorEq] at h
      · rename_i b'
        have hb := hv.val_eq'
        have hlt : d < a.tmps.size := by
          rcases Nat.lt_or_ge d a.tmps.size with h' | h'
          · exact h'
          · rw [Array.getD_eq_getD_getElem?, Array.getElem?_eq_none h'] at hb; simp [undef] at hb
        have hq : a.tmps[d]? = some (.bool b') := by
          rw [Array.getD_eq_getD_getElem?, Array.getElem?_eq_getElem hlt] at hb
          rw [Array.getElem?_eq_getElem hlt]
          simpa using hb
        have : yielded ops a.tmps j = some b' := by simp only [yielded, hd, Option.bind_some, hq]
        rw [this]
        rw [← h]
        cases b' <;> cases want <;> rfl
      · rename_i l
        have hb := hv.val_eq'
        have : yielded ops a.tmps j = none := by
          simp only [yielded, hd, Option.bind_some]
          split
          · rename_i b' hq
            rw [Array.getD_eq_getD_getElem?, hq] at hb
            simp at hb
          · rfl
        rw [this, ← h]; rfl

theorem ARun.exec (h : gd ops s o = some true) (k : AOp P ops o rest s Q) : ARun P ops (o :: rest) s Q := by
  intro E hE ρ B a w hs Q' hQ
  simp only [lwp]
  rw [if_pos (gd_wanted h hs)]
  exact k E hE ρ B a w hs Q' hQ

theorem ARun.pass (h : gd ops s o = some false) (k : ARun P ops rest (s.put o.dst (.val (.tuple #[]))) Q) : ARun P ops (o :: rest) s Q := by
  intro E hE ρ B a w hs Q' hQ
  simp only [lwp]
  rw [if_neg (by rw [gd_wanted h hs]; simp)]
  exact k E hE ρ B _ w (hs.put _ (.val _)) Q' hQ

/-- one op, a value, the world as it was for all that is known -/
theorem AOp.value {x : AV} (h : ∀ (E : Env) (ρ : List Value) (B : Nat → Prop) (a : Act) (w : World), RS E s ρ B a w →
      ∃ v w' ρ' B', (execOp a.eval o).run P w = .ok (.value v) w' ∧ RS E s' ρ' B' a w' ∧ Rel w' B' E.bs ρ' x v)
    (k : ARun P ops rest (s'.put o.dst x) Q) : AOp P ops o rest s Q := by
  intro E hE ρ B a w hs Q' hQ
  obtain ⟨v, w', ρ', B', hr, hs', hv⟩ := h E ρ B a w hs
  exact owp_value hr (k E hE ρ' B' _ w' (hs'.put _ hv) Q' hQ)

theorem AOp.pure1 {x : AV} (h : ∀ (E : Env) (ρ : List Value) (B : Nat → Prop) (a : Act) (w : World), RS E s ρ B a w →
      ∃ v, (execOp a.eval o).run P w = .ok (.value v) w ∧ Rel w B E.bs ρ x v)
    (k : ARun P ops rest (s.put o.dst x) Q) : AOp P ops o rest s Q :=
  AOp.value (s' := s) (fun E ρ B a w hs => let ⟨v, h1, h2⟩ := h E ρ B a w hs; ⟨v, w, ρ, B, h1, hs, h2⟩) k

theorem AOp.unit (h : ∀ (E : Env) (ρ : List Value) (B : Nat → Prop) (a : Act) (w : World), RS E s ρ B a w →
      ∃ w' ρ' B', (execOp a.eval o).run P w = .ok .skip w' ∧ RS E s' ρ' B' a w') (hd : ∀ c, o.op ≠ .defer c)
    (k : ARun P ops rest (s'.put o.dst .any) Q) : AOp P ops o rest s Q := by
  intro E hE ρ B a w hs Q' hQ
  obtain ⟨w', ρ', B', hr, hs'⟩ := h E ρ B a w hs
  exact owp_skip hr hd (k E hE ρ' B' _ w' (hs'.put _ (.any _)) Q' hQ)
end

/-! ### values of operations on values -/
def bitsV (op : BinOp) (k : IntKind) (a b : Int) : Int :=
  let x := BitVec.ofInt k.bits a
  let y := BitVec.ofInt k.bits b
  match op with
  | .and => k.wrap (x &&& y).toNat
  | .or => k.wrap (x ||| y).toNat
  | .xor => k.wrap (x ^^^ y).toNat
  | .andNot => k.wrap (x &&& ~~~y).toNat
  | _ => 0

def isNil : Value → Bool
  | .nilIface | .nilFunc | .pointer none | .slice none _ _ => true
  | _ => false

/-- a value that is surely not nil -/
def notNil : AV → Bool
  | .ptr _ _ | .ept _ _ | .ref _ _ | .ifc _ _ | .fn _ _ _ | .sl _ _ (_ :: _) => true
  | _ => false

def binV (op : BinOp) (x y : AV) : Option AV :=
  match x, y with
  | .val (.int k a), .val (.int k' b) =>
    match op with
    | .add => if k = k' then some (.val (.int k (k.wrap (a + b)))) else none
    | .sub => if k = k' then some (.val (.int k (k.wrap (a - b)))) else none
    | .mul => if k = k' then some (.val (.int k (k.wrap (a * b)))) else none
    | .quo => if k = k' then if b = 0 then none else some (.val (.int k (k.wrap (a.tdiv b)))) else none
    | .rem => if k = k' then if b = 0 then none else some (.val (.int k (a.tmod b))) else none
    | .and => if k = k' then some (.val (.int k (bitsV .and k a b))) else none
    | .or => if k = k' then some (.val (.int k (bitsV .or k a b))) else none
    | .xor => if k = k' then some (.val (.int k (bitsV .xor k a b))) else none
    | .andNot => if k = k' then some (.val (.int k (bitsV .andNot k a b))) else none
    | .shl => if b < 0 then none else some (.val (.int k (k.wrap (a * 2 ^ (min b.toNat k.bits)))))
    | .shr => if b < 0 then none else some (.val (.int k (a.fdiv (2 ^ (min b.toNat k.bits)))))
    | .eql => if k = k' then some (.val (.bool (a == b))) else none
    | .neq => if k = k' then some (.val (.bool (a != b))) else none
    | .lss => if k = k' then some (.val (.bool (decide (a < b)))) else none
    | .leq => if k = k' then some (.val (.bool (decide (a ≤ b)))) else none
    | .gtr => if k = k' then some (.val (.bool (decide (b < a)))) else none
    | .geq => if k = k' then some (.val (.bool (decide (b ≤ a)))) else none
  | .val (.string a), .val (.string b) =>
    match op with
    | .eql => some (.val (.bool (a.toList == b.toList)))
    | .neq => some (.val (.bool (!(a.toList == b.toList))))
    | _ => none
  | _, _ => none

inductive NK where
  | ifc | ptr | slc | fnc | other
  deriving DecidableEq

def nk (P : Program) (t : TypeId) : NK :=
  match P.underlying t with
  | some (.interface _) => .ifc
  | some (.pointer _) => .ptr
  | some (.slice _) => .slc
  | some (.func _ _ _) => .fnc
  | _ => .other

/-- is the value nil? (the other side is the literal nil of its type) -/
def nilIs (k : NK) (x : AV) : Option Bool :=
  match k, x with
  | .ifc, .ifc _ _ => some false
  | .ifc, .val .nilIface => some true
  | .ptr, .ptr _ _ | .ptr, .ept _ _ | .ptr, .ref _ _ => some false
  | .ptr, .val (.pointer none) => some true
  | .slc, .sl _ _ (_ :: _) => some false
  | .slc, .val (.slice none _ _) => some true
  | .fnc, .fn _ _ _ => some false
  | .fnc, .val .nilFunc => some true
  | _, _ => none

def nilV (k : NK) (v : Value) (b : Bool) : Prop :=
  match k, v with
  | .ifc, .iface _ _ => b = false
  | .ifc, .nilIface => b = true
  | .ptr, .pointer (some _) => b = false
  | .ptr, .pointer none => b = true
  | .slc, .slice (some _) _ _ => b = false
  | .slc, .slice none _ _ => b = true
  | .fnc, .func _ _ _ => b = false
  | .fnc, .nilFunc => b = true
  | _, _ => False

def nilLit (k : NK) (v : Value) : Bool :=
  match k, v with
  | .ifc, .nilIface | .ptr, .pointer none | .slc, .slice none _ _ | .fnc, .nilFunc => true
  | _, _ => false

/-- a field's place, for a struct -/
def places (P : Program) (T : TypeId) : Option (List (Nat × Nat)) :=
  match P.underlying T with
  | some (.struct fs) => fs.toList.mapM fun f => (P.info? f.type).map fun i => (f.offset, i.size)
  | some (.array n e) => (P.info? e).map fun i => (List.range n).map fun k => (k * i.size, i.size)
  | _ => none

theorem fill_array (n sz : Nat) : ∀ (parts : List (Nat × Value)) (cs r : Array Value), Instr.fill (((List.range n).map fun k => (k * sz, sz))[·]?) cs parts = some r → Instr.fill (fun i => some (i * sz, sz)) cs parts = some r
  | [], cs, r, h => h
  | (i, v) :: rest, cs, r, h => by
    simp only [Instr.fill] at h ⊢
    rcases Nat.lt_or_ge i n with hi | hi
    · have e : ((List.range n).map fun k => (k * sz, sz))[i]? = some (i * sz, sz) := by simp [hi]
      rw [e] at h
      simp only at h ⊢
      split at h
      · simp at h
      · rename_i hc
        rw [if_neg hc]
        exact fill_array n sz rest _ r h
    · have e : ((List.range n).map fun k => (k * sz, sz))[i]? = none := by simp [hi]
      rw [e] at h
      simp at h

def afill (place : Nat → Option (Nat × Nat)) (cells : List AV) : List (Nat × AV) → Option (List AV)
  | [] => some cells
  | (i, x) :: rest =>
    match place i with
    | none => none
    | some (off, size) => if x.flat = true ∧ x.cells.length = size ∧ off + x.cells.length ≤ cells.length then afill place (splice cells off x.cells) rest else none

section run
variable {P : Program} {w : World} {B : Nat → Prop} {bs : Nat} {ρ : List Value}

theorem run_mapM_list {α β : Type} (f : α → Sem β) (g : α → β) (h : ∀ x w, (f x).run P w = .ok (g x) w) : ∀ (l : List α) (w : World), (l.mapM f).run P w = .ok (l.map g) w
  | [], w => by simp
  | x :: l, w => by simp [List.mapM_cons, h, run_mapM_list f g h l]

theorem run_mapM_some {α β : Type} (f : α → Sem β) (g : α → Option β) (h : ∀ x y w, g x = some y → (f x).run P w = .ok y w) : ∀ (l : List α) (ys : List β) (w : World), l.mapM g = some ys → (l.mapM f).run P w = .ok ys w
  | [], ys, w, e => by simp at e; subst e; simp
  | x :: l, ys, w, e => by
    simp only [List.mapM_cons, Option.bind_eq_bind, Option.bind_eq_some_iff, Option.pure_def, Option.some.injEq] at e
    obtain ⟨y, hy, zs, hz, rfl⟩ := e
    simp [List.mapM_cons, h x y _ hy, run_mapM_some f g h l zs w hz]

theorem run_mapM_array {α β : Type} (f : α → Sem β) (g : α → Option β) (h : ∀ x y w, g x = some y → (f x).run P w = .ok y w) (l : Array α) (ys : List β) (w : World) (e : l.toList.mapM g = some ys) :
    (l.mapM f).run P w = .ok ys.toArray w := by
  rw [Array.mapM_eq_mapM_toList]
  simp [run_mapM_some f g h l.toList ys w e]

theorem set_fold (vs : List Value) : ∀ (us : List Value) (k off : Nat), off + us.length + k ≤ vs.length →
    ((us.zipIdx k).foldl (fun (cs : Array Value) (p : Value × Nat) => cs.setIfInBounds (off + p.2) p.1) vs.toArray) = (vs.take (off + k) ++ us ++ vs.drop (off + k + us.length)).toArray
  | [], k, off, _ => by simp
  | u :: us, k, off, h => by
    simp only [List.zipIdx_cons, List.foldl_cons, List.setIfInBounds_toArray]
    have hl : off + us.length + (k + 1) ≤ (vs.set (off + k) u).length := by simp at h ⊢; omega
    rw [set_fold (vs.set (off + k) u) us (k + 1) off hl]
    have e := list_seg_step vs (off + k) u us (by simp at h; omega)
    rw [show off + (k + 1) = off + k + 1 by omega, e]
    simp

theorem RelL.splice {cs xs : List AV} {vs us : List Value} (h : RelL w B bs ρ cs vs) (k : RelL w B bs ρ xs us) (off : Nat) :
    RelL w B bs ρ (splice cs off xs) (vs.take off ++ us ++ vs.drop (off + us.length)) := by
  unfold Abs.splice
  rw [← k.length_eq]
  exact ((h.take off).append k).append (h.drop _)

theorem fill_rel (place : Nat → Option (Nat × Nat)) : ∀ (parts : List (Nat × AV)) (vparts : List (Nat × Value)) (cs cs' : List AV) (vs : List Value),
    parts.map (·.1) = vparts.map (·.1) → RelL w B bs ρ (parts.map (·.2)) (vparts.map (·.2)) → RelL w B bs ρ cs vs → (∀ c ∈ cs, c.one = true) → afill place cs parts = some cs' →
    ∃ vs', Instr.fill place vs.toArray vparts = some vs'.toArray ∧ RelL w B bs ρ cs' vs' ∧ (∀ c ∈ cs', c.one = true) ∧ cs'.length = cs.length
  | [], [], cs, cs', vs, _, _, h, h1, e => by simp [afill] at e; subst e; exact ⟨vs, rfl, h, h1, rfl⟩
  | [], _ :: _, _, _, _, e, _, _, _, _ => by simp at e
  | _ :: _, [], _, _, _, e, _, _, _, _ => by simp at e
  | (i, x) :: parts, (i', v) :: vparts, cs, cs', vs, e, r, h, h1, ef => by
    simp only [List.map_cons, List.cons.injEq] at e
    obtain ⟨rfl, e⟩ := e
    simp only [List.map_cons] at r
    cases r with
    | cons rx r =>
      simp only [afill] at ef
      cases hp : place i with
      | none => simp [hp] at ef
      | some p =>
        obtain ⟨off, size⟩ := p
        simp only [hp] at ef
        split at ef
        · rename_i hc
          obtain ⟨hf, hs, hl⟩ := hc
          obtain ⟨rc, r1⟩ := rx.toCells hf
          have hlen := rc.length_eq
          have hlen2 := h.length_eq
          have hsz : v.cells.size = size := by rw [← hs, hlen]; simp
          have hsz2 : v.cells.toList.length = v.cells.size := by simp
          have key : v.cells.zipIdx.foldl (fun (cs : Array Value) (p : Value × Nat) => cs.setIfInBounds (off + p.2) p.1) vs.toArray = (vs.take off ++ v.cells.toList ++ vs.drop (off + v.cells.toList.length)).toArray := by
            have := set_fold vs v.cells.toList 0 off (by omega)
            rw [← Array.foldl_toList, Array.toList_zipIdx]
            simpa using this
          obtain ⟨vs', k1, k2, k3, k4⟩ := fill_rel place parts vparts (Abs.splice cs off x.cells) cs' _ e r (h.splice rc off) (by
            intro c hc
            simp only [Abs.splice, List.mem_append] at hc
            rcases hc with (hc | hc) | hc
            · exact h1 c (List.mem_of_mem_take hc)
            · exact r1 c hc
            · exact h1 c (List.mem_of_mem_drop hc)) ef
          refine ⟨vs', ?_, k2, k3, ?_⟩
          · simp only [Instr.fill, hp]
            rw [if_neg (by simp [hsz]; omega)]
            rw [key]
            exact k1
          · rw [k4]; simp [Abs.splice]; omega
        · simp at ef
end run

/-! ### the simple step -/
def intOp (x : AV) : Option (IntKind × Int) :=
  match x with
  | .val (.int k n) => some (k, n)
  | _ => none

/-- is a conversion one between whole numbers? the kind of the result -/
def ikd (P : Program) (t : TypeId) : Option IntKind :=
  match P.underlying t with
  | some (.int k) => some k
  | _ => none

def cvInt (P : Program) (src dst : TypeId) : Option IntKind :=
  match ikd P src, ikd P dst with
  | some _, some k => some k
  | _, _ => none

theorem ikd_spec {P : Program} {t : TypeId} {k : IntKind} (h : ikd P t = some k) : P.underlying t = some (.int k) := by
  unfold ikd at h
  split at h <;> simp only [Option.some.injEq, reduceCtorEq] at h
  subst h; assumption

def isSlc (P : Program) (t : TypeId) : Bool :=
  match P.underlying t with
  | some (.slice _) => true
  | _ => false

def isStr (P : Program) (t : TypeId) : Bool :=
  match P.underlying t with
  | some .string => true
  | _ => false

def concrete (P : Program) (t : TypeId) : Bool :=
  match P.underlying t with
  | some (.interface _) | none => false
  | _ => true

def tkLen : TK → Nat
  | .scal => 1
  | .aggr n => n
  | .bad => 0

def sval (P : Program) (s : AS) : Op → Option AV
  | .move x | .assign x => some (s.ev x)
  | .pick c a b =>
    match s.ev c with
    | .val (.bool g) => some (bif g then s.ev a else s.ev b)
    | _ => none
  | .build T parts =>
    match places P T, zc P T with
    | some pl, some z => (afill (pl[·]?) (z.map AV.val) (parts.toList.map fun p => (p.1, s.ev p.2))).map AV.agg
    | _, _ => none
  | .load T x =>
    match s.ev x with
    | .ptr k off =>
      match s.ob[k]? with
      | some (.box _ cs) => part' cs off (tk P T)
      | _ => none
    | .ref _ y => if tkLen (tk P T) = y.cells.length then part' y.cells 0 (tk P T) else none
    | _ => none
  | .nilCheck x =>
    match s.ev x with
    | .ptr k off => some (.ptr k off)
    | .ept k off => some (.ept k off)
    | .ref nw y => some (.ref nw y)
    | .fn f l m => (match f with | .method _ => none | _ => some (.fn f l m))
    | _ => none
  | .binOp op T x (.const v) _ =>
    match op with
    | .eql => if nilLit (nk P T) v = true then (nilIs (nk P T) (s.ev x)).map fun b => .val (.bool b) else binV .eql (s.ev x) (.val v)
    | .neq => if nilLit (nk P T) v = true then (nilIs (nk P T) (s.ev x)).map fun b => .val (.bool !b) else binV .neq (s.ev x) (.val v)
    | _ => binV op (s.ev x) (.val v)
  | .binOp op _ x y _ => binV op (s.ev x) (s.ev y)
  | .unOp .not _ x =>
    match s.ev x with
    | .val (.bool b) => some (.val (.bool !b))
    | _ => none
  | .unOp .neg _ x =>
    match s.ev x with
    | .val (.int k n) => some (.val (.int k (k.wrap (0 - n))))
    | _ => none
  | .convert src dst x =>
    match cvInt P src dst, s.ev x with
    | some k, .val (.int _ n) => some (.val (.int k (k.wrap n)))
    | _, _ => none
  | .makeInterface T x => if concrete P T = true then some (.ifc T (s.ev x)) else none
  | .makeFunc f l m => some (.fn f (l.toList.map s.ev) (m.toList.map s.ev))
  | .fieldAddr T x f =>
    match fld P T f, s.ev x with
    | some (o, _), .ptr k off => some (.ptr k (off + o))
    | some (o, _), .ept k off => some (.ept k (off + o))
    | some (o, k), .ref nw y => (part' y.cells o k).map (.ref nw ·)
    | _, _ => none
  | .field T x f =>
    match fld P T f, s.ev x with
    | some (o, k), .agg l => part' l o k
    | _, _ => none
  | .extract x i =>
    match s.ev x with
    | .tup l => l[i]?
    | _ => none
  | .call { callee := .builtin .len, args := args, argTypes := ts } =>
    match args.toList, ts.toList with
    | [x], [t] =>
      match s.ev x with
      | .sl _ _ xs => if isSlc P t = true then some (.val (.int .i64 (N xs.length))) else none
      | .val (.slice none 0 0) => if isSlc P t = true then some (.val (.int .i64 0)) else none
      | .val (.string b) => if isStr P t = true then some (.val (.int .i64 (N b.size))) else none
      | .own k =>
        match s.ob[k]? with
        | some (.row _ _ xs) => if isSlc P t = true then some (.val (.int .i64 (N xs.length))) else none
        | _ => none
      | _ => none
    | _, _ => none
  | _ => none

section
variable {P : Program} {E : Env} {s : AS} {ρ : List Value} {B : Nat → Prop} {a : Act} {w : World} {o : Oper}

theorem Rel.val_eq {w : World} {B : Nat → Prop} {bs : Nat} {ρ : List Value} {u v : Value} (h : Rel w B bs ρ (.val u) v) : v = u := by cases h; rfl

theorem RelL.part' {w : World} {B : Nat → Prop} {bs : Nat} {ρ : List Value} {cs : List AV} {vs : List Value} {off : Nat} {k : TK} {x : AV} (h : RelL w B bs ρ cs vs) (e : part' cs off k = some x) :
    (k = .scal ∧ ∃ v, vs[off]? = some v ∧ Rel w B bs ρ x v) ∨ ∃ n, k = .aggr n ∧ off + n ≤ vs.length ∧ Rel w B bs ρ x (.agg ((vs.drop off).take n).toArray) := by
  cases k with
  | scal => exact .inl ⟨rfl, h.get e⟩
  | aggr n =>
    simp only [Abs.part'] at e
    split at e
    · rename_i hl
      simp at e; subst e
      exact .inr ⟨n, rfl, by rw [← h.length_eq]; exact hl, .agg ((h.drop off).take n)⟩
    · simp at e
  | bad => simp [Abs.part'] at e

theorem run_load_cells {T : TypeId} {b o : Nat} {vs : List Value} {k : TK} {cs : List AV} {x : AV} {off : Nat} (hk : tk P T = k) (h : RelL w B E.bs ρ cs vs) (hc : ∀ j v, vs[j]? = some v → w.cell? ⟨b, o + j, none⟩ = some v)
    (e : part' cs off k = some x) : ∃ v, (loadVar T ⟨b, o + off, none⟩).run P w = .ok v w ∧ Rel w B E.bs ρ x v := by
  rcases h.part' e with ⟨rfl, v, hv, hr⟩ | ⟨n, rfl, hl, hr⟩
  · exact ⟨v, run_loadVar_scal hk (hc _ v hv), hr⟩
  · refine ⟨_, run_loadVar_aggr (n := n) hk (by simp; omega) ?_, hr⟩
    intro j v hj
    rw [List.getElem?_take] at hj
    split at hj
    · rw [List.getElem?_drop] at hj
      have := hc _ v hj
      rwa [show o + off + j = o + (off + j) by omega]
    · simp at hj

theorem equal_run {T : TypeId} {x y : Value} {b : Bool} (h : ∀ d, (Op.equalIn (d + 1) T x y).run P w = .ok b w) : (Op.equal T x y).run P w = .ok b w := h 9999

/-- the value is nil or not; u is the literal nil -/
theorem nil_eq {T : TypeId} {v u : Value} {b : Bool} (hl : nilLit (nk P T) u = true)
    (hn : nilV (nk P T) v b) :
    (binOp .eql T v u).run P w = .ok (.bool b) w ∧ (binOp .neq T v u).run P w = .ok (.bool !b) w ∧ ∀ op X, (eqGuard op T X (.const u) v u).run P w = .ok () w := by
  have main : (Op.equal T v u).run P w = .ok b w ∧ (binOp .eql T v u = (do pure (.bool (← Op.equal T v u)))) ∧ (binOp .neq T v u = (do pure (.bool (!(← Op.equal T v u))))) ∧ ∀ op X, (eqGuard op T X (.const u) v u).run P w = .ok () w := by
    unfold nk at hl hn
    unfold nilV at hn
    cases hu : P.underlying T with
    | none => simp [hu] at hn
    | some d =>
      cases d with
      | interface ms =>
        simp only [hu] at hl hn
        cases u <;> simp only [nilLit, Bool.false_eq_true] at hl
        cases v <;> simp only at hn
        all_goals subst hn
        all_goals refine ⟨equal_run fun d => by simp [Op.equalIn, run_underlying hu], rfl, rfl, fun op X => ?_⟩
        all_goals cases op <;> simp [eqGuard]
      | pointer e =>
        simp only [hu] at hl hn
        cases u with
        | pointer q =>
          cases q <;> simp only [nilLit, Bool.false_eq_true] at hl
          cases v with
          | pointer q =>
            cases q <;> simp only at hn
            all_goals subst hn
            all_goals refine ⟨equal_run fun d => by simp [Op.equalIn, run_underlying hu], rfl, rfl, fun op X => ?_⟩
            all_goals cases op <;> simp [eqGuard]
          | _ => simp at hn
        | _ => simp [nilLit] at hl
      | slice e =>
        simp only [hu] at hl hn
        cases u with
        | slice q n c =>
          cases q <;> simp only [nilLit, Bool.false_eq_true] at hl
          cases v with
          | slice q n c =>
            cases q <;> simp only at hn
            all_goals subst hn
            all_goals refine ⟨equal_run fun d => by simp [Op.equalIn, run_underlying hu], rfl, rfl, fun op X => ?_⟩
            all_goals cases op <;> simp [eqGuard]
          | _ => simp at hn
        | _ => simp [nilLit] at hl
      | func a b c =>
        simp only [hu] at hl hn
        cases u <;> simp only [nilLit, Bool.false_eq_true] at hl
        cases v <;> simp only at hn
        all_goals subst hn
        all_goals refine ⟨equal_run fun d => by simp [Op.equalIn, run_underlying hu], rfl, rfl, fun op X => ?_⟩
        all_goals cases op <;> simp [eqGuard]
      | _ => simp [hu] at hn
  obtain ⟨m1, m2, m3, m4⟩ := main
  refine ⟨by rw [m2]; simp [m1], by rw [m3]; simp [m1], m4⟩

theorem nilIs_val {k : NK} {x : AV} {v : Value} {b : Bool} (hn : nilIs k x = some b) (hv : Rel w B E.bs ρ x v) :
    nilV k v b := by
  unfold nilV
  unfold nilIs at hn
  split at hn <;> simp at hn
  all_goals subst hn
  all_goals cases hv
  all_goals simp

theorem binV_run {op : BinOp} {T : TypeId} {x y z : AV} {u v : Value} (h : binV op x y = some z) (hx : Rel w B E.bs ρ x u) (hy : Rel w B E.bs ρ y v) :
    ∃ r, (binOp op T u v).run P w = .ok r w ∧ z = .val r ∧ ∀ X Y, (eqGuard op T X Y u v).run P w = .ok () w := by
  unfold binV at h
  split at h
  · rename_i k a k' b
    obtain rfl := hx.val_eq
    obtain rfl := hy.val_eq
    have hg : ∀ X Y, (eqGuard op T X Y (.int k a) (.int k' b)).run P w = .ok () w := fun X Y => by cases op <;> simp [eqGuard]
    cases op <;> simp only at h <;> (repeat' split at h) <;> (try (simp at h; done)) <;> (simp only [Option.some.injEq] at h; subst h)
    all_goals refine ⟨_, ?_, rfl, hg⟩
    all_goals simp_all [binOp, Op.intArith, Op.intDiv, Op.intBits, Op.intCmp, Op.shift, bitsV]
    all_goals (intro hneg; omega)
  · rename_i p q
    obtain rfl := hx.val_eq
    obtain rfl := hy.val_eq
    have hg : ∀ X Y, (eqGuard op T X Y (.string p) (.string q)).run P w = .ok () w := fun X Y => by cases op <;> simp [eqGuard]
    cases op <;> simp only at h <;> (try (simp at h; done)) <;> (simp only [Option.some.injEq] at h; subst h)
    all_goals refine ⟨_, ?_, rfl, hg⟩
    all_goals simp [binOp, Op.stringOp]
  · simp at h

theorem fld_spec {T : TypeId} {f o : Nat} {k : TK} (h : fld P T f = some (o, k)) : ∃ fs g i, P.underlying T = some (.struct fs) ∧ fs[f]? = some g ∧ g.offset = o ∧ tk P g.type = k ∧ P.info? g.type = some i ∧ i.size ≠ 0 ∧ k ≠ .bad := by
  unfold fld at h
  split at h
  · rename_i fs hu
    cases hg : fs[f]? with
    | none => simp [hg] at h
    | some g =>
      simp only [hg, Option.bind_some] at h
      split at h
      · simp at h
      · simp at h
      · rename_i k' h1 h2
        simp only [Option.some.injEq, Prod.mk.injEq] at h
        obtain ⟨rfl, rfl⟩ := h
        cases hk : tk P g.type with
        | scal =>
          obtain ⟨d, i, _, hi, hs, _⟩ := tk_scal hk
          exact ⟨fs, g, i, hu, hg, rfl, hk, hi, by omega, by simp⟩
        | aggr n =>
          obtain ⟨d, i, _, hi, hs, _⟩ := tk_aggr hk
          refine ⟨fs, g, i, hu, hg, rfl, hk, hi, ?_, by simp⟩
          rintro h0
          rw [h0] at hs; subst hs
          exact h2 hk
        | bad => exact absurd hk h1
  · simp at h

theorem run_fieldAt {T : TypeId} {f o b off : Nat} {k : TK} (h : fld P T f = some (o, k)) :
    (Instr.fieldAt T (.pointer (some ⟨b, off, none⟩)) f).run P w = .ok (.pointer (some ⟨b, off + o, none⟩)) w := by
  obtain ⟨fs, g, i, hu, hg, rfl, hk, hi, hs, hb⟩ := fld_spec h
  simp [Instr.fieldAt, run_underlying hu, hg, Instr.sureAddr, fieldPlace, run_sizeOf hi, hs, addr_add]

theorem run_fieldOf {T : TypeId} {f o : Nat} {k : TK} {l : List AV} {cs : List Value} {x : AV} (h : fld P T f = some (o, k)) (hr : RelL w B E.bs ρ l cs) (e : part' l o k = some x) :
    ∃ v, (Instr.field T (.agg cs.toArray) f).run P w = .ok v w ∧ Rel w B E.bs ρ x v := by
  obtain ⟨fs, g, i, hu, hg, rfl, hk, hi, hs, hb⟩ := fld_spec h
  rcases hr.part' e with ⟨rfl, v, hv, hr⟩ | ⟨n, rfl, hl, hr⟩
  · refine ⟨v, ?_, hr⟩
    obtain ⟨d, i', hu', hi', hs', hd'⟩ := tk_scal hk
    simp [Instr.field, run_underlying hu, hg, asAgg, part, run_isAgg hu', hd', hv]
  · refine ⟨_, ?_, hr⟩
    obtain ⟨d, i', hu', hi', hs', hd'⟩ := tk_aggr hk
    simp [Instr.field, run_underlying hu, hg, asAgg, part, run_isAgg hu', hd', run_sizeOf hi', hs']

theorem RelL.map_ev (hs : RS E s ρ B a w) : ∀ l : List Operand, RelL w B E.bs ρ (l.map s.ev) (l.map a.eval)
  | [] => .nil
  | x :: l => .cons (hs.ev x) (RelL.map_ev hs l)

theorem RelL.vals : ∀ (l : List Value), RelL w B E.bs ρ (l.map AV.val) l
  | [] => .nil
  | x :: l => .cons (.val x) (RelL.vals l)

theorem box_cells {k b : Nat} {T : TypeId} {cs : List AV} (hs : RS E s ρ B a w) (h : s.ob[k]? = some (.box T cs)) :
    ∃ b vs fz, ρ[k]? = some (.pointer (some ⟨b, 0, none⟩)) ∧ w.heap[b]? = some (.cells (List.toArray vs) T fz) ∧ thaw fz vs.length ∧ RelL w B E.bs ρ cs vs ∧ (∀ c ∈ cs, c.oc = true) ∧
      ∀ j v, vs[j]? = some v → w.cell? ⟨b, 0 + j, none⟩ = some v := by
  obtain ⟨b, vs, fz, h1, h2, h3, h4, h5⟩ := hs.rw_.obs k _ h
  refine ⟨b, vs, fz, h1, h2, h3, h4, h5, ?_⟩
  intro j v hj
  simp [World.cell?, h2, hj]

theorem run_len_slice {t ty : TypeId} {A : Option Addr} {n c : Nat} (h : isSlc P t = true) : (Builtin.len_ #[t] ty #[.slice A n c]).run P w = .ok (.int .i64 n) w := by
  unfold isSlc at h
  split at h
  · rename_i e hu; simp [Builtin.len_, run_underlying hu, goInt]
  · simp at h

theorem run_len_string {t ty : TypeId} {b : ByteArray} (h : isStr P t = true) : (Builtin.len_ #[t] ty #[.string b]).run P w = .ok (.int .i64 b.size) w := by
  unfold isStr at h
  split at h
  · rename_i hu; simp [Builtin.len_, run_underlying hu, goInt]
  · simp at h

theorem bin_run {op : BinOp} {T : TypeId} {x y : Operand} {z : AV} (hs : RS E s ρ B a w) (h : binV op (s.ev x) (s.ev y) = some z) :
    ∃ v, (do eqGuard op T x y (a.eval x) (a.eval y); binOp op T (a.eval x) (a.eval y) : Sem Value).run P w = .ok v w ∧ Rel w B E.bs ρ z v := by
  obtain ⟨r, h1, rfl, h2⟩ := binV_run (P := P) (T := T) h (hs.ev x) (hs.ev y)
  refine ⟨r, ?_, .val r⟩
  simp [h2 x y, h1]

theorem sval_run {x : AV} (h : sval P s o.op = some x) (hs : RS E s ρ B a w) : ∃ v, (execOp a.eval o).run P w = .ok (.value v) w ∧ Rel w B E.bs ρ x v := by
  have val : ∀ {e : Sem Value} {v : Value}, e.run P w = .ok v w → (do pure (.value (← e)) : Sem Next).run P w = .ok (.value v) w := fun h => by simp [h]
  obtain ⟨dst, op, ty, pos, after, guard⟩ := o
  simp only at h
  cases op <;> simp only [sval] at h <;> (try (simp at h; done))
  case move y => simp only [Option.some.injEq] at h; subst h; exact ⟨_, rfl, hs.ev y⟩
  case assign y => simp only [Option.some.injEq] at h; subst h; exact ⟨_, rfl, hs.ev y⟩
  case pick c y z =>
    have hc := hs.ev c
    split at h <;> simp only [Option.some.injEq, reduceCtorEq] at h
    rename_i g e
    rw [e] at hc
    have hv := hc.val_eq
    subst h
    simp only [execOp, hv]
    cases g
    · exact ⟨_, rfl, hs.ev z⟩
    · exact ⟨_, rfl, hs.ev y⟩
  case build T parts =>
    split at h <;> (try (simp at h; done))
    rename_i pl z hpl hz
    simp only [Option.map_eq_some_iff] at h
    obtain ⟨cs, hf, rfl⟩ := h
    unfold places at hpl
    unfold zc at hz
    cases hi : P.info? T with
    | none => simp [hi] at hz
    | some i =>
      cases hzz : i.zero with
      | none => simp [hi, hzz] at hz
      | some zv =>
        simp only [hi, hzz, Option.bind_some] at hz
        split at hz <;> simp only [Option.some.injEq, reduceCtorEq] at hz
        rename_i hall
        subst hz
        obtain ⟨vs', k1, k2, k3, k4⟩ := fill_rel (w := w) (B := B) (bs := E.bs) (ρ := ρ) (pl[·]?) (parts.toList.map fun p => (p.1, s.ev p.2)) (parts.toList.map fun p => (p.1, a.eval p.2)) (zv.cells.toList.map AV.val) cs zv.cells.toList
          (by simp) (by simpa [Function.comp_def] using RelL.map_ev hs (parts.toList.map (·.2))) (RelL.vals _) (by
            intro c hc
            simp only [List.mem_map] at hc
            obtain ⟨v, hv, rfl⟩ := hc
            exact List.all_eq_true.1 hall v hv) hf
        refine ⟨.agg vs'.toArray, ?_, .agg k2⟩
        have hzv : (zeroValue T).run P w = .ok zv w := by simp [zeroValue, typeInfo, hi, hzz]
        split at hpl <;> (try (simp at hpl; done))
        · rename_i fs hu
          have hpl' : (fs.mapM fun f => (do pure (f.offset, ← sizeOf f.type) : Sem (Nat × Nat))).run P w = .ok pl.toArray w := by
            refine run_mapM_array _ _ ?_ fs pl w hpl
            intro x y w hx
            simp only [Option.map_eq_some_iff] at hx
            obtain ⟨j, hj, rfl⟩ := hx
            simp [run_sizeOf hj]
          simp only [execOp]
          refine val ?_
          simp only [Instr.build, Sem.run_bind, hzv, run_underlying hu, Result.andThen_ok, hpl']
          have k1' : Instr.fill (pl.toArray[·]?) zv.cells (Array.map (fun x => (x.fst, a.eval x.snd)) parts).toList = some vs'.toArray := by
            simpa using k1
          rw [k1']
          simp
        · rename_i n e hu
          simp only [Option.map_eq_some_iff] at hpl
          obtain ⟨j, hj, rfl⟩ := hpl
          simp only [execOp]
          refine val ?_
          simp only [Instr.build, Sem.run_bind, hzv, run_underlying hu, Result.andThen_ok, run_sizeOf hj]
          have k1' : Instr.fill (fun i => some (i * j.size, j.size)) zv.cells (Array.map (fun x => (x.fst, a.eval x.snd)) parts).toList = some vs'.toArray := by
            refine fill_array n j.size _ _ _ ?_
            simpa using k1
          rw [k1']
          simp
  case load T y =>
    have hy := hs.ev y
    split at h <;> (try (simp at h; done))
    · rename_i k off e
      rw [e] at hy
      split at h <;> (try (simp at h; done))
      rename_i T' cs hk
      obtain ⟨b, vs, fz, r1, r2, r3, r4, r5, r6⟩ := box_cells hs hk (b := 0)
      simp only [execOp]
      generalize a.eval y = u at hy
      cases hy with
      | ptr hp =>
        rw [r1] at hp
        simp only [Option.some.injEq, Value.pointer.injEq, Addr.mk.injEq, and_true] at hp
        subst hp
        obtain ⟨v, h1, h2⟩ := run_load_cells (T := T) rfl r4 r6 h
        exact ⟨v, val (by simpa [Instr.loadAt, Instr.sureAddr] using h1), h2⟩
    · rename_i nw y' e
      rw [e] at hy
      split at h <;> (try (simp at h; done))
      rename_i hlen
      simp only [execOp]
      generalize a.eval y = u at hy
      cases hy with
      | ref hc hn =>
        obtain ⟨vs, c1, c2, c3⟩ := hc.get
        obtain ⟨v, h1, h2⟩ := run_load_cells (T := T) (off := 0) rfl c1 c3 h
        exact ⟨v, val (by simpa [Instr.loadAt, Instr.sureAddr] using h1), h2⟩
  case nilCheck y =>
    have hy := hs.ev y
    split at h <;> (try (simp at h; done))
    · rename_i e; rw [e] at hy; simp only [Option.some.injEq] at h; subst h
      simp only [execOp]
      generalize a.eval y = u at hy
      cases hy with | ptr hp => exact ⟨_, rfl, .ptr hp⟩
    · rename_i e; rw [e] at hy; simp only [Option.some.injEq] at h; subst h
      simp only [execOp]
      generalize a.eval y = u at hy
      cases hy with | ept hp => exact ⟨_, rfl, .ept hp⟩
    · rename_i e; rw [e] at hy; simp only [Option.some.injEq] at h; subst h
      simp only [execOp]
      generalize a.eval y = u at hy
      cases hy with | ref hp hn => exact ⟨_, rfl, .ref hp hn⟩
    · rename_i f l m e
      rw [e] at hy
      split at h <;> (try (simp at h; done))
      rename_i hf
      simp only [Option.some.injEq] at h; subst h
      simp only [execOp]
      generalize a.eval y = u at hy
      cases hy with
      | fn h1 h2 =>
        refine ⟨_, ?_, .fn h1 h2⟩
        cases f <;> first | rfl | exact absurd rfl (hf _)
  case binOp op T y z yt =>
    simp only [execOp]
    cases z with
    | const c =>
      simp only at h
      cases op <;> simp only at h
      case eql =>
        split at h
        · rename_i hl
          simp only [Option.map_eq_some_iff] at h
          obtain ⟨b, hb, rfl⟩ := h
          obtain ⟨n1, n2, n3⟩ := nil_eq (w := w) hl (nilIs_val hb (hs.ev y))
          exact ⟨_, val (by simp only [Sem.run_bind, show a.eval (.const c) = c from rfl, n3, Result.andThen_ok]; exact n1), .val _⟩
        · obtain ⟨v, h1, h2⟩ := bin_run (P := P) (T := T) (y := .const c) hs h; exact ⟨v, val h1, h2⟩
      case neq =>
        split at h
        · rename_i hl
          simp only [Option.map_eq_some_iff] at h
          obtain ⟨b, hb, rfl⟩ := h
          obtain ⟨n1, n2, n3⟩ := nil_eq (w := w) hl (nilIs_val hb (hs.ev y))
          exact ⟨_, val (by simp only [Sem.run_bind, show a.eval (.const c) = c from rfl, n3, Result.andThen_ok]; exact n2), .val _⟩
        · obtain ⟨v, h1, h2⟩ := bin_run (P := P) (T := T) (y := .const c) hs h; exact ⟨v, val h1, h2⟩
      all_goals
        obtain ⟨v, h1, h2⟩ := bin_run (P := P) (T := T) (y := .const c) hs h
        exact ⟨v, val h1, h2⟩
    | _ =>
      simp only at h
      obtain ⟨v, h1, h2⟩ := bin_run (P := P) (T := T) hs h
      exact ⟨v, val h1, h2⟩
  case unOp op T y =>
    have hy := hs.ev y
    cases op <;> simp only at h <;> (try (simp at h; done))
    all_goals
      split at h <;> (try (simp at h; done))
      rename_i e
      rw [e] at hy
      have hv := hy.val_eq
      simp only [Option.some.injEq] at h
      subst h
      simp only [execOp, hv]
      exact ⟨_, val rfl, .val _⟩
  case convert src dst' y =>
    have hy := hs.ev y
    split at h <;> (try (simp at h; done))
    rename_i k k' n hc e
    rw [e] at hy
    have hv := hy.val_eq
    simp only [Option.some.injEq] at h
    subst h
    unfold cvInt at hc
    split at hc <;> simp only [Option.some.injEq, reduceCtorEq] at hc
    rename_i hsrc hdst
    subst hc
    replace hsrc := ikd_spec hsrc
    replace hdst := ikd_spec hdst
    simp only [execOp, hv]
    exact ⟨_, val (by simp [convert, run_underlying hsrc, run_underlying hdst, Conv.intToInt]), .val _⟩
  case makeInterface T y =>
    split at h <;> (try (simp at h; done))
    rename_i hc
    simp only [Option.some.injEq] at h
    subst h
    refine ⟨.iface T (a.eval y), ?_, .ifc (hs.ev y)⟩
    simp only [execOp]
    refine val ?_
    unfold concrete at hc
    cases hu : P.underlying T with
    | none => simp [hu] at hc
    | some d => cases d <;> simp [hu] at hc <;> simp [Instr.makeInterface, run_underlying hu]
  case makeFunc f l m =>
    simp only [Option.some.injEq] at h
    subst h
    refine ⟨.func f (l.map a.eval) (m.map a.eval), ?_, ?_⟩
    · simp only [execOp]; exact val rfl
    · show Rel w B E.bs ρ _ _
      have := Rel.fn (f := f) (RelL.map_ev hs l.toList) (RelL.map_ev hs m.toList)
      have e : ∀ l : Array Operand, (List.map a.eval l.toList).toArray = l.map a.eval := fun l => by apply Array.ext'; simp
      rw [e, e] at this
      exact this
  case fieldAddr T y f =>
    have hy := hs.ev y
    split at h <;> (try (simp at h; done))
    · rename_i o' k' k off hf e
      rw [e] at hy
      simp only [Option.some.injEq] at h; subst h
      simp only [execOp]
      generalize a.eval y = u at hy
      cases hy with | ptr hp => exact ⟨_, val (run_fieldAt hf), .ptr hp⟩
    · rename_i o' k' k off hf e
      rw [e] at hy
      simp only [Option.some.injEq] at h; subst h
      simp only [execOp]
      generalize a.eval y = u at hy
      cases hy with | ept hp => exact ⟨_, val (run_fieldAt hf), .ept hp⟩
    · rename_i o' k' nw y' hf e
      rw [e] at hy
      simp only [Option.map_eq_some_iff] at h
      obtain ⟨z, hz, rfl⟩ := h
      simp only [execOp]
      generalize a.eval y = u at hy
      cases hy with
      | ref hc hn =>
        refine ⟨_, val (run_fieldAt hf), .ref ?_ ?_⟩
        · cases k' with
          | scal =>
            simp only [Abs.part'] at hz
            obtain ⟨vs, c1, c2, c3⟩ := RelCells.get hc
            have hd := hc.drop o'
            have h1 : z.one = true := c2 z (List.mem_of_getElem? hz)
            have hzc : z.cells = [z] := by cases z <;> simp_all [AV.cells, AV.one]
            rw [hzc]
            have : (y'.cells.drop o').take 1 = [z] := by
              rw [List.take_one, List.head?_drop, hz]; rfl
            rw [← this]
            exact hd.take 1
          | aggr n =>
            simp only [Abs.part'] at hz
            split at hz <;> simp only [Option.some.injEq, reduceCtorEq] at hz
            subst hz
            exact (hc.drop o').take n
          | bad => simp [Abs.part'] at hz
        · cases k' with
          | scal =>
            simp only [Abs.part'] at hz
            obtain ⟨vs, c1, c2, c3⟩ := RelCells.get hc
            have h1 : z.one = true := c2 z (List.mem_of_getElem? hz)
            cases z <;> simp_all [AV.cells, AV.one]
          | aggr n =>
            obtain ⟨_, _, _, _, _, _, _, hi, hsz, _⟩ := fld_spec hf
            simp only [Abs.part'] at hz
            split at hz <;> simp only [Option.some.injEq, reduceCtorEq] at hz
            subst hz
            intro hnil
            have : (AV.cells (.agg (List.take n (List.drop o' y'.cells)))).length = n := by show (List.take n (List.drop o' y'.cells)).length = n; simp; omega
            rw [hnil] at this
            obtain ⟨fs, g, i, _, _, _, hk, hi, hsz, _⟩ := fld_spec hf
            obtain ⟨_, i', _, hi', hs', _⟩ := tk_aggr hk
            rw [hi] at hi'
            simp at hi' this
            subst hi'
            omega
          | bad => simp [Abs.part'] at hz
  case field T y f =>
    have hy := hs.ev y
    split at h <;> (try (simp at h; done))
    rename_i o' k' l hf e
    rw [e] at hy
    simp only [execOp]
    generalize a.eval y = u at hy
    cases hy with
    | agg hr =>
      obtain ⟨v, h1, h2⟩ := run_fieldOf hf hr h
      exact ⟨v, val h1, h2⟩
  case extract y i =>
    have hy := hs.ev y
    split at h <;> (try (simp at h; done))
    rename_i l e
    rw [e] at hy
    simp only [execOp]
    generalize a.eval y = u at hy
    cases hy with
    | tup hr =>
      obtain ⟨v, h1, h2⟩ := hr.get h
      exact ⟨v, val (by simp [Instr.extract, h1]), h2⟩
  case call c =>
    obtain ⟨callee, args, ts⟩ := c
    cases callee <;> (try (simp at h; done))
    rename_i bi
    cases bi <;> (try (simp at h; done))
    simp only at h
    split at h <;> (try (simp at h; done))
    rename_i x t hx ht
    obtain rfl : args = #[x] := by apply Array.ext'; simpa using hx
    obtain rfl : ts = #[t] := by apply Array.ext'; simpa using ht
    have hv := hs.ev x
    have key : ∀ v, (Builtin.len_ #[t] ty #[a.eval x]).run P w = .ok v w → (execOp a.eval { dst := dst, op := .call { callee := .builtin .len, args := #[x], argTypes := #[t] }, type := ty, pos := pos, after := after, guard := guard }).run P w = .ok (.value v) w := by
      intro v h
      simp [execOp, resolve, invoke, builtin, h]
    split at h <;> (try (simp at h; done))
    · rename_i e; rw [e] at hv
      split at h <;> simp only [Option.some.injEq, reduceCtorEq] at h
      rename_i hc
      subst h
      refine ⟨_, key _ ?_, .val _⟩
      generalize a.eval x = u at hv
      cases hv with
      | slE => exact run_len_slice hc
      | sl => exact run_len_slice hc
    · rename_i e; rw [e] at hv
      split at h <;> simp only [Option.some.injEq, reduceCtorEq] at h
      rename_i hc
      subst h
      refine ⟨_, key _ ?_, .val _⟩
      rw [hv.val_eq]
      exact run_len_slice hc
    · rename_i e; rw [e] at hv
      split at h <;> simp only [Option.some.injEq, reduceCtorEq] at h
      rename_i hc
      subst h
      refine ⟨_, key _ ?_, .val _⟩
      rw [hv.val_eq]
      exact run_len_string hc
    · rename_i k e; rw [e] at hv
      split at h <;> (try (simp at h; done))
      rename_i T sz xs hk
      split at h <;> simp only [Option.some.injEq, reduceCtorEq] at h
      rename_i hc
      subst h
      refine ⟨_, key _ ?_, .val _⟩
      obtain ⟨h0, hr⟩ := hs.rw_.obs k _ hk
      generalize a.eval x = u at hv
      cases hv with
      | own hp =>
        rcases hr with ⟨rfl, hr⟩ | ⟨b, cap, vs, ws, fz, h1, _⟩
        · rw [hr] at hp; simp only [Option.some.injEq] at hp; subst hp; exact run_len_slice hc
        · rw [h1] at hp; simp only [Option.some.injEq] at hp; subst hp; exact run_len_slice hc
end
end Go.Abs
