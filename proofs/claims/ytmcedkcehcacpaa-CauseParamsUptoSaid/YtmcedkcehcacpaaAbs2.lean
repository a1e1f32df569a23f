/- Operations of the claim's own program logic: those that need no word of the prover's. No condition. -/
import Derived.Test.YtmcedkcehcacpaaAbs1
import Derived.Laws.CopyRow
import Derived.Lib.FrozenHead
namespace Go.Abs
set_option linter.unusedVariables false
set_option linter.unusedSectionVars false
set_option linter.unusedSimpArgs false

/-! ### types -/
inductive TK where
  | scal
  | aggr (n : Nat)
  | bad
  deriving DecidableEq

def aggD : TypeDesc → Bool
  | .struct _ | .array _ _ => true
  | _ => false

def tk (P : Program) (t : TypeId) : TK :=
  match P.underlying t, P.info? t with
  | some (.struct _), some i => .aggr i.size
  | some (.array _ _), some i => .aggr i.size
  | some _, some i => if i.size = 1 then .scal else .bad
  | _, _ => .bad

/-- a field's offset and kind -/
def fld (P : Program) (T : TypeId) (f : Nat) : Option (Nat × TK) :=
  match P.underlying T with
  | some (.struct fs) => (fs[f]?).bind fun g => match tk P g.type with
    | .bad => none
    | .aggr 0 => none
    | k => some (g.offset, k)
  | _ => none

/-- the cells of a type's zero value -/
def zc (P : Program) (T : TypeId) : Option (List Value) :=
  ((P.info? T).bind (·.zero)).bind fun v => if v.cells.toList.all (·.oneCell') then some v.cells.toList else none

def part' (cs : List AV) (off : Nat) : TK → Option AV
  | .scal => cs[off]?
  | .aggr n => if off + n ≤ cs.length then some (.agg ((cs.drop off).take n)) else none
  | .bad => none

def splice (cs : List AV) (off : Nat) (xs : List AV) : List AV := cs.take off ++ xs ++ cs.drop (off + xs.length)

section run
variable {P : Program} {w : World}

theorem addr_add (b o j : Nat) : (⟨b, o, none⟩ : Addr).add j = ⟨b, o + j, none⟩ := by
  unfold Addr.add; split <;> simp_all

theorem tk_scal {t : TypeId} (h : tk P t = .scal) : ∃ d i, P.underlying t = some d ∧ P.info? t = some i ∧ i.size = 1 ∧ aggD d = false := by
  unfold tk at h
  split at h
  · cases h
  · cases h
  · rename_i d i h1 h2 hu hi
    split at h
    · rename_i hs
      refine ⟨d, i, hu, hi, hs, ?_⟩
      cases d <;> first | rfl | (exfalso; first | exact h1 _ rfl | exact h2 _ _ rfl)
    · cases h
  · cases h

theorem tk_aggr {t : TypeId} {n : Nat} (h : tk P t = .aggr n) : ∃ d i, P.underlying t = some d ∧ P.info? t = some i ∧ i.size = n ∧ aggD d = true := by
  unfold tk at h
  split at h
  · rename_i fs i hu hi; simp at h; exact ⟨_, i, hu, hi, h, rfl⟩
  · rename_i l e i hu hi; simp at h; exact ⟨_, i, hu, hi, h, rfl⟩
  · split at h <;> cases h
  · cases h

theorem run_isAgg {t : TypeId} {d : TypeDesc} (h : P.underlying t = some d) : (isAgg t).run P w = .ok (aggD d) w := by
  simp [isAgg, run_underlying h]
  cases d <;> simp [aggD]

theorem run_sizeOf {t : TypeId} {i : TypeInfo} (h : P.info? t = some i) : (sizeOf t).run P w = .ok i.size w := by
  simp [sizeOf, typeInfo, h]

theorem run_loadVar_scal {t : TypeId} {a : Addr} {v : Value} (h : tk P t = .scal) (hc : w.cell? a = some v) : (loadVar t a).run P w = .ok v w := by
  obtain ⟨d, i, hu, hi, hs, hd⟩ := tk_scal h
  simp only [loadVar, Sem.run_bind, run_isAgg hu, Result.andThen_ok, hd]
  simp [hc]

theorem run_loadVar_aggr {t : TypeId} {b o n : Nat} {cs : List Value} (h : tk P t = .aggr n) (hn : cs.length = n) (hc : ∀ j v, cs[j]? = some v → w.cell? ⟨b, o + j, none⟩ = some v) :
    (loadVar t ⟨b, o, none⟩).run P w = .ok (.agg cs.toArray) w := by
  obtain ⟨d, i, hu, hi, hs, hd⟩ := tk_aggr h
  have hl := run_loadCells_list (P := P) w ⟨b, o, none⟩ cs (fun j v hj => by rw [addr_add]; exact hc j v hj)
  simp only [loadVar, Sem.run_bind, run_isAgg hu, Result.andThen_ok, hd, if_true, run_sizeOf hi, hs, ← hn, hl]
  simp

theorem thaw_frozen {w : World} {b o : Nat} {vs : List Value} {T : TypeId} {fz : Nat × Nat} (h : w.heap[b]? = some (.cells vs.toArray T fz)) (ht : thaw fz vs.length) (ho : o < vs.length) :
    w.frozen? ⟨b, o, none⟩ = false := by
  obtain ⟨lo, hi⟩ := fz
  simp only [World.frozen?, h]
  unfold thaw at ht
  simp at ht ⊢
  omega

/-- the world with another row in block b -/
def setBlk (w : World) (b : Nat) (o : Obj) : World := { w with heap := w.heap.setIfInBounds b o }

theorem setBlk_get (w : World) (b k : Nat) (o : Obj) (hb : b < w.heap.size) : (setBlk w b o).heap[k]? = if k = b then some o else w.heap[k]? := by
  simp only [setBlk]
  rw [Array.getElem?_setIfInBounds]
  by_cases h : k = b
  · subst h; simp [hb]
  · simp [h, Ne.symm h]

theorem setCell_eq {w : World} {b o : Nat} {vs : List Value} {T : TypeId} {fz : Nat × Nat} (h : w.heap[b]? = some (.cells vs.toArray T fz)) (v : Value) :
    w.setCell ⟨b, o, none⟩ v = setBlk w b (.cells (vs.set o v).toArray T fz) := by
  have hb : b < w.heap.size := by rcases Nat.lt_or_ge b w.heap.size with h' | h'; exact h'; simp [Array.getElem?_eq_none h'] at h
  unfold World.setCell setBlk
  congr 1
  apply Array.ext_getElem?
  intro k
  rw [Array.getElem?_modify, Array.getElem?_setIfInBounds]
  by_cases hk : b = k
  · subst hk
    have : w.heap[b] = .cells vs.toArray T fz := by rw [Array.getElem?_eq_getElem hb] at h; exact Option.some.inj h
    simp [hb, this]
  · simp [hk]

theorem setBlk_setBlk (w : World) (b : Nat) (o o' : Obj) : setBlk (setBlk w b o) b o' = setBlk w b o' := by
  unfold setBlk
  congr 1
  apply Array.ext_getElem?
  intro k
  simp only [Array.getElem?_setIfInBounds, Array.size_setIfInBounds]
  split <;> rfl

theorem setBlk_self {w : World} {b : Nat} {o : Obj} (h : w.heap[b]? = some o) : setBlk w b o = w := by
  cases w with
  | mk heap tape drawn os output =>
    unfold setBlk
    congr 1
    apply Array.ext_getElem?
    intro k
    simp only [Array.getElem?_setIfInBounds]
    split
    · rename_i hk
      subst hk
      simp only at h
      split
      · exact h.symm
      · rename_i hlt; simp [Array.getElem?_eq_none (Nat.le_of_not_lt hlt)] at h
    · rfl

theorem run_storeCells (b : Nat) (T : TypeId) (fz : Nat × Nat) (o : Nat) : ∀ (us : List Value) (i : Nat) (vs : List Value) (w : World), w.heap[b]? = some (.cells vs.toArray T fz) → thaw fz vs.length →
    o + i + us.length ≤ vs.length → (∀ v ∈ us, v.oneCell' = true) →
    (storeCells ⟨b, o, none⟩ us i).run P w = .ok () (setBlk w b (.cells (vs.take (o + i) ++ us ++ vs.drop (o + i + us.length)).toArray T fz))
  | [], i, vs, w, h, _, _, _ => by
    simp only [storeCells, List.append_nil, List.length_nil, Nat.add_zero, List.take_append_drop]
    rw [setBlk_self h]; rfl
  | v :: us, i, vs, w, h, ht, hl, h1 => by
    have hb : b < w.heap.size := by rcases Nat.lt_or_ge b w.heap.size with h' | h'; exact h'; simp [Array.getElem?_eq_none h'] at h
    have hi : o + i < vs.length := by simp at hl; omega
    have hc : w.cell? ⟨b, o + i, none⟩ = some vs[o + i] := by simp [World.cell?, h, hi]
    have hst : (store ((⟨b, o, none⟩ : Addr).add i) v).run P w = .ok () (setBlk w b (.cells (vs.set (o + i) v).toArray T fz)) := by
      rw [addr_add, run_store P w _ v _ (h1 v (by simp)), hc]
      simp only [thaw_frozen h ht hi, Bool.false_eq_true, if_false]
      rw [setCell_eq h]
    have ih := run_storeCells b T fz o us (i + 1) (vs.set (o + i) v) (setBlk w b (.cells (vs.set (o + i) v).toArray T fz)) (by rw [setBlk_get _ _ _ _ hb, if_pos rfl]) (by simpa using ht)
      (by simp at hl ⊢; omega) (fun x hx => h1 x (by simp [hx]))
    simp only [storeCells, Sem.run_bind, hst, Result.andThen_ok, ih, setBlk_setBlk]
    congr 3
    have e := list_seg_step vs (o + i) v us (by simp at hl; omega)
    simp only [List.length_cons]
    rw [← e]
    simp [Nat.add_assoc]

theorem run_storeVar {t : TypeId} {b o : Nat} {T : TypeId} {fz : Nat × Nat} {vs us : List Value} {v : Value} {i : TypeInfo} (hi : P.info? t = some i) (hv : v.cells.toList = us) (hn : us.length = i.size)
    (h : w.heap[b]? = some (.cells vs.toArray T fz)) (ht : thaw fz vs.length) (hl : o + us.length ≤ vs.length) (h1 : ∀ v ∈ us, v.oneCell' = true) :
    (storeVar t ⟨b, o, none⟩ v).run P w = .ok () (setBlk w b (.cells (vs.take o ++ us ++ vs.drop (o + us.length)).toArray T fz)) := by
  have hs : v.cells.size = i.size := by rw [← hn, ← hv]; simp
  simp only [storeVar, Sem.run_bind, run_sizeOf hi, Result.andThen_ok, hs, ne_eq, not_true, if_false, hv]
  have := run_storeCells (P := P) b T fz o us 0 vs w h ht (by simpa using hl) h1
  simpa using this
end run

/-! ### objects come and turn -/
section objs
variable {w w' : World} {B B' : Nat → Prop} {bs : Nat} {ρ ρ' : List Value}

theorem heap_lt {w : World} {b : Nat} {o : Obj} (h : w.heap[b]? = some o) : b < w.heap.size := by
  rcases Nat.lt_or_ge b w.heap.size with h' | h'
  · exact h'
  · simp [Array.getElem?_eq_none h'] at h

theorem RO.mono {k : Nat} {o : Ob} (hB : ∀ b, B b → B' b) (hw : ∀ b, B b → w'.heap[b]? = w.heap[b]?) (hρ : ∀ (k : Nat) (v : Value), ρ[k]? = some v → ρ'[k]? = some v)
    (hk : ∀ (v : Value) (b : Nat), o.live = true → ρ[k]? = some v → blk v = some b → w'.heap[b]? = w.heap[b]?) (h : RO w B bs ρ k o) : RO w' B' bs ρ' k o := by
  cases o with
  | box T cs =>
    obtain ⟨b, vs, fz, h1, h2, h3, h4, h5⟩ := h
    exact ⟨b, vs, fz, hρ _ _ h1, (hk _ b rfl h1 rfl).trans h2, h3, h4.mono hB hw (Nat.le_refl _) hρ, h5⟩
  | row T sz xs =>
    obtain ⟨h0, h⟩ := h
    refine ⟨h0, ?_⟩
    rcases h with h | ⟨b, cap, vs, ws, fz, h1, h2, h3, h4, h5, h6⟩
    · exact .inl ⟨h.1, hρ _ _ h.2⟩
    · exact .inr ⟨b, cap, vs, ws, fz, hρ _ _ h1, (hk _ b rfl h1 rfl).trans h2, h3, h4, h5, h6.mono hB hw (Nat.le_refl _) hρ⟩
  | mp es =>
    obtain ⟨b, ms, c, h1, h2, h3⟩ := h
    exact ⟨b, ms, c, hρ _ _ h1, (hk _ b rfl h1 rfl).trans h2, h3⟩
  | gone => trivial

theorem get_append_some {α : Type} {l m : List α} {k : Nat} {v : α} (h : l[k]? = some v) : (l ++ m)[k]? = some v := by
  have hk : k < l.length := by
    rcases Nat.lt_or_ge k l.length with h' | h'
    · exact h'
    · simp [List.getElem?_eq_none h'] at h
  rw [List.getElem?_append_left hk]; exact h

theorem get_lt {α : Type} {l : List α} {k : Nat} {v : α} (h : l[k]? = some v) : k < l.length := by
  rcases Nat.lt_or_ge k l.length with h' | h'
  · exact h'
  · simp [List.getElem?_eq_none h'] at h

theorem get_snoc {α : Type} {l : List α} {x v : α} {k : Nat} (h : (l ++ [x])[k]? = some v) : l[k]? = some v ∨ (k = l.length ∧ v = x) := by
  rcases Nat.lt_or_ge k l.length with h' | h'
  · rw [List.getElem?_append_left h'] at h; exact .inl h
  · rw [List.getElem?_append_right h'] at h
    have : k - l.length < 1 := by simpa using get_lt h
    have e : k = l.length := by omega
    subst e
    simp at h
    exact .inr ⟨rfl, h.symm⟩

/-- a new object -/
theorem RW.new {E : Env} {ob : List Ob} {o : Ob} {v : Value} (h : RW E ob ρ B w) (hs : Same w w') (ho : RO w' B E.bs (ρ ++ [v]) ob.length o)
    (hb : ∀ b, blk v = some b → w.heap.size ≤ b ∧ b < w'.heap.size) : RW E (ob ++ [o]) (ρ ++ [v]) B w' := by
  have hBw : ∀ b, B b → w'.heap[b]? = w.heap[b]? := fun b hb => hs.block b (h.blt b hb)
  refine { os := hs.os.trans h.os, tape := hs.tape.trans h.tape, output := hs.output.trans h.output, size := Nat.le_trans h.size hs.size,
           block := fun k h1 h2 => (hs.block k (Nat.lt_of_lt_of_le h1 h.size)).trans (h.block k h1 h2), pre := fun k v h1 h2 => get_append_some (h.pre k v h1 h2), bsub := h.bsub, bnew := h.bnew,
           blt := fun b hb => Nat.lt_of_lt_of_le (h.blt b hb) hs.size, len := by simp [h.len], obs := ?_, dis := ?_, prv := ?_ }
  · intro k o' hk
    rcases get_snoc hk with hk | ⟨rfl, rfl⟩
    · refine (h.obs k o' hk).mono (fun _ h => h) hBw (fun k v h => get_append_some h) ?_
      intro u b hl hu hbu
      exact hs.block b (h.prv k o' u b hk hl hu hbu).2.1
    · exact ho
  · intro i j o1 o2 u1 u2 b hij h1 l1 h2 l2 r1 r2 b1 b2
    rcases get_snoc h1 with h1' | ⟨rfl, rfl⟩ <;> rcases get_snoc h2 with h2' | ⟨rfl, rfl⟩
    · have e1 : ρ[i]? = some u1 := by rw [List.getElem?_append_left (by rw [h.len]; exact get_lt h1')] at r1; exact r1
      have e2 : ρ[j]? = some u2 := by rw [List.getElem?_append_left (by rw [h.len]; exact get_lt h2')] at r2; exact r2
      exact h.dis i j o1 o2 u1 u2 b hij h1' l1 h2' l2 e1 e2 b1 b2
    · have e1 : ρ[i]? = some u1 := by rw [List.getElem?_append_left (by rw [h.len]; exact get_lt h1')] at r1; exact r1
      have e2 : u2 = v := by rw [← h.len] at r2; simpa using r2.symm
      subst e2
      have := (h.prv i o1 u1 b h1' l1 e1 b1).2.1
      have := (hb b b2).1
      omega
    · have e2 : ρ[j]? = some u2 := by rw [List.getElem?_append_left (by rw [h.len]; exact get_lt h2')] at r2; exact r2
      have e1 : u1 = v := by rw [← h.len] at r1; simpa using r1.symm
      subst e1
      have := (h.prv j o2 u2 b h2' l2 e2 b2).2.1
      have := (hb b b1).1
      omega
    · exact hij rfl
  · intro k o' u b hk hl hu hbu
    rcases get_snoc hk with hk' | ⟨rfl, rfl⟩
    · have e1 : ρ[k]? = some u := by rw [List.getElem?_append_left (by rw [h.len]; exact get_lt hk')] at hu; exact hu
      obtain ⟨a1, a2, a3⟩ := h.prv k o' u b hk' hl e1 hbu
      exact ⟨a1, Nat.lt_of_lt_of_le a2 hs.size, a3⟩
    · have e1 : u = v := by rw [← h.len] at hu; simpa using hu.symm
      subst e1
      obtain ⟨a1, a2⟩ := hb b hbu
      exact ⟨fun hB => by have := h.blt b hB; omega, a2, .inl (Nat.le_trans h.size a1)⟩

theorem Dof.new {ob : List Ob} {o : Ob} {v : Value} {n : Nat} (hl : ρ.length = ob.length) (hb : ∀ b, blk v = some b → w.heap.size ≤ b ∧ b < n) : ∀ b, Dof (ob ++ [o]) (ρ ++ [v]) b → Dof ob ρ b ∨ w.heap.size ≤ b := by
  rintro b ⟨k, o', u, h1, h2, h3, h4⟩
  rcases get_snoc h1 with h1' | ⟨rfl, rfl⟩
  · have e1 : ρ[k]? = some u := by rw [List.getElem?_append_left (by rw [hl]; exact get_lt h1')] at h3; exact h3
    exact .inl ⟨k, o', u, h1', h2, e1, h4⟩
  · have e1 : u = v := by rw [← hl] at h3; simpa using h3.symm
    subst e1
    exact .inr (hb b h4).1

theorem Dof.set {ob : List Ob} {k : Nat} {o o' : Ob} (hk : ob[k]? = some o) (hl : o.live = true) : ∀ b, Dof (ob.set k o') ρ b → Dof ob ρ b := by
  rintro b ⟨j, oj, u, h1, h2, h3, h4⟩
  by_cases hjk : k = j
  · subst hjk; exact ⟨k, o, u, hk, hl, h3, h4⟩
  · rw [List.getElem?_set_ne hjk] at h1; exact ⟨j, oj, u, h1, h2, h3, h4⟩

theorem RS.new {E : Env} {s : AS} {a : Act} {o : Ob} {v : Value} (h : RS E s ρ B a w) (hs : Same w w') (ho : RO w' B E.bs (ρ ++ [v]) s.ob.length o)
    (hb : ∀ b, blk v = some b → w.heap.size ≤ b ∧ b < w'.heap.size) : RS E { s with ob := s.ob ++ [o] } (ρ ++ [v]) B a w' :=
  ⟨h.rw_.new hs ho hb, h.m, h.n, h.df, h.jj.chg ⟨hs.os, hs.tape, hs.output, hs.size, fun b hb _ => hs.block b hb, Dof.new h.rw_.len hb, fun _ h => h, fun _ h => .inl h⟩ (h.rw_.new hs ho hb).bd, fun t x hm => ⟨(h.rf t x hm).1, (h.rf t x hm).2.mono (fun _ h => h) (fun b hb => hs.block b (h.rw_.blt b hb)) (Nat.le_refl _) (fun k v h => get_append_some h)⟩⟩

theorem same_alloc (w : World) (o : Obj) : Same w (w.alloc o) :=
  ⟨rfl, rfl, rfl, by simp, fun k hk => by simp only [World.alloc, Array.getElem?_push]; rw [if_neg (by omega)]⟩

theorem same_refl (w : World) : Same w w := ⟨rfl, rfl, rfl, Nat.le_refl _, fun _ _ => rfl⟩

theorem alloc_get (w : World) (o : Obj) : (w.alloc o).heap[w.heap.size]? = some o := by simp only [World.alloc, Array.getElem?_push, if_true]

/-- a new box -/
theorem RS.newBox {E : Env} {s : AS} {a : Act} {T : TypeId} {cs : List AV} {vs : List Value} (h : RS E s ρ B a w) (hr : RelL w B E.bs ρ cs vs) (h1 : ∀ c ∈ cs, c.one = true) :
    RS E { s with ob := s.ob ++ [.box T cs] } (ρ ++ [.pointer (some ⟨w.heap.size, 0, none⟩)]) B a (w.alloc (.cells vs.toArray T)) := by
  refine h.new (same_alloc _ _) ⟨w.heap.size, vs, (0, 0), ?_, alloc_get _ _, .inl (by simp), ?_, fun c hc => AV.oc_of (h1 c hc)⟩ ?_
  · rw [← h.rw_.len]; simp
  · exact hr.mono (fun _ h => h) (fun b hb => (same_alloc w _).block b (h.rw_.blt b hb)) (Nat.le_refl _) (fun k v h => get_append_some h)
  · intro b hb; simp [blk] at hb; subst hb; simp

/-- an object of the call's own is written: its value (a pointer or a slice) stays as it is -/
theorem RW.write {E : Env} {ob : List Ob} {k b : Nat} {o o' : Ob} {v : Value} {nb : Obj} (h : RW E ob ρ B w) (hk : ob[k]? = some o) (hl : o.live = true) (hv : ρ[k]? = some v) (hb : blk v = some b)
    (ho : RO (setBlk w b nb) B E.bs ρ k o') : RW E (ob.set k o') ρ B (setBlk w b nb) := by
  obtain ⟨p1, p2, p3⟩ := h.prv k o v b hk hl hv hb
  have hne : ∀ b', B b' → b' ≠ b := fun b' h1 e => p1 (e ▸ h1)
  have hB : ∀ b', B b' → (setBlk w b nb).heap[b']? = w.heap[b']? := fun b' hb' => by rw [setBlk_get _ _ _ _ p2, if_neg (hne b' hb')]
  refine { os := h.os, tape := h.tape, output := h.output, size := by simpa [setBlk] using h.size, block := ?_, pre := h.pre, bsub := h.bsub, bnew := h.bnew,
           blt := fun b' hb' => by simpa [setBlk] using h.blt b' hb', len := by simp [h.len], obs := ?_, dis := ?_, prv := ?_ }
  · intro j h1 h2
    have : j ≠ b := by
      rintro rfl
      rcases p3 with p3 | p3
      · omega
      · exact h2.1 p3.x
    rw [setBlk_get _ _ _ _ p2, if_neg this]
    exact h.block j h1 h2
  · intro j oj hj
    by_cases hjk : k = j
    · subst hjk
      have : oj = o' := by rw [List.getElem?_set_self (get_lt hk)] at hj; exact (Option.some.inj hj).symm
      subst this; exact ho
    · rw [List.getElem?_set_ne hjk] at hj
      refine (h.obs j oj hj).mono (fun _ h => h) hB (fun _ _ h => h) ?_
      intro u b' l hu hbu
      have : b' ≠ b := by
        rintro rfl
        exact h.dis k j o oj v u b' hjk hk hl hj l hv hu hb hbu
      rw [setBlk_get _ _ _ _ p2, if_neg this]
  · intro i j o1 o2 u1 u2 b' hij h1 l1 h2 l2 r1 r2 b1
    have get : ∀ {i : Nat} {o1 : Ob}, (ob.set k o')[i]? = some o1 → o1.live = true → ∃ o2, ob[i]? = some o2 ∧ o2.live = true := by
      intro i o1 h1 l1
      by_cases hik : k = i
      · subst hik; exact ⟨o, hk, hl⟩
      · rw [List.getElem?_set_ne hik] at h1; exact ⟨o1, h1, l1⟩
    obtain ⟨x1, y1, z1⟩ := get h1 l1
    obtain ⟨x2, y2, z2⟩ := get h2 l2
    exact h.dis i j x1 x2 u1 u2 b' hij y1 z1 y2 z2 r1 r2 b1
  · intro j oj u b' hj l hu hbu
    have : ∃ o2, ob[j]? = some o2 ∧ o2.live = true := by
      by_cases hjk : k = j
      · subst hjk; exact ⟨o, hk, hl⟩
      · rw [List.getElem?_set_ne hjk] at hj; exact ⟨oj, hj, l⟩
    obtain ⟨o2, y, z⟩ := this
    have := h.prv j o2 u b' y z hu hbu
    exact ⟨this.1, by simpa [setBlk] using this.2.1, this.2.2⟩

theorem RS.write {E : Env} {s : AS} {a : Act} {k b : Nat} {o o' : Ob} {v : Value} {nb : Obj} (h : RS E s ρ B a w) (hk : s.ob[k]? = some o) (hl : o.live = true) (hv : ρ[k]? = some v) (hb : blk v = some b)
    (ho : RO (setBlk w b nb) B E.bs ρ k o') : RS E { s with ob := s.ob.set k o' } ρ B a (setBlk w b nb) := by
  obtain ⟨p1, p2, p3⟩ := h.rw_.prv k o v b hk hl hv hb
  refine ⟨h.rw_.write hk hl hv hb ho, h.m, h.n, h.df, h.jj.chg ⟨rfl, rfl, rfl, by simp [setBlk], fun b' _ hd => ?_, fun b' hd => .inl (Dof.set hk hl b' hd), fun _ h => h, fun _ h => .inl h⟩ (h.rw_.write hk hl hv hb ho).bd, fun t x hm => ⟨(h.rf t x hm).1, (h.rf t x hm).2.mono (fun _ h => h) ?_ (Nat.le_refl _) (fun _ _ h => h)⟩⟩
  · rw [setBlk_get _ _ _ _ p2, if_neg (by rintro rfl; exact hd ⟨k, o, v, hk, hl, hv, hb⟩)]
  intro b' hb'
  rw [setBlk_get _ _ _ _ p2, if_neg (by rintro rfl; exact p1 hb')]
end objs
end Go.Abs
