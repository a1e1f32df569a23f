/- The simple step, the run of a region's simple steps, and the operations that want a word of the prover's. No condition. -/
import Derived.Test.YtmcedkcehcacpaaAbs3
namespace Go.Abs
set_option linter.unusedVariables false
set_option linter.unusedSectionVars false
set_option linter.unusedSimpArgs false

/-- how many cells an element of this slice type has -/
def elSz (P : Program) (T : TypeId) : Option Nat :=
  match P.underlying T with
  | some (.slice e) => (P.info? e).bind fun i => match zc P e with
    | some z => if z.length = i.size then some i.size else none
    | none => none
  | _ => none

/-- the bytes of an element of this slice type -/
def elB (P : Program) (T : TypeId) : Nat :=
  match P.underlying T with
  | some (.slice e) => ((P.info? e).map (·.bytes)).getD 0
  | _ => 0

def sstep (P : Program) (s : AS) (o : Oper) : Option AS :=
  match o.op with
  | .alloc T => (zc P T).map fun z => ({ s with ob := s.ob ++ [.box T (z.map AV.val)] } : AS).put o.dst (.ptr s.ob.length 0)
  | .box T x => if (s.ev x).flat = true then some (({ s with ob := s.ob ++ [.box T (s.ev x).cells] } : AS).put o.dst (.ptr s.ob.length 0)) else none
  | .store T x v =>
    match s.ev x with
    | .ptr k off =>
      match s.ob[k]? with
      | some (.box T' cs) =>
        if (s.ev v).flat = true ∧ (s.ev v).cells.length = tkLen (tk P T) ∧ 0 < (s.ev v).cells.length ∧ off + (s.ev v).cells.length ≤ cs.length then
          some (({ s with ob := s.ob.set k (.box T' (splice cs off (s.ev v).cells)) } : AS).put o.dst .any)
        else none
      | _ => none
    | _ => none
  | .buildSlice T len parts =>
    match elSz P T with
    | some sz => if 0 < len ∧ parts.toList.map (·.1) = List.range len ∧ (∀ p ∈ parts.toList, (s.ev p.2).flat = true ∧ (s.ev p.2).cells.length = sz) ∧ len * sz ≤ 2 ^ 24 then
        some (s.put o.dst (.sl true sz (parts.toList.map fun p => s.ev p.2))) else none
    | none => none
  | op => (sval P s op).map fun x => s.put o.dst x

def srun (P : Program) (ops : Array Oper) : List Oper → AS → List Oper × AS
  | [], s => ([], s)
  | o :: r, s =>
    match gd ops s o with
    | some true =>
      match sstep P s o with
      | some s' => srun P ops r s'
      | none => (o :: r, s)
    | some false => srun P ops r (s.put o.dst (.val (.tuple #[])))
    | none => (o :: r, s)

/-- one step of a run, once its guard and what it does are known -/
def cont (P : Program) (ops : Array Oper) (g : Option Bool) (x : Option AS) (o : Oper) (r : List Oper) (s : AS) : List Oper × AS :=
  match g with
  | some true =>
    match x with
    | some s' => srun P ops r s'
    | none => (o :: r, s)
  | some false => srun P ops r (s.put o.dst (.val (.tuple #[])))
  | none => (o :: r, s)

theorem srun_nil (P : Program) (ops : Array Oper) (s : AS) : srun P ops [] s = ([], s) := rfl
theorem srun_cons (P : Program) (ops : Array Oper) (o : Oper) (r : List Oper) (s : AS) : srun P ops (o :: r) s = cont P ops (gd ops s o) (sstep P s o) o r s := by
  simp only [srun, cont]
theorem cont_t (P : Program) (ops : Array Oper) (s' : AS) (o : Oper) (r : List Oper) (s : AS) : cont P ops (some true) (some s') o r s = srun P ops r s' := rfl
theorem cont_tn (P : Program) (ops : Array Oper) (o : Oper) (r : List Oper) (s : AS) : cont P ops (some true) none o r s = (o :: r, s) := rfl
theorem cont_f (P : Program) (ops : Array Oper) (x : Option AS) (o : Oper) (r : List Oper) (s : AS) : cont P ops (some false) x o r s = srun P ops r (s.put o.dst (.val (.tuple #[]))) := rfl
theorem cont_n (P : Program) (ops : Array Oper) (x : Option AS) (o : Oper) (r : List Oper) (s : AS) : cont P ops none x o r s = (o :: r, s) := rfl

def ARun2 (P : Program) (ops : Array Oper) (p : List Oper × AS) (Q : AS → Prop) : Prop := ARun P ops p.1 p.2 Q

section
variable {P : Program} {ops : Array Oper} {E : Env} {s : AS} {ρ : List Value} {B : Nat → Prop} {a : Act} {w w' : World} {o : Oper} {rest : List Oper} {Q : AS → Prop}

theorem RW.pubNew {ob : List Ob} (h : RW E ob ρ B w) (hs : Same w w') {b : Nat} (h1 : w.heap.size ≤ b) (h2 : b < w'.heap.size) : RW E ob ρ (fun x => B x ∨ x = b) w' := by
  have hBw : ∀ b, B b → w'.heap[b]? = w.heap[b]? := fun b hb => hs.block b (h.blt b hb)
  refine { os := hs.os.trans h.os, tape := hs.tape.trans h.tape, output := hs.output.trans h.output, size := Nat.le_trans h.size hs.size,
           block := fun k h1 h2 => (hs.block k (Nat.lt_of_lt_of_le h1 h.size)).trans (h.block k h1 h2), pre := h.pre, bsub := fun b hb => .inl (h.bsub b hb), bnew := ?_,
           blt := ?_, len := h.len, obs := ?_, dis := h.dis, prv := ?_ }
  · rintro x (hx | rfl)
    · exact h.bnew x hx
    · exact .inr (Nat.le_trans h.size h1)
  · rintro x (hx | rfl)
    · exact Nat.lt_of_lt_of_le (h.blt x hx) hs.size
    · exact h2
  · intro k o hk
    refine (h.obs k o hk).mono (fun _ h => .inl h) hBw (fun _ _ h => h) ?_
    intro v b' l hv hb
    exact hs.block b' (h.prv k o v b' hk l hv hb).2.1
  · intro k o v b' hk l hv hb
    obtain ⟨p1, p2, p3⟩ := h.prv k o v b' hk l hv hb
    refine ⟨?_, Nat.lt_of_lt_of_le p2 hs.size, p3⟩
    rintro (hx | rfl)
    · exact p1 hx
    · omega

theorem RS.pubNew (h : RS E s ρ B a w) (hs : Same w w') {b : Nat} (h1 : w.heap.size ≤ b) (h2 : b < w'.heap.size) : RS E s ρ (fun x => B x ∨ x = b) a w' :=
  ⟨h.rw_.pubNew hs h1 h2, h.m, h.n, h.df, h.jj.chg ⟨hs.os, hs.tape, hs.output, hs.size, fun b hb _ => hs.block b hb, fun _ h => .inl h, fun _ h => .inl h, fun _ h => h.elim .inl fun e => .inr (.inr (by rw [e]; exact h1))⟩ (h.rw_.pubNew hs h1 h2).bd, fun t x hm => ⟨(h.rf t x hm).1, (h.rf t x hm).2.mono (fun _ h => .inl h) (fun b hb => hs.block b (h.rw_.blt b hb)) (Nat.le_refl _) (fun _ _ h => h)⟩⟩

theorem one_cells {x : AV} (h : x.one = true) : x.cells = [x] := by
  cases x <;> simp_all [AV.cells, AV.one]

/-- filling all places of a row in order -/
theorem fill_all (sz : Nat) : ∀ (ys : List AV) (k : Nat) (cs : List AV), cs.length = (k + ys.length) * sz → (∀ y ∈ ys, y.flat = true ∧ y.cells.length = sz) →
    afill (fun i => some (i * sz, sz)) cs ((List.range' k ys.length).zip ys) = some (cs.take (k * sz) ++ ys.flatMap AV.cells)
  | [], k, cs, h, _ => by
    simp only [List.length_nil, List.range'_zero, List.zip_nil_left, afill, List.flatMap_nil, List.append_nil]
    rw [List.take_of_length_le (by simp at h; omega)]
  | y :: ys, k, cs, h, hy => by
    obtain ⟨hf, hl⟩ := hy y (by simp)
    have hlen : k * sz + sz ≤ cs.length := by rw [h]; simp only [List.length_cons]; rw [Nat.add_mul, Nat.add_mul]; omega
    simp only [List.length_cons, List.range'_succ, List.zip_cons_cons, afill]
    rw [if_pos ⟨hf, hl, by omega⟩]
    have hc : (splice cs (k * sz) y.cells).length = (k + 1 + ys.length) * sz := by
      simp only [splice, List.length_append, List.length_take, List.length_drop, hl]
      rw [h] at hlen ⊢
      simp only [List.length_cons] at hlen ⊢
      have : (k + 1 + ys.length) * sz = (k + (ys.length + 1)) * sz := by rw [show k + 1 + ys.length = k + (ys.length + 1) by omega]
      omega
    rw [fill_all sz ys (k + 1) _ hc (fun z hz => hy z (by simp [hz]))]
    congr 1
    rw [List.flatMap_cons, ← List.append_assoc]
    congr 1
    unfold splice
    exact List.take_left' (by simp only [List.length_append, List.length_take, hl]; rw [Nat.add_mul]; omega)

theorem range_zip (l : List (Nat × Operand)) (n : Nat) (h : l.map (·.1) = List.range n) (f : Operand → AV) : (l.map fun p => (p.1, f p.2)) = (List.range' 0 (l.map fun p => f p.2).length).zip (l.map fun p => f p.2) := by
  have hn : l.length = n := by have := congrArg List.length h; simpa using this
  rw [List.length_map, hn, ← List.range_eq_range', ← h]
  clear h hn
  induction l with
  | nil => rfl
  | cons p l ih => simp only [List.map_cons, List.zip_cons_cons, ih]

theorem elSz_spec {T : TypeId} {sz : Nat} (h : elSz P T = some sz) : ∃ e i zv, P.underlying T = some (.slice e) ∧ P.info? e = some i ∧ i.size = sz ∧ i.zero = some zv ∧ zv.cells.size = sz ∧ ∀ v ∈ zv.cells.toList, v.oneCell' = true := by
  unfold elSz at h
  split at h <;> (try (simp at h; done))
  rename_i e hu
  cases hi : P.info? e with
  | none => simp [hi] at h
  | some i =>
    simp only [hi, Option.bind_some] at h
    split at h <;> (try (simp at h; done))
    rename_i z hz
    split at h <;> simp only [Option.some.injEq, reduceCtorEq] at h
    rename_i hl
    unfold zc at hz
    cases hzz : i.zero with
    | none => simp [hi, hzz] at hz
    | some zv =>
      simp only [hi, hzz, Option.bind_some] at hz
      split at hz <;> simp only [Option.some.injEq, reduceCtorEq] at hz
      rename_i hall
      subst hz
      refine ⟨e, i, zv, hu, hi, h, hzz, by rw [← h, ← hl]; simp, fun v hv => List.all_eq_true.1 hall v hv⟩

theorem run_buildSlice {T : TypeId} {sz len : Nat} {parts : Array (Nat × Operand)} (hsz : elSz P T = some sz) (hp : parts.toList.map (·.1) = List.range len)
    (hx : ∀ p ∈ parts.toList, (s.ev p.2).flat = true ∧ (s.ev p.2).cells.length = sz) (hlen : len * sz ≤ 2 ^ 24)
    (hs : RS E s ρ B a w) :
    ∃ e vs, P.underlying T = some (.slice e) ∧ (Instr.buildSlice T len (parts.map fun (i, x) => (i, a.eval x))).run P w = .ok (.slice (some ⟨w.heap.size, 0, none⟩) len len) (w.alloc (.cells (List.toArray vs) e)) ∧
      RelL w B E.bs ρ ((parts.toList.map fun p => s.ev p.2).flatMap AV.cells) vs ∧ (∀ c ∈ (parts.toList.map fun p => s.ev p.2).flatMap AV.cells, c.one = true) ∧ vs.length = len * sz := by
  obtain ⟨e, i, zv, hu, hi, hs1, hz, hzl, hz1⟩ := elSz_spec hsz
  have hn : parts.toList.length = len := by have := congrArg List.length hp; simpa using this
  -- the row before it is filled
  have base : ∃ us : List Value, us.length = len * sz ∧ (∀ v ∈ us, v.oneCell' = true) ∧
      (if len * sz = 0 then pure #[] else do pure (← zeroValue e).cells : Sem (Array Value)).run P w = .ok (if len * sz = 0 then #[] else zv.cells) w ∧
      ((Array.range (len * sz)).map ((if len * sz = 0 then #[] else zv.cells)[· % (if len * sz = 0 then #[] else zv.cells).size]!)) = us.toArray := by
    by_cases h0 : len * sz = 0
    · exact ⟨[], by simp [h0], by simp, by simp [h0], by simp [h0]⟩
    · have hpos : 0 < sz := by rcases Nat.eq_zero_or_pos sz with h | h; simp [h] at h0; exact h
      refine ⟨(List.range (len * sz)).map fun j => zv.cells[j % sz]!, by simp, ?_, by simp [h0, zeroValue, typeInfo, hi, hz], ?_⟩
      · intro v hv
        simp only [List.mem_map] at hv
        obtain ⟨j, _, rfl⟩ := hv
        have hj : j % sz < zv.cells.size := by rw [hzl]; exact Nat.mod_lt _ hpos
        rw [getElem!_pos zv.cells (j % sz) hj]
        exact hz1 _ (by simp)
      · simp only [h0, if_false, hzl]
        apply Array.ext'
        simp
  obtain ⟨us, hul, hu1, hr, hb⟩ := base
  have hyl : (parts.toList.map fun p => s.ev p.2).length = len := by simpa using hn
  have hall : ∀ y ∈ parts.toList.map fun p => s.ev p.2, y.flat = true ∧ y.cells.length = sz := by
    intro y hy
    simp only [List.mem_map] at hy
    obtain ⟨p, hp, rfl⟩ := hy
    exact hx p hp
  have hfa := fill_all sz (parts.toList.map fun p => s.ev p.2) 0 (us.map AV.val) (by simp [hul, hyl]) hall
  rw [← range_zip parts.toList len hp] at hfa
  obtain ⟨vs, k1, k2, k3, k4⟩ := fill_rel (w := w) (B := B) (bs := E.bs) (ρ := ρ) (fun i => some (i * sz, sz)) (parts.toList.map fun p => (p.1, s.ev p.2)) (parts.toList.map fun p => (p.1, a.eval p.2)) (us.map AV.val) _ us
    (by simp) (by simpa [Function.comp_def] using RelL.map_ev hs (parts.toList.map (·.2))) (RelL.vals _) (by
      intro c hc
      simp only [List.mem_map] at hc
      obtain ⟨v, hv, rfl⟩ := hc
      exact hu1 v hv) hfa
  simp only [Nat.zero_mul, List.take_zero, List.nil_append] at k2 k3
  refine ⟨e, vs, hu, ?_, k2, k3, ?_⟩
  · have k1' : Instr.fill (fun i => some (i * sz, sz)) us.toArray (Array.map (fun x => (x.fst, a.eval x.snd)) parts).toList = some vs.toArray := by simpa using k1
    have hgt : ¬ (len * sz > 2 ^ 24) := by omega
    have hzr : (zeroValue e).run P w = .ok zv w := by simp [zeroValue, typeInfo, hi, hz]
    by_cases h0 : len * sz = 0
    · simp only [h0, if_true] at hb
      simp only [Instr.buildSlice, Sem.run_bind, run_underlying hu, Result.andThen_ok, run_sizeOf hi, hs1, Sem.run_ite, if_neg hgt, Sem.run_pure, h0, if_true]
      rw [hb, k1']
      simp [newRow]
    · simp only [h0, if_false] at hb
      simp only [Instr.buildSlice, Sem.run_bind, run_underlying hu, Result.andThen_ok, run_sizeOf hi, hs1, Sem.run_ite, if_neg hgt, Sem.run_pure, h0, if_false, hzr]
      rw [hb, k1']
      simp [newRow]
  · rw [← k2.length_eq]
    simp only [List.nil_append, Nat.zero_mul, List.take_zero] at k4
    rw [k4]; simp [hul]

theorem block_cell {w : World} {b : Nat} {vs : List Value} {e : TypeId} {fz : Nat × Nat} (h : w.heap[b]? = some (.cells vs.toArray e fz)) (o : Nat) : ∀ j v, (vs.drop o)[j]? = some v → w.cell? ⟨b, o + j, none⟩ = some v := by
  intro j v hj
  rw [List.getElem?_drop] at hj
  simp [World.cell?, h, hj]

/-- a row in a new block, read by its content -/
theorem RelRow.fresh {e : TypeId} {vs : List Value} {sz : Nat} {xs : List AV} {ρ : List Value} {w : World} {B : Nat → Prop} {bs n c : Nat} (hbs : bs ≤ w.heap.size) (hB : ∀ b, B b → b < w.heap.size)
    (h : RelL w B bs ρ (xs.flatMap AV.cells) vs) (h1 : ∀ x ∈ xs, x.cells.length = sz ∧ ∀ c ∈ x.cells, c.one = true) (hn : n = xs.length) (hc : n ≤ c) (ws : List Value) (fz : Nat × Nat) {w' : World} (hs : Same w w')
    (hb : w'.heap[w.heap.size]? = some (.cells (List.toArray (vs ++ ws)) e fz)) :
    Rel w' (fun x => B x ∨ x = w.heap.size) bs ρ (.sl true sz xs) (.slice (some ⟨w.heap.size, 0, none⟩) n c) := by
  subst hn
  cases xs with
  | nil => exact .slE _ _ _ _
  | cons x xs =>
    refine .sl (RelRow.mk (.inr rfl) (fun _ => hbs) (vs := vs) ?_ h1 ?_) hc
    · exact h.mono (fun _ h => .inl h) (fun b hb => hs.block b (hB b hb)) (Nat.le_refl _) (fun _ _ h => h)
    · intro j v hj
      exact block_cell hb 0 j v (by simpa using get_append_some hj)

theorem sstep_sound {s' : AS} (h : sstep P s o = some s') (k : ARun P ops rest s' Q) : AOp P ops o rest s Q := by
  have val : ∀ {e : Sem Value} {v : Value} {w w' : World}, e.run P w = .ok v w' → (do pure (.value (← e)) : Sem Next).run P w = .ok (.value v) w' := fun h => by simp [h]
  have easy : ∀ op, o.op = op → (sval P s op).map (fun x => s.put o.dst x) = some s' → AOp P ops o rest s Q := by
    intro op ho h
    simp only [Option.map_eq_some_iff] at h
    obtain ⟨x, hx, rfl⟩ := h
    exact AOp.pure1 (fun E ρ B a w hs => sval_run (by rw [ho]; exact hx) hs) k
  unfold sstep at h
  cases ho : o.op <;> simp only [ho] at h <;> (try exact easy _ ho h)
  case alloc T =>
    simp only [Option.map_eq_some_iff] at h
    obtain ⟨z, hz, rfl⟩ := h
    refine AOp.value (s' := { s with ob := s.ob ++ [.box T (z.map AV.val)] }) (fun E ρ B a w hs => ?_) k
    unfold zc at hz
    cases hi : P.info? T with
    | none => simp [hi] at hz
    | some i =>
      cases hzz : i.zero with
      | none => simp [hi, hzz] at hz
      | some zv =>
        simp only [hi, hzz, Option.bind_some] at hz
        split at hz <;> simp only [Option.some.injEq, reduceCtorEq] at hz
        rename_i hall
        subst hz
        have hn := hs.newBox (T := T) (RelL.vals zv.cells.toList) (by
          intro c hc
          simp only [List.mem_map] at hc
          obtain ⟨v, hv, rfl⟩ := hc
          exact List.all_eq_true.1 hall v hv)
        refine ⟨.pointer (some ⟨w.heap.size, 0, none⟩), _, _, B, ?_, hn, .ptr (b := w.heap.size) ?_⟩
        · simp only [execOp, ho]
          exact val (by simp [Instr.alloc, zeroValue, typeInfo, hi, hzz, newVar, newRow])
        · rw [← hs.rw_.len]; simp
  case box T x =>
    split at h <;> simp only [Option.some.injEq, reduceCtorEq] at h
    rename_i hf
    subst h
    refine AOp.value (s' := { s with ob := s.ob ++ [.box T (s.ev x).cells] }) (fun E ρ B a w hs => ?_) k
    obtain ⟨r1, r2⟩ := (hs.ev x).toCells hf
    have hn := hs.newBox (T := T) r1 r2
    refine ⟨.pointer (some ⟨w.heap.size, 0, none⟩), _, _, B, ?_, hn, .ptr (b := w.heap.size) ?_⟩
    · simp only [execOp, ho]
      exact val (by simp [Instr.box, newVar, newRow])
    · rw [← hs.rw_.len]; simp
  case store T x v =>
    split at h <;> (try (simp at h; done))
    rename_i k' off e
    split at h <;> (try (simp at h; done))
    rename_i T' cs hk
    split at h <;> simp only [Option.some.injEq, reduceCtorEq] at h
    rename_i hc
    obtain ⟨hf, hl, hpos, hle⟩ := hc
    subst h
    refine AOp.unit (s' := { s with ob := s.ob.set k' (.box T' (splice cs off (s.ev v).cells)) }) (fun E ρ B a w hs => ?_) (by rw [ho]; intro c h; cases h) k
    obtain ⟨b, vs, fz, r1, r2, r3, r4, r5, r6⟩ := box_cells hs hk (b := 0)
    obtain ⟨c1, c2⟩ := (hs.ev v).toCells hf
    have hx := hs.ev x
    rw [e] at hx
    have hi : ∃ i, P.info? T = some i ∧ i.size = (s.ev v).cells.length := by
      rw [hl]
      cases ht : tk P T with
      | scal => obtain ⟨d, i, _, hi, hs, _⟩ := tk_scal ht; exact ⟨i, hi, hs⟩
      | aggr n => obtain ⟨d, i, _, hi, hs, _⟩ := tk_aggr ht; exact ⟨i, hi, hs⟩
      | bad =>
        rw [ht] at hl
        simp only [tkLen] at hl
        omega
    obtain ⟨i, hi, hsz⟩ := hi
    have hlen := r4.length_eq
    have hlc := c1.length_eq
    generalize hu : a.eval x = u at hx
    have hst := run_storeVar (P := P) (w := w) (t := T) (b := b) (o := off) (T := T') hi (v := a.eval v) rfl (by rw [hsz, hlc]) r2 r3 (by omega) (c1.ones c2)
    have hw : RS E { s with ob := s.ob.set k' (.box T' (splice cs off (s.ev v).cells)) } ρ B a (setBlk w b (.cells (vs.take off ++ (a.eval v).cells.toList ++ vs.drop (off + (a.eval v).cells.toList.length)).toArray T' fz)) := by
      obtain ⟨p1, p2, p3⟩ := hs.rw_.prv k' _ _ b hk rfl r1 rfl
      have hB : ∀ b', B b' → (setBlk w b (.cells (vs.take off ++ (a.eval v).cells.toList ++ vs.drop (off + (a.eval v).cells.toList.length)).toArray T' fz)).heap[b']? = w.heap[b']? := fun b' hb' => by
        rw [setBlk_get _ _ _ _ p2, if_neg (by rintro rfl; exact p1 hb')]
      refine hs.write (b := b) hk rfl r1 rfl ⟨b, _, fz, r1, by rw [setBlk_get _ _ _ _ p2, if_pos rfl], ?_, (r4.splice c1 off).mono (fun _ h => h) hB (Nat.le_refl _) (fun _ _ h => h), ?_⟩
      · have : (vs.take off ++ (a.eval v).cells.toList ++ vs.drop (off + (a.eval v).cells.toList.length)).length = vs.length := by simp only [List.length_append, List.length_take, List.length_drop]; omega
        rw [this]; exact r3
      · intro c hc
        simp only [splice, List.mem_append] at hc
        rcases hc with (hc | hc) | hc
        · exact r5 c (List.mem_of_mem_take hc)
        · exact AV.oc_of (c2 c hc)
        · exact r5 c (List.mem_of_mem_drop hc)
    cases hx with
    | ptr hp =>
      rw [r1] at hp
      simp only [Option.some.injEq, Value.pointer.injEq, Addr.mk.injEq, and_true] at hp
      subst hp
      refine ⟨_, ρ, B, ?_, hw⟩
      have he : a.eval x = .pointer (some ⟨b, off, none⟩) := hu
      simp only [execOp, ho]
      simp [Instr.storeAt, he, Instr.sureAddr, hst]
  case buildSlice T len parts =>
    split at h <;> (try (simp at h; done))
    rename_i sz hsz
    split at h <;> simp only [Option.some.injEq, reduceCtorEq] at h
    rename_i hc
    obtain ⟨_, hp, hx, hle⟩ := hc
    subst h
    refine AOp.value (s' := s) (fun E ρ B a w hs => ?_) k
    obtain ⟨e, vs, hu, hr, hrel, h1, hvl⟩ := run_buildSlice hsz hp hx hle hs
    have hn : parts.toList.length = len := by have := congrArg List.length hp; simpa using this
    have hsame := same_alloc w (.cells (List.toArray vs) e)
    have hrow := RelRow.fresh (sz := sz) (bs := E.bs) (xs := List.map (fun (p : Nat × Operand) => s.ev p.2) parts.toList) (n := len) (c := len) hs.rw_.size hs.rw_.blt hrel (by
      intro y hy
      have : y ∈ parts.toList.map fun p => s.ev p.2 := hy
      simp only [List.mem_map] at this
      obtain ⟨p, hpm, rfl⟩ := this
      refine ⟨(hx p hpm).2, fun c hc => h1 c ?_⟩
      simp only [List.mem_flatMap]
      exact ⟨_, hy, hc⟩) (by simpa using hn.symm) (Nat.le_refl _) [] (0, 0) hsame (by rw [List.append_nil]; exact alloc_get _ _)
    refine ⟨.slice (some ⟨w.heap.size, 0, none⟩) len len, w.alloc (.cells (List.toArray vs) e), ρ, _, ?_, hs.pubNew hsame (Nat.le_refl _) (by simp), hrow⟩
    simp only [execOp, ho]
    exact val hr
end
end Go.Abs
