/- Runs of simple steps; guards; calls; bodies; forgetting. No condition. -/
import Derived.Test.YtmcedkcehcacpaaAbs4
namespace Go.Abs
set_option linter.unusedVariables false
set_option linter.unusedSectionVars false
set_option linter.unusedSimpArgs false
set_option linter.unnecessarySimpa false

section
variable {P : Program} {ops : Array Oper} {E : Env} {s s' : AS} {ρ : List Value} {B : Nat → Prop} {a : Act} {w w' : World} {o : Oper} {rest : List Oper} {Q : AS → Prop}

theorem ARun.srun : ∀ {l : List Oper} {s : AS}, ARun2 P ops (srun P ops l s) Q → ARun P ops l s Q
  | [], s, h => h
  | o :: r, s, h => by
    simp only [Abs.srun] at h
    split at h
    · rename_i hg
      split at h
      · rename_i s' hs
        exact ARun.exec hg (sstep_sound hs (ARun.srun h))
      · exact h
    · rename_i hg
      exact ARun.pass hg (ARun.srun h)
    · exact h

theorem ARun2.nil {s : AS} (h : Q s) : ARun2 P ops ([], s) Q := ARun.nil h

/-- the slot is known to hold this literal -/
def AS.lit (s : AS) (d : Nat) (b : Bool) : AS := { s with fr := (d, .val (.bool b)) :: del s.fr d }

theorem RS.lit (h : RS E s ρ B a w) {d : Nat} {b : Bool} (e : lk s.fr d = .val (.bool b)) : RS E (s.lit d b) ρ B a w := by
  refine ⟨h.rw_, h.m, h.n, h.df, h.jj, ?_⟩
  intro t x hm
  rcases List.mem_cons.1 hm with hm | hm
  · have ht : t = d := congrArg Prod.fst hm
    have hx' : x = .val (.bool b) := congrArg Prod.snd hm
    subst ht; subst hx'
    have hd := h.get t
    rw [e] at hd
    refine ⟨?_, hd⟩
    rcases lk_mem e with hx | hx
    · simp at hx
    · exact (h.rf t _ hx).1
  · exact h.rf t x (del_mem hm).1

/-- a guard that is not decided: both ways -/
theorem ARun.split {j d : Nat} {want b : Bool} (hg : o.guard = some (j, want)) (hd : (ops[j]?).bind (·.dst) = some d) (e : lk s.fr d = .val (.bool b))
    (ht : b = true → ARun P ops (o :: rest) (s.lit d true) Q) (hf : b = false → ARun P ops (o :: rest) (s.lit d false) Q) : ARun P ops (o :: rest) s Q := by
  intro E hE ρ B a w hs Q' hQ
  have hl := hs.lit e
  cases b with
  | true => exact ht rfl E hE ρ B a w hl Q' hQ
  | false => exact hf rfl E hE ρ B a w hl Q' hQ

theorem ARun2.split {j d : Nat} {want b : Bool} (hg : o.guard = some (j, want)) (hd : (ops[j]?).bind (·.dst) = some d) (e : lk s.fr d = .val (.bool b))
    (ht : b = true → ARun P ops (o :: rest) (s.lit d true) Q) (hf : b = false → ARun P ops (o :: rest) (s.lit d false) Q) : ARun2 P ops (o :: rest, s) Q :=
  ARun.split hg hd e ht hf

theorem ARun2.exec (h : gd ops s o = some true) (k : AOp P ops o rest s Q) : ARun2 P ops (o :: rest, s) Q := ARun.exec h k

/-! ### forgetting -/
/-- what s' says is said by s -/
def Le (s s' : AS) : Prop := ∀ (E : Env) (ρ : List Value) (B : Nat → Prop) (a : Act) (w : World), RS E s ρ B a w → ∃ ρ' B', RS E s' ρ' B' a w

theorem AWp.weak {c : Code} {Q : Exit → AS → Prop} (h : Le s s') (k : AWp P c s' Q) : AWp P c s Q := by
  intro E hE ρ B a w hs Q' hQ
  obtain ⟨ρ', B', hs'⟩ := h E ρ B a w hs
  exact k E hE ρ' B' a w hs' Q' hQ

theorem ARun.weak {l : List Oper} (h : Le s s') (k : ARun P ops l s' Q) : ARun P ops l s Q := by
  intro E hE ρ B a w hs Q' hQ
  obtain ⟨ρ', B', hs'⟩ := h E ρ B a w hs
  exact k E hE ρ' B' a w hs' Q' hQ

theorem Le.refl (s : AS) : Le s s := fun E ρ B a w h => ⟨ρ, B, h⟩
theorem Le.trans {s1 s2 s3 : AS} (h : Le s1 s2) (k : Le s2 s3) : Le s1 s3 := fun E ρ B a w hs => by
  obtain ⟨ρ', B', h1⟩ := h E ρ B a w hs
  exact k E ρ' B' a w h1

/-- each entry of fr' stands in fr -/
def keeps (fr : List (Nat × AV)) : List (Nat × AV) → Prop
  | [] => True
  | (t, x) :: r => lk fr t = x ∧ x ≠ .any ∧ keeps fr r

theorem keeps_spec {fr fr' : List (Nat × AV)} (h : keeps fr fr') {t : Nat} {x : AV} (hm : (t, x) ∈ fr') : (t, x) ∈ fr := by
  induction fr' with
  | nil => simp at hm
  | cons p r ih =>
    obtain ⟨t', x'⟩ := p
    obtain ⟨h1, h2, h3⟩ := h
    rcases List.mem_cons.1 hm with e | hm
    · have ht : t = t' := congrArg Prod.fst e
      have hx : x = x' := congrArg Prod.snd e
      subst ht; subst hx
      rcases lk_mem h1 with e | e
      · exact absurd e h2
      · exact e
    · exact ih h3 hm

theorem Le.keep {fr' : List (Nat × AV)} (h : keeps s.fr fr') : Le s { s with fr := fr' } := by
  intro E ρ B a w hs
  exact ⟨ρ, B, hs.rw_, hs.m, hs.n, hs.df, hs.jj, fun t x hm => hs.rf t x (keeps_spec h hm)⟩

/-- an object turned into nothing -/
theorem RW.drop {ob : List Ob} {k : Nat} (h : RW E ob ρ B w) : RW E (ob.set k .gone) ρ B w := by
  have get : ∀ {i : Nat} {o1 : Ob}, (ob.set k .gone)[i]? = some o1 → o1.live = true → ob[i]? = some o1 := by
    intro i o1 h1 l1
    by_cases hik : k = i
    · subst hik
      have hlt : k < ob.length := by have := get_lt h1; simpa using this
      rw [List.getElem?_set_self hlt] at h1
      simp at h1; subst h1; simp [Ob.live] at l1
    · rwa [List.getElem?_set_ne hik] at h1
  refine { os := h.os, tape := h.tape, output := h.output, size := h.size, block := h.block, pre := h.pre, bsub := h.bsub, bnew := h.bnew, blt := h.blt, len := by simp [h.len], obs := ?_, dis := ?_, prv := ?_ }
  · intro i o1 h1
    by_cases hl : o1.live = true
    · exact h.obs i o1 (get h1 hl)
    · cases o1 <;> simp [Ob.live] at hl; trivial
  · intro i j o1 o2 u v b hij h1 l1 h2 l2
    exact h.dis i j o1 o2 u v b hij (get h1 l1) l1 (get h2 l2) l2
  · intro i o1 v b h1 l1
    exact h.prv i o1 v b (get h1 l1) l1

/-- objects that nothing known names are forgotten: from number n on -/
theorem RW.cut {ob : List Ob} {n : Nat} (h : RW E ob ρ B w) (hn : E.ρ0.length ≤ n ∧ E.pp.length ≤ n) (hob : ∀ (k : Nat) (o : Ob), (ob.take n)[k]? = some o → match o with
      | .box _ cs => AV.idsOkL (· < n) cs = true
      | .row _ _ xs => AV.idsOkL (· < n) xs = true
      | _ => True) : RW E (ob.take n) (ρ.take n) B w := by
  have tk : ∀ {α : Type} {l : List α} {k : Nat} {v : α}, (l.take n)[k]? = some v → k < n ∧ l[k]? = some v := by
    intro α l k v h
    rw [List.getElem?_take] at h
    split at h
    · exact ⟨‹_›, h⟩
    · simp at h
  have tkb : ∀ {k : Nat} {v : Value}, k < n → ρ[k]? = some v → (ρ.take n)[k]? = some v := by
    intro k v hk h
    rw [List.getElem?_take, if_pos hk]; exact h
  have hids : ∀ (k : Nat) (v : Value), decide (k < n) = true → ρ[k]? = some v → (ρ.take n)[k]? = some v := fun k v hk h => tkb (by simpa using hk) h
  have cells : ∀ xs : List AV, AV.idsOkL (· < n) xs = true → AV.idsOkL (· < n) (xs.flatMap AV.cells) = true := by
    intro xs hx
    rw [AV.idsOkL_iff] at hx ⊢
    intro c hc
    simp only [List.mem_flatMap] at hc
    obtain ⟨x, hx', hc⟩ := hc
    have := hx x hx'
    rw [← AV.idsOkL_cells, AV.idsOkL_iff] at this
    exact this c hc
  refine { os := h.os, tape := h.tape, output := h.output, size := h.size, block := h.block, pre := ?_, bsub := h.bsub, bnew := h.bnew, blt := h.blt, len := by simp [h.len], obs := ?_, dis := ?_, prv := ?_ }
  · intro k v h1 h2
    exact tkb (h1.elim (fun h1 => Nat.lt_of_lt_of_le (get_lt h1) hn.1) fun h1 => Nat.lt_of_lt_of_le (get_lt h1) hn.2) (h.pre k v h1 h2)
  · intro k o hk
    have hid := hob k o hk
    obtain ⟨hkn, hk⟩ := tk hk
    have ho := h.obs k o hk
    cases o with
    | box T cs =>
      obtain ⟨b, vs, fz, h1, h2, h3, h4, h5⟩ := ho
      exact ⟨b, vs, fz, tkb hkn h1, h2, h3, h4.ids hids hid, h5⟩
    | row T sz xs =>
      obtain ⟨h0, ho⟩ := ho
      refine ⟨h0, ?_⟩
      rcases ho with ho | ⟨b, cap, vs, ws, fz, h1, h2, h3, h4, h5, h6⟩
      · exact .inl ⟨ho.1, tkb hkn ho.2⟩
      · exact .inr ⟨b, cap, vs, ws, fz, tkb hkn h1, h2, h3, h4, h5, h6.ids hids (cells xs hid)⟩
    | mp es =>
      obtain ⟨b, ms, c, h1, h2, h3⟩ := ho
      exact ⟨b, ms, c, tkb hkn h1, h2, h3⟩
    | gone => trivial
  · intro i j o1 o2 u v b hij h1 l1 h2 l2 r1 r2
    exact h.dis i j o1 o2 u v b hij (tk h1).2 l1 (tk h2).2 l2 (tk r1).2 (tk r2).2
  · intro k o v b h1 l1 r1
    exact h.prv k o v b (tk h1).2 l1 (tk r1).2

def obIds (p : Nat → Bool) : Ob → Bool
  | .box _ cs => AV.idsOkL p cs
  | .row _ _ xs => AV.idsOkL p xs
  | .mp _ => true
  | .gone => true

def frIds (p : Nat → Bool) : List (Nat × AV) → Bool
  | [] => true
  | (_, x) :: r => x.idsOk p && frIds p r

theorem frIds_mem {p : Nat → Bool} {fr : List (Nat × AV)} (h : frIds p fr = true) {t : Nat} {x : AV} (hm : (t, x) ∈ fr) : x.idsOk p = true := by
  induction fr with
  | nil => simp at hm
  | cons q r ih =>
    obtain ⟨t', x'⟩ := q
    simp only [frIds, Bool.and_eq_true] at h
    rcases List.mem_cons.1 hm with e | hm
    · have hx : x = x' := congrArg Prod.snd e
      subst hx; exact h.1
    · exact ih h.2 hm

theorem Dof.take {ob : List Ob} {n b : Nat} (h : Dof (ob.take n) (ρ.take n) b) : Dof ob ρ b := by
  obtain ⟨k, o, v, h1, h2, h3, h4⟩ := h
  rw [List.getElem?_take] at h1 h3
  split at h1
  · rename_i hk
    rw [if_pos hk] at h3
    exact ⟨k, o, v, h1, h2, h3, h4⟩
  · simp at h1

theorem Le.cut (n : Nat) (hm : s.m ≤ n) (hf : frIds (· < n) s.fr = true) (ho : (s.ob.take n).all (obIds (· < n)) = true) : Le s { s with ob := s.ob.take n } := by
  intro E ρ B a w hs
  have hcut : RW E (s.ob.take n) (ρ.take n) B w := hs.rw_.cut ⟨Nat.le_trans hs.m.1 hm, Nat.le_trans hs.m.2.1 hm⟩ (by
    intro k o hk
    have := List.all_eq_true.1 ho o (List.mem_of_getElem? hk)
    cases o <;> simpa [obIds] using this)
  refine ⟨ρ.take n, B, hcut, hs.m, hs.n, hs.df, hs.jj.chg ⟨rfl, rfl, rfl, Nat.le_refl _, fun _ _ _ => rfl, fun b hd => .inl (Dof.take hd), fun _ h => h, fun _ h => .inl h⟩ hcut.bd, ?_⟩
  · intro t x hmem
    obtain ⟨h1, h2⟩ := hs.rf t x hmem
    refine ⟨h1, h2.ids (p := (· < n)) ?_ (frIds_mem hf hmem)⟩
    intro k v hk hv
    rw [List.getElem?_take, if_pos (by simpa using hk)]
    exact hv

/-! ### calls -/
/-- what is handed over may be read so -/
def Sub (x y : AV) : Prop := ∀ (w : World) (B : Nat → Prop) (bs bs' : Nat) (ρ : List Value) (v : Value), Rel w B bs ρ x v → Rel w B bs' [] y v

def SubL : List AV → List AV → Prop
  | [], [] => True
  | x :: xs, y :: ys => Sub x y ∧ SubL xs ys
  | _, _ => False

theorem SubL.rel : ∀ {xs ys : List AV} {vs : List Value} {w : World} {B : Nat → Prop} {bs bs' : Nat} {ρ : List Value}, SubL xs ys → RelL w B bs ρ xs vs → RelL w B bs' [] ys vs
  | [], [], _, _, _, _, _, _, _, .nil => .nil
  | x :: xs, y :: ys, _, _, _, _, _, _, h, .cons h1 h2 => .cons (h.1 _ _ _ _ _ _ h1) (SubL.rel h.2 h2)
  | [], _ :: _, _, _, _, _, _, _, h, _ => h.elim
  | _ :: _, [], _, _, _, _, _, _, h, _ => h.elim

/-- a pure function's contract: it answers r, and makes no object of its own that is seen -/
def PC (P : Program) (f : FuncId) (args : List AV) (r : AV) : Prop :=
  r.idsOk (fun _ => false) = true ∧ ACalls P f args [] fun r' τ' => r' = r ∧ τ' = []

theorem RW.callee {ob : List Ob} (h : RW E ob ρ B w) : RW (E0 w B []) [] [] B w :=
  { os := rfl, tape := rfl, output := rfl, size := Nat.le_refl _, block := fun _ _ _ => rfl, pre := fun k v h => by simp at h, bsub := fun _ h => h, bnew := fun _ h => .inl h,
    blt := h.blt, len := rfl, obs := fun k o h => by simp at h, dis := fun i j o o' u v b _ h => by simp at h, prv := fun k o v b h => by simp at h }

/-- back from a call that was handed no object -/
theorem RW.back {ob : List Ob} {B' : Nat → Prop} (h : RW E ob ρ B w) (k : RW (E0 w B []) [] [] B' w') : RW E ob ρ B' w' ∧ Same w w' := by
  have hs : Same w w' := ⟨k.os, k.tape, k.output, k.size, fun i hi => k.block i hi ⟨by rintro ⟨v, hv, _⟩; simp at hv, by simp⟩⟩
  refine ⟨?_, hs⟩
  have hBw : ∀ b, B b → w'.heap[b]? = w.heap[b]? := fun b hb => hs.block b (h.blt b hb)
  refine { os := hs.os.trans h.os, tape := hs.tape.trans h.tape, output := hs.output.trans h.output, size := Nat.le_trans h.size hs.size,
           block := fun k h1 h2 => (hs.block k (Nat.lt_of_lt_of_le h1 h.size)).trans (h.block k h1 h2), pre := h.pre, bsub := fun b hb => k.bsub b (h.bsub b hb), bnew := ?_,
           blt := k.blt, len := h.len, obs := ?_, dis := h.dis, prv := ?_ }
  · intro b hb
    rcases k.bnew b hb with hb | hb
    · exact h.bnew b hb
    · exact .inr (Nat.le_trans h.size hb)
  · intro i o hi
    refine (h.obs i o hi).mono k.bsub hBw (fun _ _ h => h) ?_
    intro v b l hv hb
    exact hs.block b (h.prv i o v b hi l hv hb).2.1
  · intro i o v b hi l hv hb
    obtain ⟨p1, p2, p3⟩ := h.prv i o v b hi l hv hb
    refine ⟨?_, Nat.lt_of_lt_of_le p2 hs.size, p3⟩
    intro hB
    rcases k.bnew b hB with hB | hB
    · exact p1 hB
    · exact absurd p2 (Nat.not_lt.2 hB)

theorem RS.back {B' : Nat → Prop} (h : RS E s ρ B a w) (k : RW (E0 w B []) [] [] B' w') : RS E s ρ B' a w' := by
  obtain ⟨h1, hs⟩ := h.rw_.back k
  exact ⟨h1, h.m, h.n, h.df, h.jj.chg ⟨hs.os, hs.tape, hs.output, hs.size, fun b hb _ => hs.block b hb, fun _ h => .inl h, k.bsub, fun b hb => (k.bnew b hb).elim .inl fun h => .inr (.inr h)⟩ h1.bd, fun t x hm => ⟨(h.rf t x hm).1, (h.rf t x hm).2.mono k.bsub (fun b hb => hs.block b (h.rw_.blt b hb)) (Nat.le_refl _) (fun _ _ h => h)⟩⟩

theorem run_call_func {f : FuncId} {fn : Func} {args : Array Operand} {ts : Array TypeId} {ty : TypeId} {ρe : Operand → Value} (hf : P.funcs[f]? = some fn) (hb : fn.body.isSome = true) (hn : (fn.name == "runtime.NumGoroutine") = false)
    (hv : ρe (.func f) = .func (.func f) #[] #[]) : (do let d ← resolve ρe { callee := .value (.func f), args := args, argTypes := ts } ty; invoke d.target d.args : Sem Next).run P w = .ok (.enter f (args.map ρe)) w := by
  cases hbody : fn.body with
  | none => simp [hbody] at hb
  | some c =>
    have hn' : ¬ fn.name = "runtime.NumGoroutine" := by simpa using hn
    simp [resolve, hv, Deferred.ofValue, invoke, callFunc, hf, hn', hbody]

/-- a function that may be called: it has a body -/
def callable (P : Program) (f : FuncId) : Bool :=
  match P.funcs[f]? with
  | some fn => fn.body.isSome && !(fn.name == "runtime.NumGoroutine")
  | none => false

theorem AOp.call {f : FuncId} {args : Array Operand} {ts : Array TypeId} {ys : List AV} {r : AV} (ho : o.op = .call { callee := .value (.func f), args := args, argTypes := ts }) (hc : callable P f = true)
    (hp : PC P f ys r) (hsub : SubL (args.toList.map s.ev) ys) (k : ARun P ops rest (s.put o.dst r) Q) : AOp P ops o rest s Q := by
  intro E hE ρ B a w hs Q' hQ
  unfold callable at hc
  split at hc <;> (try (simp at hc; done))
  rename_i fn hf
  simp only [Bool.and_eq_true, Bool.not_eq_true'] at hc
  have hr := run_call_func (P := P) (w := w) (args := args) (ts := ts) (ty := o.type) (ρe := a.eval) hf hc.1 hc.2 rfl
  have he : (execOp a.eval o).run P w = .ok (.enter f (args.map a.eval)) w := by
    simp only [execOp, ho]; exact hr
  have hrel : RelL w B E.bs ρ (args.toList.map s.ev) (args.toList.map a.eval) := RelL.map_ev hs _
  refine owp_enter he ?_
  have hargs : args.map a.eval = (args.toList.map a.eval).toArray := by apply Array.ext'; simp
  rw [hargs]
  refine hp.2 w [] B _ hs.rw_.callee (hsub.rel hrel) _ ?_
  rintro r' v τ' ρ' B' w' ⟨rfl, rfl⟩ hw hv
  have hρ : ρ' = [] := by have := hw.len; simpa using this
  subst hρ
  have hs' := hs.back hw
  refine ⟨v, rfl, k E hE ρ B' _ w' (hs'.put o.dst ?_) Q' hQ⟩
  refine (hv.mono (fun _ h => h) (fun _ _ => rfl) hs.rw_.size (fun _ _ h => h)).ids (p := fun _ => false) ?_ hp.1
  intro _ _ h; simp at h

theorem ARun2.call {f : FuncId} {args : Array Operand} {ts : Array TypeId} {ys : List AV} {r : AV} (hp : PC P f ys r) (hg : gd ops s o = some true) (ho : o.op = .call { callee := .value (.func f), args := args, argTypes := ts }) (hc : callable P f = true)
    (hsub : SubL (args.toList.map s.ev) ys) (k : ARun P ops rest (s.put o.dst r) Q) : ARun2 P ops (o :: rest, s) Q :=
  ARun.exec hg (AOp.call ho hc hp hsub k)

/-! ### bodies -/
def frOf : Nat → List AV → List (Nat × AV)
  | _, [] => []
  | i, x :: xs => (i, x) :: frOf (i + 1) xs

theorem frOf_mem : ∀ {xs : List AV} {i t : Nat} {x : AV}, (t, x) ∈ frOf i xs → ∃ j, t = i + j ∧ xs[j]? = some x
  | [], _, _, _, h => by simp [frOf] at h
  | y :: ys, i, t, x, h => by
    rcases List.mem_cons.1 h with e | h
    · have ht : t = i := congrArg Prod.fst e
      have hx : x = y := congrArg Prod.snd e
      exact ⟨0, by omega, by subst hx; rfl⟩
    · obtain ⟨j, h1, h2⟩ := frOf_mem h
      exact ⟨j + 1, by omega, by simpa using h2⟩

/-- the result that a function hands back -/
def resAV (P : Program) (s : AS) : ResultVar → Option AV
  | .tmp t => some (lk s.fr t)
  | .cell t T =>
    match lk s.fr t with
    | .ptr k off =>
      match s.ob[k]? with
      | some (.box _ cs) => part' cs off (tk P T)
      | _ => none
    | _ => none

def resAVs (P : Program) (s : AS) : List ResultVar → Option (List AV)
  | [] => some []
  | r :: rs => match resAV P s r, resAVs P s rs with
    | some x, some xs => some (x :: xs)
    | _, _ => none

def resOf : List AV → AV
  | [x] => x
  | xs => .tup xs

theorem run_resAV (hs : RS E s ρ B a w) {r : ResultVar} {x : AV} (h : resAV P s r = some x) :
    ∃ v, ((match r with
      | .tmp t => pure (a.tmps.getD t undef)
      | .cell t T => do loadVar T (← asAddr (a.tmps.getD t undef))) : Sem Value).run P w = .ok v w ∧ Rel w B E.bs ρ x v := by
  cases r with
  | tmp t => simp [resAV] at h; subst h; exact ⟨_, rfl, hs.get t⟩
  | cell t T =>
    simp only [resAV] at h
    split at h <;> (try (simp at h; done))
    rename_i k off e
    split at h <;> (try (simp at h; done))
    rename_i T' cs hk
    have hy := hs.get t
    rw [e] at hy
    obtain ⟨b, vs, fz, r1, r2, r3, r4, r5, r6⟩ := box_cells hs hk (b := 0)
    simp only
    generalize a.tmps.getD t undef = u at hy ⊢
    cases hy with
    | ptr hp =>
      rw [r1] at hp
      simp only [Option.some.injEq, Value.pointer.injEq, Addr.mk.injEq, and_true] at hp
      subst hp
      obtain ⟨v, h1, h2⟩ := run_load_cells (P := P) (T := T) (E := E) (w := w) (B := B) (ρ := ρ) rfl r4 r6 h
      exact ⟨v, by simpa [asAddr] using h1, h2⟩

theorem run_resAVs (hs : RS E s ρ B a w) : ∀ {rs : List ResultVar} {xs : List AV}, resAVs P s rs = some xs →
    ∃ vs, (rs.mapM fun r => ((match r with
      | .tmp t => pure (a.tmps.getD t undef)
      | .cell t T => do loadVar T (← asAddr (a.tmps.getD t undef))) : Sem Value)).run P w = .ok vs w ∧ RelL w B E.bs ρ xs vs
  | [], xs, h => by simp [resAVs] at h; subst h; exact ⟨[], by simp, .nil⟩
  | r :: rs, xs, h => by
    simp only [resAVs] at h
    split at h <;> simp only [Option.some.injEq, reduceCtorEq] at h
    rename_i x xs' h1 h2
    subst h
    obtain ⟨v, k1, k2⟩ := run_resAV hs h1
    obtain ⟨vs, k3, k4⟩ := run_resAVs hs h2
    refine ⟨v :: vs, ?_, .cons k2 k4⟩
    rw [List.mapM_cons]
    simp only [Sem.run_bind, k1, Result.andThen_ok, k3]
    simp

/-- how a body must end -/
def bodyQ (P : Program) (fn : Func) (R : AV → AS → Prop) : Exit → AS → Prop
  | .normal, s | .ret, s => ∃ xs, resAVs P s fn.results.toList = some xs ∧ R (resOf xs) s
  | _, _ => False

theorem run_results (hs : RS E s ρ B a w) {fn : Func} {xs : List AV} (h : resAVs P s fn.results.toList = some xs) : ∃ v, (results fn a.tmps).run P w = .ok v w ∧ Rel w B E.bs ρ (resOf xs) v := by
  obtain ⟨vs, h1, h2⟩ := run_resAVs hs h
  have hr : ∀ f : ResultVar → Sem Value, (fn.results.toList.mapM f).run P w = .ok vs w → (fn.results.mapM f).run P w = .ok vs.toArray w := by
    intro f hf
    rw [Array.mapM_eq_mapM_toList]
    simp [hf]
  have hres : (results fn a.tmps).run P w = .ok (if h : vs.toArray.size = 1 then vs.toArray[0] else .tuple vs.toArray) w := by
    unfold results
    rw [Sem.run_bind]
    refine (congrArg (fun r : Result (Array Value) => r.andThen fun vs w' => (Pure.pure (if h : vs.size = 1 then vs[0] else .tuple vs) : Sem Value).run P w') (hr _ ?_)).trans rfl
    refine Eq.trans (congrArg (fun g : ResultVar → Sem Value => (fn.results.toList.mapM g).run P w) ?_) h1
    funext r
    cases r <;> rfl
  refine ⟨_, hres, ?_⟩
  clear hres hr h1
  cases h2 with
  | nil => exact .tup .nil
  | cons k1 k2 =>
    cases k2 with
    | nil => exact k1
    | cons k3 k4 => exact .tup (.cons k1 (.cons k3 k4))

theorem E0.ok (w : World) (B : Nat → Prop) (ρ : List Value) (P : Program) : (E0 w B ρ).Ok P := ⟨fun l X h => by simp at h, fun l h => by simp at h⟩

theorem RS.init {τ : List Ob} {vs : List Value} {args : List AV} {n : Nat} (h : RW (E0 w B ρ) τ ρ B w) (hr : RelL w B w.heap.size ρ args vs) (hn : vs.length ≤ n) :
    RS (E0 w B ρ) { n := n, m := τ.length, fr := frOf 0 args, ob := τ } ρ B { tmps := vs.toArray ++ Array.replicate (n - vs.toArray.size) undef, defers := [] } w := by
  refine ⟨h, ⟨by simp [h.len], by simp, rfl⟩, by simp; omega, rfl, ⟨trivial, fun _ _ _ _ _ _ _ _ _ _ _ => trivial, List.nodup_nil, by simp⟩, ?_⟩
  intro t x hm
  obtain ⟨j, rfl, hj⟩ := frOf_mem hm
  obtain ⟨v, hv, hrel⟩ := hr.get hj
  have hlt := get_lt hv
  refine ⟨by simp; omega, ?_⟩
  have : (vs.toArray ++ Array.replicate (n - vs.toArray.size) undef).getD (0 + j) undef = v := by
    rw [Array.getD_eq_getD_getElem?, Nat.zero_add, Array.getElem?_append_left (by simpa using hlt)]
    simp [hv]
  rw [this]
  exact hrel

/-- a block that nothing known lies in turns -/
theorem RW.tidy {ob : List Ob} {b : Nat} {o : Obj} (h : RW E ob ρ B w) (h1 : E.w0.heap.size ≤ b) (h2 : b < w.heap.size) (h3 : ¬ B b) (h4 : ¬ Dof ob ρ b) : RW E ob ρ B (setBlk w b o) := by
  have hB : ∀ b', B b' → (setBlk w b o).heap[b']? = w.heap[b']? := fun b' hb' => by rw [setBlk_get _ _ _ _ h2, if_neg (by rintro rfl; exact h3 hb')]
  refine { os := h.os, tape := h.tape, output := h.output, size := by simpa [setBlk] using h.size, block := ?_, pre := h.pre, bsub := h.bsub, bnew := h.bnew,
           blt := fun b' hb' => by simpa [setBlk] using h.blt b' hb', len := h.len, obs := ?_, dis := h.dis, prv := ?_ }
  · intro j h1' h2'
    rw [setBlk_get _ _ _ _ h2, if_neg (by omega)]
    exact h.block j h1' h2'
  · intro j oj hj
    refine (h.obs j oj hj).mono (fun _ h => h) hB (fun _ _ h => h) ?_
    intro u b' l hu hbu
    rw [setBlk_get _ _ _ _ h2, if_neg (by rintro rfl; exact h4 ⟨j, oj, u, hj, l, hu, hbu⟩)]
  · intro j oj u b' hj l hu hbu
    have := h.prv j oj u b' hj l hu hbu
    exact ⟨this.1, by simpa [setBlk] using this.2.1, this.2.2⟩

theorem resAVs_df (d : List Nat) : ∀ l : List ResultVar, resAVs P { s with df := d } l = resAVs P s l
  | [] => rfl
  | r :: l => by
    have h1 : resAV P { s with df := d } r = resAV P s r := by cases r <;> rfl
    simp only [resAVs, h1, resAVs_df d l]

/-- the marks of the loops over functions are taken away -/
theorem leaves_marks {fn : Func} {s : AS} {t : Array Value} {R' : Ending → World → Prop} : ∀ (df : List Nat) (w : World), RS E { s with df := df } ρ B { tmps := t, defers := df.map mark } w →
    (∀ w2, RS E { s with df := [] } ρ B { tmps := t, defers := [] } w2 → ∃ v, (results fn t).run P w2 = .ok v w2 ∧ R' (.returned v) w2) → LeavesInM Fence.wide 0 P fn t R' (df.map mark) .returning w
  | [], w, hs, h => h w hs
  | b :: df, w, hs, h => by
    refine ⟨by simp, .inl ⟨b, setBlk w b (.deferred none), rfl, ?_, ?_⟩⟩
    · exact run_takeDeferred (hs.jj.mks b (by simp)).1
    · obtain ⟨m1, m2, m3, m4⟩ := hs.jj.mks b (by simp)
      have hlt : b < w.heap.size := by
        rcases Nat.lt_or_ge b w.heap.size with h' | h'
        · exact h'
        · simp [Array.getElem?_eq_none h'] at m1
      have hnd := List.nodup_cons.1 hs.jj.nodup
      have hne : ∀ b', b' ∈ df → b' ≠ b := by rintro b' hb' rfl; exact hnd.1 hb'
      have hB : ∀ b', B b' → (setBlk w b (.deferred none)).heap[b']? = w.heap[b']? := fun b' hb' => by rw [setBlk_get _ _ _ _ hlt, if_neg (by rintro rfl; exact m3 hb')]
      have htd := hs.rw_.tidy (o := .deferred none) m4 hlt m3 m2
      refine leaves_marks (s := s) df _ ⟨hs.rw_.tidy m4 hlt m3 m2, hs.m, hs.n, rfl, ⟨hs.jj.stab _ _ _ _ _ _ _ _ hs.jj.j ⟨rfl, rfl, rfl, by simp [setBlk], ?_, ?_, fun _ h => h, fun _ h => .inl h⟩ ⟨htd.bd.1, ?_⟩, hs.jj.stab, hnd.2, ?_⟩, ?_⟩ h
      · intro b' _ hb'
        rw [setBlk_get _ _ _ _ hlt, if_neg (by rintro rfl; exact hb' (.inr (by simp)))]
      · rintro b' (h | h)
        · exact .inl (.inl h)
        · exact .inl (.inr (by simp [h]))
      · rintro b' (h | h)
        · exact htd.bd.2 b' h
        · obtain ⟨k1, k2, k3, k4⟩ := hs.jj.mks b' (by simp [h])
          refine ⟨?_, k3⟩
          rcases Nat.lt_or_ge b' w.heap.size with h' | h'
          · simpa [setBlk] using h'
          · simp [Array.getElem?_eq_none h'] at k1
      · intro b' hb'
        obtain ⟨k1, k2, k3, k4⟩ := hs.jj.mks b' (by simp [hb'])
        exact ⟨by rw [setBlk_get _ _ _ _ hlt, if_neg (hne b' hb')]; exact k1, k2, k3, k4⟩
      · intro t x hm
        obtain ⟨h1, h2⟩ := hs.rf t x hm
        exact ⟨h1, h2.mono (fun _ h => h) hB (Nat.le_refl _) (fun _ _ h => h)⟩

/-- a body, walked in the environment E, ends its call -/
theorem calls_body {f : FuncId} {fn : Func} {c : Code} {vs : Array Value} {s : AS} {R : AV → AS → Prop} (hE : E.Ok P) (hr : E.rnd = none) (hf : P.funcs[f]? = some fn) (hb : fn.body = some c)
    (hs : RS E s ρ B { tmps := vs ++ Array.replicate (fn.ntmps - vs.size) undef, defers := [] } w) (h : AWp P c s (bodyQ P fn R)) {R' : Ending → World → Prop}
    (hR' : ∀ r v s' ρ' B' a' w', R r s' → RS E { s' with df := [] } ρ' B' a' w' → Rel w' B' E.bs ρ' r v → R' (.returned v) w') : Calls P f vs w R' := by
  refine callsIn_wide.1 (callsIn_of_wp_marks (F := Fence.wide) (n := 0) hf hb trivial ?_)
  have hw := h E hE ρ B _ w hs (bodyPostM Fence.wide 0 P fn R') ?_
  · rw [hr] at hw; exact hw
  intro e s' ρ' B' a' w' q hs'
  have fin : ∀ xs, resAVs P s' fn.results.toList = some xs → R (resOf xs) s' → LeavesInM Fence.wide 0 P fn a'.tmps R' a'.defers .returning w' := by
    intro xs hx hRx
    obtain ⟨t, d⟩ := a'
    have hd : d = s'.df.map mark := hs'.df
    subst hd
    refine leaves_marks (s := s') s'.df w' hs' ?_
    intro w2 hs2
    obtain ⟨v, h1, h2⟩ := run_results hs2 (fn := fn) (xs := xs) ((resAVs_df [] _).trans hx)
    exact ⟨v, h1, hR' _ _ s' ρ' B' _ w2 hRx hs2 h2⟩
  cases e with
  | normal => obtain ⟨xs, hx, hRx⟩ := q; exact fin xs hx hRx
  | ret => obtain ⟨xs, hx, hRx⟩ := q; exact fin xs hx hRx
  | _ => exact q.elim

theorem ACalls.of_body {f : FuncId} {fn : Func} {c : Code} {args : List AV} {τ : List Ob} {R : AV → List Ob → Prop} (hf : P.funcs[f]? = some fn) (hb : fn.body = some c) (hn : args.length ≤ fn.ntmps)
    (h : AWp P c { n := fn.ntmps, m := τ.length, fr := frOf 0 args, ob := τ } (bodyQ P fn fun r s => R r s.ob)) : ACalls P f args τ R := by
  intro w ρ B vs hw hr R' hR'
  have hs := RS.init (n := fn.ntmps) hw hr (by rw [← hr.length_eq]; exact hn)
  refine calls_body (E0.ok w B ρ P) rfl hf hb (by simpa using hs) h ?_
  intro r v s' ρ' B' a' w' hRr hs' hv
  exact hR' _ _ _ _ _ _ hRr hs'.rw_ hv

/-- a pure function's body -/
theorem PC.of_body {f : FuncId} {fn : Func} {c : Code} {args : List AV} {r : AV} (hr : r.idsOk (fun _ => false) = true) (hf : P.funcs[f]? = some fn) (hb : fn.body = some c) (hn : args.length ≤ fn.ntmps)
    (h : AWp P c { n := fn.ntmps, m := 0, fr := frOf 0 args, ob := [] } (bodyQ P fn fun r' _ => r' = r)) : PC P f args r := by
  refine ⟨hr, ?_⟩
  intro w ρ B vs hw hrel R' hR'
  refine ACalls.of_body (τ := []) (R := fun r' _ => r' = r) hf hb hn h w ρ B vs hw hrel R' ?_
  rintro r' v τ' ρ' B' w' rfl hw' hv
  have hρ : ρ = [] := by have := hw.len; simpa using this
  subst hρ
  refine hR' _ v [] [] B' w' ⟨rfl, rfl⟩ ?_ (hv.ids (p := fun _ => false) (by intro _ _ h; simp at h) hr)
  have := hw'.cut (n := 0) (by simp) (by intro k o h; simp at h)
  simpa using this
end
end Go.Abs
