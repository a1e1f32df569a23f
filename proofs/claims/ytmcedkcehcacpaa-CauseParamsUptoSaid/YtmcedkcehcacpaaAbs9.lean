/- Regions that draw their order: a head of operations that may come up in any order, and a tail in the text's order. No condition. -/
import Derived.Test.YtmcedkcehcacpaaAbs8
import Derived.StillTail
namespace Go.Abs
set_option linter.unusedVariables false
set_option linter.unusedSectionVars false
set_option linter.unusedSimpArgs false
set_option linter.unnecessarySimpa false

section
variable {P : Program} {ops : Array Oper} {E : Env} {s s' : AS} {ρ : List Value} {B : Nat → Prop} {a : Act} {w w' : World} {o : Oper} {rest : List Oper} {Q : AS → Prop}

def RJ (E : Env) (s : AS) (ob : List Ob) (ρ : List Value) (B : Nat → Prop) (w : World) : Prop := RW E ob ρ B w ∧ JJ E s.tr s.go s.df (Dof ob ρ) B w

theorem RS.rj (h : RS E s ρ B a w) : RJ E s s.ob ρ B w := ⟨h.rw_, h.jj⟩

theorem wpAnyIn_of_seq {r : Option Nat} {md : Region.Mode} {Q' : Exit → Act → World → Prop} : ∀ (l : List Oper) (k : Nat) (listed : Array Bool) (a : Act) (w : World), (∀ j, l[j]? = ops[k + j]?) →
    Region.seqB md ops l.length k listed = true → lwp r P ops Q' l a w → wpAnyIn (FR r) 0 P md ops Q' l.length listed a w
  | [], _, _, _, _, _, hB, h => ⟨by simpa [Region.seqB] using hB, h⟩
  | o :: l, k, listed, a, w, hl, hB, h => by
    have h0 : ops[k]? = some o := by simpa using (hl 0).symm
    simp only [List.length_cons, Region.seqB, Bool.and_eq_true, decide_eq_true_eq] at hB
    refine ⟨fun h1 => (by rw [hB.1] at h1; cases h1), fun i hi => ?_⟩
    rw [hB.1] at hi
    have hik : i = k := by simpa using hi
    subst hik
    have hw : wpOpIn (FR r) 0 P ops Q' i (lwp r P ops Q' l) a w := by
      unfold wpOpIn
      simp only [h0]
      simp only [lwp] at h
      split
      · rename_i hw; rw [if_pos hw] at h; exact h
      · rename_i hw; rw [if_neg hw] at h; exact ⟨fun _ _ => trivial, h⟩
    exact wpOpIn_mono (fun a' w' h' => wpAnyIn_of_seq l (i + 1) _ a' w' (fun j => by have := hl (j + 1); simpa [Nat.add_assoc, Nat.add_comm 1 j] using this) hB.2 h') hw

/-- operation o, in whatever state that says what s says (and may have objects more), comes to a value that x tells, and leaves what is known -/
def NSpec (P : Program) (ops : Array Oper) (o : Oper) (s : AS) (x : AV) : Prop :=
  ∀ (E : Env) (ρ : List Value) (B : Nat → Prop) (a : Act) (w : World) (ob : List Ob), RS E { s with ob := s.ob ++ ob } ρ B a w → ∀ (K : Act → World → Prop) (Q' : Exit → Act → World → Prop),
    (∀ v w' B', RJ E s (s.ob ++ ob) ρ B' w' → (∀ b, B b → B' b) → (∀ b, B b → w'.heap[b]? = w.heap[b]?) → Rel w' B' E.bs ρ x v → K (a.put o.dst v) w') →
    if Region.wanted o (yielded ops a.tmps) then owp E.rnd P o a w K Q' else K (a.put o.dst undef) w

theorem NSpec.pass (h : gd ops s o = some false) : NSpec P ops o s (.val (.tuple #[])) := by
  intro E ρ B a w ob hs K Q' hK
  rw [if_neg (by rw [gd_wanted (s := { s with ob := s.ob ++ ob }) h hs]; simp)]
  exact hK _ _ _ hs.rj (fun _ h => h) (fun _ _ => rfl) (.val _)

theorem NSpec.pure1 {x : AV} (hg : gd ops s o = some true) (h : ∀ (E : Env) (ρ : List Value) (B : Nat → Prop) (a : Act) (w : World) (ob : List Ob), RS E { s with ob := s.ob ++ ob } ρ B a w →
      ∃ v, (execOp a.eval o).run P w = .ok (.value v) w ∧ Rel w B E.bs ρ x v) : NSpec P ops o s x := by
  intro E ρ B a w ob hs K Q' hK
  rw [if_pos (gd_wanted (s := { s with ob := s.ob ++ ob }) hg hs)]
  obtain ⟨v, h1, h2⟩ := h E ρ B a w ob hs
  exact owp_value h1 (hK _ _ _ hs.rj (fun _ h => h) (fun _ _ => rfl) h2)

theorem sval_ob {op : Op} {x : AV} (ob : List Ob) (h : sval P s op = some x) : sval P { s with ob := s.ob ++ ob } op = some x := by
  have hev : ∀ y, AS.ev { s with ob := s.ob ++ ob } y = s.ev y := fun y => by cases y <;> rfl
  have hev' : AS.ev { s with ob := s.ob ++ ob } = s.ev := funext hev
  cases op <;> (try (simp only [sval, hev'] at h ⊢; exact h))
  case binOp bo T y z yt => cases z <;> (first | (simp only [sval, hev'] at h ⊢; exact h) | (cases bo <;> (simp only [sval, hev'] at h ⊢; exact h)))
  case unOp uo T y => cases uo <;> (simp only [sval, hev'] at h ⊢; exact h)
  case load T y =>
    simp only [sval, hev'] at h ⊢
    split at h <;> (try (simp at h; done))
    · rename_i k off e
      split at h <;> (try (simp at h; done))
      rename_i T' cs hk
      simp only [get_append_some hk]
      exact h
    · exact h
  case call c =>
    obtain ⟨callee, args, ts⟩ := c
    cases callee <;> (try (simp [sval] at h; done))
    rename_i bi
    cases bi <;> (try (simp [sval] at h; done))
    simp only [sval, hev'] at h ⊢
    split at h <;> (try (simp at h; done))
    split at h <;> (try (simp at h; done))
    · exact h
    · exact h
    · exact h
    · rename_i k e
      split at h <;> (try (simp at h; done))
      rename_i hk
      simp only [get_append_some hk]
      exact h

theorem NSpec.simple {x : AV} (hg : gd ops s o = some true) (h : sval P s o.op = some x) : NSpec P ops o s x :=
  NSpec.pure1 hg fun E ρ B a w ob hs => sval_run (sval_ob ob h) hs

theorem NSpec.index {T : TypeId} {x i : Operand} {nw : Bool} {sz : Nat} {xs : List AV} {k : IntKind} {j : Int} {y : AV} (hg : gd ops s o = some true) (ho : o.op = .indexAddr T x i) (hx : s.ev x = .sl nw sz xs) (hi : s.ev i = .val (.int k j))
    (hz : elSz P T = some sz) (hs0 : sz ≠ 0) (h0 : 0 ≤ j) (hy : xs[j.toNat]? = some y) : NSpec P ops o s (.ref nw y) :=
  NSpec.pure1 hg fun E ρ B a w ob hs => index_run (s := { s with ob := s.ob ++ ob }) hs ho (by cases x <;> exact hx) (by cases i <;> exact hi) hz hs0 h0 hy

theorem NSpec.buildSlice {T : TypeId} {len sz : Nat} {parts : Array (Nat × Operand)} (hg : gd ops s o = some true) (ho : o.op = .buildSlice T len parts) (hz : elSz P T = some sz)
    (hc : parts.toList.map (·.1) = List.range len ∧ (∀ p ∈ parts.toList, (s.ev p.2).flat = true ∧ (s.ev p.2).cells.length = sz) ∧ len * sz ≤ 2 ^ 24) :
    NSpec P ops o s (.sl true sz (parts.toList.map fun p => s.ev p.2)) := by
  intro E ρ B a w ob hs K Q' hK
  rw [if_pos (gd_wanted (s := { s with ob := s.ob ++ ob }) hg hs)]
  obtain ⟨hp, hx, hle⟩ := hc
  have hev : AS.ev { s with ob := s.ob ++ ob } = s.ev := funext fun y => by cases y <;> rfl
  obtain ⟨e, vs, hu, hr, hrel, h1, hvl⟩ := run_buildSlice (s := { s with ob := s.ob ++ ob }) hz hp (by rw [hev]; exact hx) hle hs
  rw [hev] at hrel h1
  have hn : parts.toList.length = len := by have := congrArg List.length hp; simpa using this
  have hsame := same_alloc w (.cells (List.toArray vs) e)
  have hrow := RelRow.fresh (sz := sz) (bs := E.bs) (xs := List.map (fun (p : Nat × Operand) => s.ev p.2) parts.toList) (n := len) (c := len) hs.rw_.size hs.rw_.blt hrel (by
    intro y hy
    have : y ∈ parts.toList.map fun p => s.ev p.2 := hy
    simp only [List.mem_map] at this
    obtain ⟨p, hpm, rfl⟩ := this
    refine ⟨(hx p hpm).2, fun c hc => h1 c ?_⟩
    simp only [List.mem_flatMap]
    exact ⟨_, hy, hc⟩) (by simpa using hn.symm) (Nat.le_refl _) [] (0, 0) hsame (by rw [List.append_nil]; exact alloc_get _ _)
  have hrun : (execOp a.eval o).run P w = .ok (.value (.slice (some ⟨w.heap.size, 0, none⟩) len len)) (w.alloc (.cells (List.toArray vs) e)) := by
    simp only [execOp, ho]; exact val_run hr
  exact owp_value hrun (hK _ _ _ (hs.pubNew hsame (Nat.le_refl _) (by simp)).rj (fun _ h => .inl h) (fun b hb => hsame.block b (hs.rw_.blt b hb)) hrow)

theorem NSpec.call {f : FuncId} {args : Array Operand} {ts : Array TypeId} {ys : List AV} {r : AV} (hg : gd ops s o = some true) (ho : o.op = .call { callee := .value (.func f), args := args, argTypes := ts }) (hc : callable P f = true)
    (hp : PC P f ys r) (hsub : SubL (args.toList.map s.ev) ys) : NSpec P ops o s r := by
  intro E ρ B a w ob hs K Q' hK
  rw [if_pos (gd_wanted (s := { s with ob := s.ob ++ ob }) hg hs)]
  unfold callable at hc
  split at hc <;> (try (simp at hc; done))
  rename_i fn hf
  simp only [Bool.and_eq_true, Bool.not_eq_true'] at hc
  have hr := run_call_func (P := P) (w := w) (args := args) (ts := ts) (ty := o.type) (ρe := a.eval) hf hc.1 hc.2 rfl
  have he : (execOp a.eval o).run P w = .ok (.enter f (args.map a.eval)) w := by
    simp only [execOp, ho]; exact hr
  have hev : AS.ev { s with ob := s.ob ++ ob } = s.ev := funext fun y => by cases y <;> rfl
  have hrel : RelL w B E.bs ρ (args.toList.map s.ev) (args.toList.map a.eval) := by have := RelL.map_ev hs args.toList; rwa [hev] at this
  refine owp_enter he ?_
  have hargs : args.map a.eval = (args.toList.map a.eval).toArray := by apply Array.ext'; simp
  rw [hargs]
  refine hp.2 w [] B _ hs.rw_.callee (hsub.rel hrel) _ ?_
  rintro r' v τ' ρ' B' w' ⟨rfl, rfl⟩ hw hv
  have hρ : ρ' = [] := by have := hw.len; simpa using this
  subst hρ
  obtain ⟨hb, hsame⟩ := hs.rw_.back hw
  refine ⟨v, rfl, hK _ _ B' (hs.back hw).rj hw.bsub (fun b h => hsame.block b (hs.rw_.blt b h)) ?_⟩
  refine (hv.mono (fun _ h => h) (fun _ _ => rfl) hs.rw_.size (fun _ _ h => h)).ids (p := fun _ => false) ?_ hp.1
  intro _ _ h; simp at h

/-! ### the head in any order -/
/-- what operation i of the head needs: slots, each written by an operation of the head or as it was -/
def needFr (fr : List (Nat × AV)) (vals : List AV) : List (Nat × Option Nat) → List (Nat × AV)
  | [] => []
  | (t, some j) :: r => (t, vals.getD j .any) :: needFr fr vals r
  | (t, none) :: r => (t, lk fr t) :: needFr fr vals r

theorem needFr_mem {fr : List (Nat × AV)} {vals : List AV} : ∀ {nd : List (Nat × Option Nat)} {t : Nat} {x : AV}, (t, x) ∈ needFr fr vals nd → (∃ j, (t, some j) ∈ nd ∧ x = vals.getD j .any) ∨ ((t, none) ∈ nd ∧ x = lk fr t)
  | [], _, _, h => by simp [needFr] at h
  | (t', some j) :: r, t, x, h => by
    rcases List.mem_cons.1 h with e | h
    · have e1 : t = t' := congrArg Prod.fst e
      have e2 : x = vals.getD j .any := congrArg Prod.snd e
      subst e1; exact .inl ⟨j, by simp, e2⟩
    · rcases needFr_mem h with ⟨j', h1, h2⟩ | ⟨h1, h2⟩
      · exact .inl ⟨j', by simp [h1], h2⟩
      · exact .inr ⟨by simp [h1], h2⟩
  | (t', none) :: r, t, x, h => by
    rcases List.mem_cons.1 h with e | h
    · have e1 : t = t' := congrArg Prod.fst e
      have e2 : x = lk fr t' := congrArg Prod.snd e
      subst e1; exact .inr ⟨by simp, e2⟩
    · rcases needFr_mem h with ⟨j', h1, h2⟩ | ⟨h1, h2⟩
      · exact .inl ⟨j', by simp [h1], h2⟩
      · exact .inr ⟨by simp [h1], h2⟩

def dstOf (ops : Array Oper) (i : Nat) : Option Nat := (ops[i]?).bind (·.dst)

/-- the checks on a region's shape: n: the head's length; nds: what each operation of the head needs -/
def drawnB (ops : Array Oper) (n sn : Nat) (nds : List (List (Nat × Option Nat))) : Bool :=
  decide (n ≤ ops.size) &&
  (decide (n = ops.size) || (Region.sinkB .any ops n && Region.chainB .any ops n)) &&
  Region.seqB .any ops (ops.size - n) n ((List.range ops.size).map fun i => decide (i < n)).toArray &&
  ((List.range n).all fun i => match ops[i]? with
    | none => false
    | some o => (o.after.all fun e => !Region.binds .any e || decide (e.on < i)) &&
      -- a slot is written once in the head
      (match o.dst with
        | none => true
        | some d => decide (d < sn) && ((List.range n).all fun j => decide (j = i) || decide (dstOf ops j ≠ some d))) &&
      ((nds.getD i []).all fun p => match p.2 with
        | some j => decide (j < n) && decide (dstOf ops j = some p.1) && Region.waitsFor .any ops i j
        | none => decide (p.1 < sn) && (List.range n).all fun j => decide (dstOf ops j ≠ some p.1) || (decide (j ≠ i) && Region.waitsFor .any ops j i) || decide (j = i)))

/-- the object that an operation of the head makes, once it has come up -/
def obl (al : Option (Nat × Ob)) (listed : Array Bool) : List Ob :=
  match al with
  | some (i, o) => if listed.getD i false = true then [o] else []
  | none => []

def oball : Option (Nat × Ob) → List Ob
  | some p => [p.2]
  | none => []

/-- an operation of the head that makes an object -/
def ASpec (P : Program) (ops : Array Oper) (o : Oper) (s : AS) (x : AV) (ob : Ob) : Prop :=
  ∀ (E : Env) (ρ : List Value) (B : Nat → Prop) (a : Act) (w : World), RS E s ρ B a w → ∀ (K : Act → World → Prop) (Q' : Exit → Act → World → Prop),
    (∀ v w' u, RJ E s (s.ob ++ [ob]) (ρ ++ [u]) B w' → (∀ b, B b → w'.heap[b]? = w.heap[b]?) → Rel w' B E.bs (ρ ++ [u]) x v → K (a.put o.dst v) w') →
    if Region.wanted o (yielded ops a.tmps) then owp E.rnd P o a w K Q' else K (a.put o.dst undef) w

theorem ASpec.alloc {T : TypeId} {z : List Value} (hg : gd ops s o = some true) (ho : o.op = .alloc T) (hz : zc P T = some z) : ASpec P ops o s (.ptr s.ob.length 0) (.box T (z.map AV.val)) := by
  intro E ρ B a w hs K Q' hK
  rw [if_pos (gd_wanted hg hs)]
  unfold zc at hz
  cases hi : P.info? T with
  | none => simp [hi] at hz
  | some i =>
    cases hzz : i.zero with
    | none => simp [hi, hzz] at hz
    | some zv =>
      simp only [hi, hzz, Option.bind_some] at hz
      split at hz <;> simp only [Option.some.injEq, reduceCtorEq] at hz
      rename_i hall
      subst hz
      have hn := hs.newBox (T := T) (RelL.vals zv.cells.toList) (by
        intro c hc
        simp only [List.mem_map] at hc
        obtain ⟨v, hv, rfl⟩ := hc
        exact List.all_eq_true.1 hall v hv)
      have hrun : (execOp a.eval o).run P w = .ok (.value (.pointer (some ⟨w.heap.size, 0, none⟩))) (w.alloc (.cells zv.cells.toList.toArray T)) := by
        simp only [execOp, ho]
        exact val_run (by simp [Instr.alloc, zeroValue, typeInfo, hi, hzz, newVar, newRow])
      refine owp_value hrun (hK _ _ _ hn.rj (fun b hb => (same_alloc w _).block b (hs.rw_.blt b hb)) (.ptr (b := w.heap.size) ?_))
      rw [← hs.rw_.len]; simp

/-- the state when 'listed' have come up -/
structure HInv (E : Env) (s : AS) (ops : Array Oper) (n : Nat) (vals : List AV) (al : Option (Nat × Ob)) (ρ : List Value) (B : Nat → Prop) (listed : Array Bool) (a : Act) (w : World) : Prop where
  rj : RJ E s (s.ob ++ obl al listed) ρ B w
  m : E.ρ0.length ≤ s.m ∧ E.pp.length ≤ s.m ∧ E.yl = s.yl
  sz : a.tmps.size = s.n
  df : a.defers = s.df.map mark
  new : ∀ (i d : Nat), i < n → listed.getD i false = true → dstOf ops i = some d → Rel w B E.bs ρ (vals.getD i .any) (a.tmps.getD d undef)
  old : ∀ t, (∀ i, i < n → listed.getD i false = true → dstOf ops i ≠ some t) → Rel w B E.bs ρ (lk s.fr t) (a.tmps.getD t undef)

/-- how many of the head have not come up -/
def left (n : Nat) (listed : Array Bool) : Nat := (List.range n).countP fun i => !listed.getD i false

theorem left_set {n i : Nat} {listed : Array Bool} (hi : i < n) (hs : i < listed.size) (hl : listed.getD i false = false) : left n listed = left n (listed.setIfInBounds i true) + 1 := by
  unfold left
  have key : ∀ l : List Nat, l.Nodup → (i ∈ l → l.countP (fun j => !listed.getD j false) = l.countP (fun j => !(listed.setIfInBounds i true).getD j false) + 1) ∧
      (i ∉ l → l.countP (fun j => !listed.getD j false) = l.countP (fun j => !(listed.setIfInBounds i true).getD j false)) := by
    intro l
    induction l with
    | nil => intro _; simp
    | cons x l ih =>
      intro hn
      obtain ⟨h1, h2⟩ := List.nodup_cons.1 hn
      obtain ⟨ih1, ih2⟩ := ih h2
      by_cases hx : x = i
      · subst hx
        refine ⟨fun _ => ?_, fun h => absurd (by simp) h⟩
        have e1 : (!listed.getD x false) = true := by rw [hl]; rfl
        have e2 : (!(listed.setIfInBounds x true).getD x false) = false := by simp [hs]
        rw [List.countP_cons, List.countP_cons, e1, e2, ih2 h1]; simp
      · have e : (listed.setIfInBounds i true).getD x false = listed.getD x false := getD_set_ne false (Ne.symm hx)
        constructor
        · intro h
          have hm : i ∈ l := by rcases List.mem_cons.1 h with h | h; exact absurd h.symm hx; exact h
          simp only [List.countP_cons, e]
          rw [ih1 hm]; omega
        · intro h
          have hm : i ∉ l := fun h' => h (by simp [h'])
          simp only [List.countP_cons, e]
          rw [ih2 hm]
  exact (key _ List.nodup_range).1 (List.mem_range.2 hi)

theorem left_zero {n : Nat} {listed : Array Bool} (h : left n listed = 0) : ∀ i, i < n → listed.getD i false = true := by
  intro i hi
  unfold left at h
  rw [List.countP_eq_zero] at h
  have := h i (List.mem_range.2 hi)
  simpa using this

theorem AWp.drawn {id : Nat} {R : Exit → AS → Prop} (n : Nat) (nds : List (List (Nat × Option Nat))) (vals : List AV) (al : Option (Nat × Ob)) (fr1 : List (Nat × AV)) (hm : P.follows .mixedOrders = true) (hB : drawnB ops n s.n nds = true)
    (hal : ∀ i o, al = some (i, o) → i < n)
    (specs : ∀ i o, i < n → ops[i]? = some o → (∀ ob, al ≠ some (i, ob)) → NSpec P ops o { s with fr := needFr s.fr vals (nds.getD i []) } (vals.getD i .any))
    (aspec : ∀ i o ob, al = some (i, ob) → ops[i]? = some o → ASpec P ops o { s with fr := needFr s.fr vals (nds.getD i []) } (vals.getD i .any) ob)
    (hfr : ∀ t x, (t, x) ∈ fr1 → t < s.n ∧ ((∃ i, i < n ∧ dstOf ops i = some t ∧ x = vals.getD i .any) ∨ ((∀ i, i < n → dstOf ops i ≠ some t) ∧ x = lk s.fr t)))
    (K : ARun P ops (ops.toList.drop n) { s with fr := fr1, ob := s.ob ++ oball al } (R .normal)) : AWp P (.region id ops true) s R := by
  intro E hE ρ0 B0 a0 w0 hs0 Q' hQ
  refine wpIn_region_any hm ?_
  simp only [drawnB, Bool.and_eq_true, decide_eq_true_eq, Bool.or_eq_true] at hB
  obtain ⟨⟨⟨hn, hsc⟩, hseq⟩, hhead⟩ := hB
  have head : ∀ i, i < n → ∃ o, ops[i]? = some o ∧ (∀ e ∈ o.after, Region.binds .any e = true → e.on < i) ∧ (∀ d, o.dst = some d → d < s.n ∧ ∀ j, j < n → dstOf ops j = some d → j = i) ∧
      (∀ p ∈ nds.getD i [], match p.2 with
        | some j => j < n ∧ dstOf ops j = some p.1 ∧ Region.waitsFor .any ops i j = true
        | none => p.1 < s.n ∧ ∀ j, j < n → dstOf ops j = some p.1 → (j ≠ i ∧ Region.waitsFor .any ops j i = true) ∨ j = i) := by
    intro i hi
    have h := List.all_eq_true.1 hhead i (List.mem_range.2 hi)
    cases ho : ops[i]? with
    | none => simp [ho] at h
    | some o =>
      simp only [ho, Bool.and_eq_true] at h
      obtain ⟨⟨h1, h2⟩, h3⟩ := h
      refine ⟨o, rfl, ?_, ?_, ?_⟩
      · intro e he hb
        have := Array.all_eq_true_iff_forall_mem.1 h1 e he
        simpa [hb] using this
      · intro d hd
        simp only [hd, Bool.and_eq_true, decide_eq_true_eq] at h2
        refine ⟨h2.1, fun j hj hdj => ?_⟩
        have := List.all_eq_true.1 h2.2 j (List.mem_range.2 hj)
        simp only [Bool.or_eq_true, decide_eq_true_eq] at this
        rcases this with this | this
        · exact this
        · exact absurd hdj this
      · intro p hp
        have := List.all_eq_true.1 h3 p hp
        cases hp2 : p.2 with
        | some j =>
          simp only [hp2, Bool.and_eq_true, decide_eq_true_eq] at this
          exact ⟨this.1.1, this.1.2, this.2⟩
        | none =>
          simp only [hp2, Bool.and_eq_true, decide_eq_true_eq] at this
          refine ⟨this.1, ?_⟩
          intro j hj hdj
          have := List.all_eq_true.1 this.2 j (List.mem_range.2 hj)
          simp only [Bool.or_eq_true, decide_eq_true_eq, Bool.and_eq_true] at this
          rcases this with (this | this) | this
          · exact absurd hdj this
          · exact .inl this
          · exact .inr this
  have hs0' : RS E s ρ0 B0 a0 { w0 with drawn := w0.drawn + 1 } := hs0.same ⟨rfl, rfl, rfl, Nat.le_refl _, fun _ _ => rfl⟩
  -- the main induction
  have main : ∀ (u : Nat) (listed : Array Bool) (ρ : List Value) (B : Nat → Prop) (a : Act) (w : World), left n listed = u → HeadInv .any ops n listed → HInv E s ops n vals al ρ B listed a w → wpAnyIn (FR E.rnd) 0 P .any ops Q' (u + (ops.size - n)) listed a w := by
    intro u
    induction u with
    | zero =>
      intro listed ρ B a w hu inv hi
      have hall := left_zero hu
      have hlisted : listed = ((List.range ops.size).map fun i => decide (i < n)).toArray := by
        apply Array.ext
        · simp [inv.size]
        · intro i h1 h2
          have hi' : i < ops.size := by rw [← inv.size]; exact h1
          have hg : listed.getD i false = listed[i] := by simp [h1]
          have : listed[i] = decide (i < n) := by
            by_cases hin : i < n
            · rw [← hg, hall i hin]; simp [hin]
            · have h3 := getD_both (inv.tail i (by omega) hi')
              rw [← hg, h3]; simp [hin]
          rw [this]; simp
      rw [Nat.zero_add]
      have hdl : (ops.toList.drop n).length = ops.size - n := by simp
      rw [← hdl]
      refine wpAnyIn_of_seq (md := .any) (ops.toList.drop n) n listed a w (fun j => by simp [List.getElem?_drop]) (by rw [hdl, hlisted]; exact hseq) ?_
      have hobl : obl al listed = oball al := by
        have key : ∀ y, al = y → obl y listed = oball y := by
          intro y hy
          cases y with
          | none => rfl
          | some p =>
            obtain ⟨i, o⟩ := p
            simp only [obl, oball, hall i (hal i o hy), if_true]
        exact key _ rfl
      refine K E hE ρ B a w ⟨by rw [← hobl]; exact hi.rj.1, hi.m, hi.sz, hi.df, by rw [← hobl]; exact hi.rj.2, ?_⟩ Q' (fun s' ρ' B' a' w' q hs' => hQ _ _ _ _ _ _ q hs')
      intro t x hmem
      obtain ⟨hlt, h⟩ := hfr t x hmem
      refine ⟨by rw [hi.sz]; exact hlt, ?_⟩
      rcases h with ⟨i, h1, h2, rfl⟩ | ⟨h1, rfl⟩
      · exact hi.new i t h1 (hall i h1) h2
      · exact hi.old t (fun i hi' _ => h1 i hi')
    | succ u ih =>
      intro listed ρ B a w hu inv hi
      have hnr : ∀ j ∈ Region.ready .any ops listed, j < n := by
        intro j hj
        rcases Nat.lt_or_ge j n with h | h
        · exact h
        · exfalso
          have hjs : j < ops.size := by obtain ⟨_, o, ho, _⟩ := mem_ready.1 hj; exact (Array.getElem?_eq_some_iff.1 ho).1
          rcases hsc with hsc | ⟨hs, hc⟩
          · omega
          · have hex : ∃ i, i < n ∧ listed.getD i true = false := by
              apply Classical.byContradiction
              intro hne
              have hz : left n listed = 0 := by
                unfold left
                rw [List.countP_eq_zero]
                intro i hi'
                have hin := List.mem_range.1 hi'
                have : ¬ listed.getD i true = false := fun e => hne ⟨i, hin, e⟩
                have hsz : i < listed.size := by rw [inv.size]; omega
                have e : listed.getD i false = listed.getD i true := by simp [hsz]
                rw [e]; simpa using this
              omega
            obtain ⟨i, hin, hil⟩ := hex
            exact tail_waits hs hc (by omega) inv _ i rfl hin hil j h hj
      rw [show u + 1 + (ops.size - n) = (u + (ops.size - n)) + 1 by omega]
      refine ⟨?_, ?_⟩
      · intro hempty
        exfalso
        -- the least of the head that has not come up is ready
        have hex : ∃ i, i < n ∧ listed.getD i false = false := by
          apply Classical.byContradiction
          intro hne
          have hz : left n listed = 0 := by
            unfold left
            rw [List.countP_eq_zero]
            intro i hi'
            have := List.mem_range.1 hi'
            have h2 : ¬ listed.getD i false = false := fun e => hne ⟨i, this, e⟩
            simpa using h2
          omega
        obtain ⟨i, ⟨hin, hil⟩, hmin⟩ := exists_least (p := fun i => i < n ∧ listed.getD i false = false) hex
        obtain ⟨o, ho, hedge, _, _⟩ := head i hin
        have hready : i ∈ Region.ready .any ops listed := by
          rw [mem_ready]
          refine ⟨getD_in (by rw [inv.size]; omega) hil, o, ho, ?_⟩
          intro e he hb
          have hlt := hedge e he hb
          cases hl : listed.getD e.on false with
          | true => rfl
          | false =>
            have := hmin e.on ⟨by omega, hl⟩
            omega
        rw [hempty] at hready
        cases hready
      · intro i hr
        have hin := hnr i hr
        obtain ⟨hun, o', ho', hwait⟩ := mem_ready.1 hr
        obtain ⟨o, ho, hedge, hdst, hneed⟩ := head i hin
        have : o' = o := Option.some.inj (ho'.symm.trans ho)
        subst this
        have hil : listed.getD i false = false := getD_both hun
        have hsz : i < listed.size := by rw [inv.size]; omega
        have hleft := left_set hin hsz hil
        have inv' := inv.set hr hin
        have waits : ∀ j, Region.waitsFor .any ops i j = true → listed.getD j false = true := by
          intro j hj
          obtain ⟨o2, h2, e, he, hb, rfl⟩ := Region.waitsFor_spec hj
          have : o2 = o' := Option.some.inj (h2.symm.trans ho)
          subst this
          exact hwait e he hb
        have notyet : ∀ j, Region.waitsFor .any ops j i = true → listed.getD j false = false := by
          intro j hj
          obtain ⟨o2, h2, e, he, hb, hon⟩ := Region.waitsFor_spec hj
          cases hl : listed.getD j false with
          | false => rfl
          | true =>
            have := inv.closed j o2 h2 hl e he hb
            rw [hon, hil] at this
            cases this
        -- what the operation needs is there
        have hrs : ∀ ob, ob = s.ob ++ obl al listed → RS E { s with fr := needFr s.fr vals (nds.getD i []), ob := ob } ρ B a w := by
          rintro ob rfl
          refine ⟨hi.rj.1, hi.m, hi.sz, hi.df, hi.rj.2, ?_⟩
          intro t x hmem
          rcases needFr_mem hmem with ⟨j, h1, rfl⟩ | ⟨h1, rfl⟩
          · have h := hneed _ h1
            simp only at h
            obtain ⟨hj, hdj, hw⟩ := h
            refine ⟨?_, hi.new j t hj (waits j hw) hdj⟩
            obtain ⟨oj, hoj, _, hdj', _⟩ := head j hj
            have : oj.dst = some t := by simpa [dstOf, hoj] using hdj
            rw [hi.sz]; exact (hdj' t this).1
          · have h := hneed _ h1
            simp only at h
            refine ⟨by rw [hi.sz]; exact h.1, hi.old t ?_⟩
            intro j hj hl hdj
            rcases h.2 j hj hdj with ⟨_, h⟩ | h
            · rw [notyet j h] at hl; cases hl
            · subst h; rw [hil] at hl; cases hl
        have step : ∀ (v : Value) (w' : World) (ρ' : List Value) (B' : Nat → Prop), RJ E s (s.ob ++ obl al (listed.setIfInBounds i true)) ρ' B' w' → (∀ b, B b → B' b) → (∀ b, B b → w'.heap[b]? = w.heap[b]?) → (∀ (k : Nat) (u : Value), ρ[k]? = some u → ρ'[k]? = some u) →
            Rel w' B' E.bs ρ' (vals.getD i .any) v → wpAnyIn (FR E.rnd) 0 P .any ops Q' (u + (ops.size - n)) (listed.setIfInBounds i true) (a.put o'.dst v) w' := by
          intro v w' ρ' B' h1 h2 h3 h3' h4
          refine ih _ ρ' B' _ _ (by omega) inv' ⟨h1, hi.m, ?_, ?_, ?_, ?_⟩
          · cases o'.dst <;> simp [Act.put, hi.sz]
          · cases o'.dst <;> simp [Act.put, hi.df]
          · intro j d hj hl hdj
            by_cases hji : j = i
            · subst hji
              have hd : o'.dst = some d := by simpa [dstOf, ho] using hdj
              have : (a.put o'.dst v).tmps.getD d undef = v := by
                have := (hdst d hd).1
                rw [hd]; simp [Act.put, Array.getD_eq_getD_getElem?, hi.sz, this]
              rw [this]; exact h4
            · rw [getD_set_ne false (Ne.symm hji)] at hl
              have hold := (hi.new j d hj hl hdj).mono h2 h3 (Nat.le_refl _) h3'
              have : (a.put o'.dst v).tmps.getD d undef = a.tmps.getD d undef := by
                cases hd : o'.dst with
                | none => rfl
                | some d' =>
                  have hne : d' ≠ d := by
                    rintro rfl
                    exact hji ((hdst d' hd).2 j hj hdj)
                  simp [Act.put, Array.getD_eq_getD_getElem?, Array.getElem?_setIfInBounds_ne hne]
              rw [this]; exact hold
          · intro t ht
            have hold := (hi.old t (fun j hj hl => ht j hj (by
              by_cases hji : j = i
              · subst hji; rw [hil] at hl; cases hl
              · rw [getD_set_ne false (Ne.symm hji)]; exact hl))).mono h2 h3 (Nat.le_refl _) h3'
            have : (a.put o'.dst v).tmps.getD t undef = a.tmps.getD t undef := by
              cases hd : o'.dst with
              | none => rfl
              | some d' =>
                have hne : d' ≠ t := by
                  rintro rfl
                  exact ht i hin (by simp [hsz]) (by simp [dstOf, ho, hd])
                simp [Act.put, Array.getD_eq_getD_getElem?, Array.getElem?_setIfInBounds_ne hne]
            rw [this]; exact hold
        unfold wpOpIn
        simp only [ho]
        have fin : ∀ {K' : Act → World → Prop}, (if Region.wanted o' (yielded ops a.tmps) then owp E.rnd P o' a w K' Q' else K' (a.put o'.dst undef) w) → (if Region.wanted o' (yielded ops a.tmps) then o'.wpIn (FR E.rnd) 0 P a w K' Q' else (∀ f, o'.about P w a.eval = some f → (FR E.rnd).fn f) ∧ K' (a.put o'.dst undef) w) := by
          intro K' h
          split at h
          · rename_i hw; rw [if_pos hw]; exact h
          · rename_i hw; rw [if_neg hw]; exact ⟨fun _ _ => trivial, h⟩
        refine fin ?_
        by_cases hai : ∃ ob, al = some (i, ob)
        · obtain ⟨ob, hal'⟩ := hai
          have hobl : obl al listed = [] := by simp [obl, hal', hil]
          have hobl' : obl al (listed.setIfInBounds i true) = [ob] := by simp [obl, hal', hsz]
          have h := hrs (s.ob ++ obl al listed) rfl
          rw [hobl, List.append_nil] at h
          refine aspec i o' ob hal' ho E ρ B a w h _ Q' ?_
          intro v w' q h1 h2 h3
          exact step v w' _ B (by rw [hobl']; exact h1) (fun _ h => h) h2 (fun k u h => get_append_some h) h3
        · have hne : ∀ ob, al ≠ some (i, ob) := fun ob e => hai ⟨ob, e⟩
          have hobl : obl al (listed.setIfInBounds i true) = obl al listed := by
            have key : ∀ y, al = y → obl y (listed.setIfInBounds i true) = obl y listed := by
              intro y hy
              cases y with
              | none => rfl
              | some p =>
                obtain ⟨j, ob⟩ := p
                have : i ≠ j := by rintro rfl; exact hne ob hy
                simp only [obl, getD_set_ne false this]
            exact key _ rfl
          refine specs i o' hin ho hne E ρ B a w (obl al listed) (hrs _ rfl) _ Q' ?_
          intro v w' B' h1 h2 h3 h4
          exact step v w' ρ B' (by rw [hobl]; exact h1) h2 h3 (fun _ _ h => h) h4
  have inv0 : HeadInv .any ops n (Array.replicate ops.size false) :=
    ⟨by simp, fun j oj _ hl => (by rw [getD_replicate_false] at hl; cases hl), fun t _ ht => getD_in (by simpa using ht) (getD_replicate_false _ _)⟩
  have h0 : HInv E s ops n vals al ρ0 B0 (Array.replicate ops.size false) a0 { w0 with drawn := w0.drawn + 1 } := by
    refine ⟨?_, hs0'.m, hs0'.n, hs0'.df, fun i d _ hl => (by rw [getD_replicate_false] at hl; cases hl), fun t _ => hs0'.get t⟩
    have : obl al (Array.replicate ops.size false) = [] := by
      have key : ∀ y, obl y (Array.replicate ops.size false) = [] := by
        intro y
        cases y with
        | none => rfl
        | some p => simp only [obl, getD_replicate_false]; rfl
      exact key _
    rw [this, List.append_nil]; exact hs0'.rj
  have hl0 : left n (Array.replicate ops.size false) = n := by
    unfold left
    rw [List.countP_eq_length.2 (by intro i _; rw [getD_replicate_false]; rfl)]
    simp
  have := main n _ ρ0 B0 a0 _ hl0 inv0 h0
  rwa [show n + (ops.size - n) = ops.size by omega] at this
end
end Go.Abs
