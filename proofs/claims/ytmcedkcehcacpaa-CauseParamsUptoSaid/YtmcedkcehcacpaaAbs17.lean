/- More operations: a slice of the call's own, nil or empty, make, bytes and strings, boxes that are read from now on. No condition. -/
import Derived.Test.YtmcedkcehcacpaaAbs16
import Derived.Laws.BytesString
import Derived.Lib.ConvBytes
namespace Go.Abs
set_option linter.unusedVariables false
set_option linter.unusedSectionVars false
set_option linter.unusedSimpArgs false
set_option linter.unnecessarySimpa false

/-- bytes, as elements -/
def bys (l : List UInt8) : List AV := l.map fun b => .val (.int .u8 (N b.toNat))
def bstr (l : List UInt8) : ByteArray := ⟨l.toArray⟩

@[push_cast] theorem bys_nil : bys [] = [] := rfl
@[push_cast] theorem bys_len (l : List UInt8) : (bys l).length = l.length := by simp [bys]
theorem bys_flat (l : List UInt8) : (bys l).flatMap AV.cells = bys l := by
  induction l with
  | nil => rfl
  | cons b l ih => simp only [bys, List.map_cons, List.flatMap_cons] at ih ⊢; rw [ih]; rfl
@[push_cast] theorem bys_ids (p : Nat → Bool) (l : List UInt8) : AV.idsOkL p (bys l) = true := by
  rw [AV.idsOkL_iff]; intro x hx; simp only [bys, List.mem_map] at hx; obtain ⟨b, _, rfl⟩ := hx; rfl
@[push_cast] theorem bys_pl (l : List UInt8) : AV.plL (bys l) = true := by
  rw [AV.plL_iff]; intro x hx; simp only [bys, List.mem_map] at hx; obtain ⟨b, _, rfl⟩ := hx; rfl
@[push_cast] theorem bys_ren (φ : Nat → Nat) (l : List UInt8) : AV.renL φ (bys l) = bys l := AV.renL_closed φ _ (bys_ids _ l)
theorem bys_append (l m : List UInt8) : bys l ++ bys m = bys (l ++ m) := by simp [bys]
@[push_cast] theorem bys_get (l : List UInt8) (i : Nat) : (bys l)[i]? = l[i]?.map fun b => .val (.int .u8 (N b.toNat)) := by simp [bys]
theorem bys_drop (l : List UInt8) (i : Nat) : (bys l).drop i = bys (l.drop i) := by simp [bys, List.map_drop]
theorem bys_take (l : List UInt8) (i : Nat) : (bys l).take i = bys (l.take i) := by simp [bys, List.map_take]
theorem bys_cells {l : List UInt8} {y : AV} (hy : y ∈ bys l) : y.cells.length = 1 ∧ ∀ c ∈ y.cells, c.one = true := by
  simp only [bys, List.mem_map] at hy
  obtain ⟨b, _, rfl⟩ := hy
  exact ⟨rfl, by intro c hc; simp [AV.cells] at hc; subst hc; rfl⟩

theorem rel_bys {w : World} {B : Nat → Prop} {bs : Nat} {ρ : List Value} : ∀ {l : List UInt8} {vs : List Value}, RelL w B bs ρ (bys l) vs → vs = l.map fun b => .int .u8 (b.toNat : Int)
  | [], _, .nil => rfl
  | b :: l, _, .cons h1 h2 => by rw [h1.val_eq, rel_bys h2]; rfl

section
variable {P : Program} {ops : Array Oper} {E : Env} {s s' : AS} {ρ : List Value} {B : Nat → Prop} {a : Act} {w w' : World} {o : Oper} {rest : List Oper} {Q : AS → Prop}

/-! ### a slice literal that the call owns -/
theorem AOp.buildOwn {T e : TypeId} {len sz : Nat} {parts : Array (Nat × Operand)} (ho : o.op = .buildSlice T len parts) (hz : elSz P T = some sz) (he : elT P T = some e)
    (hp : parts.toList.map (·.1) = List.range len) (hx : ∀ p ∈ parts.toList, (s.ev p.2).flat = true ∧ (s.ev p.2).cells.length = sz) (hle : len * sz ≤ 2 ^ 24)
    (k : ARun P ops rest (({ s with ob := s.ob ++ [Ob.row e sz (parts.toList.map fun p => s.ev p.2)] } : AS).put o.dst (.own s.ob.length)) Q) : AOp P ops o rest s Q := by
  refine AOp.value (s' := { s with ob := s.ob ++ [.row e sz (parts.toList.map fun p => s.ev p.2)] }) (fun E ρ B a w hs => ?_) k
  obtain ⟨e', vs, hu, hr, hrel, h1, hvl⟩ := run_buildSlice hz hp hx hle hs
  have hee : e' = e := by
    have := elT_spec he
    rw [hu] at this
    simpa using this
  subst hee
  have hn : parts.toList.length = len := by have := congrArg List.length hp; simpa using this
  have hsame := same_alloc w (.cells (List.toArray vs) e')
  have hBw : ∀ b, B b → (w.alloc (.cells (List.toArray vs) e')).heap[b]? = w.heap[b]? := fun b hb => hsame.block b (hs.rw_.blt b hb)
  refine ⟨.slice (some ⟨w.heap.size, 0, none⟩) len len, _, ρ ++ [.slice (some ⟨w.heap.size, 0, none⟩) len len], B, by simp only [execOp, ho]; exact val_run hr, hs.new hsame ⟨?_, .inr ⟨w.heap.size, len, vs, [], (0, 0), ?_, ?_, ?_, ?_, .inl (Nat.le_refl _), ?_⟩⟩ ?_, .own ?_ rfl⟩
  · intro x hx'
    simp only [List.mem_map] at hx'
    obtain ⟨p, hpm, rfl⟩ := hx'
    refine ⟨(hx p hpm).2, fun c hc => h1 c ?_⟩
    simp only [List.mem_flatMap, List.mem_map]
    exact ⟨_, ⟨p, hpm, rfl⟩, hc⟩
  · have hl : (List.map (fun p => s.ev p.2) parts.toList).length = len := by simpa using hn
    rw [hl, ← hs.rw_.len, List.getElem?_append_right (Nat.le_refl _), Nat.sub_self]; rfl
  · rw [List.append_nil]; exact alloc_get _ _
  · rw [List.append_nil]; exact hvl
  · have hl : (List.map (fun p => s.ev p.2) parts.toList).length = len := by simpa using hn
    rw [hl]; exact Nat.le_refl _
  · exact hrel.mono (fun _ h => h) hBw (Nat.le_refl _) (fun _ _ h => get_append_some h)
  · intro b hb
    simp only [blk, Option.some.injEq] at hb
    subst hb
    exact ⟨Nat.le_refl _, by simp⟩
  · rw [← hs.rw_.len, List.getElem?_append_right (Nat.le_refl _), Nat.sub_self]; rfl

theorem ARun2.buildOwn {T e : TypeId} {len sz : Nat} {parts : Array (Nat × Operand)} (hgd : gd ops s o = some true) (ho : o.op = .buildSlice T len parts) (hz : elSz P T = some sz) (he : elT P T = some e)
    (hp : parts.toList.map (·.1) = List.range len) (hx : ∀ p ∈ parts.toList, (s.ev p.2).flat = true ∧ (s.ev p.2).cells.length = sz) (hle : len * sz ≤ 2 ^ 24)
    (k : ARun P ops rest (({ s with ob := s.ob ++ [Ob.row e sz (parts.toList.map fun p => s.ev p.2)] } : AS).put o.dst (.own s.ob.length)) Q) : ARun2 P ops (o :: rest, s) Q :=
  ARun.exec hgd (AOp.buildOwn ho hz he hp hx hle k)

/-! ### nil or empty -/
theorem AOp.nilSl {T : TypeId} {x : Operand} {nw : Bool} {sz : Nat} {xs : List AV} {v : Value} {X : TypeId} {eq : BinOp} (ho : o.op = .binOp eq T x (.const v) X) (heq : eq = .eql ∨ eq = .neq) (hx : s.ev x = .sl nw sz xs) (hk : nk P T = .slc) (hl : nilLit (nk P T) v = true)
    (k : ∀ b : Bool, (b = true → xs = []) → ARun P ops rest (s.put o.dst (.val (.bool (if eq = .eql then b else !b)))) Q) : AOp P ops o rest s Q := by
  intro E hE ρ B a w hs Q' hQ
  have hxv := hs.ev x
  rw [hx] at hxv
  have main : ∃ b : Bool, (b = true → xs = []) ∧ nilV (nk P T) (a.eval x) b := by
    rw [hk]
    generalize a.eval x = u at hxv
    cases hxv with
    | slE _ _ A cap =>
      cases A with
      | none => exact ⟨true, fun _ => rfl, rfl⟩
      | some A => exact ⟨false, by simp, rfl⟩
    | sl h hc => exact ⟨false, by simp, rfl⟩
  obtain ⟨b, hb, hn⟩ := main
  obtain ⟨n1, n2, n3⟩ := nil_eq (w := w) (P := P) (T := T) hl hn
  have hr : (execOp a.eval o).run P w = .ok (.value (.bool (if eq = .eql then b else !b))) w := by
    simp only [execOp, ho]
    refine val_run ?_
    have hc : a.eval (.const v) = v := rfl
    rcases heq with rfl | rfl
    · simp only [Sem.run_bind, hc, n3, Result.andThen_ok]; exact n1
    · simp only [Sem.run_bind, hc, n3, Result.andThen_ok]; exact n2
  exact owp_value hr (k b hb E hE ρ B _ w (hs.put _ (.val _)) Q' hQ)

theorem ARun2.nilSl {T : TypeId} {x : Operand} {nw : Bool} {sz : Nat} {xs : List AV} {v : Value} {X : TypeId} {eq : BinOp} (hgd : gd ops s o = some true) (ho : o.op = .binOp eq T x (.const v) X) (heq : eq = .eql ∨ eq = .neq) (hx : s.ev x = .sl nw sz xs) (hk : nk P T = .slc) (hl : nilLit (nk P T) v = true)
    (k : ∀ b : Bool, (b = true → xs = []) → ARun P ops rest (s.put o.dst (.val (.bool (if eq = .eql then b else !b)))) Q) : ARun2 P ops (o :: rest, s) Q :=
  ARun.exec hgd (AOp.nilSl ho heq hx hk hl k)

/-! ### bytes and strings -/
def isBys (P : Program) (T : TypeId) : Bool :=
  match P.underlying T with
  | some (.slice e) => match P.underlying e with
    | some (.int .u8) => true
    | _ => false
  | _ => false

theorem isBys_spec {T : TypeId} (h : isBys P T = true) : ∃ e, P.underlying T = some (.slice e) ∧ P.underlying e = some (.int .u8) := by
  unfold isBys at h
  split at h <;> (try (simp at h; done))
  rename_i e he
  split at h <;> (try (simp at h; done))
  exact ⟨e, he, ‹_›⟩

theorem fold_bytes : ∀ (l : List UInt8) (acc : ByteArray), (l.map fun b => (b.toNat : Int)).foldl (fun r n => r.push (UInt8.ofNat n.toNat)) acc = ⟨acc.data ++ l.toArray⟩
  | [], acc => by simp
  | b :: l, acc => by
    simp only [List.map_cons, List.foldl_cons]
    rw [fold_bytes l]
    simp [ByteArray.push]

theorem AOp.toStr {T T' : TypeId} {x : Operand} {l : List UInt8} (ho : o.op = .convert T T' x) (hT : isBys P T = true) (hT' : isStr P T' = true) (hx : srcOf s 1 (s.ev x) = some (bys l))
    (k : ARun P ops rest (s.put o.dst (.val (.string (bstr l)))) Q) : AOp P ops o rest s Q := by
  refine AOp.pure1 (fun E ρ B a w hs => ⟨.string (bstr l), ?_, .val _⟩) k
  obtain ⟨e, hu, he⟩ := isBys_spec hT
  obtain ⟨us, h1, h2, h3, h4, _⟩ := src_run (P := P) hs hx (hs.ev x)
  rw [bys_flat] at h3
  have hus := rel_bys h3
  have hfc := h1 w.drawn
  simp only [execOp, ho]
  refine val_run ?_
  have hv : ∃ A n c, a.eval x = .slice A n c := by
    have hr := hs.ev x
    cases hxe : s.ev x with
    | sl nw sz xs =>
      rw [hxe] at hr
      generalize a.eval x = u at hr
      cases hr with
      | slE => exact ⟨_, _, _, rfl⟩
      | sl => exact ⟨_, _, _, rfl⟩
    | val v =>
      rw [hxe] at hx hr
      have := hr.val_eq
      rw [this]
      cases v with
      | slice A n c => exact ⟨_, _, _, rfl⟩
      | _ => simp [srcOf] at hx
    | own j =>
      rw [hxe] at hx hr
      simp only [srcOf] at hx
      split at hx <;> (try (simp at hx; done))
      rename_i T0 sz' ys' hj
      obtain ⟨_, hro⟩ := hs.rw_.obs j _ hj
      generalize a.eval x = u at hr
      cases hr with
      | own hp _ =>
        rcases hro with ⟨_, hro⟩ | ⟨b, cap, vs, ws, fz, hro, _⟩
        · rw [hro] at hp; exact ⟨_, _, _, (Option.some.inj hp).symm⟩
        · rw [hro] at hp; exact ⟨_, _, _, (Option.some.inj hp).symm⟩
    | _ => rw [hxe] at hx; simp [srcOf] at hx
  obtain ⟨A, n, c, hv⟩ := hv
  rw [hv] at hfc h2 ⊢
  rw [run_convert_bytes_string w T T' e A n c hu he (isStr_spec hT')]
  have hnl : n = (bys l).length := by have := h2 w; simpa [Builtin.lenOf] using this
  cases A with
  | none =>
    simp only [Builtin.firstCells, Sem.run_pure, Result.ok.injEq, and_true] at hfc
    have : us = [] := by have := congrArg Array.toList hfc; simpa using this.symm
    rw [this] at hus
    have hl : l = [] := by cases l with
      | nil => rfl
      | cons b l => simp at hus
    subst hl
    simp [Conv.bytesToString, bstr, Sem.run_pure]
    rfl
  | some A =>
    simp only [Builtin.firstCells, Nat.mul_one] at hfc
    have hload : (loadCells A n).run P w = .ok ((l.map fun b => (b.toNat : Int)).map (Value.int .u8)).toArray w := by
      rw [hnl]
      have hfc' : (loadCells A (bys l).length).run P w = .ok us.toArray w := hfc
      rw [hfc', hus]
      simp
    rw [run_bytesToString w A n c _ hload, fold_bytes]
    congr 2
    simp [bstr]

theorem ARun2.toStr {T T' : TypeId} {x : Operand} {l : List UInt8} (hgd : gd ops s o = some true) (ho : o.op = .convert T T' x) (hT : isBys P T = true) (hT' : isStr P T' = true) (hx : srcOf s 1 (s.ev x) = some (bys l))
    (k : ARun P ops rest (s.put o.dst (.val (.string (bstr l)))) Q) : ARun2 P ops (o :: rest, s) Q :=
  ARun.exec hgd (AOp.toStr ho hT hT' hx k)

theorem bstr_eq (l m : List UInt8) : (bstr l == bstr m) = decide (l = m) := by
  have h : ∀ p q : ByteArray, (p == q) = (p.data == q.data) := fun p q => by cases p; cases q; rfl
  rw [h]
  simp only [bstr]
  by_cases hl : l = m
  · subst hl; simp
  · simp [hl]

/-! ### make -/
theorem make_run {T : TypeId} {x y : Operand} {k1 k2 : IntKind} {n : Nat} {z : Value} (hs : RS E s ρ B a w) (ho : o.op = .makeSlice T x y) (hx : s.ev x = .val (.int k1 n)) (hy : s.ev y = .val (.int k2 n)) (hz : elSz P T = some 1) (hzc : (elT P T).bind (zc P) = some [z])
    (hn : n ≤ 2 ^ 31) (hb : elB P T ≤ 2 ^ 10) : ∃ e', (execOp a.eval o).run P w = .ok (.value (.slice (some ⟨w.heap.size, 0, none⟩) n n)) (w.alloc (.cells (List.replicate n z).toArray e')) ∧
      Rel (w.alloc (.cells (List.replicate n z).toArray e')) (fun b => B b ∨ b = w.heap.size) E.bs ρ (.sl true 1 (List.replicate n (.val z))) (.slice (some ⟨w.heap.size, 0, none⟩) n n) := by
  obtain ⟨e', i, zv, hu, hi, hsz, hzz, hzl, hz1⟩ := elSz_spec hz
  have hT : elT P T = some e' := by simp [elT, hu]
  rw [hT] at hzc
  have hzv : zv.cells = #[z] := by
    simp only [Option.bind_some, zc, hi, hzz] at hzc
    split at hzc <;> simp only [Option.some.injEq, reduceCtorEq] at hzc
    apply Array.ext'; simpa using hzc
  have hxv := (hx ▸ hs.ev x : Rel w B E.bs ρ (.val (.int k1 n)) (a.eval x)).val_eq
  have hyv := (hy ▸ hs.ev y : Rel w B E.bs ρ (.val (.int k2 n)) (a.eval y)).val_eq
  have hbe : elB P T = i.bytes := elB_spec hu hi
  have hw : IntKind.i64.wrap (n : Int) = n := by rw [IntKind.wrap_i64]; omega
  have hmul : n * i.bytes ≤ 2 ^ 31 * 2 ^ 10 := Nat.mul_le_mul hn (hbe ▸ hb)
  have hcells : ((Array.range n).map fun j => (if n = 0 then (#[] : Array Value) else zv.cells)[j % (if n = 0 then (#[] : Array Value) else zv.cells).size]!) = (List.replicate n z).toArray := by
    apply Array.ext'
    by_cases h0 : n = 0
    · subst h0; simp
    · simp only [if_neg h0, hzv]
      apply List.ext_getElem
      · simp
      · intro j h1 h2
        simp [Nat.mod_one]
  have hrun : (Instr.makeSlice T (a.eval x) (a.eval y)).run P w = .ok (.slice (some ⟨w.heap.size, 0, none⟩) n n) (w.alloc (.cells (List.replicate n z).toArray e')) := by
    have h48 : ¬ ((i.bytes : Int) * n > 2 ^ 48) := by
      rw [← Int.natCast_mul, Nat.mul_comm]
      omega
    have hroom : ¬ (n * i.bytes > roomBytes) := by unfold roomBytes; omega
    have hzr : (zeroValue e').run P w = .ok zv w := by simp [zeroValue, typeInfo, hi, hzz]
    have hask : (askRoom (n * i.bytes)).run P w = .ok () w := by unfold askRoom; rw [if_neg hroom]; rfl
    have hti : (typeInfo e').run P w = .ok i w := by simp [typeInfo, hi]
    have hai : ∀ k, (asInt (.int k (n : Int))).run P w = .ok (n : Int) w := fun k => by simp [asInt, asIntOf]
    have hd1 : decide ((n : Int) < 0) = false := by rw [decide_eq_false_iff_not]; omega
    have hd2 : decide ((i.bytes : Int) * n > 2 ^ 48) = false := by rw [decide_eq_false_iff_not]; exact h48
    have hd3 : decide ((n : Int) > n) = false := by rw [decide_eq_false_iff_not]; omega
    have hso := run_sizeOf (w := w) hi
    rw [hsz] at hso
    rw [hxv, hyv]
    unfold Instr.makeSlice
    simp only [Sem.run_bind, run_underlying hu, Result.andThen_ok, hai, hti, hw, hd1, hd2, hd3, Bool.or_false, Bool.false_eq_true, if_false, Int.toNat_natCast, hask, hso, Nat.mul_one]
    by_cases h0 : n = 0
    · subst h0
      have hr0 : ∀ f : Nat → Value, Array.map f (Array.range 0) = #[] := fun f => by apply Array.ext'; simp
      simp [newRow, Sem.run_pure, hr0]
    · simp only [if_neg h0, Sem.run_bind, hzr, Result.andThen_ok, Sem.run_pure]
      simp only [if_neg h0] at hcells
      rw [hcells]
      simp [newRow]
  have hsame := same_alloc w (.cells (List.replicate n z).toArray e')
  have hrl : ∀ m, RelL w B E.bs ρ (List.replicate m (AV.val z)) (List.replicate m z) := by
    intro m
    induction m with
    | zero => exact .nil
    | succ m ih => exact .cons (.val _) ih
  have hfl : (List.replicate n (AV.val z)).flatMap AV.cells = List.replicate n (AV.val z) := by
    clear hrun hcells hsame hx hy hxv hyv hw hmul hn
    induction n with
    | zero => rfl
    | succ n ih => rw [List.replicate_succ, List.flatMap_cons, ih]; rfl
  have hz1' : (AV.val z).one = true := by
    have := hz1 z (by rw [hzv]; simp)
    exact this
  have hrow := RelRow.fresh (sz := 1) (bs := E.bs) (xs := List.replicate n (AV.val z)) (n := n) (c := n) (e := e') hs.rw_.size hs.rw_.blt (by rw [hfl]; exact hrl n) (by
    intro y hy
    have := (List.mem_replicate.1 hy).2
    subst this
    exact ⟨rfl, by intro c hc; simp [AV.cells] at hc; subst hc; exact hz1'⟩) (by simp) (Nat.le_refl _) [] (0, 0) hsame (by rw [List.append_nil]; exact alloc_get _ _)
  exact ⟨e', by simp only [execOp, ho]; exact val_run hrun, hrow⟩

theorem AOp.make {T : TypeId} {x y : Operand} {k1 k2 : IntKind} {n : Nat} {z : Value} (ho : o.op = .makeSlice T x y) (hx : s.ev x = .val (.int k1 n)) (hy : s.ev y = .val (.int k2 n)) (hz : elSz P T = some 1) (hzc : (elT P T).bind (zc P) = some [z])
    (hn : n ≤ 2 ^ 31) (hb : elB P T ≤ 2 ^ 10) (k : ARun P ops rest (s.put o.dst (.sl true 1 (List.replicate n (.val z)))) Q) : AOp P ops o rest s Q := by
  refine AOp.value (s' := s) (fun E ρ B a w hs => ?_) k
  obtain ⟨e', h1, h2⟩ := make_run hs ho hx hy hz hzc hn hb
  exact ⟨_, _, ρ, _, h1, hs.pubNew (same_alloc w _) (Nat.le_refl _) (by simp), h2⟩

theorem NSpec.make {T : TypeId} {x y : Operand} {k1 k2 : IntKind} {n : Nat} {z : Value} (hg : gd ops s o = some true) (ho : o.op = .makeSlice T x y) (hx : s.ev x = .val (.int k1 n)) (hy : s.ev y = .val (.int k2 n)) (hz : elSz P T = some 1) (hzc : (elT P T).bind (zc P) = some [z])
    (hn : n ≤ 2 ^ 31) (hb : elB P T ≤ 2 ^ 10) : NSpec P ops o s (.sl true 1 (List.replicate n (.val z))) := by
  intro E ρ B a w ob hs K Q' hK
  rw [if_pos (gd_wanted (s := { s with ob := s.ob ++ ob }) hg hs)]
  have hev : AS.ev { s with ob := s.ob ++ ob } = s.ev := funext fun y => by cases y <;> rfl
  obtain ⟨e', h1, h2⟩ := make_run hs ho (by rw [hev]; exact hx) (by rw [hev]; exact hy) hz hzc hn hb
  have hsame := same_alloc w (.cells (List.replicate n z).toArray e')
  exact owp_value h1 (hK _ _ _ (hs.pubNew hsame (Nat.le_refl _) (by simp)).rj (fun _ h => .inl h) (fun b hb => hsame.block b (hs.rw_.blt b hb)) h2)

theorem ARun2.make {T : TypeId} {x y : Operand} {k1 k2 : IntKind} {n : Nat} {z : Value} (hgd : gd ops s o = some true) (ho : o.op = .makeSlice T x y) (hx : s.ev x = .val (.int k1 (N n))) (hy : s.ev y = .val (.int k2 (N n))) (hz : elSz P T = some 1) (hzc : (elT P T).bind (zc P) = some [z])
    (hn : n ≤ 2 ^ 31) (hb : elB P T ≤ 2 ^ 10) (k : ARun P ops rest (s.put o.dst (.sl true 1 (List.replicate n (.val z)))) Q) : ARun2 P ops (o :: rest, s) Q :=
  ARun.exec hgd (AOp.make ho hx hy hz hzc hn hb k)
end
end Go.Abs
