/- Operations that want a word of the prover's: an element, a slice, what is made, what grows. No condition. -/
import Derived.Test.YtmcedkcehcacpaaAbs6
import Derived.Laws.AppendOwn
namespace Go.Abs
set_option linter.unusedVariables false
set_option linter.unusedSectionVars false
set_option linter.unusedSimpArgs false
set_option linter.unnecessarySimpa false

section
variable {P : Program} {ops : Array Oper} {E : Env} {s s' : AS} {ρ : List Value} {B : Nat → Prop} {a : Act} {w w' : World} {o : Oper} {rest : List Oper} {Q : AS → Prop}

theorem val_run {e : Sem Value} {v : Value} {w w' : World} (h : e.run P w = .ok v w') : (do pure (.value (← e)) : Sem Next).run P w = .ok (.value v) w' := by simp [h]

/-! ### an element of a slice that is read -/
theorem index_run (hs : RS E s ρ B a w) {T : TypeId} {x i : Operand} {nw : Bool} {sz : Nat} {xs : List AV} {k : IntKind} {j : Int} {y : AV} (ho : o.op = .indexAddr T x i) (hx : s.ev x = .sl nw sz xs) (hi : s.ev i = .val (.int k j))
    (hz : elSz P T = some sz) (hs0 : sz ≠ 0) (h0 : 0 ≤ j) (hy : xs[j.toNat]? = some y) : ∃ v, (execOp a.eval o).run P w = .ok (.value v) w ∧ Rel w B E.bs ρ (.ref nw y) v := by
  obtain ⟨e, ti, zv, hu, hti, hsz, _⟩ := elSz_spec hz
  have hxr := hs.ev x
  have hir := hs.ev i
  rw [hx] at hxr
  rw [hi] at hir
  have hlt := get_lt hy
  have hv := hir.val_eq
  simp only [execOp, ho, hv]
  generalize a.eval x = u at hxr
  cases hxr with
  | slE => simp at hlt
  | sl hr hc =>
    rename_i b o' cap x' xs'
    obtain ⟨h1, h2⟩ := hr.at hy
    have hne : y.cells ≠ [] := by intro h; rw [h] at h2; simp at h2; omega
    refine ⟨_, val_run (v := .pointer (some ⟨b, o' + j.toNat * sz, none⟩)) ?_, .ref h1 hne⟩
    have hj : 0 ≤ j ∧ j < ((xs'.length + 1 : Nat) : Int) := ⟨h0, by simp at hlt; omega⟩
    simp only [Instr.indexAt, asIntOf, Sem.run_bind, Sem.run_pure, Result.andThen_ok, run_underlying hu]
    simp only [if_pos hj, Sem.run_bind, run_sizeOf hti, hsz, Result.andThen_ok, addr_add, Sem.run_pure]

theorem AOp.index {T : TypeId} {x i : Operand} {nw : Bool} {sz : Nat} {xs : List AV} {k : IntKind} {j : Int} {y : AV} (ho : o.op = .indexAddr T x i) (hx : s.ev x = .sl nw sz xs) (hi : s.ev i = .val (.int k j))
    (hz : elSz P T = some sz) (hs0 : sz ≠ 0) (h0 : 0 ≤ j) (hy : xs[j.toNat]? = some y) (K : ARun P ops rest (s.put o.dst (.ref nw y)) Q) : AOp P ops o rest s Q :=
  AOp.pure1 (fun E ρ B a w hs => index_run hs ho hx hi hz hs0 h0 hy) K

theorem ARun2.index {T : TypeId} {x i : Operand} {nw : Bool} {sz : Nat} {xs : List AV} {k : IntKind} {j : Int} {y : AV} (hg : gd ops s o = some true) (ho : o.op = .indexAddr T x i) (hx : s.ev x = .sl nw sz xs) (hi : s.ev i = .val (.int k j))
    (hz : elSz P T = some sz) (hs0 : sz ≠ 0) (h0 : 0 ≤ j) (hy : xs[j.toNat]? = some y) (K : ARun2 P ops (Abs.srun P ops rest (s.put o.dst (.ref nw y))) Q) : ARun2 P ops (o :: rest, s) Q :=
  ARun.exec hg (AOp.index ho hx hi hz hs0 h0 hy (ARun.srun K))

/-! ### a byte of a string -/
theorem strIndex_run (hs : RS E s ρ B a w) {T : TypeId} {x i : Operand} {b : ByteArray} {k : IntKind} {j : Int} {y : UInt8} (ho : o.op = .index T x i) (hx : s.ev x = .val (.string b)) (hi : s.ev i = .val (.int k j))
    (hz : isStr P T = true) (h0 : 0 ≤ j) (hy : b[j.toNat]? = some y) : ∃ v, (execOp a.eval o).run P w = .ok (.value v) w ∧ Rel w B E.bs ρ (.val (.int .u8 (N y.toNat))) v := by
  have hxr := hs.ev x
  have hir := hs.ev i
  rw [hx] at hxr
  rw [hi] at hir
  unfold isStr at hz
  split at hz <;> (try (simp at hz; done))
  rename_i hu
  refine ⟨_, ?_, .val _⟩
  simp only [execOp, ho, hir.val_eq, hxr.val_eq]
  exact val_run (by simp [Instr.index, asIntOf, run_underlying hu, h0, hy, N])

theorem AOp.strIndex {T : TypeId} {x i : Operand} {b : ByteArray} {k : IntKind} {j : Int} {y : UInt8} (ho : o.op = .index T x i) (hx : s.ev x = .val (.string b)) (hi : s.ev i = .val (.int k j))
    (hz : isStr P T = true) (h0 : 0 ≤ j) (hy : b[j.toNat]? = some y) (K : ARun P ops rest (s.put o.dst (.val (.int .u8 (N y.toNat)))) Q) : AOp P ops o rest s Q :=
  AOp.pure1 (fun E ρ B a w hs => strIndex_run hs ho hx hi hz h0 hy) K

/-! ### slicing what is read -/
def intLit : Option AV → Option (Option Int)
  | none => some none
  | some (.val (.int _ n)) => some (some n)
  | _ => none

def litV (v : Option Value) (d n : Int) : Prop :=
  match v with
  | none => n = d
  | some (.int _ j) => n = j
  | _ => False

theorem litV_of (hs : RS E s ρ B a w) {q : Option Operand} {d n : Int} (hq : intLit (q.map s.ev) = some (if q.isSome then some n else none)) (h0 : q = none → n = d) : litV (q.map a.eval) d n := by
  cases q with
  | none => exact h0 rfl
  | some q =>
    have hv := hs.ev q
    simp only [Option.map_some, Option.isSome_some, if_true] at hq ⊢
    generalize s.ev q = y at hq hv
    unfold intLit at hq
    split at hq <;> simp only [Option.some.injEq, reduceCtorEq] at hq
    rename_i e
    simp only [Option.some.injEq] at e
    subst e
    rw [hv.val_eq]
    exact hq.symm

theorem run_bounds {lo hi : Option Value} {l h : Int} {n c : Nat} (isS : Bool) (hl : litV lo 0 l) (hh : litV hi n h)
    (h0 : 0 ≤ l) (h1 : l ≤ h) (h2 : h ≤ n) (h3 : n ≤ c) : (Instr.sliceBounds isS n c lo hi none).run P w = .ok (l.toNat, h.toNat, c) w := by
  have e2 : 0 ≤ h := by omega
  have e3 : h ≤ c := by omega
  unfold litV at hl hh
  cases lo with
  | none =>
    simp only at hl; subst hl
    cases hi with
    | none => simp only at hh; subst hh; simp [Instr.sliceBounds]
    | some v =>
      cases v <;> simp only at hh
      subst hh
      simp [Instr.sliceBounds, Instr.sliceBound, asIntOf, e2, e3]
  | some v =>
    cases v <;> simp only at hl
    subst hl
    cases hi with
    | none => simp only at hh; subst hh; simp [Instr.sliceBounds, Instr.sliceBound, asIntOf, h0, h1]
    | some v =>
      cases v <;> simp only at hh
      subst hh
      have e4 : l ≤ max h 0 := by omega
      simp [Instr.sliceBounds, Instr.sliceBound, asIntOf, e2, e3, h0, e4]

theorem Rel.slice {nw : Bool} {sz : Nat} {xs : List AV} {A : Option Addr} {n c : Nat} (hr : Rel w B E.bs ρ (.sl nw sz xs) (.slice A n c)) {l h : Nat} (h1 : l ≤ h) (h2 : h ≤ xs.length) (m : Nat) (hm : h ≤ m) (hmc : m ≤ c) :
    Rel w B E.bs ρ (.sl nw sz ((xs.take h).drop l)) (.slice (if m = l then A else A.map (·.add (l * sz))) (h - l) (m - l)) := by
  by_cases he : h = l
  · subst he
    have : (xs.take h).drop h = [] := by simp
    rw [this, Nat.sub_self]
    exact .slE _ _ _ _
  · cases hr with
    | slE => simp at h2; omega
    | sl hrow hc =>
      rename_i b o' x' xs'
      rw [if_neg (by omega)]
      have hd := (hrow.take h).drop l
      have hlen : (((x' :: xs').take h).drop l).length = h - l := by simp at h2 ⊢; omega
      simp only [Option.map_some, addr_add]
      generalize hq : ((x' :: xs').take h).drop l = ys at hd hlen ⊢
      cases ys with
      | nil => simp at hlen; omega
      | cons y ys =>
        have e : h - l = ys.length + 1 := by simpa using hlen.symm
        rw [e]
        exact .sl hd (by omega)

/-- x[lo:hi], of what is read -/
theorem slice_run (hs : RS E s ρ B a w) {T : TypeId} {x : Operand} {lo hi : Option Operand} {nw : Bool} {sz : Nat} {xs : List AV} {l h : Int} (ho : o.op = .slice T x lo hi none) (hx : s.ev x = .sl nw sz xs)
    (hl : intLit (lo.map s.ev) = some (if lo.isSome then some l else none)) (hl0 : lo = none → l = 0) (hh : intLit (hi.map s.ev) = some (if hi.isSome then some h else none)) (hh0 : hi = none → h = xs.length)
    (hz : elSz P T = some sz) (h0 : 0 ≤ l) (h1 : l ≤ h) (h2 : h ≤ xs.length) : ∃ v, (execOp a.eval o).run P w = .ok (.value v) w ∧ Rel w B E.bs ρ (.sl nw sz ((xs.take h.toNat).drop l.toNat)) v := by
  obtain ⟨e, ti, zv, hu, hti, hsz, _⟩ := elSz_spec hz
  have hxr := hs.ev x
  rw [hx] at hxr
  have hcap : ∃ A c, a.eval x = .slice A xs.length c ∧ xs.length ≤ c := by
    generalize a.eval x = u at hxr
    cases hxr with
    | slE => exact ⟨_, _, rfl, Nat.zero_le _⟩
    | sl hr hc => exact ⟨_, _, rfl, hc⟩
  obtain ⟨A, c, hv, hc⟩ := hcap
  rw [hv] at hxr
  have hb := run_bounds (P := P) (w := w) true (litV_of hs hl hl0) (litV_of hs hh hh0) h0 h1 h2 hc
  refine ⟨_, ?_, hxr.slice (l := l.toNat) (h := h.toNat) (by omega) (by omega) c (by omega) (Nat.le_refl _)⟩
  simp only [execOp, ho]
  refine val_run ?_
  simp only [Instr.sliceAt, Sem.run_bind, run_underlying hu, Result.andThen_ok, Instr.slice, hv, Option.map_none, hb, run_sizeOf hti, hsz, Sem.run_pure]

theorem AOp.slice {T : TypeId} {x : Operand} {lo hi : Option Operand} {nw : Bool} {sz : Nat} {xs : List AV} {l h : Int} (ho : o.op = .slice T x lo hi none) (hx : s.ev x = .sl nw sz xs)
    (hl : intLit (lo.map s.ev) = some (if lo.isSome then some l else none)) (hl0 : lo = none → l = 0) (hh : intLit (hi.map s.ev) = some (if hi.isSome then some h else none)) (hh0 : hi = none → h = xs.length)
    (hz : elSz P T = some sz) (h0 : 0 ≤ l) (h1 : l ≤ h) (h2 : h ≤ xs.length) (K : ARun P ops rest (s.put o.dst (.sl nw sz ((xs.take h.toNat).drop l.toNat))) Q) : AOp P ops o rest s Q :=
  AOp.pure1 (fun E ρ B a w hs => slice_run hs ho hx hl hl0 hh hh0 hz h0 h1 h2) K

/-- x[lo:hi:max], of what is read -/
theorem slice3_run (hs : RS E s ρ B a w) {T : TypeId} {x lo hi mx : Operand} {nw : Bool} {sz : Nat} {xs : List AV} {l h m : Int} {k1 k2 k3 : IntKind} (ho : o.op = .slice T x (some lo) (some hi) (some mx)) (hx : s.ev x = .sl nw sz xs)
    (hl : s.ev lo = .val (.int k1 l)) (hh : s.ev hi = .val (.int k2 h)) (hm : s.ev mx = .val (.int k3 m))
    (hz : elSz P T = some sz) (h0 : 0 ≤ l) (h1 : l ≤ h) (h2 : h ≤ m) (h3 : m ≤ xs.length) : ∃ v, (execOp a.eval o).run P w = .ok (.value v) w ∧ Rel w B E.bs ρ (.sl nw sz ((xs.take h.toNat).drop l.toNat)) v := by
  obtain ⟨e, ti, zv, hu, hti, hsz, _⟩ := elSz_spec hz
  have hxr := hs.ev x
  rw [hx] at hxr
  have hcap : ∃ A c, a.eval x = .slice A xs.length c ∧ xs.length ≤ c := by
    generalize a.eval x = u at hxr
    cases hxr with
    | slE => exact ⟨_, _, rfl, Nat.zero_le _⟩
    | sl hr hc => exact ⟨_, _, rfl, hc⟩
  obtain ⟨A, c, hv, hc⟩ := hcap
  rw [hv] at hxr
  have vl := hs.ev lo; rw [hl] at vl; replace vl := vl.val_eq
  have vh := hs.ev hi; rw [hh] at vh; replace vh := vh.val_eq
  have vm := hs.ev mx; rw [hm] at vm; replace vm := vm.val_eq
  have e1 : 0 ≤ h := by omega
  have e2 : 0 ≤ m := by omega
  have e3 : m ≤ c := by omega
  have e4 : h ≤ max m 0 := by omega
  have e5 : l ≤ max h 0 := by omega
  refine ⟨_, ?_, hxr.slice (l := l.toNat) (h := h.toNat) (by omega) (by omega) m.toNat (by omega) (by omega)⟩
  simp only [execOp, ho]
  refine val_run ?_
  simp [Instr.sliceAt, run_underlying hu, Instr.slice, hv, Instr.sliceBounds, Instr.sliceBound, asIntOf, vl, vh, vm, h0, e1, e2, e3, e4, e5, run_sizeOf hti, hsz]

theorem AOp.slice3 {T : TypeId} {x lo hi mx : Operand} {nw : Bool} {sz : Nat} {xs : List AV} {l h m : Int} {k1 k2 k3 : IntKind} (ho : o.op = .slice T x (some lo) (some hi) (some mx)) (hx : s.ev x = .sl nw sz xs)
    (hl : s.ev lo = .val (.int k1 l)) (hh : s.ev hi = .val (.int k2 h)) (hm : s.ev mx = .val (.int k3 m))
    (hz : elSz P T = some sz) (h0 : 0 ≤ l) (h1 : l ≤ h) (h2 : h ≤ m) (h3 : m ≤ xs.length) (K : ARun P ops rest (s.put o.dst (.sl nw sz ((xs.take h.toNat).drop l.toNat))) Q) : AOp P ops o rest s Q :=
  AOp.pure1 (fun E ρ B a w hs => slice3_run hs ho hx hl hh hm hz h0 h1 h2 h3) K

/-- a string's part -/
theorem strSlice_run (hs : RS E s ρ B a w) {T : TypeId} {x : Operand} {lo hi : Option Operand} {b : ByteArray} {l h : Int} (ho : o.op = .slice T x lo hi none) (hx : s.ev x = .val (.string b))
    (hl : intLit (lo.map s.ev) = some (if lo.isSome then some l else none)) (hl0 : lo = none → l = 0) (hh : intLit (hi.map s.ev) = some (if hi.isSome then some h else none)) (hh0 : hi = none → h = b.size)
    (hz : isStr P T = true) (h0 : 0 ≤ l) (h1 : l ≤ h) (h2 : h ≤ b.size) : ∃ v, (execOp a.eval o).run P w = .ok (.value v) w ∧ Rel w B E.bs ρ (.val (.string (b.extract l.toNat h.toNat))) v := by
  have hxr := hs.ev x
  rw [hx] at hxr
  unfold isStr at hz
  split at hz <;> (try (simp at hz; done))
  rename_i hu
  have hb := run_bounds (P := P) (w := w) false (litV_of hs hl hl0) (litV_of hs hh hh0) h0 h1 h2 (Nat.le_refl _)
  refine ⟨_, ?_, .val _⟩
  simp only [execOp, ho]
  refine val_run ?_
  simp only [Instr.sliceAt, Sem.run_bind, run_underlying hu, Result.andThen_ok, Instr.slice, hxr.val_eq, Option.map_none, Option.isSome_none, Bool.false_eq_true, if_false, hb, Sem.run_pure]

theorem AOp.strSlice {T : TypeId} {x : Operand} {lo hi : Option Operand} {b : ByteArray} {l h : Int} (ho : o.op = .slice T x lo hi none) (hx : s.ev x = .val (.string b))
    (hl : intLit (lo.map s.ev) = some (if lo.isSome then some l else none)) (hl0 : lo = none → l = 0) (hh : intLit (hi.map s.ev) = some (if hi.isSome then some h else none)) (hh0 : hi = none → h = b.size)
    (hz : isStr P T = true) (h0 : 0 ≤ l) (h1 : l ≤ h) (h2 : h ≤ b.size) (K : ARun P ops rest (s.put o.dst (.val (.string (b.extract l.toNat h.toNat)))) Q) : AOp P ops o rest s Q :=
  AOp.pure1 (fun E ρ B a w hs => strSlice_run hs ho hx hl hl0 hh hh0 hz h0 h1 h2) K
end
end Go.Abs
