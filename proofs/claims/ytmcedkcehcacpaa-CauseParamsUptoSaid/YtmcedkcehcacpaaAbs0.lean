/- Abstract values and what they say of memory: the ground of this claim's own program logic. No condition. -/
import Derived.Tactics
import Derived.Below
namespace Go.Abs
set_option linter.unusedVariables false
set_option linter.unusedSectionVars false

/-- a natural number as a value of Go's -/
def N (n : Nat) : Int := n

/-- An abstract value. `val`: just this value; `sl`: a slice that is read by its content (nw: made since the call began; sz: cells an element); `own k`: the slice that owns object k; `ptr k off`: into object k; `ept k off`: into the row of object k; `ref`: a pointer to what is only read. -/
inductive AV where
  | val (v : Value)
  | agg (l : List AV)
  | tup (l : List AV)
  | sl (nw : Bool) (sz : Nat) (xs : List AV)
  | own (k : Nat)
  | ptr (k off : Nat)
  | ept (k off : Nat)
  | ref (nw : Bool) (x : AV)
  | ifc (t : TypeId) (x : AV)
  | fn (f : Fn) (first cap : List AV)
  | any
  deriving Inhabited

def AV.cells : AV → List AV
  | .agg l => l
  | x => [x]

def AV.one : AV → Bool
  | .val v => v.oneCell'
  | .agg _ | .tup _ | .any => false
  | _ => true

/-- what a cell of a variable of the call's own may be known to hold -/
def AV.oc : AV → Bool
  | .any => true
  | x => x.one

theorem AV.oc_of {x : AV} (h : x.one = true) : x.oc = true := by
  cases x <;> simp_all [AV.oc, AV.one]

/-- a value that may be written to memory -/
def AV.flat : AV → Bool
  | .agg l => l.all AV.one
  | x => x.one

mutual
inductive Rel (w : World) (B : Nat → Prop) (bs : Nat) (ρ : List Value) : AV → Value → Prop
  | val (v : Value) : Rel w B bs ρ (.val v) v
  | agg {l : List AV} {cs : List Value} : RelL w B bs ρ l cs → Rel w B bs ρ (.agg l) (.agg cs.toArray)
  | tup {l : List AV} {cs : List Value} : RelL w B bs ρ l cs → Rel w B bs ρ (.tup l) (.tuple cs.toArray)
  | slE (nw : Bool) (sz : Nat) (A : Option Addr) (cap : Nat) : Rel w B bs ρ (.sl nw sz []) (.slice A 0 cap)
  | sl {nw : Bool} {sz b o cap : Nat} {x : AV} {xs : List AV} : RelRow w B bs ρ nw b sz o (x :: xs) → xs.length + 1 ≤ cap →
      Rel w B bs ρ (.sl nw sz (x :: xs)) (.slice (some ⟨b, o, none⟩) (xs.length + 1) cap)
  | own {k : Nat} {v : Value} : ρ[k]? = some v → v.oneCell' = true → Rel w B bs ρ (.own k) v
  | ptr {k off b : Nat} : ρ[k]? = some (.pointer (some ⟨b, 0, none⟩)) → Rel w B bs ρ (.ptr k off) (.pointer (some ⟨b, off, none⟩))
  | ept {k off b n c : Nat} : ρ[k]? = some (.slice (some ⟨b, 0, none⟩) n c) → Rel w B bs ρ (.ept k off) (.pointer (some ⟨b, off, none⟩))
  | ref {nw : Bool} {b o : Nat} {x : AV} : RelCells w B bs ρ nw b o x.cells → x.cells ≠ [] → Rel w B bs ρ (.ref nw x) (.pointer (some ⟨b, o, none⟩))
  | ifc {t : TypeId} {x : AV} {v : Value} : Rel w B bs ρ x v → Rel w B bs ρ (.ifc t x) (.iface t v)
  | fn {f : Fn} {l m : List AV} {cs ds : List Value} : RelL w B bs ρ l cs → RelL w B bs ρ m ds → Rel w B bs ρ (.fn f l m) (.func f cs.toArray ds.toArray)
  | any (v : Value) : Rel w B bs ρ .any v
inductive RelL (w : World) (B : Nat → Prop) (bs : Nat) (ρ : List Value) : List AV → List Value → Prop
  | nil : RelL w B bs ρ [] []
  | cons {x : AV} {v : Value} {xs : List AV} {vs : List Value} : Rel w B bs ρ x v → RelL w B bs ρ xs vs → RelL w B bs ρ (x :: xs) (v :: vs)
/-- memory from cell o of block b on holds these cells -/
inductive RelCells (w : World) (B : Nat → Prop) (bs : Nat) (ρ : List Value) : Bool → Nat → Nat → List AV → Prop
  | nil {nw : Bool} {b o : Nat} : RelCells w B bs ρ nw b o []
  | cons {nw : Bool} {b o : Nat} {x : AV} {c : Value} {xs : List AV} : B b → (nw = true → bs ≤ b) → w.cell? ⟨b, o, none⟩ = some c → x.one = true →
      Rel w B bs ρ x c → RelCells w B bs ρ nw b (o + 1) xs → RelCells w B bs ρ nw b o (x :: xs)
/-- a row of elements -/
inductive RelRow (w : World) (B : Nat → Prop) (bs : Nat) (ρ : List Value) : Bool → Nat → Nat → Nat → List AV → Prop
  | nil {nw : Bool} {b sz o : Nat} : RelRow w B bs ρ nw b sz o []
  | cons {nw : Bool} {b sz o : Nat} {x : AV} {xs : List AV} : RelCells w B bs ρ nw b o x.cells → x.cells.length = sz →
      RelRow w B bs ρ nw b sz (o + sz) xs → RelRow w B bs ρ nw b sz o (x :: xs)
end

theorem cell_of_heap {w w' : World} {b o : Nat} (h : w'.heap[b]? = w.heap[b]?) : w'.cell? ⟨b, o, none⟩ = w.cell? ⟨b, o, none⟩ := by
  simp only [World.cell?, h]

section mono
variable {w w' : World} {B B' : Nat → Prop} {bs bs' : Nat} {ρ ρ' : List Value}
variable (hB : ∀ b, B b → B' b) (hw : ∀ b, B b → w'.heap[b]? = w.heap[b]?) (hb : bs' ≤ bs) (hρ : ∀ (k : Nat) (v : Value), ρ[k]? = some v → ρ'[k]? = some v)
include hB hw hb hρ
mutual
theorem Rel.mono : ∀ {x : AV} {v : Value}, Rel w B bs ρ x v → Rel w' B' bs' ρ' x v
  | _, _, .val v => .val v
  | _, _, .agg h => .agg h.mono
  | _, _, .tup h => .tup h.mono
  | _, _, .slE nw sz A cap => .slE nw sz A cap
  | _, _, .sl h hc => .sl h.mono hc
  | _, _, .own h h1 => .own (hρ _ _ h) h1
  | _, _, .ptr h => .ptr (hρ _ _ h)
  | _, _, .ept h => .ept (hρ _ _ h)
  | _, _, .ref h hn => .ref h.mono hn
  | _, _, .ifc h => .ifc h.mono
  | _, _, .fn h h2 => .fn h.mono h2.mono
  | _, _, .any v => .any v
theorem RelL.mono : ∀ {xs : List AV} {vs : List Value}, RelL w B bs ρ xs vs → RelL w' B' bs' ρ' xs vs
  | _, _, .nil => .nil
  | _, _, .cons h h2 => .cons h.mono h2.mono
theorem RelCells.mono : ∀ {nw : Bool} {b o : Nat} {xs : List AV}, RelCells w B bs ρ nw b o xs → RelCells w' B' bs' ρ' nw b o xs
  | _, _, _, _, .nil => .nil
  | _, _, _, _, .cons h1 h2 h3 h4 h5 h6 => .cons (hB _ h1) (fun e => Nat.le_trans hb (h2 e)) ((cell_of_heap (hw _ h1)).trans h3) h4 h5.mono h6.mono
theorem RelRow.mono : ∀ {nw : Bool} {b sz o : Nat} {xs : List AV}, RelRow w B bs ρ nw b sz o xs → RelRow w' B' bs' ρ' nw b sz o xs
  | _, _, _, _, _, .nil => .nil
  | _, _, _, _, _, .cons h1 h2 h3 => .cons h1.mono h2 h3.mono
end
end mono

mutual
/-- all objects that are named in a value meet p -/
def AV.idsOk (p : Nat → Bool) : AV → Bool
  | .val _ | .any => true
  | .agg l | .tup l => AV.idsOkL p l
  | .sl _ _ xs => AV.idsOkL p xs
  | .own k | .ptr k _ | .ept k _ => p k
  | .ref _ x | .ifc _ x => x.idsOk p
  | .fn _ l m => AV.idsOkL p l && AV.idsOkL p m
def AV.idsOkL (p : Nat → Bool) : List AV → Bool
  | [] => true
  | x :: xs => x.idsOk p && AV.idsOkL p xs
end

theorem AV.idsOkL_iff (p : Nat → Bool) : ∀ l : List AV, AV.idsOkL p l = true ↔ ∀ x ∈ l, x.idsOk p = true
  | [] => by simp [AV.idsOkL]
  | x :: l => by simp [AV.idsOkL, AV.idsOkL_iff p l]

theorem AV.idsOkL_cells (p : Nat → Bool) (x : AV) : AV.idsOkL p x.cells = x.idsOk p := by
  cases x <;> simp [AV.cells, AV.idsOk, AV.idsOkL]

section ids
variable {w : World} {B : Nat → Prop} {bs : Nat} {ρ ρ' : List Value} {p : Nat → Bool}
variable (hρ : ∀ (k : Nat) (v : Value), p k = true → ρ[k]? = some v → ρ'[k]? = some v)
include hρ
mutual
theorem Rel.ids : ∀ {x : AV} {v : Value}, Rel w B bs ρ x v → x.idsOk p = true → Rel w B bs ρ' x v
  | _, _, .val v, _ => .val v
  | _, _, .agg h, e => .agg (h.ids (by simpa [AV.idsOk] using e))
  | _, _, .tup h, e => .tup (h.ids (by simpa [AV.idsOk] using e))
  | _, _, .slE nw sz A cap, _ => .slE nw sz A cap
  | _, _, .sl h hc, e => .sl (h.ids (by simpa [AV.idsOk] using e)) hc
  | _, _, .own h h1, e => .own (hρ _ _ (by simpa [AV.idsOk] using e) h) h1
  | _, _, .ptr h, e => .ptr (hρ _ _ (by simpa [AV.idsOk] using e) h)
  | _, _, .ept h, e => .ept (hρ _ _ (by simpa [AV.idsOk] using e) h)
  | _, _, .ref (x := x) h hn, e => .ref (h.ids (by rw [AV.idsOkL_cells]; simpa [AV.idsOk] using e)) hn
  | _, _, .ifc h, e => .ifc (h.ids (by simpa [AV.idsOk] using e))
  | _, _, .fn h h2, e => .fn (h.ids (by simp [AV.idsOk] at e; exact e.1)) (h2.ids (by simp [AV.idsOk] at e; exact e.2))
  | _, _, .any v, _ => .any v
theorem RelL.ids : ∀ {xs : List AV} {vs : List Value}, RelL w B bs ρ xs vs → AV.idsOkL p xs = true → RelL w B bs ρ' xs vs
  | _, _, .nil, _ => .nil
  | _, _, .cons h h2, e => .cons (h.ids (by simp [AV.idsOkL] at e; exact e.1)) (h2.ids (by simp [AV.idsOkL] at e; exact e.2))
theorem RelCells.ids : ∀ {nw : Bool} {b o : Nat} {xs : List AV}, RelCells w B bs ρ nw b o xs → AV.idsOkL p xs = true → RelCells w B bs ρ' nw b o xs
  | _, _, _, _, .nil, _ => .nil
  | _, _, _, _, .cons h1 h2 h3 h4 h5 h6, e => .cons h1 h2 h3 h4 (h5.ids (by simp [AV.idsOkL] at e; exact e.1)) (h6.ids (by simp [AV.idsOkL] at e; exact e.2))
theorem RelRow.ids : ∀ {nw : Bool} {b sz o : Nat} {xs : List AV}, RelRow w B bs ρ nw b sz o xs → AV.idsOkL p xs = true → RelRow w B bs ρ' nw b sz o xs
  | _, _, _, _, _, .nil, _ => .nil
  | _, _, _, _, _, .cons (x := x) h1 h2 h3, e => .cons (h1.ids (by rw [AV.idsOkL_cells]; simp [AV.idsOkL] at e; exact e.1)) h2 (h3.ids (by simp [AV.idsOkL] at e; exact e.2))
end
end ids

theorem oneCell_iff (v : Value) : v.oneCell' = true → v.cells = #[v] := by
  cases v <;> simp [Value.oneCell', Value.cells]

section facts
variable {w : World} {B : Nat → Prop} {bs : Nat} {ρ : List Value}

theorem Rel.one {x : AV} {v : Value} (h : Rel w B bs ρ x v) (h1 : x.one = true) : v.oneCell' = true := by
  cases h <;> simp_all [AV.one, Value.oneCell']

theorem RelL.length_eq : ∀ {xs : List AV} {vs : List Value}, RelL w B bs ρ xs vs → xs.length = vs.length
  | _, _, .nil => rfl
  | _, _, .cons _ h => by simp [RelL.length_eq h]

theorem RelL.append : ∀ {xs ys : List AV} {vs us : List Value}, RelL w B bs ρ xs vs → RelL w B bs ρ ys us → RelL w B bs ρ (xs ++ ys) (vs ++ us)
  | _, _, _, _, .nil, k => k
  | _, _, _, _, .cons h h2, k => .cons h (RelL.append h2 k)

theorem RelL.get : ∀ {xs : List AV} {vs : List Value}, RelL w B bs ρ xs vs → ∀ {j : Nat} {x : AV}, xs[j]? = some x → ∃ v, vs[j]? = some v ∧ Rel w B bs ρ x v
  | _, _, .nil, j, x, h => by simp at h
  | _, _, .cons h h2, 0, x, e => by simp at e; subst e; exact ⟨_, rfl, h⟩
  | _, _, .cons h h2, j + 1, x, e => by simpa using RelL.get h2 (by simpa using e)

theorem RelL.take : ∀ {xs : List AV} {vs : List Value}, RelL w B bs ρ xs vs → ∀ n, RelL w B bs ρ (xs.take n) (vs.take n)
  | _, _, .nil, n => by simp; exact .nil
  | _, _, .cons h h2, 0 => .nil
  | _, _, .cons h h2, n + 1 => .cons h (RelL.take h2 n)

theorem RelL.drop : ∀ {xs : List AV} {vs : List Value}, RelL w B bs ρ xs vs → ∀ n, RelL w B bs ρ (xs.drop n) (vs.drop n)
  | _, _, .nil, n => by simp; exact .nil
  | _, _, .cons h h2, 0 => .cons h h2
  | _, _, .cons h h2, n + 1 => RelL.drop h2 n

theorem RelL.set : ∀ {xs : List AV} {vs : List Value}, RelL w B bs ρ xs vs → ∀ (n : Nat) {x : AV} {v : Value}, Rel w B bs ρ x v → RelL w B bs ρ (xs.set n x) (vs.set n v)
  | _, _, .nil, n, _, _, _ => by simp; exact .nil
  | _, _, .cons h h2, 0, _, _, k => .cons k h2
  | _, _, .cons h h2, n + 1, _, _, k => .cons h (RelL.set h2 n k)

theorem RelL.ones : ∀ {xs : List AV} {vs : List Value}, RelL w B bs ρ xs vs → (∀ x ∈ xs, x.one = true) → ∀ v ∈ vs, v.oneCell' = true
  | _, _, .nil, _, v, h => by simp at h
  | _, _, .cons h h2, e, v, hv => by
    cases hv with
    | head => exact h.one (e _ (by simp))
    | tail _ hv => exact RelL.ones h2 (fun x hx => e x (by simp [hx])) v hv

theorem AV.flat_one {x : AV} (h : x.flat = true) (hn : ∀ l, x ≠ .agg l) : x.one = true ∧ x.cells = [x] := by
  cases x <;> simp_all [AV.flat, AV.cells, AV.one]

/-- a value's cells -/
theorem Rel.toCells {x : AV} {v : Value} (h : Rel w B bs ρ x v) (hf : x.flat = true) : RelL w B bs ρ x.cells v.cells.toList ∧ ∀ c ∈ x.cells, c.one = true := by
  by_cases ha : ∃ l, x = .agg l
  · obtain ⟨l, rfl⟩ := ha
    cases h with | agg h => exact ⟨by simpa [AV.cells, Value.cells] using h, by simpa [AV.flat, AV.cells] using hf⟩
  · obtain ⟨h1, h2⟩ := AV.flat_one hf (fun l e => ha ⟨l, e⟩)
    rw [oneCell_iff v (h.one h1), h2]
    exact ⟨.cons h .nil, by simpa using h1⟩

theorem RelCells.get : ∀ {nw : Bool} {b o : Nat} {xs : List AV}, RelCells w B bs ρ nw b o xs → ∃ vs, RelL w B bs ρ xs vs ∧ (∀ c ∈ xs, c.one = true) ∧ ∀ j v, vs[j]? = some v → w.cell? ⟨b, o + j, none⟩ = some v
  | _, _, _, _, .nil => ⟨[], .nil, by simp, by simp⟩
  | _, b, o, _, .cons h1 h2 h3 h4 h5 h6 => by
    obtain ⟨vs, k1, k2, k3⟩ := RelCells.get h6
    refine ⟨_ :: vs, .cons h5 k1, by simpa [h4] using k2, ?_⟩
    intro j v hj
    cases j with
    | zero => simp at hj; subst hj; simpa using h3
    | succ j => have := k3 j v (by simpa using hj); rw [show o + (j + 1) = o + 1 + j by omega]; exact this

theorem RelCells.drop : ∀ {nw : Bool} {b o : Nat} {xs : List AV}, RelCells w B bs ρ nw b o xs → ∀ n, RelCells w B bs ρ nw b (o + n) (xs.drop n)
  | _, _, _, _, .nil, n => by simp; exact .nil
  | _, _, _, _, h@(.cons ..), 0 => h
  | _, b, o, _, .cons h1 h2 h3 h4 h5 h6, n + 1 => by
    have := RelCells.drop h6 n
    rw [show o + (n + 1) = o + 1 + n by omega]
    exact this

theorem RelCells.take : ∀ {nw : Bool} {b o : Nat} {xs : List AV}, RelCells w B bs ρ nw b o xs → ∀ n, RelCells w B bs ρ nw b o (xs.take n)
  | _, _, _, _, .nil, n => by simp; exact .nil
  | _, _, _, _, .cons .., 0 => .nil
  | _, _, _, _, .cons h1 h2 h3 h4 h5 h6, n + 1 => .cons h1 h2 h3 h4 h5 (RelCells.take h6 n)

theorem RelRow.at : ∀ {nw : Bool} {b sz o : Nat} {xs : List AV}, RelRow w B bs ρ nw b sz o xs → ∀ {j : Nat} {x : AV}, xs[j]? = some x → RelCells w B bs ρ nw b (o + j * sz) x.cells ∧ x.cells.length = sz
  | _, _, _, _, _, .nil, j, x, h => by simp at h
  | _, _, sz, o, _, .cons h1 h2 h3, 0, x, e => by simp at e; subst e; exact ⟨by simpa using h1, h2⟩
  | _, _, sz, o, _, .cons h1 h2 h3, j + 1, x, e => by
    have := RelRow.at h3 (j := j) (x := x) (by simpa using e)
    rw [show o + (j + 1) * sz = o + sz + j * sz by rw [Nat.add_mul]; omega]
    exact this

theorem RelRow.drop : ∀ {nw : Bool} {b sz o : Nat} {xs : List AV}, RelRow w B bs ρ nw b sz o xs → ∀ n, RelRow w B bs ρ nw b sz (o + n * sz) (xs.drop n)
  | _, _, _, _, _, .nil, n => by simp; exact .nil
  | _, _, _, _, _, h@(.cons ..), 0 => by simpa using h
  | _, b, sz, o, _, .cons h1 h2 h3, n + 1 => by
    have := RelRow.drop h3 n
    rw [show o + (n + 1) * sz = o + sz + n * sz by rw [Nat.add_mul]; omega]
    exact this

theorem RelRow.take : ∀ {nw : Bool} {b sz o : Nat} {xs : List AV}, RelRow w B bs ρ nw b sz o xs → ∀ n, RelRow w B bs ρ nw b sz o (xs.take n)
  | _, _, _, _, _, .nil, n => by simp; exact .nil
  | _, _, _, _, _, .cons .., 0 => .nil
  | _, _, _, _, _, .cons h1 h2 h3, n + 1 => .cons h1 h2 (RelRow.take h3 n)

theorem RelCells.append {nw : Bool} {b : Nat} {ys : List AV} : ∀ {l : List AV} {o : Nat}, RelCells w B bs ρ nw b o l → RelCells w B bs ρ nw b (o + l.length) ys → RelCells w B bs ρ nw b o (l ++ ys)
  | [], o, _, h => by simpa using h
  | y :: l, o, .cons a1 a2 a3 a4 a5 a6, h' => .cons a1 a2 a3 a4 a5 (RelCells.append a6 (by rw [show o + 1 + l.length = o + (y :: l).length by simp; omega]; exact h'))

/-- all cells of a row, one behind the other -/
theorem RelRow.flat : ∀ {nw : Bool} {b sz o : Nat} {xs : List AV}, RelRow w B bs ρ nw b sz o xs → RelCells w B bs ρ nw b o (xs.flatMap AV.cells) ∧ (xs.flatMap AV.cells).length = xs.length * sz
  | _, _, _, _, _, .nil => ⟨.nil, by simp⟩
  | _, b, sz, o, _, .cons (x := x) (xs := xs) h1 h2 h3 => by
    obtain ⟨k1, k2⟩ := RelRow.flat h3
    refine ⟨?_, ?_⟩
    · rw [List.flatMap_cons]
      exact RelCells.append h1 (by rw [h2]; exact k1)
    · rw [List.flatMap_cons, List.length_append, h2, k2, List.length_cons, Nat.add_mul]
      omega

/-- cells of a block that may be read as a row -/
theorem RelCells.mk {nw : Bool} {b : Nat} (hB : B b) (hn : nw = true → bs ≤ b) : ∀ {xs : List AV} {vs : List Value} {o : Nat}, RelL w B bs ρ xs vs → (∀ c ∈ xs, c.one = true) →
    (∀ j v, vs[j]? = some v → w.cell? ⟨b, o + j, none⟩ = some v) → RelCells w B bs ρ nw b o xs
  | _, _, _, .nil, _, _ => .nil
  | _, _, o, .cons (x := x) (v := v) h h2, h1, hc => by
    refine .cons hB hn (by simpa using hc 0 v rfl) (h1 _ (by simp)) h (RelCells.mk hB hn h2 (fun c hc' => h1 c (by simp [hc'])) ?_)
    intro j u hj
    have := hc (j + 1) u (by simpa using hj)
    rw [show o + 1 + j = o + (j + 1) by omega]
    exact this

theorem RelRow.mk {nw : Bool} {b sz : Nat} (hB : B b) (hn : nw = true → bs ≤ b) : ∀ {xs : List AV} {vs : List Value} {o : Nat}, RelL w B bs ρ (xs.flatMap AV.cells) vs →
    (∀ x ∈ xs, x.cells.length = sz ∧ ∀ c ∈ x.cells, c.one = true) → (∀ j v, vs[j]? = some v → w.cell? ⟨b, o + j, none⟩ = some v) → RelRow w B bs ρ nw b sz o xs
  | [], _, _, _, _, _ => .nil
  | x :: xs, vs, o, h, h1, hc => by
    obtain ⟨l1, o1⟩ := h1 x (by simp)
    simp only [List.flatMap_cons] at h
    have ht := h.take x.cells.length
    have hd := h.drop x.cells.length
    simp only [List.take_left', List.drop_left'] at ht hd
    refine .cons (RelCells.mk hB hn ht o1 ?_) l1 (RelRow.mk hB hn hd (fun y hy => h1 y (by simp [hy])) ?_)
    · intro j v hj
      rw [List.getElem?_take] at hj
      split at hj
      · exact hc j v hj
      · simp at hj
    · intro j v hj
      rw [List.getElem?_drop] at hj
      have := hc _ v hj
      rw [show o + sz + j = o + (x.cells.length + j) by omega]
      exact this
end facts
end Go.Abs
