/- Calls that are handed objects of the caller's own. No condition. -/
import Derived.Test.YtmcedkcehcacpaaAbs13
namespace Go.Abs
set_option linter.unusedVariables false
set_option linter.unusedSectionVars false
set_option linter.unusedSimpArgs false
set_option linter.unnecessarySimpa false

/-! ### plain values: they name no object, and claim nothing of when they were made -/
mutual
def AV.pl : AV → Bool
  | .val _ | .any => true
  | .agg l | .tup l => AV.plL l
  | .sl nw _ xs => !nw && AV.plL xs
  | .own _ | .ptr _ _ | .ept _ _ => false
  | .ref nw x => !nw && x.pl
  | .ifc _ x => x.pl
  | .fn _ l m => AV.plL l && AV.plL m
def AV.plL : List AV → Bool
  | [] => true
  | x :: xs => x.pl && AV.plL xs
end

theorem AV.plL_iff : ∀ l : List AV, AV.plL l = true ↔ ∀ x ∈ l, x.pl = true
  | [] => by simp [AV.plL]
  | x :: l => by simp [AV.plL, AV.plL_iff l]

theorem AV.plL_cells (x : AV) : AV.plL x.cells = x.pl := by
  cases x <;> simp [AV.cells, AV.pl, AV.plL]

section pl
variable {w : World} {B : Nat → Prop} {bs bs' : Nat} {ρ ρ' : List Value}
mutual
theorem Rel.pl : ∀ {x : AV} {v : Value}, Rel w B bs ρ x v → x.pl = true → Rel w B bs' ρ' x v
  | _, _, .val v, _ => .val v
  | _, _, .agg h, e => .agg (h.pl (by simpa [AV.pl] using e))
  | _, _, .tup h, e => .tup (h.pl (by simpa [AV.pl] using e))
  | _, _, .slE nw sz A cap, _ => .slE nw sz A cap
  | _, _, .sl h hc, e => by
    simp only [AV.pl, Bool.and_eq_true, Bool.not_eq_true'] at e
    exact .sl (h.pl e.1 e.2) hc
  | _, _, .own h h1, e => by simp [AV.pl] at e
  | _, _, .ptr h, e => by simp [AV.pl] at e
  | _, _, .ept h, e => by simp [AV.pl] at e
  | _, _, .ref (x := x) h hn, e => by
    simp only [AV.pl, Bool.and_eq_true, Bool.not_eq_true'] at e
    exact .ref (h.pl e.1 (by rw [AV.plL_cells]; exact e.2)) hn
  | _, _, .ifc h, e => .ifc (h.pl (by simpa [AV.pl] using e))
  | _, _, .fn h h2, e => .fn (h.pl (by simp [AV.pl] at e; exact e.1)) (h2.pl (by simp [AV.pl] at e; exact e.2))
  | _, _, .any v, _ => .any v
theorem RelL.pl : ∀ {xs : List AV} {vs : List Value}, RelL w B bs ρ xs vs → AV.plL xs = true → RelL w B bs' ρ' xs vs
  | _, _, .nil, _ => .nil
  | _, _, .cons h h2, e => .cons (h.pl (by simp [AV.plL] at e; exact e.1)) (h2.pl (by simp [AV.plL] at e; exact e.2))
theorem RelCells.pl : ∀ {nw : Bool} {b o : Nat} {xs : List AV}, RelCells w B bs ρ nw b o xs → nw = false → AV.plL xs = true → RelCells w B bs' ρ' nw b o xs
  | _, _, _, _, .nil, _, _ => .nil
  | _, _, _, _, .cons h1 h2 h3 h4 h5 h6, hn, e => .cons h1 (fun h => by rw [hn] at h; simp at h) h3 h4 (h5.pl (by simp [AV.plL] at e; exact e.1)) (h6.pl hn (by simp [AV.plL] at e; exact e.2))
theorem RelRow.pl : ∀ {nw : Bool} {b sz o : Nat} {xs : List AV}, RelRow w B bs ρ nw b sz o xs → nw = false → AV.plL xs = true → RelRow w B bs' ρ' nw b sz o xs
  | _, _, _, _, _, .nil, _, _ => .nil
  | _, _, _, _, _, .cons (x := x) h1 h2 h3, hn, e => .cons (h1.pl hn (by rw [AV.plL_cells]; simp [AV.plL] at e; exact e.1)) h2 (h3.pl hn (by simp [AV.plL] at e; exact e.2))
end

theorem RelCells.old {nw : Bool} : ∀ {b o : Nat} {xs : List AV}, RelCells w B bs ρ nw b o xs → RelCells w B bs ρ false b o xs
  | _, _, _, .nil => .nil
  | _, _, _, .cons h1 h2 h3 h4 h5 h6 => .cons h1 (fun h => by simp at h) h3 h4 h5 h6.old
theorem RelRow.old {nw : Bool} : ∀ {b sz o : Nat} {xs : List AV}, RelRow w B bs ρ nw b sz o xs → RelRow w B bs ρ false b sz o xs
  | _, _, _, _, .nil => .nil
  | _, _, _, _, .cons h1 h2 h3 => .cons h1.old h2 h3.old
theorem Rel.old_sl {nw : Bool} {sz : Nat} {xs : List AV} {v : Value} (h : Rel w B bs ρ (.sl nw sz xs) v) : Rel w B bs ρ (.sl false sz xs) v := by
  cases h with
  | slE => exact .slE _ _ _ _
  | sl h hc => exact .sl h.old hc
theorem Rel.old_ref {nw : Bool} {x : AV} {v : Value} (h : Rel w B bs ρ (.ref nw x) v) : Rel w B bs ρ (.ref false x) v := by
  cases h with
  | ref h hn => exact .ref h.old hn
end pl

/-! ### what is handed over, read by the callee's numbers -/
def SubX (ids : List Nat) (x y : AV) : Prop := ∀ (w : World) (B : Nat → Prop) (bs bs' : Nat) (ρ σ : List Value) (v : Value), (∀ i k : Nat, ids[i]? = some k → σ[i]? = ρ[k]?) → Rel w B bs ρ x v → Rel w B bs' σ y v

def SubXL (ids : List Nat) : List AV → List AV → Prop
  | [], [] => True
  | x :: xs, y :: ys => SubX ids x y ∧ SubXL ids xs ys
  | _, _ => False

theorem SubXL.rel {ids : List Nat} : ∀ {xs ys : List AV} {vs : List Value} {w : World} {B : Nat → Prop} {bs bs' : Nat} {ρ σ : List Value}, SubXL ids xs ys → (∀ i k : Nat, ids[i]? = some k → σ[i]? = ρ[k]?) → RelL w B bs ρ xs vs → RelL w B bs' σ ys vs
  | [], [], _, _, _, _, _, _, _, _, _, .nil => .nil
  | x :: xs, y :: ys, _, _, _, _, _, _, _, h, hi, .cons h1 h2 => .cons (h.1 _ _ _ _ _ _ _ hi h1) (SubXL.rel h.2 hi h2)
  | [], _ :: _, _, _, _, _, _, _, _, h, _, _ => h.elim
  | _ :: _, [], _, _, _, _, _, _, _, h, _, _ => h.elim

section subs
variable {ids : List Nat} {x : AV}
theorem SubX.pl (h : x.pl = true) : SubX ids x x := fun _ _ _ _ _ _ _ _ hr => hr.pl h
theorem SubX.sl {nw : Bool} {sz : Nat} {xs : List AV} (h : AV.plL xs = true) : SubX ids (.sl nw sz xs) (.sl false sz xs) := fun _ _ _ _ _ _ _ _ hr => hr.old_sl.pl (by simpa [AV.pl] using h)
theorem SubX.ref {nw : Bool} (h : x.pl = true) : SubX ids (.ref nw x) (.ref false x) := fun _ _ _ _ _ _ _ _ hr => hr.old_ref.pl (by simpa [AV.pl] using h)
theorem SubX.any : SubX ids x .any := fun _ _ _ _ _ _ _ _ _ => .any _
theorem SubX.ptr {i k o : Nat} (h : ids[i]? = some k) : SubX ids (.ptr k o) (.ptr i o) := fun _ _ _ _ _ _ _ hi hr => by
  cases hr with
  | ptr h1 => exact .ptr ((hi i k h).trans h1)
theorem SubX.own {i k : Nat} (h : ids[i]? = some k) : SubX ids (.own k) (.own i) := fun _ _ _ _ _ _ _ hi hr => by
  cases hr with
  | own h1 h2 => exact .own ((hi i k h).trans h1) h2
theorem SubX.agg {xs ys : List AV} (h : SubXL ids xs ys) : SubX ids (.agg xs) (.agg ys) := fun _ _ _ _ _ _ _ hi hr => by
  cases hr with
  | agg h1 => exact .agg (h.rel hi h1)
theorem SubX.ifc {t : TypeId} {y : AV} (h : SubX ids x y) : SubX ids (.ifc t x) (.ifc t y) := fun _ _ _ _ _ _ _ hi hr => by
  cases hr with
  | ifc h1 => exact .ifc (h _ _ _ _ _ _ _ hi h1)
theorem SubX.fn {f : Fn} {xs ys zs us : List AV} (h : SubXL ids xs ys) (h2 : SubXL ids zs us) : SubX ids (.fn f xs zs) (.fn f ys us) := fun _ _ _ _ _ _ _ hi hr => by
  cases hr with
  | fn h1 h3 => exact .fn (h.rel hi h1) (h2.rel hi h3)
theorem Sub.of {y : AV} (h : SubX [] x y) : Sub x y := fun w B bs bs' ρ v hr => h w B bs bs' ρ [] v (fun i k hk => by simp at hk) hr
theorem SubL.of : ∀ {xs ys : List AV}, SubXL [] xs ys → SubL xs ys
  | [], [], _ => trivial
  | _ :: _, _ :: _, h => ⟨Sub.of h.1, SubL.of h.2⟩
  | [], _ :: _, h => h
  | _ :: _, [], h => h
end subs

/-! ### other numbers -/
mutual
def AV.ren (φ : Nat → Nat) : AV → AV
  | .val v => .val v
  | .any => .any
  | .agg l => .agg (AV.renL φ l)
  | .tup l => .tup (AV.renL φ l)
  | .sl nw sz xs => .sl nw sz (AV.renL φ xs)
  | .own k => .own (φ k)
  | .ptr k o => .ptr (φ k) o
  | .ept k o => .ept (φ k) o
  | .ref nw x => .ref nw (x.ren φ)
  | .ifc t x => .ifc t (x.ren φ)
  | .fn f l m => .fn f (AV.renL φ l) (AV.renL φ m)
def AV.renL (φ : Nat → Nat) : List AV → List AV
  | [] => []
  | x :: xs => x.ren φ :: AV.renL φ xs
end

theorem AV.renL_map (φ : Nat → Nat) : ∀ l : List AV, AV.renL φ l = l.map (AV.ren φ)
  | [] => rfl
  | x :: l => by simp [AV.renL, AV.renL_map φ l]

mutual
theorem AV.ren_closed (φ : Nat → Nat) : ∀ x : AV, x.idsOk (fun _ => false) = true → x.ren φ = x
  | .val _, _ | .any, _ => rfl
  | .agg l, h | .tup l, h => by simp only [AV.ren]; rw [AV.renL_closed φ l (by simpa [AV.idsOk] using h)]
  | .sl nw sz xs, h => by simp only [AV.ren]; rw [AV.renL_closed φ xs (by simpa [AV.idsOk] using h)]
  | .own k, h | .ptr k _, h | .ept k _, h => by simp [AV.idsOk] at h
  | .ref _ x, h | .ifc _ x, h => by simp only [AV.ren]; rw [AV.ren_closed φ x (by simpa [AV.idsOk] using h)]
  | .fn f l m, h => by
    simp only [AV.idsOk, Bool.and_eq_true] at h
    simp only [AV.ren]; rw [AV.renL_closed φ l h.1, AV.renL_closed φ m h.2]
theorem AV.renL_closed (φ : Nat → Nat) : ∀ l : List AV, AV.idsOkL (fun _ => false) l = true → AV.renL φ l = l
  | [], _ => rfl
  | x :: l, h => by
    simp only [AV.idsOkL, Bool.and_eq_true] at h
    simp only [AV.renL]; rw [AV.ren_closed φ x h.1, AV.renL_closed φ l h.2]
end

theorem AV.ren_one (φ : Nat → Nat) (x : AV) : (x.ren φ).one = x.one := by cases x <;> rfl
theorem AV.ren_oc (φ : Nat → Nat) (x : AV) : (x.ren φ).oc = x.oc := by cases x <;> rfl
theorem AV.ren_cells (φ : Nat → Nat) (x : AV) : (x.ren φ).cells = x.cells.map (AV.ren φ) := by cases x <;> simp [AV.ren, AV.cells, AV.renL_map]

section ren
variable {w : World} {B : Nat → Prop} {bs : Nat} {σ ρ : List Value} {φ : Nat → Nat}
variable (hρ : ∀ (k : Nat) (v : Value), σ[k]? = some v → ρ[φ k]? = some v)
include hρ
mutual
theorem Rel.ren : ∀ {x : AV} {v : Value}, Rel w B bs σ x v → Rel w B bs ρ (x.ren φ) v
  | _, _, .val v => .val v
  | _, _, .agg h => .agg h.ren
  | _, _, .tup h => .tup h.ren
  | _, _, .slE nw sz A cap => .slE nw sz A cap
  | _, _, .sl (xs := xs) h hc => by
    have h2 := RelRow.ren h
    have := Rel.sl (cap := _) h2 (by rw [AV.renL_map, List.length_map]; exact hc)
    simp only [AV.renL_map, List.length_map] at this
    simpa only [AV.ren, AV.renL, AV.renL_map] using this
  | _, _, .own h h1 => .own (hρ _ _ h) h1
  | _, _, .ptr h => .ptr (hρ _ _ h)
  | _, _, .ept h => .ept (hρ _ _ h)
  | _, _, .ref (x := x) h hn => .ref (by rw [AV.ren_cells, ← AV.renL_map]; exact h.ren) (by rw [AV.ren_cells]; simpa using hn)
  | _, _, .ifc h => .ifc h.ren
  | _, _, .fn h h2 => .fn h.ren h2.ren
  | _, _, .any v => .any v
theorem RelL.ren : ∀ {xs : List AV} {vs : List Value}, RelL w B bs σ xs vs → RelL w B bs ρ (AV.renL φ xs) vs
  | _, _, .nil => .nil
  | _, _, .cons h h2 => .cons h.ren h2.ren
theorem RelCells.ren : ∀ {nw : Bool} {b o : Nat} {xs : List AV}, RelCells w B bs σ nw b o xs → RelCells w B bs ρ nw b o (AV.renL φ xs)
  | _, _, _, _, .nil => .nil
  | _, _, _, _, .cons h1 h2 h3 h4 h5 h6 => .cons h1 h2 h3 (by rw [AV.ren_one]; exact h4) h5.ren h6.ren
theorem RelRow.ren : ∀ {nw : Bool} {b sz o : Nat} {xs : List AV}, RelRow w B bs σ nw b sz o xs → RelRow w B bs ρ nw b sz o (AV.renL φ xs)
  | _, _, _, _, _, .nil => .nil
  | _, _, _, _, _, .cons (x := x) h1 h2 h3 => .cons (by rw [AV.ren_cells, ← AV.renL_map]; exact h1.ren) (by rw [AV.ren_cells]; simpa using h2) h3.ren
end
end ren

def Ob.ren (φ : Nat → Nat) : Ob → Ob
  | .box T cs => .box T (AV.renL φ cs)
  | .row T sz xs => .row T sz (AV.renL φ xs)
  | .mp es => .mp es
  | .gone => .gone

/-! ### places of a list, all at once -/
def setAll {α : Type} : List α → List Nat → List α → List α
  | l, i :: is, x :: xs => setAll (l.set i x) is xs
  | l, _, _ => l

theorem setAll_len {α : Type} : ∀ (l : List α) (is : List Nat) (xs : List α), (setAll l is xs).length = l.length
  | l, [], xs => by cases xs <;> rfl
  | l, i :: is, [] => rfl
  | l, i :: is, x :: xs => by simp only [setAll]; rw [setAll_len]; simp

theorem setAll_not {α : Type} {j : Nat} : ∀ (l : List α) (is : List Nat) (xs : List α), j ∉ is → (setAll l is xs)[j]? = l[j]?
  | l, [], xs, _ => by cases xs <;> rfl
  | l, i :: is, [], _ => rfl
  | l, i :: is, x :: xs, h => by
    simp only [setAll]
    rw [setAll_not _ is xs (fun h' => h (by simp [h'])), List.getElem?_set_ne (by rintro rfl; exact h (by simp))]

theorem setAll_at {α : Type} {i j : Nat} {x : α} : ∀ (l : List α) (is : List Nat) (xs : List α), is.Nodup → is[i]? = some j → j < l.length → xs[i]? = some x → (setAll l is xs)[j]? = some x
  | l, [], xs, _, h, _, _ => by simp at h
  | l, k :: is, [], _, _, _, h => by simp at h
  | l, k :: is, y :: xs, hn, h, hl, hx => by
    simp only [setAll]
    obtain ⟨h1, h2⟩ := List.nodup_cons.1 hn
    cases i with
    | zero =>
      simp only [List.getElem?_cons_zero, Option.some.injEq] at h hx
      subst h; subst hx
      rw [setAll_not _ is xs h1, List.getElem?_set_self hl]
    | succ i =>
      simp only [List.getElem?_cons_succ] at h hx
      exact setAll_at (l.set k y) is xs h2 h (by simpa using hl) hx

/-- the rows among what is handed over -/
def rowIds : List Nat → List Ob → List Nat
  | i :: is, .box _ _ :: os => rowIds is os
  | i :: is, _ :: os => i :: rowIds is os
  | _, _ => []

def AV.invalL (rk : List Nat) (x : AV) : AV := if rk = [] then x else if x.idsOk (fun k => !rk.contains k) = true then x else .any
def Ob.invalL (rk : List Nat) : Ob → Ob
  | .box T cs => .box T (cs.map (AV.invalL rk))
  | .row T sz xs => if rk = [] then .row T sz xs else if AV.idsOkL (fun k => !rk.contains k) xs = true then .row T sz xs else .gone
  | .mp es => .mp es
  | .gone => .gone
end Go.Abs
