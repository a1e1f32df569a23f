/- The evaluation tactics, told once. -/
import Derived.Tactics
import Derived.Below
import Derived.Sort.LoopGhostIn
import Derived.OrdersIn
import Derived.RangeFuncNested
import Derived.RangeFuncLeaves
import Derived.StillTail
import Derived.Laws.CopyRow
import Derived.Lib.FrozenHead
import Derived.Laws.Build
import Derived.Laws.AppendOwn
namespace Go.Abs
theorem evH {p : Prop} (h : p := by
      try simp only [push_cast, ↓reduceIte, Nat.reduceEqDiff, Nat.reduceLT, Nat.reduceAdd, Nat.reduceSub, Nat.reduceMul, Nat.reduceLeDiff, Nat.reducePow, Int.reduceLT, Int.reduceToNat, reduceCtorEq, Int.reduceNeg, Int.reduceEq, Nat.reduceBEq, Nat.reduceBNe, Int.reduceBEq, Int.reduceBNe, String.reduceEq]
      try simp (disch := omega) only [w_nat, w_add, w_addl, w_addr, w_sub, w_subl, w_mul, w_mull, w_mulr, w_u32, w_u16, w_u8, w_u32a, N_zero]
      repeat' (first | assumption | exact HandL.nil | exact Hand.nil | exact Hand.any | exact Hand.eq (by first | with_reducible rfl | (simp only [push_cast, ↓reduceIte, Nat.reduceEqDiff, Nat.reduceLT, Nat.reduceAdd, Nat.reduceSub, Nat.reduceMul, Nat.reduceLeDiff, Nat.reducePow, Int.reduceLT, Int.reduceToNat, reduceCtorEq, Int.reduceNeg, Int.reduceEq, Nat.reduceBEq, Nat.reduceBNe, Int.reduceBEq, Int.reduceBNe, String.reduceEq]; first | done | rfl | (simp (disch := omega) only [w_nat, w_add, w_addl, w_addr, w_sub, w_subl, w_mul, w_mull, w_mulr, w_u32, w_u16, w_u8, w_u32a, N_zero]; first | done | rfl | (simp only [push_cast, ↓reduceIte, Nat.reduceEqDiff, Nat.reduceLT, Nat.reduceAdd, Nat.reduceSub, Nat.reduceMul, Nat.reduceLeDiff, Nat.reducePow, Int.reduceLT, Int.reduceToNat, reduceCtorEq, Int.reduceNeg, Int.reduceEq, Nat.reduceBEq, Nat.reduceBNe, Int.reduceBEq, Int.reduceBNe, String.reduceEq]; first | done | rfl)))) (by first | with_reducible rfl | (simp only [push_cast, ↓reduceIte, Nat.reduceEqDiff, Nat.reduceLT, Nat.reduceAdd, Nat.reduceSub, Nat.reduceMul, Nat.reduceLeDiff, Nat.reducePow, Int.reduceLT, Int.reduceToNat, reduceCtorEq, Int.reduceNeg, Int.reduceEq, Nat.reduceBEq, Nat.reduceBNe, Int.reduceBEq, Int.reduceBNe, String.reduceEq]; first | done | rfl | (simp (disch := omega) only [w_nat, w_add, w_addl, w_addr, w_sub, w_subl, w_mul, w_mull, w_mulr, w_u32, w_u16, w_u8, w_u32a, N_zero]; first | done | rfl | (simp only [push_cast, ↓reduceIte, Nat.reduceEqDiff, Nat.reduceLT, Nat.reduceAdd, Nat.reduceSub, Nat.reduceMul, Nat.reduceLeDiff, Nat.reducePow, Int.reduceLT, Int.reduceToNat, reduceCtorEq, Int.reduceNeg, Int.reduceEq, Nat.reduceBEq, Nat.reduceBNe, Int.reduceBEq, Int.reduceBNe, String.reduceEq]; first | done | rfl)))) | exact Hand.keep (by first | with_reducible rfl | (simp only [push_cast, ↓reduceIte, Nat.reduceEqDiff, Nat.reduceLT, Nat.reduceAdd, Nat.reduceSub, Nat.reduceMul, Nat.reduceLeDiff, Nat.reducePow, Int.reduceLT, Int.reduceToNat, reduceCtorEq, Int.reduceNeg, Int.reduceEq, Nat.reduceBEq, Nat.reduceBNe, Int.reduceBEq, Int.reduceBNe, String.reduceEq]; first | done | rfl | (simp (disch := omega) only [w_nat, w_add, w_addl, w_addr, w_sub, w_subl, w_mul, w_mull, w_mulr, w_u32, w_u16, w_u8, w_u32a, N_zero]; first | done | rfl | (simp only [push_cast, ↓reduceIte, Nat.reduceEqDiff, Nat.reduceLT, Nat.reduceAdd, Nat.reduceSub, Nat.reduceMul, Nat.reduceLeDiff, Nat.reducePow, Int.reduceLT, Int.reduceToNat, reduceCtorEq, Int.reduceNeg, Int.reduceEq, Nat.reduceBEq, Nat.reduceBNe, Int.reduceBEq, Int.reduceBNe, String.reduceEq]; first | done | rfl)))) (by with_reducible rfl) | refine HandL.cons ?_ ?_ | refine Hand.agg ?_ | refine Hand.tup ?_ | refine Hand.fn ?_ ?_ | exact HandR.nil | exact HandC.nil | refine HandC.cons ?_ ?_ | refine HandR.cons ?_ ?_ | refine Hand.sl ?_)) : p := h
theorem evW {p : Prop} (h : p := by
      try simp only [push_cast, ↓reduceIte, Nat.reduceEqDiff, Nat.reduceLT, Nat.reduceAdd, Nat.reduceSub, Nat.reduceMul, Nat.reduceLeDiff, Nat.reducePow, Int.reduceLT, Int.reduceToNat, reduceCtorEq, Int.reduceNeg, Int.reduceEq, Nat.reduceBEq, Nat.reduceBNe, Int.reduceBEq, Int.reduceBNe, String.reduceEq]
      try simp (disch := omega) only [w_nat, w_add, w_addl, w_addr, w_sub, w_subl, w_mul, w_mull, w_mulr, w_u32, w_u16, w_u8, w_u32a, N_zero]
      repeat' (first | assumption | exact WkL.nil | exact Wk.nil | exact Wk.eq (by first | with_reducible rfl | (simp only [push_cast, ↓reduceIte, Nat.reduceEqDiff, Nat.reduceLT, Nat.reduceAdd, Nat.reduceSub, Nat.reduceMul, Nat.reduceLeDiff, Nat.reducePow, Int.reduceLT, Int.reduceToNat, reduceCtorEq, Int.reduceNeg, Int.reduceEq, Nat.reduceBEq, Nat.reduceBNe, Int.reduceBEq, Int.reduceBNe, String.reduceEq]; first | done | rfl | (simp (disch := omega) only [w_nat, w_add, w_addl, w_addr, w_sub, w_subl, w_mul, w_mull, w_mulr, w_u32, w_u16, w_u8, w_u32a, N_zero]; first | done | rfl | (simp only [push_cast, ↓reduceIte, Nat.reduceEqDiff, Nat.reduceLT, Nat.reduceAdd, Nat.reduceSub, Nat.reduceMul, Nat.reduceLeDiff, Nat.reducePow, Int.reduceLT, Int.reduceToNat, reduceCtorEq, Int.reduceNeg, Int.reduceEq, Nat.reduceBEq, Nat.reduceBNe, Int.reduceBEq, Int.reduceBNe, String.reduceEq]; first | done | rfl)))) | refine WkL.cons ?_ ?_ | refine Wk.agg ?_ | refine Wk.tup ?_)) : p := h
theorem evE {p : Prop} (h : p := by
        try simp only [push_cast, ↓reduceIte, Nat.reduceEqDiff, Nat.reduceLT, Nat.reduceAdd, Nat.reduceSub, Nat.reduceMul, Nat.reduceLeDiff, Nat.reducePow, Int.reduceLT, Int.reduceToNat, reduceCtorEq, Int.reduceNeg, Int.reduceEq, Nat.reduceBEq, Nat.reduceBNe, Int.reduceBEq, Int.reduceBNe, String.reduceEq]
        try simp (disch := omega) only [w_nat, w_add, w_addl, w_addr, w_sub, w_subl, w_mul, w_mull, w_mulr, w_u32, w_u16, w_u8, w_u32a, N_zero]
        try simp only [push_cast, ↓reduceIte, Nat.reduceEqDiff, Nat.reduceLT, Nat.reduceAdd, Nat.reduceSub, Nat.reduceMul, Nat.reduceLeDiff, Nat.reducePow, Int.reduceLT, Int.reduceToNat, reduceCtorEq, Int.reduceNeg, Int.reduceEq, Nat.reduceBEq, Nat.reduceBNe, Int.reduceBEq, Int.reduceBNe, String.reduceEq]
        rfl) : p := h
theorem evT {p : Prop} (h : p := by
      first | with_reducible rfl | (simp only [push_cast, ↓reduceIte, Nat.reduceEqDiff, Nat.reduceLT, Nat.reduceAdd, Nat.reduceSub, Nat.reduceMul, Nat.reduceLeDiff, Nat.reducePow, Int.reduceLT, Int.reduceToNat, reduceCtorEq, Int.reduceNeg, Int.reduceEq, Nat.reduceBEq, Nat.reduceBNe, Int.reduceBEq, Int.reduceBNe, String.reduceEq]; first | done | rfl | (simp (disch := omega) only [w_nat, w_add, w_addl, w_addr, w_sub, w_subl, w_mul, w_mull, w_mulr, w_u32, w_u16, w_u8, w_u32a, N_zero]; first | done | rfl | (simp only [push_cast, ↓reduceIte, Nat.reduceEqDiff, Nat.reduceLT, Nat.reduceAdd, Nat.reduceSub, Nat.reduceMul, Nat.reduceLeDiff, Nat.reducePow, Int.reduceLT, Int.reduceToNat, reduceCtorEq, Int.reduceNeg, Int.reduceEq, Nat.reduceBEq, Nat.reduceBNe, Int.reduceBEq, Int.reduceBNe, String.reduceEq]; first | done | rfl)))) : p := h
theorem evM {p : Prop} (h : p := by
      first | with_reducible rfl | (simp only [push_cast, ↓reduceIte, Nat.reduceEqDiff, Nat.reduceLT, Nat.reduceAdd, Nat.reduceSub, Nat.reduceMul, Nat.reduceLeDiff, Nat.reducePow, Int.reduceLT, Int.reduceToNat, reduceCtorEq, Int.reduceNeg, Int.reduceEq, Nat.reduceBEq, Nat.reduceBNe, Int.reduceBEq, Int.reduceBNe, String.reduceEq]; first | done | rfl | (simp (disch := omega) only [w_nat, w_add, w_addl, w_addr, w_sub, w_subl, w_mul, w_mull, w_mulr, w_u32, w_u16, w_u8, w_u32a, N_zero]; first | done | rfl))) : p := h
theorem evN {p : Prop} (h : p := by
      first | (simp only [push_cast, ↓reduceIte, Nat.reduceEqDiff, Nat.reduceLT, Nat.reduceAdd, Nat.reduceSub, Nat.reduceMul, Nat.reduceLeDiff, Nat.reducePow, Int.reduceLT, Int.reduceToNat, reduceCtorEq, Int.reduceNeg, Int.reduceEq, Nat.reduceBEq, Nat.reduceBNe, Int.reduceBEq, Int.reduceBNe, String.reduceEq]; first | done | rfl | (simp (disch := omega) only [w_nat, w_add, w_addl, w_addr, w_sub, w_subl, w_mul, w_mull, w_mulr, w_u32, w_u16, w_u8, w_u32a, N_zero]; first | done | rfl))) : p := h
theorem evS {p q : Prop} (k : q) (e : p = q := by
      try simp only [push_cast, ↓reduceIte, Nat.reduceEqDiff, Nat.reduceLT, Nat.reduceAdd, Nat.reduceSub, Nat.reduceMul, Nat.reduceLeDiff, Nat.reducePow, Int.reduceLT, Int.reduceToNat, reduceCtorEq, Int.reduceNeg, Int.reduceEq, Nat.reduceBEq, Nat.reduceBNe, Int.reduceBEq, Int.reduceBNe, String.reduceEq]
      try simp (disch := omega) only [w_nat, w_add, w_addl, w_addr, w_sub, w_subl, w_mul, w_mull, w_mulr, w_u32, w_u16, w_u8, w_u32a, N_zero]
      rfl) : p := e.mpr k
theorem evS2 {p q : Prop} (k : q) (e : p = q := by
      simp only [push_cast, ↓reduceIte, Nat.reduceEqDiff, Nat.reduceLT, Nat.reduceAdd, Nat.reduceSub, Nat.reduceMul, Nat.reduceLeDiff, Nat.reducePow, Int.reduceLT, Int.reduceToNat, reduceCtorEq, Int.reduceNeg, Int.reduceEq, Nat.reduceBEq, Nat.reduceBNe, Int.reduceBEq, Int.reduceBNe, String.reduceEq]
      rfl) : p := e.mpr k
theorem lca {α : Type} (a : α) (l m : List α) : (a :: l) ++ m = a :: (l ++ m) := rfl
theorem lna {α : Type} (l : List α) : [] ++ l = l := rfl
set_option linter.unusedVariables false
set_option linter.unusedSectionVars false
def N (n : Nat) : Int := n
inductive AV where
  | val (v : Value)
  | agg (l : List AV)
  | tup (l : List AV)
  | sl (nw : Bool) (sz : Nat) (xs : List AV)
  | own (k : Nat)
  | ptr (k off : Nat)
  | ept (k off : Nat)
  | ref (nw : Bool) (x : AV)
  | ifc (t : TypeId) (x : AV)
  | fn (f : Fn) (first cap : List AV)
  | any
  | slc (sz : Nat) (xs : List AV)
  deriving Inhabited
def AV.cells : AV → List AV
  | .agg l => l
  | x => [x]
def AV.one : AV → Bool
  | .val v => v.oneCell'
  | .agg _ | .tup _ | .any => false
  | _ => true
def AV.oc : AV → Bool
  | .any => true
  | x => x.one
theorem AV.oc_of {x : AV} (h : x.one = true) : x.oc = true := by
  cases x <;> simp_all [AV.oc, AV.one]
def AV.flat : AV → Bool
  | .agg l => l.all AV.one
  | x => x.one
mutual
inductive Rel (w : World) (B : Nat → Prop) (bs : Nat) (ρ : List Value) : AV → Value → Prop
  | val (v : Value) : Rel w B bs ρ (.val v) v
  | agg {l : List AV} {cs : List Value} : RelL w B bs ρ l cs → Rel w B bs ρ (.agg l) (.agg cs.toArray)
  | tup {l : List AV} {cs : List Value} : RelL w B bs ρ l cs → Rel w B bs ρ (.tup l) (.tuple cs.toArray)
  | slE (nw : Bool) (sz : Nat) (A : Option Addr) (cap : Nat) : Rel w B bs ρ (.sl nw sz []) (.slice A 0 cap)
  | sl {nw : Bool} {sz b o cap : Nat} {x : AV} {xs : List AV} : RelRow w B bs ρ nw b sz o (x :: xs) → xs.length + 1 ≤ cap →
      Rel w B bs ρ (.sl nw sz (x :: xs)) (.slice (some ⟨b, o, none⟩) (xs.length + 1) cap)
  | own {k : Nat} {v : Value} : ρ[k]? = some v → v.oneCell' = true → Rel w B bs ρ (.own k) v
  | ptr {k off b : Nat} : ρ[k]? = some (.pointer (some ⟨b, 0, none⟩)) → Rel w B bs ρ (.ptr k off) (.pointer (some ⟨b, off, none⟩))
  | ept {k off b n c : Nat} : ρ[k]? = some (.slice (some ⟨b, 0, none⟩) n c) → Rel w B bs ρ (.ept k off) (.pointer (some ⟨b, off, none⟩))
  | ref {nw : Bool} {b o : Nat} {x : AV} : RelCells w B bs ρ nw b o x.cells → x.cells ≠ [] → Rel w B bs ρ (.ref nw x) (.pointer (some ⟨b, o, none⟩))
  | ifc {t : TypeId} {x : AV} {v : Value} : Rel w B bs ρ x v → Rel w B bs ρ (.ifc t x) (.iface t v)
  | fn {f : Fn} {l m : List AV} {cs ds : List Value} : RelL w B bs ρ l cs → RelL w B bs ρ m ds → Rel w B bs ρ (.fn f l m) (.func f cs.toArray ds.toArray)
  | any (v : Value) : Rel w B bs ρ .any v
  | slc {sz n : Nat} {A : Option Addr} {xs : List AV} : Rel w B bs ρ (.sl false sz xs) (.slice A n n) → Rel w B bs ρ (.slc sz xs) (.slice A n n)
inductive RelL (w : World) (B : Nat → Prop) (bs : Nat) (ρ : List Value) : List AV → List Value → Prop
  | nil : RelL w B bs ρ [] []
  | cons {x : AV} {v : Value} {xs : List AV} {vs : List Value} : Rel w B bs ρ x v → RelL w B bs ρ xs vs → RelL w B bs ρ (x :: xs) (v :: vs)
inductive RelCells (w : World) (B : Nat → Prop) (bs : Nat) (ρ : List Value) : Bool → Nat → Nat → List AV → Prop
  | nil {nw : Bool} {b o : Nat} : RelCells w B bs ρ nw b o []
  | cons {nw : Bool} {b o : Nat} {x : AV} {c : Value} {xs : List AV} : B b → (nw = true → bs ≤ b) → w.cell? ⟨b, o, none⟩ = some c → x.one = true →
      Rel w B bs ρ x c → RelCells w B bs ρ nw b (o + 1) xs → RelCells w B bs ρ nw b o (x :: xs)
inductive RelRow (w : World) (B : Nat → Prop) (bs : Nat) (ρ : List Value) : Bool → Nat → Nat → Nat → List AV → Prop
  | nil {nw : Bool} {b sz o : Nat} : RelRow w B bs ρ nw b sz o []
  | cons {nw : Bool} {b sz o : Nat} {x : AV} {xs : List AV} : RelCells w B bs ρ nw b o x.cells → x.cells.length = sz →
      RelRow w B bs ρ nw b sz (o + sz) xs → RelRow w B bs ρ nw b sz o (x :: xs)
end
theorem cell_of_heap {w w' : World} {b o : Nat} (h : w'.heap[b]? = w.heap[b]?) : w'.cell? ⟨b, o, none⟩ = w.cell? ⟨b, o, none⟩ := by
  simp only [World.cell?, h]
section mono
variable {w w' : World} {B B' : Nat → Prop} {bs bs' : Nat} {ρ ρ' : List Value}
variable (hB : ∀ b, B b → B' b) (hw : ∀ b, B b → w'.heap[b]? = w.heap[b]?) (hb : bs' ≤ bs) (hρ : ∀ (k : Nat) (v : Value), ρ[k]? = some v → ρ'[k]? = some v)
include hB hw hb hρ
mutual
theorem Rel.mono : ∀ {x : AV} {v : Value}, Rel w B bs ρ x v → Rel w' B' bs' ρ' x v
  | _, _, .val v => .val v
  | _, _, .agg h => .agg h.mono
  | _, _, .tup h => .tup h.mono
  | _, _, .slE nw sz A cap => .slE nw sz A cap
  | _, _, .sl h hc => .sl h.mono hc
  | _, _, .own h h1 => .own (hρ _ _ h) h1
  | _, _, .ptr h => .ptr (hρ _ _ h)
  | _, _, .ept h => .ept (hρ _ _ h)
  | _, _, .ref h hn => .ref h.mono hn
  | _, _, .ifc h => .ifc h.mono
  | _, _, .fn h h2 => .fn h.mono h2.mono
  | _, _, .any v => .any v
  | _, _, .slc h => .slc h.mono
theorem RelL.mono : ∀ {xs : List AV} {vs : List Value}, RelL w B bs ρ xs vs → RelL w' B' bs' ρ' xs vs
  | _, _, .nil => .nil
  | _, _, .cons h h2 => .cons h.mono h2.mono
theorem RelCells.mono : ∀ {nw : Bool} {b o : Nat} {xs : List AV}, RelCells w B bs ρ nw b o xs → RelCells w' B' bs' ρ' nw b o xs
  | _, _, _, _, .nil => .nil
  | _, _, _, _, .cons h1 h2 h3 h4 h5 h6 => .cons (hB _ h1) (fun e => Nat.le_trans hb (h2 e)) ((cell_of_heap (hw _ h1)).trans h3) h4 h5.mono h6.mono
theorem RelRow.mono : ∀ {nw : Bool} {b sz o : Nat} {xs : List AV}, RelRow w B bs ρ nw b sz o xs → RelRow w' B' bs' ρ' nw b sz o xs
  | _, _, _, _, _, .nil => .nil
  | _, _, _, _, _, .cons h1 h2 h3 => .cons h1.mono h2 h3.mono
end
end mono
mutual
def AV.idsOk (p : Nat → Bool) : AV → Bool
  | .val _ | .any => true
  | .agg l | .tup l => AV.idsOkL p l
  | .sl _ _ xs => AV.idsOkL p xs
  | .slc _ xs => AV.idsOkL p xs
  | .own k | .ptr k _ | .ept k _ => p k
  | .ref _ x | .ifc _ x => x.idsOk p
  | .fn _ l m => AV.idsOkL p l && AV.idsOkL p m
def AV.idsOkL (p : Nat → Bool) : List AV → Bool
  | [] => true
  | x :: xs => x.idsOk p && AV.idsOkL p xs
end
theorem AV.idsOkL_iff (p : Nat → Bool) : ∀ l : List AV, AV.idsOkL p l = true ↔ ∀ x ∈ l, x.idsOk p = true
  | [] => by simp [AV.idsOkL]
  | x :: l => by simp [AV.idsOkL, AV.idsOkL_iff p l]
theorem AV.idsOkL_cells (p : Nat → Bool) (x : AV) : AV.idsOkL p x.cells = x.idsOk p := by
  cases x <;> simp [AV.cells, AV.idsOk, AV.idsOkL]
section ids
variable {w : World} {B : Nat → Prop} {bs : Nat} {ρ ρ' : List Value} {p : Nat → Bool}
variable (hρ : ∀ (k : Nat) (v : Value), p k = true → ρ[k]? = some v → ρ'[k]? = some v)
include hρ
mutual
theorem Rel.ids : ∀ {x : AV} {v : Value}, Rel w B bs ρ x v → x.idsOk p = true → Rel w B bs ρ' x v
  | _, _, .val v, _ => .val v
  | _, _, .agg h, e => .agg (h.ids (by simpa [AV.idsOk] using e))
  | _, _, .tup h, e => .tup (h.ids (by simpa [AV.idsOk] using e))
  | _, _, .slE nw sz A cap, _ => .slE nw sz A cap
  | _, _, .sl h hc, e => .sl (h.ids (by simpa [AV.idsOk] using e)) hc
  | _, _, .own h h1, e => .own (hρ _ _ (by simpa [AV.idsOk] using e) h) h1
  | _, _, .ptr h, e => .ptr (hρ _ _ (by simpa [AV.idsOk] using e) h)
  | _, _, .ept h, e => .ept (hρ _ _ (by simpa [AV.idsOk] using e) h)
  | _, _, .ref (x := x) h hn, e => .ref (h.ids (by rw [AV.idsOkL_cells]; simpa [AV.idsOk] using e)) hn
  | _, _, .ifc h, e => .ifc (h.ids (by simpa [AV.idsOk] using e))
  | _, _, .fn h h2, e => .fn (h.ids (by simp [AV.idsOk] at e; exact e.1)) (h2.ids (by simp [AV.idsOk] at e; exact e.2))
  | _, _, .any v, _ => .any v
  | _, _, .slc h, e => .slc (h.ids (by simpa [AV.idsOk] using e))
theorem RelL.ids : ∀ {xs : List AV} {vs : List Value}, RelL w B bs ρ xs vs → AV.idsOkL p xs = true → RelL w B bs ρ' xs vs
  | _, _, .nil, _ => .nil
  | _, _, .cons h h2, e => .cons (h.ids (by simp [AV.idsOkL] at e; exact e.1)) (h2.ids (by simp [AV.idsOkL] at e; exact e.2))
theorem RelCells.ids : ∀ {nw : Bool} {b o : Nat} {xs : List AV}, RelCells w B bs ρ nw b o xs → AV.idsOkL p xs = true → RelCells w B bs ρ' nw b o xs
  | _, _, _, _, .nil, _ => .nil
  | _, _, _, _, .cons h1 h2 h3 h4 h5 h6, e => .cons h1 h2 h3 h4 (h5.ids (by simp [AV.idsOkL] at e; exact e.1)) (h6.ids (by simp [AV.idsOkL] at e; exact e.2))
theorem RelRow.ids : ∀ {nw : Bool} {b sz o : Nat} {xs : List AV}, RelRow w B bs ρ nw b sz o xs → AV.idsOkL p xs = true → RelRow w B bs ρ' nw b sz o xs
  | _, _, _, _, _, .nil, _ => .nil
  | _, _, _, _, _, .cons (x := x) h1 h2 h3, e => .cons (h1.ids (by rw [AV.idsOkL_cells]; simp [AV.idsOkL] at e; exact e.1)) h2 (h3.ids (by simp [AV.idsOkL] at e; exact e.2))
end
end ids
theorem oneCell_iff (v : Value) : v.oneCell' = true → v.cells = #[v] := by
  cases v <;> simp [Value.oneCell', Value.cells]
section facts
variable {w : World} {B : Nat → Prop} {bs : Nat} {ρ : List Value}
theorem Rel.one {x : AV} {v : Value} (h : Rel w B bs ρ x v) (h1 : x.one = true) : v.oneCell' = true := by
  cases h <;> simp_all [AV.one, Value.oneCell']
theorem RelL.length_eq : ∀ {xs : List AV} {vs : List Value}, RelL w B bs ρ xs vs → xs.length = vs.length
  | _, _, .nil => rfl
  | _, _, .cons _ h => by simp [RelL.length_eq h]
theorem RelL.append : ∀ {xs ys : List AV} {vs us : List Value}, RelL w B bs ρ xs vs → RelL w B bs ρ ys us → RelL w B bs ρ (xs ++ ys) (vs ++ us)
  | _, _, _, _, .nil, k => k
  | _, _, _, _, .cons h h2, k => .cons h (RelL.append h2 k)
theorem RelL.get : ∀ {xs : List AV} {vs : List Value}, RelL w B bs ρ xs vs → ∀ {j : Nat} {x : AV}, xs[j]? = some x → ∃ v, vs[j]? = some v ∧ Rel w B bs ρ x v
  | _, _, .nil, j, x, h => by simp at h
  | _, _, .cons h h2, 0, x, e => by simp at e; subst e; exact ⟨_, rfl, h⟩
  | _, _, .cons h h2, j + 1, x, e => by simpa using RelL.get h2 (by simpa using e)
theorem RelL.take : ∀ {xs : List AV} {vs : List Value}, RelL w B bs ρ xs vs → ∀ n, RelL w B bs ρ (xs.take n) (vs.take n)
  | _, _, .nil, n => by simp; exact .nil
  | _, _, .cons h h2, 0 => .nil
  | _, _, .cons h h2, n + 1 => .cons h (RelL.take h2 n)
theorem RelL.drop : ∀ {xs : List AV} {vs : List Value}, RelL w B bs ρ xs vs → ∀ n, RelL w B bs ρ (xs.drop n) (vs.drop n)
  | _, _, .nil, n => by simp; exact .nil
  | _, _, .cons h h2, 0 => .cons h h2
  | _, _, .cons h h2, n + 1 => RelL.drop h2 n
theorem RelL.set : ∀ {xs : List AV} {vs : List Value}, RelL w B bs ρ xs vs → ∀ (n : Nat) {x : AV} {v : Value}, Rel w B bs ρ x v → RelL w B bs ρ (xs.set n x) (vs.set n v)
  | _, _, .nil, n, _, _, _ => by simp; exact .nil
  | _, _, .cons h h2, 0, _, _, k => .cons k h2
  | _, _, .cons h h2, n + 1, _, _, k => .cons h (RelL.set h2 n k)
theorem RelL.ones : ∀ {xs : List AV} {vs : List Value}, RelL w B bs ρ xs vs → (∀ x ∈ xs, x.one = true) → ∀ v ∈ vs, v.oneCell' = true
  | _, _, .nil, _, v, h => by simp at h
  | _, _, .cons h h2, e, v, hv => by
    cases hv with
    | head => exact h.one (e _ (by simp))
    | tail _ hv => exact RelL.ones h2 (fun x hx => e x (by simp [hx])) v hv
theorem AV.flat_one {x : AV} (h : x.flat = true) (hn : ∀ l, x ≠ .agg l) : x.one = true ∧ x.cells = [x] := by
  cases x <;> simp_all [AV.flat, AV.cells, AV.one]
theorem Rel.toCells {x : AV} {v : Value} (h : Rel w B bs ρ x v) (hf : x.flat = true) : RelL w B bs ρ x.cells v.cells.toList ∧ ∀ c ∈ x.cells, c.one = true := by
  by_cases ha : ∃ l, x = .agg l
  · obtain ⟨l, rfl⟩ := ha
    cases h with | agg h => exact ⟨by simpa [AV.cells, Value.cells] using h, by simpa [AV.flat, AV.cells] using hf⟩
  · obtain ⟨h1, h2⟩ := AV.flat_one hf (fun l e => ha ⟨l, e⟩)
    rw [oneCell_iff v (h.one h1), h2]
    exact ⟨.cons h .nil, by simpa using h1⟩
theorem RelCells.get : ∀ {nw : Bool} {b o : Nat} {xs : List AV}, RelCells w B bs ρ nw b o xs → ∃ vs, RelL w B bs ρ xs vs ∧ (∀ c ∈ xs, c.one = true) ∧ ∀ j v, vs[j]? = some v → w.cell? ⟨b, o + j, none⟩ = some v
  | _, _, _, _, .nil => ⟨[], .nil, by simp, by simp⟩
  | _, b, o, _, .cons h1 h2 h3 h4 h5 h6 => by
    obtain ⟨vs, k1, k2, k3⟩ := RelCells.get h6
    refine ⟨_ :: vs, .cons h5 k1, by simpa [h4] using k2, ?_⟩
    intro j v hj
    cases j with
    | zero => simp at hj; subst hj; simpa using h3
    | succ j => have := k3 j v (by simpa using hj); rw [show o + (j + 1) = o + 1 + j by omega]; exact this
theorem RelCells.drop : ∀ {nw : Bool} {b o : Nat} {xs : List AV}, RelCells w B bs ρ nw b o xs → ∀ n, RelCells w B bs ρ nw b (o + n) (xs.drop n)
  | _, _, _, _, .nil, n => by simp; exact .nil
  | _, _, _, _, h@(.cons ..), 0 => h
  | _, b, o, _, .cons h1 h2 h3 h4 h5 h6, n + 1 => by
    have := RelCells.drop h6 n
    rw [show o + (n + 1) = o + 1 + n by omega]
    exact this
theorem RelCells.take : ∀ {nw : Bool} {b o : Nat} {xs : List AV}, RelCells w B bs ρ nw b o xs → ∀ n, RelCells w B bs ρ nw b o (xs.take n)
  | _, _, _, _, .nil, n => by simp; exact .nil
  | _, _, _, _, .cons .., 0 => .nil
  | _, _, _, _, .cons h1 h2 h3 h4 h5 h6, n + 1 => .cons h1 h2 h3 h4 h5 (RelCells.take h6 n)
theorem RelRow.at : ∀ {nw : Bool} {b sz o : Nat} {xs : List AV}, RelRow w B bs ρ nw b sz o xs → ∀ {j : Nat} {x : AV}, xs[j]? = some x → RelCells w B bs ρ nw b (o + j * sz) x.cells ∧ x.cells.length = sz
  | _, _, _, _, _, .nil, j, x, h => by simp at h
  | _, _, sz, o, _, .cons h1 h2 h3, 0, x, e => by simp at e; subst e; exact ⟨by simpa using h1, h2⟩
  | _, _, sz, o, _, .cons h1 h2 h3, j + 1, x, e => by
    have := RelRow.at h3 (j := j) (x := x) (by simpa using e)
    rw [show o + (j + 1) * sz = o + sz + j * sz by rw [Nat.add_mul]; omega]
    exact this
theorem RelRow.drop : ∀ {nw : Bool} {b sz o : Nat} {xs : List AV}, RelRow w B bs ρ nw b sz o xs → ∀ n, RelRow w B bs ρ nw b sz (o + n * sz) (xs.drop n)
  | _, _, _, _, _, .nil, n => by simp; exact .nil
  | _, _, _, _, _, h@(.cons ..), 0 => by simpa using h
  | _, b, sz, o, _, .cons h1 h2 h3, n + 1 => by
    have := RelRow.drop h3 n
    rw [show o + (n + 1) * sz = o + sz + n * sz by rw [Nat.add_mul]; omega]
    exact this
theorem RelRow.take : ∀ {nw : Bool} {b sz o : Nat} {xs : List AV}, RelRow w B bs ρ nw b sz o xs → ∀ n, RelRow w B bs ρ nw b sz o (xs.take n)
  | _, _, _, _, _, .nil, n => by simp; exact .nil
  | _, _, _, _, _, .cons .., 0 => .nil
  | _, _, _, _, _, .cons h1 h2 h3, n + 1 => .cons h1 h2 (RelRow.take h3 n)
theorem RelCells.append {nw : Bool} {b : Nat} {ys : List AV} : ∀ {l : List AV} {o : Nat}, RelCells w B bs ρ nw b o l → RelCells w B bs ρ nw b (o + l.length) ys → RelCells w B bs ρ nw b o (l ++ ys)
  | [], o, _, h => by simpa using h
  | y :: l, o, .cons a1 a2 a3 a4 a5 a6, h' => .cons a1 a2 a3 a4 a5 (RelCells.append a6 (by rw [show o + 1 + l.length = o + (y :: l).length by simp; omega]; exact h'))
theorem RelRow.flat : ∀ {nw : Bool} {b sz o : Nat} {xs : List AV}, RelRow w B bs ρ nw b sz o xs → RelCells w B bs ρ nw b o (xs.flatMap AV.cells) ∧ (xs.flatMap AV.cells).length = xs.length * sz
  | _, _, _, _, _, .nil => ⟨.nil, by simp⟩
  | _, b, sz, o, _, .cons (x := x) (xs := xs) h1 h2 h3 => by
    obtain ⟨k1, k2⟩ := RelRow.flat h3
    refine ⟨?_, ?_⟩
    · rw [List.flatMap_cons]
      exact RelCells.append h1 (by rw [h2]; exact k1)
    · rw [List.flatMap_cons, List.length_append, h2, k2, List.length_cons, Nat.add_mul]
      omega
theorem RelCells.mk {nw : Bool} {b : Nat} (hB : B b) (hn : nw = true → bs ≤ b) : ∀ {xs : List AV} {vs : List Value} {o : Nat}, RelL w B bs ρ xs vs → (∀ c ∈ xs, c.one = true) →
    (∀ j v, vs[j]? = some v → w.cell? ⟨b, o + j, none⟩ = some v) → RelCells w B bs ρ nw b o xs
  | _, _, _, .nil, _, _ => .nil
  | _, _, o, .cons (x := x) (v := v) h h2, h1, hc => by
    refine .cons hB hn (by simpa using hc 0 v rfl) (h1 _ (by simp)) h (RelCells.mk hB hn h2 (fun c hc' => h1 c (by simp [hc'])) ?_)
    intro j u hj
    have := hc (j + 1) u (by simpa using hj)
    rw [show o + 1 + j = o + (j + 1) by omega]
    exact this
theorem RelRow.mk {nw : Bool} {b sz : Nat} (hB : B b) (hn : nw = true → bs ≤ b) : ∀ {xs : List AV} {vs : List Value} {o : Nat}, RelL w B bs ρ (xs.flatMap AV.cells) vs →
    (∀ x ∈ xs, x.cells.length = sz ∧ ∀ c ∈ x.cells, c.one = true) → (∀ j v, vs[j]? = some v → w.cell? ⟨b, o + j, none⟩ = some v) → RelRow w B bs ρ nw b sz o xs
  | [], _, _, _, _, _ => .nil
  | x :: xs, vs, o, h, h1, hc => by
    obtain ⟨l1, o1⟩ := h1 x (by simp)
    simp only [List.flatMap_cons] at h
    have ht := h.take x.cells.length
    have hd := h.drop x.cells.length
    simp only [List.take_left', List.drop_left'] at ht hd
    refine .cons (RelCells.mk hB hn ht o1 ?_) l1 (RelRow.mk hB hn hd (fun y hy => h1 y (by simp [hy])) ?_)
    · intro j v hj
      rw [List.getElem?_take] at hj
      split at hj
      · exact hc j v hj
      · simp at hj
    · intro j v hj
      rw [List.getElem?_drop] at hj
      have := hc _ v hj
      rw [show o + sz + j = o + (x.cells.length + j) by omega]
      exact this
end facts
set_option linter.unusedVariables false
inductive Ob where
  | box (T : TypeId) (cs : List AV)
  | row (T : TypeId) (sz : Nat) (xs : List AV)
  | mp (es : List (Value × Value))
  | gone
  deriving Inhabited
def Ob.live : Ob → Bool
  | .gone => false
  | _ => true
def blk : Value → Option Nat
  | .pointer (some a) => some a.block
  | .slice (some a) _ _ => some a.block
  | .map r => r
  | _ => none
def isPtr : Value → Bool
  | .pointer _ => true
  | _ => false
def thaw (fz : Nat × Nat) (n : Nat) : Prop := fz.2 ≤ fz.1 ∨ n ≤ fz.1
def RO (w : World) (B : Nat → Prop) (bs : Nat) (ρ : List Value) (k : Nat) : Ob → Prop
  | .box T cs => ∃ b vs fz, ρ[k]? = some (.pointer (some ⟨b, 0, none⟩)) ∧ w.heap[b]? = some (.cells (List.toArray vs) T fz) ∧ thaw fz vs.length ∧
      RelL w B bs ρ cs vs ∧ ∀ c ∈ cs, c.oc = true
  | .row T sz xs => (∀ x ∈ xs, x.cells.length = sz ∧ ∀ c ∈ x.cells, c.one = true) ∧ ((xs = [] ∧ ρ[k]? = some (.slice none 0 0)) ∨
      ∃ b cap vs ws fz, ρ[k]? = some (.slice (some ⟨b, 0, none⟩) xs.length cap) ∧ w.heap[b]? = some (.cells (List.toArray (vs ++ ws)) T fz) ∧
        (vs ++ ws).length = cap * sz ∧ xs.length ≤ cap ∧ thaw fz (vs ++ ws).length ∧ RelL w B bs ρ (xs.flatMap AV.cells) vs)
  | .mp es => ∃ b ms c, ρ[k]? = some (.map (some b)) ∧ w.heap[b]? = some (.map ms c) ∧ ms.toList.map (fun e => (e.key, e.val)) = es
  | .gone => True
structure Env where
  bs : Nat
  w0 : World
  B0 : Nat → Prop
  ρ0 : List Value
  pp : List Value
  rnd : Option Nat
  yl : Option (Nat × List (List AV))
  J : List (List AV) → Bool → (Nat → Prop) → (Nat → Prop) → World → Prop
@[reducible] def E0 (ep : Nat) (w : World) (B : Nat → Prop) (ρ : List Value) : Env := ⟨ep, w, B, ρ, [], none, none, fun _ _ _ _ _ => True⟩
structure Chg (D B : Nat → Prop) (w : World) (D' B' : Nat → Prop) (w' : World) : Prop where
  os : w'.os = w.os
  tape : w'.tape = w.tape
  output : w'.output = w.output
  size : w.heap.size ≤ w'.heap.size
  block : ∀ b, b < w.heap.size → ¬ D b → w'.heap[b]? = w.heap[b]?
  dsub : ∀ b, D' b → D b ∨ w.heap.size ≤ b
  bsub : ∀ b, B b → B' b
  bnew : ∀ b, B' b → B b ∨ D b ∨ w.heap.size ≤ b
def Bd (D B : Nat → Prop) (w : World) : Prop := (∀ b, B b → b < w.heap.size) ∧ ∀ b, D b → b < w.heap.size ∧ ¬ B b
def Env.Stab (E : Env) : Prop := ∀ tr go D B w D' B' w', E.J tr go D B w → Chg D B w D' B' w' → Bd D' B' w' → E.J tr go D' B' w'
def Dof (ob : List Ob) (ρ : List Value) (b : Nat) : Prop := ∃ (k : Nat) (o : Ob) (v : Value), ob[k]? = some o ∧ o.live = true ∧ ρ[k]? = some v ∧ blk v = some b
def mark (b : Nat) : Deferred := { target := .collected b, args := #[] }
structure JJ (E : Env) (tr : List (List AV)) (go : Bool) (df : List Nat) (D B : Nat → Prop) (w : World) : Prop where
  j : E.J tr go (fun b => D b ∨ b ∈ df) B w
  stab : E.Stab
  nodup : df.Nodup
  mks : ∀ b ∈ df, w.heap[b]? = some (.deferred (some [])) ∧ ¬ D b ∧ ¬ B b ∧ E.w0.heap.size ≤ b
theorem JJ.chg {E : Env} {tr : List (List AV)} {go : Bool} {df : List Nat} {D B D' B' : Nat → Prop} {w w' : World} (h : JJ E tr go df D B w) (c : Chg D B w D' B' w') (hb : Bd D' B' w') : JJ E tr go df D' B' w' := by
  have mks : ∀ b ∈ df, w'.heap[b]? = some (.deferred (some [])) ∧ ¬ D' b ∧ ¬ B' b ∧ E.w0.heap.size ≤ b := by
    intro b hb'
    obtain ⟨h1, h2, h3, h4⟩ := h.mks b hb'
    have hlt : b < w.heap.size := by
      rcases Nat.lt_or_ge b w.heap.size with h' | h'
      · exact h'
      · simp [Array.getElem?_eq_none h'] at h1
    refine ⟨(c.block b hlt h2).trans h1, fun hd => ?_, fun hB => ?_, h4⟩
    · rcases c.dsub b hd with h' | h'
      · exact h2 h'
      · omega
    · rcases c.bnew b hB with h' | h' | h'
      · exact h3 h'
      · exact h2 h'
      · omega
  have lt : ∀ {b : Nat}, w'.heap[b]? = some (.deferred (some [])) → b < w'.heap.size := fun {b} h1 => by
    rcases Nat.lt_or_ge b w'.heap.size with h' | h'
    · exact h'
    · simp [Array.getElem?_eq_none h'] at h1
  refine ⟨h.stab _ _ _ _ _ _ _ _ h.j ⟨c.os, c.tape, c.output, c.size, fun b h1 h2 => c.block b h1 fun h => h2 (.inl h), fun b h => h.elim (fun h => (c.dsub b h).elim (fun h => .inl (.inl h)) .inr) (fun h => .inl (.inr h)), c.bsub, fun b h => (c.bnew b h).elim .inl fun h => h.elim (fun h => .inr (.inl (.inl h))) fun h => .inr (.inr h)⟩ ⟨hb.1, fun b h => h.elim (fun h => hb.2 b h) fun h => ⟨lt (mks b h).1, (mks b h).2.2.1⟩⟩, h.stab, h.nodup, mks⟩
def Env.X (E : Env) (b : Nat) : Prop := ∃ v ∈ E.ρ0, blk v = some b
def Env.at (E : Env) (k b : Nat) : Prop := ∃ v, E.ρ0[k]? = some v ∧ blk v = some b
theorem Env.at.x {E : Env} {k b : Nat} (h : E.at k b) : E.X b := by obtain ⟨v, h1, h2⟩ := h; exact ⟨v, List.mem_of_getElem? h1, h2⟩
structure RW (E : Env) (ob : List Ob) (ρ : List Value) (B : Nat → Prop) (w : World) : Prop where
  ep : E.bs ≤ E.w0.heap.size
  os : w.os = E.w0.os
  tape : w.tape = E.w0.tape
  output : w.output = E.w0.output
  size : E.w0.heap.size ≤ w.heap.size
  block : ∀ k, k < E.w0.heap.size → ¬ E.X k ∧ (E.yl.isSome = true → E.B0 k) → w.heap[k]? = E.w0.heap[k]?
  pre : ∀ (k : Nat) (v : Value), (E.ρ0[k]? = some v ∨ E.pp[k]? = some v) → isPtr v = true → ρ[k]? = some v
  bsub : ∀ b, E.B0 b → B b
  bnew : ∀ b, B b → E.B0 b ∨ E.w0.heap.size ≤ b
  blt : ∀ b, B b → b < w.heap.size
  len : ρ.length = ob.length
  obs : ∀ (k : Nat) (o : Ob), ob[k]? = some o → RO w B E.bs ρ k o
  dis : ∀ (i j : Nat) (o o' : Ob) (u v : Value) (b : Nat), i ≠ j → ob[i]? = some o → o.live = true → ob[j]? = some o' → o'.live = true → ρ[i]? = some u → ρ[j]? = some v → blk u = some b → blk v ≠ some b
  prv : ∀ (k : Nat) (o : Ob) (v : Value) (b : Nat), ob[k]? = some o → o.live = true → ρ[k]? = some v → blk v = some b → ¬ B b ∧ b < w.heap.size ∧ ((E.w0.heap.size ≤ b) ∨ E.at k b)
structure AS where
  n : Nat
  m : Nat
  fr : List (Nat × AV)
  ob : List Ob
  df : List Nat := []
  yl : Option (Nat × List (List AV)) := none
  tr : List (List AV) := []
  go : Bool := true
def lk : List (Nat × AV) → Nat → AV
  | [], _ => .any
  | (k, a) :: r, t => if k = t then a else lk r t
def del : List (Nat × AV) → Nat → List (Nat × AV)
  | [], _ => []
  | (k, a) :: r, t => if k = t then del r t else (k, a) :: del r t
def AS.put (s : AS) (d : Option Tmp) (x : AV) : AS :=
  match d with
  | none => s
  | some t => { s with fr := if t < s.n then (t, x) :: del s.fr t else del s.fr t }
def AS.ev (s : AS) : Operand → AV
  | .tmp t => lk s.fr t
  | .const (.agg cs) => .agg (cs.toList.map AV.val)
  | .const v => .val v
  | .func f => .fn (.func f) [] []
  | .global _ => .any
def RF (w : World) (B : Nat → Prop) (bs : Nat) (ρ : List Value) (tmps : Array Value) (fr : List (Nat × AV)) : Prop :=
  ∀ t x, (t, x) ∈ fr → t < tmps.size ∧ Rel w B bs ρ x (tmps.getD t undef)
theorem RW.le {E : Env} {ob : List Ob} {ρ : List Value} {B : Nat → Prop} {w : World} (h : RW E ob ρ B w) : E.bs ≤ w.heap.size := Nat.le_trans h.ep h.size
theorem RW.bd {E : Env} {ob : List Ob} {ρ : List Value} {B : Nat → Prop} {w : World} (h : RW E ob ρ B w) : Bd (Dof ob ρ) B w :=
  ⟨h.blt, fun b ⟨k, o, v, h1, h2, h3, h4⟩ => ⟨(h.prv k o v b h1 h2 h3 h4).2.1, (h.prv k o v b h1 h2 h3 h4).1⟩⟩
structure RS (E : Env) (s : AS) (ρ : List Value) (B : Nat → Prop) (a : Act) (w : World) : Prop where
  rw_ : RW E s.ob ρ B w
  m : E.ρ0.length ≤ s.m ∧ E.pp.length ≤ s.m ∧ E.yl = s.yl
  n : a.tmps.size = s.n
  df : a.defers = s.df.map mark
  jj : JJ E s.tr s.go s.df (Dof s.ob ρ) B w
  rf : RF w B E.bs ρ a.tmps s.fr
theorem lk_mem {fr : List (Nat × AV)} {t : Nat} {x : AV} (h : lk fr t = x) : x = .any ∨ (t, x) ∈ fr := by
  induction fr with
  | nil => exact .inl h.symm
  | cons p r ih =>
    obtain ⟨k, a⟩ := p
    simp only [lk] at h
    split at h
    · rename_i e; subst e; subst h; exact .inr (by simp)
    · rcases ih h with h' | h'
      · exact .inl h'
      · exact .inr (by simp [h'])
theorem del_mem {fr : List (Nat × AV)} {t k : Nat} {x : AV} (h : (k, x) ∈ del fr t) : (k, x) ∈ fr ∧ k ≠ t := by
  induction fr with
  | nil => simp [del] at h
  | cons p r ih =>
    obtain ⟨k', a⟩ := p
    simp only [del] at h
    split at h
    · have := ih h; exact ⟨by simp [this.1], this.2⟩
    · rename_i hne
      cases h with
      | head => exact ⟨by simp, hne⟩
      | tail _ h => have := ih h; exact ⟨by simp [this.1], this.2⟩
theorem RS.get {E : Env} {s : AS} {ρ : List Value} {B : Nat → Prop} {a : Act} {w : World} (h : RS E s ρ B a w) (t : Nat) :
    Rel w B E.bs ρ (lk s.fr t) (a.tmps.getD t undef) := by
  rcases lk_mem (rfl : lk s.fr t = lk s.fr t) with e | e
  · rw [e]; exact .any _
  · exact (h.rf t _ e).2
theorem RelL.valsC {w : World} {B : Nat → Prop} {bs : Nat} {ρ : List Value} : ∀ (l : List Value), RelL w B bs ρ (l.map AV.val) l
  | [] => .nil
  | v :: l => .cons (.val v) (RelL.valsC l)
theorem RS.ev {E : Env} {s : AS} {ρ : List Value} {B : Nat → Prop} {a : Act} {w : World} (h : RS E s ρ B a w) (x : Operand) :
    Rel w B E.bs ρ (s.ev x) (a.eval x) := by
  cases x with
  | tmp t => exact h.get t
  | const v =>
    cases v with
    | agg cs => exact (Rel.agg (RelL.valsC cs.toList) : Rel w B E.bs ρ (.agg (cs.toList.map AV.val)) (.agg cs.toList.toArray))
    | _ => exact .val _
  | func f => exact .fn .nil .nil
  | global g => exact .any _
theorem RF.put {w : World} {B : Nat → Prop} {bs : Nat} {ρ : List Value} {tmps : Array Value} {fr : List (Nat × AV)} (h : RF w B bs ρ tmps fr) {t : Nat} {x : AV} {v : Value}
    (hv : Rel w B bs ρ x v) : RF w B bs ρ (tmps.setIfInBounds t v) (if t < tmps.size then (t, x) :: del fr t else del fr t) := by
  have hd : ∀ k y, (k, y) ∈ del fr t → k < (tmps.setIfInBounds t v).size ∧ Rel w B bs ρ y ((tmps.setIfInBounds t v).getD k undef) := by
    intro k y hm
    obtain ⟨hm, hne⟩ := del_mem hm
    obtain ⟨h1, h2⟩ := h k y hm
    refine ⟨by simpa using h1, ?_⟩
    have : (tmps.setIfInBounds t v).getD k undef = tmps.getD k undef := by
      simp [Array.getD_eq_getD_getElem?, Array.getElem?_setIfInBounds_ne (Ne.symm hne)]
    rw [this]; exact h2
  intro k y hm
  split at hm
  · rename_i hlt
    cases hm with
    | head =>
      refine ⟨by simpa using hlt, ?_⟩
      have : (tmps.setIfInBounds t v).getD t undef = v := by simp [Array.getD_eq_getD_getElem?, hlt]
      rw [this]; exact hv
    | tail _ hm => exact hd k y hm
  · exact hd k y hm
theorem RS.put {E : Env} {s : AS} {ρ : List Value} {B : Nat → Prop} {a : Act} {w : World} (h : RS E s ρ B a w) (d : Option Tmp) {x : AV} {v : Value}
    (hv : Rel w B E.bs ρ x v) : RS E (s.put d x) ρ B (a.put d v) w := by
  cases d with
  | none => exact h
  | some t =>
    refine ⟨h.rw_, h.m, by simpa [Act.put, AS.put] using h.n, h.df, h.jj, ?_⟩
    have := h.rf.put (t := t) hv
    rw [h.n] at this
    exact this
structure Same (w w' : World) : Prop where
  os : w'.os = w.os
  tape : w'.tape = w.tape
  output : w'.output = w.output
  size : w.heap.size ≤ w'.heap.size
  block : ∀ k, k < w.heap.size → w'.heap[k]? = w.heap[k]?
theorem Same.chg {w w' : World} {D B : Nat → Prop} (h : Same w w') : Chg D B w D B w' :=
  ⟨h.os, h.tape, h.output, h.size, fun b hb _ => h.block b hb, fun _ h => .inl h, fun _ h => h, fun _ h => .inl h⟩
theorem RO.same {w w' : World} {B : Nat → Prop} {bs : Nat} {ρ : List Value} {k : Nat} {o : Ob} (hs : Same w w') (hB : ∀ b, B b → b < w.heap.size)
    (h : RO w B bs ρ k o) : RO w' B bs ρ k o := by
  have hw : ∀ b, B b → w'.heap[b]? = w.heap[b]? := fun b hb => hs.block b (hB b hb)
  have hlt : ∀ {b : Nat} {o : Obj}, w.heap[b]? = some o → w'.heap[b]? = some o := fun {b o} h => by
    rw [hs.block b (by rcases Nat.lt_or_ge b w.heap.size with h' | h'; exact h'; simp [Array.getElem?_eq_none h'] at h)]; exact h
  cases o with
  | box T cs =>
    obtain ⟨b, vs, fz, h1, h2, h3, h4, h5⟩ := h
    exact ⟨b, vs, fz, h1, hlt h2, h3, h4.mono (fun _ h => h) hw (Nat.le_refl _) (fun _ _ h => h), h5⟩
  | row T sz xs =>
    obtain ⟨h0, h⟩ := h
    refine ⟨h0, ?_⟩
    rcases h with h | ⟨b, cap, vs, ws, fz, h1, h2, h3, h4, h5, h6⟩
    · exact .inl h
    · exact .inr ⟨b, cap, vs, ws, fz, h1, hlt h2, h3, h4, h5, h6.mono (fun _ h => h) hw (Nat.le_refl _) (fun _ _ h => h)⟩
  | mp es =>
    obtain ⟨b, ms, c, h1, h2, h3⟩ := h
    exact ⟨b, ms, c, h1, hlt h2, h3⟩
  | gone => trivial
theorem RS.same {E : Env} {s : AS} {ρ : List Value} {B : Nat → Prop} {a : Act} {w w' : World} (h : RS E s ρ B a w) (hs : Same w w') : RS E s ρ B a w' := by
  have hw : ∀ b, B b → w'.heap[b]? = w.heap[b]? := fun b hb => hs.block b (h.rw_.blt b hb)
  have r := h.rw_
  have r' : RW E s.ob ρ B w' :=
        { ep := r.ep, os := hs.os.trans r.os, tape := hs.tape.trans r.tape, output := hs.output.trans r.output, size := Nat.le_trans r.size hs.size,
          block := fun k h1 h2 => (hs.block k (Nat.lt_of_lt_of_le h1 r.size)).trans (r.block k h1 h2), pre := r.pre, bsub := r.bsub, bnew := r.bnew,
          blt := fun b hb => Nat.lt_of_lt_of_le (r.blt b hb) hs.size, len := r.len, obs := fun k o hk => (r.obs k o hk).same hs r.blt, dis := r.dis,
          prv := fun k o v b h1 h2 h3 h4 => by obtain ⟨a1, a2, a3⟩ := r.prv k o v b h1 h2 h3 h4; exact ⟨a1, Nat.lt_of_lt_of_le a2 hs.size, a3⟩ }
  exact ⟨r', h.m, h.n, h.df, h.jj.chg hs.chg r'.bd, fun t x hm => ⟨(h.rf t x hm).1, (h.rf t x hm).2.mono (fun _ h => h) hw (Nat.le_refl _) (fun _ _ h => h)⟩⟩
abbrev FR (r : Option Nat) : Fence := { Fence.wide with round := r }
theorem calls_FR {r : Option Nat} {n : Nat} {P : Program} {f : FuncId} {args : Array Value} {w : World} {R : Ending → World → Prop} : CallsIn (FR r) n P f args w R ↔ Calls P f args w R :=
  (Iff.rfl : CallsIn (FR r) n P f args w R ↔ CallsIn Fence.wide n P f args w R).trans callsIn_wide
def owp (r : Option Nat) (P : Program) (o : Oper) (a : Act) (w : World) (K : Act → World → Prop) (Q : Exit → Act → World → Prop) : Prop := o.wpIn (FR r) 0 P a w K Q
def lwp (r : Option Nat) (P : Program) (ops : Array Oper) (Q : Exit → Act → World → Prop) : List Oper → Act → World → Prop
  | [], a, w => Q .normal a w
  | o :: rest, a, w => if Region.wanted o (yielded ops a.tmps) then owp r P o a w (lwp r P ops Q rest) Q else lwp r P ops Q rest (a.put o.dst undef) w
theorem lwp_ops {r : Option Nat} {P : Program} {ops : Array Oper} {Q : Exit → Act → World → Prop} : ∀ (l : List Oper) (k : Nat) (a : Act) (w : World), (∀ j, l[j]? = ops[k + j]?) → lwp r P ops Q l a w →
    wpOpsIn (FR r) 0 P ops Q (List.range' k l.length) a w
  | [], k, a, w, _, h => h
  | o :: l, k, a, w, hl, h => by
    have h0 : ops[k]? = some o := by simpa using (hl 0).symm
    simp only [List.length_cons, List.range'_succ, wpOpsIn, h0]
    simp only [lwp] at h
    have ih := fun a w => lwp_ops (r := r) (P := P) (ops := ops) (Q := Q) l (k + 1) a w (fun j => by have := hl (j + 1); simpa [Nat.add_assoc, Nat.add_comm 1 j] using this)
    split
    · rename_i hw
      rw [if_pos hw] at h
      exact Oper.wpIn_mono (fun a w h => ih a w h) h
    · rename_i hw
      rw [if_neg hw] at h
      exact ⟨fun _ _ => trivial, ih _ _ h⟩
theorem region_lwp {r : Option Nat} {P : Program} {id : Nat} {ops : Array Oper} {Q : Exit → Act → World → Prop} {a : Act} {w : World} (h : lwp r P ops Q ops.toList a w) : (Code.region id ops false).wpIn (FR r) 0 P Q a w :=
  wpIn_region (by rw [List.range_eq_range', ← Array.length_toList]; exact lwp_ops ops.toList 0 a w (by simp) h)
theorem owp_val {r : Option Nat} {P : Program} {o : Oper} {a : Act} {w w' : World} {v : Value} {K : Act → World → Prop} {Q : Exit → Act → World → Prop} (hr : (execOp a.eval o).run P w = .ok (.value v) w') (h : K (a.put o.dst v) w')
    (hd : ∀ c, o.op ≠ .defer c := by intro c h; simp_all) : owp r P o a w K Q := by
  refine ⟨fun _ _ => trivial, ?_⟩
  rw [Oper.semAt_eq _ _ _ hd, hr]
  exact h
theorem nodefer_of_value {P : Program} {o : Oper} {ρ : Operand → Value} {w w' : World} {v : Value} (hr : (execOp ρ o).run P w = .ok (.value v) w') : ∀ c, o.op ≠ .defer c := by
  intro c h
  simp only [execOp, h] at hr
  revert hr
  simp only [Sem.run_bind]
  cases hq : (resolve ρ c o.type).run P w with
  | ok d w2 => simp [Result.andThen]
  | halt x w2 => simp [Result.andThen]
theorem owp_value {r : Option Nat} {P : Program} {o : Oper} {a : Act} {w w' : World} {v : Value} {K : Act → World → Prop} {Q : Exit → Act → World → Prop} (hr : (execOp a.eval o).run P w = .ok (.value v) w') (h : K (a.put o.dst v) w') :
    owp r P o a w K Q := owp_val hr h (nodefer_of_value hr)
theorem owp_skip {r : Option Nat} {P : Program} {o : Oper} {a : Act} {w w' : World} {K : Act → World → Prop} {Q : Exit → Act → World → Prop} (hr : (execOp a.eval o).run P w = .ok .skip w') (hd : ∀ c, o.op ≠ .defer c) (h : K (a.put o.dst undef) w') :
    owp r P o a w K Q := by
  refine ⟨fun _ _ => trivial, ?_⟩
  rw [Oper.semAt_eq _ _ _ hd, hr]
  exact h
theorem nodefer_of_enter {P : Program} {o : Oper} {ρ : Operand → Value} {w w' : World} {f : FuncId} {args : Array Value} (hr : (execOp ρ o).run P w = .ok (.enter f args) w') : ∀ c, o.op ≠ .defer c := by
  intro c h
  simp only [execOp, h] at hr
  revert hr
  simp only [Sem.run_bind]
  cases hq : (resolve ρ c o.type).run P w with
  | ok d w2 => simp [Result.andThen]
  | halt x w2 => simp [Result.andThen]
theorem owp_enter {r : Option Nat} {P : Program} {o : Oper} {a : Act} {w w' : World} {f : FuncId} {args : Array Value} {K : Act → World → Prop} {Q : Exit → Act → World → Prop} (hr : (execOp a.eval o).run P w = .ok (.enter f args) w')
    (h : Calls P f args w' fun e w'' => ∃ v, e = .returned v ∧ K (a.put o.dst v) w'') : owp r P o a w K Q := by
  refine ⟨fun _ _ => trivial, ?_⟩
  rw [Oper.semAt_eq _ _ _ (nodefer_of_enter hr), hr]
  refine ⟨fun h => by simp [Fence.wide] at h, calls_FR.2 ?_⟩
  refine h.mono ?_
  rintro e w'' ⟨v, rfl, hk⟩
  exact hk
def Yields (P : Program) (l : Nat) (vs : List Value) (w : World) (R : Bool → World → Prop) : Prop :=
  YieldAt Fence.wide 0 P l vs.toArray w fun e w' => ∃ b, e = .returned (.bool b) ∧ R b w'
structure Kept (D B : Nat → Prop) (w w' : World) : Prop where
  os : w'.os = w.os
  tape : w'.tape = w.tape
  output : w'.output = w.output
  size : w.heap.size ≤ w'.heap.size
  block : ∀ b, B b ∨ D b → w'.heap[b]? = w.heap[b]?
def glb : List (Nat × List Value) := [(0, [.int .u8 0, .string ⟨#[100, 97, 116, 97]⟩, .int .u8 15, .int .i64 13, .int .i64 65531, .int .i64 1, .int .i64 0, .int .u8 1, .string ⟨#[105, 110, 105, 116]⟩, .int .u8 0, .int .i64 16, .int .i64 16, .int .i64 1, .int .i64 2, .int .u8 2, .string ⟨#[105, 110, 105, 116, 45, 97, 99, 107]⟩, .int .u8 0, .int .i64 16, .int .i64 16, .int .i64 1, .int .i64 2, .int .u8 3, .string ⟨#[115, 97, 99, 107]⟩, .int .u8 0, .int .i64 12, .int .i64 65531, .int .i64 4, .int .i64 0, .int .u8 4, .string ⟨#[104, 101, 97, 114, 116, 98, 101, 97, 116]⟩, .int .u8 0, .int .i64 0, .int .i64 0, .int .i64 1, .int .i64 1, .int .u8 5, .string ⟨#[104, 101, 97, 114, 116, 98, 101, 97, 116, 45, 97, 99, 107]⟩, .int .u8 0, .int .i64 0, .int .i64 0, .int .i64 1, .int .i64 1, .int .u8 6, .string ⟨#[97, 98, 111, 114, 116]⟩, .int .u8 1, .int .i64 0, .int .i64 0, .int .i64 1, .int .i64 3, .int .u8 7, .string ⟨#[115, 104, 117, 116, 100, 111, 119, 110]⟩, .int .u8 0, .int .i64 4, .int .i64 4, .int .i64 1, .int .i64 0, .int .u8 8, .string ⟨#[115, 104, 117, 116, 100, 111, 119, 110, 45, 97, 99, 107]⟩, .int .u8 0, .int .i64 0, .int .i64 0, .int .i64 1, .int .i64 0, .int .u8 9, .string ⟨#[101, 114, 114, 111, 114]⟩, .int .u8 0, .int .i64 0, .int .i64 0, .int .i64 1, .int .i64 4, .int .u8 10, .string ⟨#[99, 111, 111, 107, 105, 101, 45, 101, 99, 104, 111]⟩, .int .u8 0, .int .i64 1, .int .i64 65531, .int .i64 1, .int .i64 0, .int .u8 11, .string ⟨#[99, 111, 111, 107, 105, 101, 45, 97, 99, 107]⟩, .int .u8 0, .int .i64 0, .int .i64 0, .int .i64 1, .int .i64 0, .int .u8 12, .string ⟨#[101, 99, 110, 101]⟩, .int .u8 0, .int .i64 4, .int .i64 4, .int .i64 1, .int .i64 0, .int .u8 13, .string ⟨#[99, 119, 114]⟩, .int .u8 0, .int .i64 4, .int .i64 4, .int .i64 1, .int .i64 0, .int .u8 14, .string ⟨#[115, 104, 117, 116, 100, 111, 119, 110, 45, 99, 111, 109, 112, 108, 101, 116, 101]⟩, .int .u8 1, .int .i64 0, .int .i64 0, .int .i64 1, .int .i64 0, .int .u8 15, .string ⟨#[97, 117, 116, 104]⟩, .int .u8 0, .int .i64 5, .int .i64 65531, .int .i64 1, .int .i64 0, .int .u8 64, .string ⟨#[105, 45, 100, 97, 116, 97]⟩, .int .u8 15, .int .i64 17, .int .i64 65531, .int .i64 1, .int .i64 0, .int .u8 128, .string ⟨#[97, 115, 99, 111, 110, 102, 45, 97, 99, 107]⟩, .int .u8 0, .int .i64 4, .int .i64 4, .int .i64 1, .int .i64 2, .int .u8 130, .string ⟨#[114, 101, 45, 99, 111, 110, 102, 105, 103]⟩, .int .u8 0, .int .i64 0, .int .i64 0, .int .i64 1, .int .i64 5, .int .u8 132, .string ⟨#[112, 97, 100]⟩, .int .u8 0, .int .i64 0, .int .i64 65531, .int .i64 1, .int .i64 0, .int .u8 192, .string ⟨#[102, 111, 114, 119, 97, 114, 100, 45, 116, 115, 110]⟩, .int .u8 0, .int .i64 4, .int .i64 65531, .int .i64 4, .int .i64 0, .int .u8 193, .string ⟨#[97, 115, 99, 111, 110, 102]⟩, .int .u8 0, .int .i64 4, .int .i64 4, .int .i64 1, .int .i64 6, .int .u8 194, .string ⟨#[105, 45, 102, 111, 114, 119, 97, 114, 100, 45, 116, 115, 110]⟩, .int .u8 0, .int .i64 4, .int .i64 65531, .int .i64 8, .int .i64 0]),
  (1, [.int .i64 0, .int .i64 0, .int .i64 0, .int .i64 1, .int .i64 1, .int .i64 1, .int .i64 1, .int .i64 0, .int .i64 16384, .int .i64 2, .int .i64 0, .int .i64 16384, .int .i64 2, .int .i64 1, .int .i64 16384, .int .i64 1, .int .i64 1, .int .i64 2, .int .i64 1, .int .i64 2, .int .i64 16384]),
  (2, [.iface 265 (.agg #[.pointer (some ⟨4, 76, none⟩)])]),
  (3, [.int .u8 1, .int .u8 2, .int .u8 14])]
def GlobC (w : World) (b : Nat) (cs : List Value) : Prop := ∀ (i : Nat) (v : Value), cs[i]? = some v → w.cell? ⟨b, i, none⟩ = some v
def Globs (w : World) (B : Nat → Prop) (ρ : List Value) : Prop := ∀ p ∈ glb, B p.1 ∧ (∀ v ∈ ρ, blk v ≠ some p.1) ∧ GlobC w p.1 p.2
structure Env.Ok (E : Env) (P : Program) : Prop where
  glb : Globs E.w0 E.B0 E.ρ0
  yld : ∀ l X, E.yl = some (l, X) → ∀ (tr : List (List AV)) (xs : List AV) (post : List (List AV)) (vs : List Value) (D B : Nat → Prop) (w : World), X = tr ++ xs :: post → E.J tr true D B w → RelL w B E.bs [] xs vs → (∀ b, B b → b < w.heap.size) → (∀ b, D b → b < w.heap.size ∧ ¬ B b) →
    Go.Abs.Yields P l vs w fun b w' => Kept D B w w' ∧ E.J (tr ++ [xs]) b D B w'
  rnd : ∀ l, E.rnd = some l → ∀ tr go D B w, E.J tr go D B w → ∃ r, w.heap[l]? = some (.loop r)
def ARun (P : Program) (ops : Array Oper) (l : List Oper) (s : AS) (Q : AS → Prop) : Prop :=
  ∀ (E : Env), E.Ok P → ∀ (ρ : List Value) (B : Nat → Prop) (a : Act) (w : World), RS E s ρ B a w → ∀ Q' : Exit → Act → World → Prop,
    (∀ s' ρ' B' a' w', Q s' → RS E s' ρ' B' a' w' → Q' .normal a' w') → lwp E.rnd P ops Q' l a w
def AWp (P : Program) (c : Code) (s : AS) (Q : Exit → AS → Prop) : Prop :=
  ∀ (E : Env), E.Ok P → ∀ (ρ : List Value) (B : Nat → Prop) (a : Act) (w : World), RS E s ρ B a w → ∀ Q' : Exit → Act → World → Prop,
    (∀ e s' ρ' B' a' w', Q e s' → RS E s' ρ' B' a' w' → Q' e a' w') → c.wpIn (FR E.rnd) 0 P Q' a w
def ACalls (P : Program) (f : FuncId) (args : List AV) (τ : List Ob) (R : AV → List Ob → Prop) : Prop :=
  ∀ (ep : Nat) (w : World) (ρ : List Value) (B : Nat → Prop) (vs : List Value), Globs w B ρ → RW (E0 ep w B ρ) τ ρ B w → RelL w B ep ρ args vs → ∀ R' : Ending → World → Prop,
    (∀ r v τ' ρ' B' w', R r τ' → RW (E0 ep w B ρ) τ' ρ' B' w' → Rel w' B' ep ρ' r v → R' (.returned v) w') → Calls P f vs.toArray w R'
theorem Globs.now {E : Env} {ob : List Ob} {ρ : List Value} {B : Nat → Prop} {w : World} (hg : Globs E.w0 E.B0 E.ρ0) (h : RW E ob ρ B w) : ∀ p ∈ glb, B p.1 ∧ GlobC w p.1 p.2 := by
  intro p hp
  obtain ⟨h1, h2, h3⟩ := hg p hp
  refine ⟨h.bsub _ h1, fun i v hi => ?_⟩
  have hc := h3 i v hi
  have hlt : p.1 < E.w0.heap.size := by
    rcases Nat.lt_or_ge p.1 E.w0.heap.size with h' | h'
    · exact h'
    · simp [World.cell?, Array.getElem?_eq_none h'] at hc
  rw [← hc]
  exact cell_of_heap (h.block p.1 hlt ⟨fun ⟨u, hu, hb⟩ => h2 u hu hb, fun _ => h1⟩)
theorem Globs.call {E : Env} {ob : List Ob} {ρ : List Value} {B : Nat → Prop} {w : World} (hg : Globs E.w0 E.B0 E.ρ0) (h : RW E ob ρ B w) {B1 : Nat → Prop} {σ : List Value} (hB : ∀ b, B b → B1 b) (hσ : ∀ v ∈ σ, ∀ b, blk v = some b → ¬ B b) : Globs w B1 σ := by
  intro p hp
  obtain ⟨h1, h2⟩ := hg.now h p hp
  exact ⟨hB _ h1, fun v hv e => hσ v hv _ e h1, h2⟩
section rules
variable {P : Program}
theorem AWp.mono {c : Code} {s : AS} {Q R : Exit → AS → Prop} (h : AWp P c s Q) (hq : ∀ e s, Q e s → R e s) : AWp P c s R :=
  fun E hE ρ B a w hs Q' hQ => h E hE ρ B a w hs Q' fun e s' ρ' B' a' w' q => hQ e s' ρ' B' a' w' (hq _ _ q)
theorem ARun.mono {ops : Array Oper} {l : List Oper} {s : AS} {Q R : AS → Prop} (h : ARun P ops l s Q) (hq : ∀ s, Q s → R s) : ARun P ops l s R :=
  fun E hE ρ B a w hs Q' hQ => h E hE ρ B a w hs Q' fun s' ρ' B' a' w' q => hQ s' ρ' B' a' w' (hq _ q)
theorem AWp.skip {s : AS} {Q : Exit → AS → Prop} (h : Q .normal s) : AWp P .skip s Q :=
  fun E hE ρ B a w hs Q' hQ => wpIn_skip (hQ _ _ _ _ _ _ h hs)
theorem AWp.ret {s : AS} {Q : Exit → AS → Prop} (h : Q .ret s) : AWp P .ret s Q :=
  fun E hE ρ B a w hs Q' hQ => wpIn_ret (hQ _ _ _ _ _ _ h hs)
theorem AWp.exit {s : AS} {Q : Exit → AS → Prop} {id : Nat} (h : Q (.exit id) s) : AWp P (.exit id) s Q :=
  fun E hE ρ B a w hs Q' hQ => wpIn_exit (hQ _ _ _ _ _ _ h hs)
theorem AWp.label {s : AS} {Q : Exit → AS → Prop} {l : Nat} (h : Q .normal s) : AWp P (.label l) s Q :=
  fun E hE ρ B a w hs Q' hQ => wpIn_label (hQ _ _ _ _ _ _ h hs)
def thenQ (next : AS → Prop) (Q : Exit → AS → Prop) : Exit → AS → Prop
  | .normal, s => next s
  | e, s => Q e s
theorem AWp.seq {x y : Code} {s : AS} {Q : Exit → AS → Prop} (h : AWp P x s (thenQ (fun s' => AWp P y s' Q) Q)) : AWp P (.seq x y) s Q := by
  intro E hE ρ B a w hs Q' hQ
  refine wpIn_seq (h E hE ρ B a w hs _ ?_)
  intro e s' ρ' B' a' w' q hs'
  cases e with
  | normal => exact q E hE ρ' B' a' w' hs' Q' hQ
  | _ => exact hQ _ _ _ _ _ _ q hs'
theorem AWp.cond {c : Operand} {x y : Code} {s : AS} {Q : Exit → AS → Prop} {t : Bool} (hc : s.ev c = .val (.bool t))
    (ht : t = true → AWp P x s Q) (hf : t = false → AWp P y s Q) : AWp P (.cond c x y) s Q := by
  intro E hE ρ B a w hs Q' hQ
  have he := hs.ev c
  rw [hc] at he
  have hv : a.eval c = .bool t := by generalize a.eval c = v at he; cases he; rfl
  exact wpIn_cond_split hv (fun h => ht h E hE ρ B a w hs Q' hQ) (fun h => hf h E hE ρ B a w hs Q' hQ)
def noGo (R : Exit → AS → Prop) : Exit → AS → Prop
  | .goto _, _ => False
  | e, s => R e s
def blockQ (id : Nat) (Q : Exit → AS → Prop) : Exit → AS → Prop
  | .exit id', s => if id' = id then Q .normal s else Q (.exit id') s
  | e, s => Q e s
theorem AWp.block {id : Nat} {c : Code} {s : AS} {Q : Exit → AS → Prop} (h : AWp P c s (blockQ id Q)) : AWp P (.block id c) s Q := by
  intro E hE ρ B a w hs Q' hQ
  refine wpIn_block (h E hE ρ B a w hs _ ?_)
  intro e s' ρ' B' a' w' q hs'
  cases e with
  | exit id' =>
    simp only [blockQ] at q
    simp only [Exit.inBlock]
    split <;> rename_i hid
    · rw [if_pos hid] at q; exact hQ _ _ _ _ _ _ q hs'
    · rw [if_neg hid] at q; exact hQ _ _ _ _ _ _ q hs'
  | _ => exact hQ _ _ _ _ _ _ q hs'
theorem AWp.loop {c : Code} {s : AS} {Q : Exit → AS → Prop} {α : Type} (I : α → AS → Prop) (μ : α → Nat) (x : α) (h0 : I x s)
    (round : ∀ x s, I x s → AWp P c s (thenQ (fun s' => ∃ y, I y s' ∧ μ y < μ x) Q)) : AWp P (.loop c) s Q := by
  intro E hE ρ B a w hs Q' hQ
  refine wpIn_loop_ghost (fun n a w => ∃ x s ρ B, I x s ∧ RS E s ρ B a w ∧ μ x = n) (μ x) ⟨x, s, ρ, B, h0, hs, rfl⟩ ?_
  rintro n a w ⟨x, s, ρ, B, hx, hs, rfl⟩
  refine round x s hx E hE ρ B a w hs _ ?_
  intro e s' ρ' B' a' w' q hs'
  cases e with
  | normal =>
    obtain ⟨y, hy, hlt⟩ := q
    exact ⟨_, hlt, y, s', ρ', B', hy, hs', rfl⟩
  | _ => exact hQ _ _ _ _ _ _ q hs'
theorem AWp.region {id : Nat} {ops : Array Oper} {s : AS} {Q : Exit → AS → Prop} (h : ARun P ops ops.toList s (Q .normal)) : AWp P (.region id ops false) s Q :=
  fun E hE ρ B a w hs Q' hQ => region_lwp (h E hE ρ B a w hs Q' fun s' ρ' B' a' w' q hs' => hQ _ _ _ _ _ _ q hs')
theorem ARun.nil {ops : Array Oper} {s : AS} {Q : AS → Prop} (h : Q s) : ARun P ops [] s Q :=
  fun E hE ρ B a w hs Q' hQ => hQ _ _ _ _ _ h hs
end rules
set_option linter.unusedVariables false
set_option linter.unusedSectionVars false
set_option linter.unusedSimpArgs false
inductive TK where
  | scal
  | aggr (n : Nat)
  | bad
  deriving DecidableEq
def aggD : TypeDesc → Bool
  | .struct _ | .array _ _ => true
  | _ => false
def tk (P : Program) (t : TypeId) : TK :=
  match P.underlying t, P.info? t with
  | some (.struct _), some i => .aggr i.size
  | some (.array _ _), some i => .aggr i.size
  | some _, some i => if i.size = 1 then .scal else .bad
  | _, _ => .bad
def fld (P : Program) (T : TypeId) (f : Nat) : Option (Nat × TK) :=
  match P.underlying T with
  | some (.struct fs) => (fs[f]?).bind fun g => match tk P g.type with
    | .bad => none
    | .aggr 0 => none
    | k => some (g.offset, k)
  | _ => none
def zc (P : Program) (T : TypeId) : Option (List Value) :=
  ((P.info? T).bind (·.zero)).bind fun v => if v.cells.toList.all (·.oneCell') then some v.cells.toList else none
def part' (cs : List AV) (off : Nat) : TK → Option AV
  | .scal => cs[off]?
  | .aggr n => if off + n ≤ cs.length then some (.agg ((cs.drop off).take n)) else none
  | .bad => none
def splice (cs : List AV) (off : Nat) (xs : List AV) : List AV := cs.take off ++ xs ++ cs.drop (off + xs.length)
section run
variable {P : Program} {w : World}
theorem addr_add (b o j : Nat) : (⟨b, o, none⟩ : Addr).add j = ⟨b, o + j, none⟩ := by
  unfold Addr.add; split <;> simp_all
theorem tk_scal {t : TypeId} (h : tk P t = .scal) : ∃ d i, P.underlying t = some d ∧ P.info? t = some i ∧ i.size = 1 ∧ aggD d = false := by
  unfold tk at h
  split at h
  · cases h
  · cases h
  · rename_i d i h1 h2 hu hi
    split at h
    · rename_i hs
      refine ⟨d, i, hu, hi, hs, ?_⟩
      cases d <;> first | rfl | (exfalso; first | exact h1 _ rfl | exact h2 _ _ rfl)
    · cases h
  · cases h
theorem tk_aggr {t : TypeId} {n : Nat} (h : tk P t = .aggr n) : ∃ d i, P.underlying t = some d ∧ P.info? t = some i ∧ i.size = n ∧ aggD d = true := by
  unfold tk at h
  split at h
  · rename_i fs i hu hi; simp at h; exact ⟨_, i, hu, hi, h, rfl⟩
  · rename_i l e i hu hi; simp at h; exact ⟨_, i, hu, hi, h, rfl⟩
  · split at h <;> cases h
  · cases h
theorem run_isAgg {t : TypeId} {d : TypeDesc} (h : P.underlying t = some d) : (isAgg t).run P w = .ok (aggD d) w := by
  simp [isAgg, run_underlying h]
  cases d <;> simp [aggD]
theorem run_sizeOf {t : TypeId} {i : TypeInfo} (h : P.info? t = some i) : (sizeOf t).run P w = .ok i.size w := by
  simp [sizeOf, typeInfo, h]
theorem run_loadVar_scal {t : TypeId} {a : Addr} {v : Value} (h : tk P t = .scal) (hc : w.cell? a = some v) : (loadVar t a).run P w = .ok v w := by
  obtain ⟨d, i, hu, hi, hs, hd⟩ := tk_scal h
  simp only [loadVar, Sem.run_bind, run_isAgg hu, Result.andThen_ok, hd]
  simp [hc]
theorem run_loadVar_aggr {t : TypeId} {b o n : Nat} {cs : List Value} (h : tk P t = .aggr n) (hn : cs.length = n) (hc : ∀ j v, cs[j]? = some v → w.cell? ⟨b, o + j, none⟩ = some v) :
    (loadVar t ⟨b, o, none⟩).run P w = .ok (.agg cs.toArray) w := by
  obtain ⟨d, i, hu, hi, hs, hd⟩ := tk_aggr h
  have hl := run_loadCells_list (P := P) w ⟨b, o, none⟩ cs (fun j v hj => by rw [addr_add]; exact hc j v hj)
  simp only [loadVar, Sem.run_bind, run_isAgg hu, Result.andThen_ok, hd, if_true, run_sizeOf hi, hs, ← hn, hl]
  simp
theorem thaw_frozen {w : World} {b o : Nat} {vs : List Value} {T : TypeId} {fz : Nat × Nat} (h : w.heap[b]? = some (.cells vs.toArray T fz)) (ht : thaw fz vs.length) (ho : o < vs.length) :
    w.frozen? ⟨b, o, none⟩ = false := by
  obtain ⟨lo, hi⟩ := fz
  simp only [World.frozen?, h]
  unfold thaw at ht
  simp at ht ⊢
  omega
def setBlk (w : World) (b : Nat) (o : Obj) : World := { w with heap := w.heap.setIfInBounds b o }
theorem setBlk_get (w : World) (b k : Nat) (o : Obj) (hb : b < w.heap.size) : (setBlk w b o).heap[k]? = if k = b then some o else w.heap[k]? := by
  simp only [setBlk]
  rw [Array.getElem?_setIfInBounds]
  by_cases h : k = b
  · subst h; simp [hb]
  · simp [h, Ne.symm h]
theorem setCell_eq {w : World} {b o : Nat} {vs : List Value} {T : TypeId} {fz : Nat × Nat} (h : w.heap[b]? = some (.cells vs.toArray T fz)) (v : Value) :
    w.setCell ⟨b, o, none⟩ v = setBlk w b (.cells (vs.set o v).toArray T fz) := by
  have hb : b < w.heap.size := by rcases Nat.lt_or_ge b w.heap.size with h' | h'; exact h'; simp [Array.getElem?_eq_none h'] at h
  unfold World.setCell setBlk
  congr 1
  apply Array.ext_getElem?
  intro k
  rw [Array.getElem?_modify, Array.getElem?_setIfInBounds]
  by_cases hk : b = k
  · subst hk
    have : w.heap[b] = .cells vs.toArray T fz := by rw [Array.getElem?_eq_getElem hb] at h; exact Option.some.inj h
    simp [hb, this]
  · simp [hk]
theorem setBlk_setBlk (w : World) (b : Nat) (o o' : Obj) : setBlk (setBlk w b o) b o' = setBlk w b o' := by
  unfold setBlk
  congr 1
  apply Array.ext_getElem?
  intro k
  simp only [Array.getElem?_setIfInBounds, Array.size_setIfInBounds]
  split <;> rfl
theorem setBlk_self {w : World} {b : Nat} {o : Obj} (h : w.heap[b]? = some o) : setBlk w b o = w := by
  cases w with
  | mk heap tape drawn os output =>
    unfold setBlk
    congr 1
    apply Array.ext_getElem?
    intro k
    simp only [Array.getElem?_setIfInBounds]
    split
    · rename_i hk
      subst hk
      simp only at h
      split
      · exact h.symm
      · rename_i hlt; simp [Array.getElem?_eq_none (Nat.le_of_not_lt hlt)] at h
    · rfl
theorem run_storeCells (b : Nat) (T : TypeId) (fz : Nat × Nat) (o : Nat) : ∀ (us : List Value) (i : Nat) (vs : List Value) (w : World), w.heap[b]? = some (.cells vs.toArray T fz) → thaw fz vs.length →
    o + i + us.length ≤ vs.length → (∀ v ∈ us, v.oneCell' = true) →
    (storeCells ⟨b, o, none⟩ us i).run P w = .ok () (setBlk w b (.cells (vs.take (o + i) ++ us ++ vs.drop (o + i + us.length)).toArray T fz))
  | [], i, vs, w, h, _, _, _ => by
    simp only [storeCells, List.append_nil, List.length_nil, Nat.add_zero, List.take_append_drop]
    rw [setBlk_self h]; rfl
  | v :: us, i, vs, w, h, ht, hl, h1 => by
    have hb : b < w.heap.size := by rcases Nat.lt_or_ge b w.heap.size with h' | h'; exact h'; simp [Array.getElem?_eq_none h'] at h
    have hi : o + i < vs.length := by simp at hl; omega
    have hc : w.cell? ⟨b, o + i, none⟩ = some vs[o + i] := by simp [World.cell?, h, hi]
    have hst : (store ((⟨b, o, none⟩ : Addr).add i) v).run P w = .ok () (setBlk w b (.cells (vs.set (o + i) v).toArray T fz)) := by
      rw [addr_add, run_store P w _ v _ (h1 v (by simp)), hc]
      simp only [thaw_frozen h ht hi, Bool.false_eq_true, if_false]
      rw [setCell_eq h]
    have ih := run_storeCells b T fz o us (i + 1) (vs.set (o + i) v) (setBlk w b (.cells (vs.set (o + i) v).toArray T fz)) (by rw [setBlk_get _ _ _ _ hb, if_pos rfl]) (by simpa using ht)
      (by simp at hl ⊢; omega) (fun x hx => h1 x (by simp [hx]))
    simp only [storeCells, Sem.run_bind, hst, Result.andThen_ok, ih, setBlk_setBlk]
    congr 3
    have e := list_seg_step vs (o + i) v us (by simp at hl; omega)
    simp only [List.length_cons]
    rw [← e]
    simp [Nat.add_assoc]
theorem run_storeVar {t : TypeId} {b o : Nat} {T : TypeId} {fz : Nat × Nat} {vs us : List Value} {v : Value} {i : TypeInfo} (hi : P.info? t = some i) (hv : v.cells.toList = us) (hn : us.length = i.size)
    (h : w.heap[b]? = some (.cells vs.toArray T fz)) (ht : thaw fz vs.length) (hl : o + us.length ≤ vs.length) (h1 : ∀ v ∈ us, v.oneCell' = true) :
    (storeVar t ⟨b, o, none⟩ v).run P w = .ok () (setBlk w b (.cells (vs.take o ++ us ++ vs.drop (o + us.length)).toArray T fz)) := by
  have hs : v.cells.size = i.size := by rw [← hn, ← hv]; simp
  simp only [storeVar, Sem.run_bind, run_sizeOf hi, Result.andThen_ok, hs, ne_eq, not_true, if_false, hv]
  have := run_storeCells (P := P) b T fz o us 0 vs w h ht (by simpa using hl) h1
  simpa using this
end run
section objs
variable {w w' : World} {B B' : Nat → Prop} {bs : Nat} {ρ ρ' : List Value}
theorem heap_lt {w : World} {b : Nat} {o : Obj} (h : w.heap[b]? = some o) : b < w.heap.size := by
  rcases Nat.lt_or_ge b w.heap.size with h' | h'
  · exact h'
  · simp [Array.getElem?_eq_none h'] at h
theorem RO.mono {k : Nat} {o : Ob} (hB : ∀ b, B b → B' b) (hw : ∀ b, B b → w'.heap[b]? = w.heap[b]?) (hρ : ∀ (k : Nat) (v : Value), ρ[k]? = some v → ρ'[k]? = some v)
    (hk : ∀ (v : Value) (b : Nat), o.live = true → ρ[k]? = some v → blk v = some b → w'.heap[b]? = w.heap[b]?) (h : RO w B bs ρ k o) : RO w' B' bs ρ' k o := by
  cases o with
  | box T cs =>
    obtain ⟨b, vs, fz, h1, h2, h3, h4, h5⟩ := h
    exact ⟨b, vs, fz, hρ _ _ h1, (hk _ b rfl h1 rfl).trans h2, h3, h4.mono hB hw (Nat.le_refl _) hρ, h5⟩
  | row T sz xs =>
    obtain ⟨h0, h⟩ := h
    refine ⟨h0, ?_⟩
    rcases h with h | ⟨b, cap, vs, ws, fz, h1, h2, h3, h4, h5, h6⟩
    · exact .inl ⟨h.1, hρ _ _ h.2⟩
    · exact .inr ⟨b, cap, vs, ws, fz, hρ _ _ h1, (hk _ b rfl h1 rfl).trans h2, h3, h4, h5, h6.mono hB hw (Nat.le_refl _) hρ⟩
  | mp es =>
    obtain ⟨b, ms, c, h1, h2, h3⟩ := h
    exact ⟨b, ms, c, hρ _ _ h1, (hk _ b rfl h1 rfl).trans h2, h3⟩
  | gone => trivial
theorem get_append_some {α : Type} {l m : List α} {k : Nat} {v : α} (h : l[k]? = some v) : (l ++ m)[k]? = some v := by
  have hk : k < l.length := by
    rcases Nat.lt_or_ge k l.length with h' | h'
    · exact h'
    · simp [List.getElem?_eq_none h'] at h
  rw [List.getElem?_append_left hk]; exact h
theorem get_lt {α : Type} {l : List α} {k : Nat} {v : α} (h : l[k]? = some v) : k < l.length := by
  rcases Nat.lt_or_ge k l.length with h' | h'
  · exact h'
  · simp [List.getElem?_eq_none h'] at h
theorem get_snoc {α : Type} {l : List α} {x v : α} {k : Nat} (h : (l ++ [x])[k]? = some v) : l[k]? = some v ∨ (k = l.length ∧ v = x) := by
  rcases Nat.lt_or_ge k l.length with h' | h'
  · rw [List.getElem?_append_left h'] at h; exact .inl h
  · rw [List.getElem?_append_right h'] at h
    have : k - l.length < 1 := by simpa using get_lt h
    have e : k = l.length := by omega
    subst e
    simp at h
    exact .inr ⟨rfl, h.symm⟩
theorem RW.new {E : Env} {ob : List Ob} {o : Ob} {v : Value} (h : RW E ob ρ B w) (hs : Same w w') (ho : RO w' B E.bs (ρ ++ [v]) ob.length o)
    (hb : ∀ b, blk v = some b → w.heap.size ≤ b ∧ b < w'.heap.size) : RW E (ob ++ [o]) (ρ ++ [v]) B w' := by
  have hBw : ∀ b, B b → w'.heap[b]? = w.heap[b]? := fun b hb => hs.block b (h.blt b hb)
  refine { ep := h.ep, os := hs.os.trans h.os, tape := hs.tape.trans h.tape, output := hs.output.trans h.output, size := Nat.le_trans h.size hs.size,
           block := fun k h1 h2 => (hs.block k (Nat.lt_of_lt_of_le h1 h.size)).trans (h.block k h1 h2), pre := fun k v h1 h2 => get_append_some (h.pre k v h1 h2), bsub := h.bsub, bnew := h.bnew,
           blt := fun b hb => Nat.lt_of_lt_of_le (h.blt b hb) hs.size, len := by simp [h.len], obs := ?_, dis := ?_, prv := ?_ }
  · intro k o' hk
    rcases get_snoc hk with hk | ⟨rfl, rfl⟩
    · refine (h.obs k o' hk).mono (fun _ h => h) hBw (fun k v h => get_append_some h) ?_
      intro u b hl hu hbu
      exact hs.block b (h.prv k o' u b hk hl hu hbu).2.1
    · exact ho
  · intro i j o1 o2 u1 u2 b hij h1 l1 h2 l2 r1 r2 b1 b2
    rcases get_snoc h1 with h1' | ⟨rfl, rfl⟩ <;> rcases get_snoc h2 with h2' | ⟨rfl, rfl⟩
    · have e1 : ρ[i]? = some u1 := by rw [List.getElem?_append_left (by rw [h.len]; exact get_lt h1')] at r1; exact r1
      have e2 : ρ[j]? = some u2 := by rw [List.getElem?_append_left (by rw [h.len]; exact get_lt h2')] at r2; exact r2
      exact h.dis i j o1 o2 u1 u2 b hij h1' l1 h2' l2 e1 e2 b1 b2
    · have e1 : ρ[i]? = some u1 := by rw [List.getElem?_append_left (by rw [h.len]; exact get_lt h1')] at r1; exact r1
      have e2 : u2 = v := by rw [← h.len] at r2; simpa using r2.symm
      subst e2
      have := (h.prv i o1 u1 b h1' l1 e1 b1).2.1
      have := (hb b b2).1
      omega
    · have e2 : ρ[j]? = some u2 := by rw [List.getElem?_append_left (by rw [h.len]; exact get_lt h2')] at r2; exact r2
      have e1 : u1 = v := by rw [← h.len] at r1; simpa using r1.symm
      subst e1
      have := (h.prv j o2 u2 b h2' l2 e2 b2).2.1
      have := (hb b b1).1
      omega
    · exact hij rfl
  · intro k o' u b hk hl hu hbu
    rcases get_snoc hk with hk' | ⟨rfl, rfl⟩
    · have e1 : ρ[k]? = some u := by rw [List.getElem?_append_left (by rw [h.len]; exact get_lt hk')] at hu; exact hu
      obtain ⟨a1, a2, a3⟩ := h.prv k o' u b hk' hl e1 hbu
      exact ⟨a1, Nat.lt_of_lt_of_le a2 hs.size, a3⟩
    · have e1 : u = v := by rw [← h.len] at hu; simpa using hu.symm
      subst e1
      obtain ⟨a1, a2⟩ := hb b hbu
      exact ⟨fun hB => by have := h.blt b hB; omega, a2, .inl (Nat.le_trans h.size a1)⟩
theorem Dof.new {ob : List Ob} {o : Ob} {v : Value} {n : Nat} (hl : ρ.length = ob.length) (hb : ∀ b, blk v = some b → w.heap.size ≤ b ∧ b < n) : ∀ b, Dof (ob ++ [o]) (ρ ++ [v]) b → Dof ob ρ b ∨ w.heap.size ≤ b := by
  rintro b ⟨k, o', u, h1, h2, h3, h4⟩
  rcases get_snoc h1 with h1' | ⟨rfl, rfl⟩
  · have e1 : ρ[k]? = some u := by rw [List.getElem?_append_left (by rw [hl]; exact get_lt h1')] at h3; exact h3
    exact .inl ⟨k, o', u, h1', h2, e1, h4⟩
  · have e1 : u = v := by rw [← hl] at h3; simpa using h3.symm
    subst e1
    exact .inr (hb b h4).1
theorem Dof.set {ob : List Ob} {k : Nat} {o o' : Ob} (hk : ob[k]? = some o) (hl : o.live = true) : ∀ b, Dof (ob.set k o') ρ b → Dof ob ρ b := by
  rintro b ⟨j, oj, u, h1, h2, h3, h4⟩
  by_cases hjk : k = j
  · subst hjk; exact ⟨k, o, u, hk, hl, h3, h4⟩
  · rw [List.getElem?_set_ne hjk] at h1; exact ⟨j, oj, u, h1, h2, h3, h4⟩
theorem RS.new {E : Env} {s : AS} {a : Act} {o : Ob} {v : Value} (h : RS E s ρ B a w) (hs : Same w w') (ho : RO w' B E.bs (ρ ++ [v]) s.ob.length o)
    (hb : ∀ b, blk v = some b → w.heap.size ≤ b ∧ b < w'.heap.size) : RS E { s with ob := s.ob ++ [o] } (ρ ++ [v]) B a w' :=
  ⟨h.rw_.new hs ho hb, h.m, h.n, h.df, h.jj.chg ⟨hs.os, hs.tape, hs.output, hs.size, fun b hb _ => hs.block b hb, Dof.new h.rw_.len hb, fun _ h => h, fun _ h => .inl h⟩ (h.rw_.new hs ho hb).bd, fun t x hm => ⟨(h.rf t x hm).1, (h.rf t x hm).2.mono (fun _ h => h) (fun b hb => hs.block b (h.rw_.blt b hb)) (Nat.le_refl _) (fun k v h => get_append_some h)⟩⟩
theorem same_alloc (w : World) (o : Obj) : Same w (w.alloc o) :=
  ⟨rfl, rfl, rfl, by simp, fun k hk => by simp only [World.alloc, Array.getElem?_push]; rw [if_neg (by omega)]⟩
theorem same_refl (w : World) : Same w w := ⟨rfl, rfl, rfl, Nat.le_refl _, fun _ _ => rfl⟩
theorem alloc_get (w : World) (o : Obj) : (w.alloc o).heap[w.heap.size]? = some o := by simp only [World.alloc, Array.getElem?_push, if_true]
theorem RS.newBox {E : Env} {s : AS} {a : Act} {T : TypeId} {cs : List AV} {vs : List Value} (h : RS E s ρ B a w) (hr : RelL w B E.bs ρ cs vs) (h1 : ∀ c ∈ cs, c.one = true) :
    RS E { s with ob := s.ob ++ [.box T cs] } (ρ ++ [.pointer (some ⟨w.heap.size, 0, none⟩)]) B a (w.alloc (.cells vs.toArray T)) := by
  refine h.new (same_alloc _ _) ⟨w.heap.size, vs, (0, 0), ?_, alloc_get _ _, .inl (by simp), ?_, fun c hc => AV.oc_of (h1 c hc)⟩ ?_
  · rw [← h.rw_.len]; simp
  · exact hr.mono (fun _ h => h) (fun b hb => (same_alloc w _).block b (h.rw_.blt b hb)) (Nat.le_refl _) (fun k v h => get_append_some h)
  · intro b hb; simp [blk] at hb; subst hb; simp
theorem RW.write {E : Env} {ob : List Ob} {k b : Nat} {o o' : Ob} {v : Value} {nb : Obj} (h : RW E ob ρ B w) (hk : ob[k]? = some o) (hl : o.live = true) (hv : ρ[k]? = some v) (hb : blk v = some b)
    (ho : RO (setBlk w b nb) B E.bs ρ k o') : RW E (ob.set k o') ρ B (setBlk w b nb) := by
  obtain ⟨p1, p2, p3⟩ := h.prv k o v b hk hl hv hb
  have hne : ∀ b', B b' → b' ≠ b := fun b' h1 e => p1 (e ▸ h1)
  have hB : ∀ b', B b' → (setBlk w b nb).heap[b']? = w.heap[b']? := fun b' hb' => by rw [setBlk_get _ _ _ _ p2, if_neg (hne b' hb')]
  refine { ep := h.ep, os := h.os, tape := h.tape, output := h.output, size := by simpa [setBlk] using h.size, block := ?_, pre := h.pre, bsub := h.bsub, bnew := h.bnew,
           blt := fun b' hb' => by simpa [setBlk] using h.blt b' hb', len := by simp [h.len], obs := ?_, dis := ?_, prv := ?_ }
  · intro j h1 h2
    have : j ≠ b := by
      rintro rfl
      rcases p3 with p3 | p3
      · omega
      · exact h2.1 p3.x
    rw [setBlk_get _ _ _ _ p2, if_neg this]
    exact h.block j h1 h2
  · intro j oj hj
    by_cases hjk : k = j
    · subst hjk
      have : oj = o' := by rw [List.getElem?_set_self (get_lt hk)] at hj; exact (Option.some.inj hj).symm
      subst this; exact ho
    · rw [List.getElem?_set_ne hjk] at hj
      refine (h.obs j oj hj).mono (fun _ h => h) hB (fun _ _ h => h) ?_
      intro u b' l hu hbu
      have : b' ≠ b := by
        rintro rfl
        exact h.dis k j o oj v u b' hjk hk hl hj l hv hu hb hbu
      rw [setBlk_get _ _ _ _ p2, if_neg this]
  · intro i j o1 o2 u1 u2 b' hij h1 l1 h2 l2 r1 r2 b1
    have get : ∀ {i : Nat} {o1 : Ob}, (ob.set k o')[i]? = some o1 → o1.live = true → ∃ o2, ob[i]? = some o2 ∧ o2.live = true := by
      intro i o1 h1 l1
      by_cases hik : k = i
      · subst hik; exact ⟨o, hk, hl⟩
      · rw [List.getElem?_set_ne hik] at h1; exact ⟨o1, h1, l1⟩
    obtain ⟨x1, y1, z1⟩ := get h1 l1
    obtain ⟨x2, y2, z2⟩ := get h2 l2
    exact h.dis i j x1 x2 u1 u2 b' hij y1 z1 y2 z2 r1 r2 b1
  · intro j oj u b' hj l hu hbu
    have : ∃ o2, ob[j]? = some o2 ∧ o2.live = true := by
      by_cases hjk : k = j
      · subst hjk; exact ⟨o, hk, hl⟩
      · rw [List.getElem?_set_ne hjk] at hj; exact ⟨oj, hj, l⟩
    obtain ⟨o2, y, z⟩ := this
    have := h.prv j o2 u b' y z hu hbu
    exact ⟨this.1, by simpa [setBlk] using this.2.1, this.2.2⟩
theorem RS.write {E : Env} {s : AS} {a : Act} {k b : Nat} {o o' : Ob} {v : Value} {nb : Obj} (h : RS E s ρ B a w) (hk : s.ob[k]? = some o) (hl : o.live = true) (hv : ρ[k]? = some v) (hb : blk v = some b)
    (ho : RO (setBlk w b nb) B E.bs ρ k o') : RS E { s with ob := s.ob.set k o' } ρ B a (setBlk w b nb) := by
  obtain ⟨p1, p2, p3⟩ := h.rw_.prv k o v b hk hl hv hb
  refine ⟨h.rw_.write hk hl hv hb ho, h.m, h.n, h.df, h.jj.chg ⟨rfl, rfl, rfl, by simp [setBlk], fun b' _ hd => ?_, fun b' hd => .inl (Dof.set hk hl b' hd), fun _ h => h, fun _ h => .inl h⟩ (h.rw_.write hk hl hv hb ho).bd, fun t x hm => ⟨(h.rf t x hm).1, (h.rf t x hm).2.mono (fun _ h => h) ?_ (Nat.le_refl _) (fun _ _ h => h)⟩⟩
  · rw [setBlk_get _ _ _ _ p2, if_neg (by rintro rfl; exact hd ⟨k, o, v, hk, hl, hv, hb⟩)]
  intro b' hb'
  rw [setBlk_get _ _ _ _ p2, if_neg (by rintro rfl; exact p1 hb')]
end objs
set_option linter.unusedVariables false
set_option linter.unusedSectionVars false
set_option linter.unusedSimpArgs false
def AOp (P : Program) (ops : Array Oper) (o : Oper) (rest : List Oper) (s : AS) (Q : AS → Prop) : Prop :=
  ∀ (E : Env), E.Ok P → ∀ (ρ : List Value) (B : Nat → Prop) (a : Act) (w : World), RS E s ρ B a w → ∀ Q' : Exit → Act → World → Prop,
    (∀ s' ρ' B' a' w', Q s' → RS E s' ρ' B' a' w' → Q' .normal a' w') → owp E.rnd P o a w (lwp E.rnd P ops Q' rest) Q'
def gdv (x : AV) (want : Bool) : Option Bool :=
  match x with
  | .val (.bool b) => some (b == want)
  | .val (.tuple _) => some false
  | _ => none
def gd (ops : Array Oper) (s : AS) (o : Oper) : Option Bool :=
  match o.guard with
  | none => some true
  | some (j, want) =>
    match (ops[j]?).bind (·.dst) with
    | some d => gdv (lk s.fr d) want
    | none => none
section
variable {P : Program} {ops : Array Oper} {o : Oper} {rest : List Oper} {s s' : AS} {Q : AS → Prop}
theorem Rel.val_eq' {w : World} {B : Nat → Prop} {bs : Nat} {ρ : List Value} {u v : Value} (h : Rel w B bs ρ (.val u) v) : v = u := by cases h; rfl
theorem gd_wanted {b : Bool} (h : gd ops s o = some b) {E : Env} {ρ : List Value} {B : Nat → Prop} {a : Act} {w : World} (hs : RS E s ρ B a w) :
    Region.wanted o (yielded ops a.tmps) = b := by
  unfold gd at h
  unfold Region.wanted
  cases hg : o.guard with
  | none => simp [hg] at h; simp [h]
  | some p =>
    obtain ⟨j, want⟩ := p
    simp only [hg] at h ⊢
    cases hd : (ops[j]?).bind (·.dst) with
    | none => simp [hd] at h
    | some d =>
      simp only [hd] at h
      have hv := hs.get d
      generalize lk s.fr d = x at h hv
      unfold gdv at h
      split at h <;> simp only [Option.some.injEq, reduceCtorEq] at h
      · rename_i b'
        have hb := hv.val_eq'
        have hlt : d < a.tmps.size := by
          rcases Nat.lt_or_ge d a.tmps.size with h' | h'
          · exact h'
          · rw [Array.getD_eq_getD_getElem?, Array.getElem?_eq_none h'] at hb; simp [undef] at hb
        have hq : a.tmps[d]? = some (.bool b') := by
          rw [Array.getD_eq_getD_getElem?, Array.getElem?_eq_getElem hlt] at hb
          rw [Array.getElem?_eq_getElem hlt]
          simpa using hb
        have : yielded ops a.tmps j = some b' := by simp only [yielded, hd, Option.bind_some, hq]
        rw [this]
        rw [← h]
        cases b' <;> cases want <;> rfl
      · rename_i l
        have hb := hv.val_eq'
        have : yielded ops a.tmps j = none := by
          simp only [yielded, hd, Option.bind_some]
          split
          · rename_i b' hq
            rw [Array.getD_eq_getD_getElem?, hq] at hb
            simp at hb
          · rfl
        rw [this, ← h]; rfl
theorem ARun.exec (h : gd ops s o = some true) (k : AOp P ops o rest s Q) : ARun P ops (o :: rest) s Q := by
  intro E hE ρ B a w hs Q' hQ
  simp only [lwp]
  rw [if_pos (gd_wanted h hs)]
  exact k E hE ρ B a w hs Q' hQ
theorem ARun.pass (h : gd ops s o = some false) (k : ARun P ops rest (s.put o.dst (.val (.tuple #[]))) Q) : ARun P ops (o :: rest) s Q := by
  intro E hE ρ B a w hs Q' hQ
  simp only [lwp]
  rw [if_neg (by rw [gd_wanted h hs]; simp)]
  exact k E hE ρ B _ w (hs.put _ (.val _)) Q' hQ
theorem AOp.value {x : AV} (h : ∀ (E : Env) (ρ : List Value) (B : Nat → Prop) (a : Act) (w : World), RS E s ρ B a w →
      ∃ v w' ρ' B', (execOp a.eval o).run P w = .ok (.value v) w' ∧ RS E s' ρ' B' a w' ∧ Rel w' B' E.bs ρ' x v)
    (k : ARun P ops rest (s'.put o.dst x) Q) : AOp P ops o rest s Q := by
  intro E hE ρ B a w hs Q' hQ
  obtain ⟨v, w', ρ', B', hr, hs', hv⟩ := h E ρ B a w hs
  exact owp_value hr (k E hE ρ' B' _ w' (hs'.put _ hv) Q' hQ)
theorem AOp.pure1 {x : AV} (h : ∀ (E : Env) (ρ : List Value) (B : Nat → Prop) (a : Act) (w : World), RS E s ρ B a w →
      ∃ v, (execOp a.eval o).run P w = .ok (.value v) w ∧ Rel w B E.bs ρ x v)
    (k : ARun P ops rest (s.put o.dst x) Q) : AOp P ops o rest s Q :=
  AOp.value (s' := s) (fun E ρ B a w hs => let ⟨v, h1, h2⟩ := h E ρ B a w hs; ⟨v, w, ρ, B, h1, hs, h2⟩) k
theorem AOp.unit (h : ∀ (E : Env) (ρ : List Value) (B : Nat → Prop) (a : Act) (w : World), RS E s ρ B a w →
      ∃ w' ρ' B', (execOp a.eval o).run P w = .ok .skip w' ∧ RS E s' ρ' B' a w') (hd : ∀ c, o.op ≠ .defer c)
    (k : ARun P ops rest (s'.put o.dst .any) Q) : AOp P ops o rest s Q := by
  intro E hE ρ B a w hs Q' hQ
  obtain ⟨w', ρ', B', hr, hs'⟩ := h E ρ B a w hs
  exact owp_skip hr hd (k E hE ρ' B' _ w' (hs'.put _ (.any _)) Q' hQ)
end
def bitsV (op : BinOp) (k : IntKind) (a b : Int) : Int :=
  let x := BitVec.ofInt k.bits a
  let y := BitVec.ofInt k.bits b
  match op with
  | .and => k.wrap (x &&& y).toNat
  | .or => k.wrap (x ||| y).toNat
  | .xor => k.wrap (x ^^^ y).toNat
  | .andNot => k.wrap (x &&& ~~~y).toNat
  | _ => 0
def isNil : Value → Bool
  | .nilIface | .nilFunc | .pointer none | .slice none _ _ => true
  | _ => false
def binV (op : BinOp) (x y : AV) : Option AV :=
  match x, y with
  | .val (.int k a), .val (.int k' b) =>
    match op with
    | .add => if k = k' then some (.val (.int k (k.wrap (a + b)))) else none
    | .sub => if k = k' then some (.val (.int k (k.wrap (a - b)))) else none
    | .mul => if k = k' then some (.val (.int k (k.wrap (a * b)))) else none
    | .quo => if k = k' then if b = 0 then none else some (.val (.int k (k.wrap (a.tdiv b)))) else none
    | .rem => if k = k' then if b = 0 then none else some (.val (.int k (a.tmod b))) else none
    | .and => if k = k' then some (.val (.int k (bitsV .and k a b))) else none
    | .or => if k = k' then some (.val (.int k (bitsV .or k a b))) else none
    | .xor => if k = k' then some (.val (.int k (bitsV .xor k a b))) else none
    | .andNot => if k = k' then some (.val (.int k (bitsV .andNot k a b))) else none
    | .shl => if b < 0 then none else some (.val (.int k (k.wrap (a * 2 ^ (min b.toNat k.bits)))))
    | .shr => if b < 0 then none else some (.val (.int k (a.fdiv (2 ^ (min b.toNat k.bits)))))
    | .eql => if k = k' then some (.val (.bool (a == b))) else none
    | .neq => if k = k' then some (.val (.bool (a != b))) else none
    | .lss => if k = k' then some (.val (.bool (decide (a < b)))) else none
    | .leq => if k = k' then some (.val (.bool (decide (a ≤ b)))) else none
    | .gtr => if k = k' then some (.val (.bool (decide (b < a)))) else none
    | .geq => if k = k' then some (.val (.bool (decide (b ≤ a)))) else none
  | .val (.string a), .val (.string b) =>
    match op with
    | .eql => some (.val (.bool (a.toList == b.toList)))
    | .neq => some (.val (.bool (!(a.toList == b.toList))))
    | _ => none
  | _, _ => none
inductive NK where
  | ifc | ptr | slc | fnc | other
  deriving DecidableEq
def nk (P : Program) (t : TypeId) : NK :=
  match P.underlying t with
  | some (.interface _) => .ifc
  | some (.pointer _) => .ptr
  | some (.slice _) => .slc
  | some (.func _ _ _) => .fnc
  | _ => .other
def nilIs (k : NK) (x : AV) : Option Bool :=
  match k, x with
  | .ifc, .ifc _ _ => some false
  | .ifc, .val .nilIface => some true
  | .ptr, .ptr _ _ | .ptr, .ept _ _ | .ptr, .ref _ _ => some false
  | .ptr, .val (.pointer none) => some true
  | .slc, .sl _ _ (_ :: _) => some false
  | .slc, .val (.slice none _ _) => some true
  | .fnc, .fn _ _ _ => some false
  | .fnc, .val .nilFunc => some true
  | _, _ => none
def nilV (k : NK) (v : Value) (b : Bool) : Prop :=
  match k, v with
  | .ifc, .iface _ _ => b = false
  | .ifc, .nilIface => b = true
  | .ptr, .pointer (some _) => b = false
  | .ptr, .pointer none => b = true
  | .slc, .slice (some _) _ _ => b = false
  | .slc, .slice none _ _ => b = true
  | .fnc, .func _ _ _ => b = false
  | .fnc, .nilFunc => b = true
  | _, _ => False
def nilLit (k : NK) (v : Value) : Bool :=
  match k, v with
  | .ifc, .nilIface | .ptr, .pointer none | .slc, .slice none _ _ | .fnc, .nilFunc => true
  | _, _ => false
def places (P : Program) (T : TypeId) : Option (List (Nat × Nat)) :=
  match P.underlying T with
  | some (.struct fs) => fs.toList.mapM fun f => (P.info? f.type).map fun i => (f.offset, i.size)
  | some (.array n e) => (P.info? e).map fun i => (List.range n).map fun k => (k * i.size, i.size)
  | _ => none
theorem fill_array (n sz : Nat) : ∀ (parts : List (Nat × Value)) (cs r : Array Value), Instr.fill (((List.range n).map fun k => (k * sz, sz))[·]?) cs parts = some r → Instr.fill (fun i => some (i * sz, sz)) cs parts = some r
  | [], cs, r, h => h
  | (i, v) :: rest, cs, r, h => by
    simp only [Instr.fill] at h ⊢
    rcases Nat.lt_or_ge i n with hi | hi
    · have e : ((List.range n).map fun k => (k * sz, sz))[i]? = some (i * sz, sz) := by simp [hi]
      rw [e] at h
      simp only at h ⊢
      split at h
      · simp at h
      · rename_i hc
        rw [if_neg hc]
        exact fill_array n sz rest _ r h
    · have e : ((List.range n).map fun k => (k * sz, sz))[i]? = none := by simp [hi]
      rw [e] at h
      simp at h
def afill (place : Nat → Option (Nat × Nat)) (cells : List AV) : List (Nat × AV) → Option (List AV)
  | [] => some cells
  | (i, x) :: rest =>
    match place i with
    | none => none
    | some (off, size) => if x.flat = true ∧ x.cells.length = size ∧ off + x.cells.length ≤ cells.length then afill place (splice cells off x.cells) rest else none
section run
variable {P : Program} {w : World} {B : Nat → Prop} {bs : Nat} {ρ : List Value}
theorem run_mapM_some {α β : Type} (f : α → Sem β) (g : α → Option β) (h : ∀ x y w, g x = some y → (f x).run P w = .ok y w) : ∀ (l : List α) (ys : List β) (w : World), l.mapM g = some ys → (l.mapM f).run P w = .ok ys w
  | [], ys, w, e => by simp at e; subst e; simp
  | x :: l, ys, w, e => by
    simp only [List.mapM_cons, Option.bind_eq_bind, Option.bind_eq_some_iff, Option.pure_def, Option.some.injEq] at e
    obtain ⟨y, hy, zs, hz, rfl⟩ := e
    simp [List.mapM_cons, h x y _ hy, run_mapM_some f g h l zs w hz]
theorem run_mapM_array {α β : Type} (f : α → Sem β) (g : α → Option β) (h : ∀ x y w, g x = some y → (f x).run P w = .ok y w) (l : Array α) (ys : List β) (w : World) (e : l.toList.mapM g = some ys) :
    (l.mapM f).run P w = .ok ys.toArray w := by
  rw [Array.mapM_eq_mapM_toList]
  simp [run_mapM_some f g h l.toList ys w e]
theorem set_fold (vs : List Value) : ∀ (us : List Value) (k off : Nat), off + us.length + k ≤ vs.length →
    ((us.zipIdx k).foldl (fun (cs : Array Value) (p : Value × Nat) => cs.setIfInBounds (off + p.2) p.1) vs.toArray) = (vs.take (off + k) ++ us ++ vs.drop (off + k + us.length)).toArray
  | [], k, off, _ => by simp
  | u :: us, k, off, h => by
    simp only [List.zipIdx_cons, List.foldl_cons, List.setIfInBounds_toArray]
    have hl : off + us.length + (k + 1) ≤ (vs.set (off + k) u).length := by simp at h ⊢; omega
    rw [set_fold (vs.set (off + k) u) us (k + 1) off hl]
    have e := list_seg_step vs (off + k) u us (by simp at h; omega)
    rw [show off + (k + 1) = off + k + 1 by omega, e]
    simp
theorem RelL.splice {cs xs : List AV} {vs us : List Value} (h : RelL w B bs ρ cs vs) (k : RelL w B bs ρ xs us) (off : Nat) :
    RelL w B bs ρ (splice cs off xs) (vs.take off ++ us ++ vs.drop (off + us.length)) := by
  unfold Abs.splice
  rw [← k.length_eq]
  exact ((h.take off).append k).append (h.drop _)
theorem fill_rel (place : Nat → Option (Nat × Nat)) : ∀ (parts : List (Nat × AV)) (vparts : List (Nat × Value)) (cs cs' : List AV) (vs : List Value),
    parts.map (·.1) = vparts.map (·.1) → RelL w B bs ρ (parts.map (·.2)) (vparts.map (·.2)) → RelL w B bs ρ cs vs → (∀ c ∈ cs, c.one = true) → afill place cs parts = some cs' →
    ∃ vs', Instr.fill place vs.toArray vparts = some vs'.toArray ∧ RelL w B bs ρ cs' vs' ∧ (∀ c ∈ cs', c.one = true) ∧ cs'.length = cs.length
  | [], [], cs, cs', vs, _, _, h, h1, e => by simp [afill] at e; subst e; exact ⟨vs, rfl, h, h1, rfl⟩
  | [], _ :: _, _, _, _, e, _, _, _, _ => by simp at e
  | _ :: _, [], _, _, _, e, _, _, _, _ => by simp at e
  | (i, x) :: parts, (i', v) :: vparts, cs, cs', vs, e, r, h, h1, ef => by
    simp only [List.map_cons, List.cons.injEq] at e
    obtain ⟨rfl, e⟩ := e
    simp only [List.map_cons] at r
    cases r with
    | cons rx r =>
      simp only [afill] at ef
      cases hp : place i with
      | none => simp [hp] at ef
      | some p =>
        obtain ⟨off, size⟩ := p
        simp only [hp] at ef
        split at ef
        · rename_i hc
          obtain ⟨hf, hs, hl⟩ := hc
          obtain ⟨rc, r1⟩ := rx.toCells hf
          have hlen := rc.length_eq
          have hlen2 := h.length_eq
          have hsz : v.cells.size = size := by rw [← hs, hlen]; simp
          have hsz2 : v.cells.toList.length = v.cells.size := by simp
          have key : v.cells.zipIdx.foldl (fun (cs : Array Value) (p : Value × Nat) => cs.setIfInBounds (off + p.2) p.1) vs.toArray = (vs.take off ++ v.cells.toList ++ vs.drop (off + v.cells.toList.length)).toArray := by
            have := set_fold vs v.cells.toList 0 off (by omega)
            rw [← Array.foldl_toList, Array.toList_zipIdx]
            simpa using this
          obtain ⟨vs', k1, k2, k3, k4⟩ := fill_rel place parts vparts (Abs.splice cs off x.cells) cs' _ e r (h.splice rc off) (by
            intro c hc
            simp only [Abs.splice, List.mem_append] at hc
            rcases hc with (hc | hc) | hc
            · exact h1 c (List.mem_of_mem_take hc)
            · exact r1 c hc
            · exact h1 c (List.mem_of_mem_drop hc)) ef
          refine ⟨vs', ?_, k2, k3, ?_⟩
          · simp only [Instr.fill, hp]
            rw [if_neg (by simp [hsz]; omega)]
            rw [key]
            exact k1
          · rw [k4]; simp [Abs.splice]; omega
        · simp at ef
end run
def ikd (P : Program) (t : TypeId) : Option IntKind :=
  match P.underlying t with
  | some (.int k) => some k
  | _ => none
def cvInt (P : Program) (src dst : TypeId) : Option IntKind :=
  match ikd P src, ikd P dst with
  | some _, some k => some k
  | _, _ => none
theorem ikd_spec {P : Program} {t : TypeId} {k : IntKind} (h : ikd P t = some k) : P.underlying t = some (.int k) := by
  unfold ikd at h
  split at h <;> simp only [Option.some.injEq, reduceCtorEq] at h
  subst h; assumption
def isSlc (P : Program) (t : TypeId) : Bool :=
  match P.underlying t with
  | some (.slice _) => true
  | _ => false
def isStr (P : Program) (t : TypeId) : Bool :=
  match P.underlying t with
  | some .string => true
  | _ => false
def concrete (P : Program) (t : TypeId) : Bool :=
  match P.underlying t with
  | some (.interface _) | none => false
  | _ => true
def tkLen : TK → Nat
  | .scal => 1
  | .aggr n => n
  | .bad => 0
def sval (P : Program) (s : AS) : Op → Option AV
  | .move x | .assign x => some (s.ev x)
  | .pick c a b =>
    match s.ev c with
    | .val (.bool g) => some (bif g then s.ev a else s.ev b)
    | _ => none
  | .build T parts =>
    match places P T, zc P T with
    | some pl, some z => (afill (pl[·]?) (z.map AV.val) (parts.toList.map fun p => (p.1, s.ev p.2))).map AV.agg
    | _, _ => none
  | .load T x =>
    match s.ev x with
    | .ptr k off =>
      match s.ob[k]? with
      | some (.box _ cs) => part' cs off (tk P T)
      | _ => none
    | .ref _ y => if tkLen (tk P T) = y.cells.length then part' y.cells 0 (tk P T) else none
    | _ => none
  | .nilCheck x =>
    match s.ev x with
    | .ptr k off => some (.ptr k off)
    | .ept k off => some (.ept k off)
    | .ref nw y => some (.ref nw y)
    | .fn f l m => (match f with | .method _ => none | _ => some (.fn f l m))
    | _ => none
  | .binOp op T x (.const v) _ =>
    match op with
    | .eql => if nilLit (nk P T) v = true then (nilIs (nk P T) (s.ev x)).map fun b => .val (.bool b) else binV .eql (s.ev x) (.val v)
    | .neq => if nilLit (nk P T) v = true then (nilIs (nk P T) (s.ev x)).map fun b => .val (.bool !b) else binV .neq (s.ev x) (.val v)
    | _ => binV op (s.ev x) (.val v)
  | .binOp op _ x y _ => binV op (s.ev x) (s.ev y)
  | .unOp .not _ x =>
    match s.ev x with
    | .val (.bool b) => some (.val (.bool !b))
    | _ => none
  | .unOp .neg _ x =>
    match s.ev x with
    | .val (.int k n) => some (.val (.int k (k.wrap (0 - n))))
    | _ => none
  | .convert src dst x =>
    match cvInt P src dst, s.ev x with
    | some k, .val (.int _ n) => some (.val (.int k (k.wrap n)))
    | _, _ => none
  | .makeInterface T x => if concrete P T = true then some (.ifc T (s.ev x)) else none
  | .makeFunc f l m => some (.fn f (l.toList.map s.ev) (m.toList.map s.ev))
  | .fieldAddr T x f =>
    match fld P T f, s.ev x with
    | some (o, _), .ptr k off => some (.ptr k (off + o))
    | some (o, _), .ept k off => some (.ept k (off + o))
    | some (o, k), .ref nw y => (part' y.cells o k).map (.ref nw ·)
    | _, _ => none
  | .field T x f =>
    match fld P T f, s.ev x with
    | some (o, k), .agg l => part' l o k
    | _, _ => none
  | .extract x i =>
    match s.ev x with
    | .tup l => l[i]?
    | _ => none
  | .call { callee := .builtin .len, args := args, argTypes := ts } =>
    match args.toList, ts.toList with
    | [x], [t] =>
      match s.ev x with
      | .sl _ _ xs => if isSlc P t = true then some (.val (.int .i64 (N xs.length))) else none
      | .val (.slice none 0 0) => if isSlc P t = true then some (.val (.int .i64 0)) else none
      | .val (.string b) => if isStr P t = true then some (.val (.int .i64 (N b.size))) else none
      | .own k =>
        match s.ob[k]? with
        | some (.row _ _ xs) => if isSlc P t = true then some (.val (.int .i64 (N xs.length))) else none
        | _ => none
      | _ => none
    | _, _ => none
  | _ => none
section
variable {P : Program} {E : Env} {s : AS} {ρ : List Value} {B : Nat → Prop} {a : Act} {w : World} {o : Oper}
theorem Rel.val_eq {w : World} {B : Nat → Prop} {bs : Nat} {ρ : List Value} {u v : Value} (h : Rel w B bs ρ (.val u) v) : v = u := by cases h; rfl
theorem RelL.part' {w : World} {B : Nat → Prop} {bs : Nat} {ρ : List Value} {cs : List AV} {vs : List Value} {off : Nat} {k : TK} {x : AV} (h : RelL w B bs ρ cs vs) (e : part' cs off k = some x) :
    (k = .scal ∧ ∃ v, vs[off]? = some v ∧ Rel w B bs ρ x v) ∨ ∃ n, k = .aggr n ∧ off + n ≤ vs.length ∧ Rel w B bs ρ x (.agg ((vs.drop off).take n).toArray) := by
  cases k with
  | scal => exact .inl ⟨rfl, h.get e⟩
  | aggr n =>
    simp only [Abs.part'] at e
    split at e
    · rename_i hl
      simp at e; subst e
      exact .inr ⟨n, rfl, by rw [← h.length_eq]; exact hl, .agg ((h.drop off).take n)⟩
    · simp at e
  | bad => simp [Abs.part'] at e
theorem run_load_cells {T : TypeId} {b o : Nat} {vs : List Value} {k : TK} {cs : List AV} {x : AV} {off : Nat} (hk : tk P T = k) (h : RelL w B E.bs ρ cs vs) (hc : ∀ j v, vs[j]? = some v → w.cell? ⟨b, o + j, none⟩ = some v)
    (e : part' cs off k = some x) : ∃ v, (loadVar T ⟨b, o + off, none⟩).run P w = .ok v w ∧ Rel w B E.bs ρ x v := by
  rcases h.part' e with ⟨rfl, v, hv, hr⟩ | ⟨n, rfl, hl, hr⟩
  · exact ⟨v, run_loadVar_scal hk (hc _ v hv), hr⟩
  · refine ⟨_, run_loadVar_aggr (n := n) hk (by simp; omega) ?_, hr⟩
    intro j v hj
    rw [List.getElem?_take] at hj
    split at hj
    · rw [List.getElem?_drop] at hj
      have := hc _ v hj
      rwa [show o + off + j = o + (off + j) by omega]
    · simp at hj
theorem equal_run {T : TypeId} {x y : Value} {b : Bool} (h : ∀ d, (Op.equalIn (d + 1) T x y).run P w = .ok b w) : (Op.equal T x y).run P w = .ok b w := h 9999
theorem nil_eq {T : TypeId} {v u : Value} {b : Bool} (hl : nilLit (nk P T) u = true)
    (hn : nilV (nk P T) v b) :
    (binOp .eql T v u).run P w = .ok (.bool b) w ∧ (binOp .neq T v u).run P w = .ok (.bool !b) w ∧ ∀ op X, (eqGuard op T X (.const u) v u).run P w = .ok () w := by
  have main : (Op.equal T v u).run P w = .ok b w ∧ (binOp .eql T v u = (do pure (.bool (← Op.equal T v u)))) ∧ (binOp .neq T v u = (do pure (.bool (!(← Op.equal T v u))))) ∧ ∀ op X, (eqGuard op T X (.const u) v u).run P w = .ok () w := by
    unfold nk at hl hn
    unfold nilV at hn
    cases hu : P.underlying T with
    | none => simp [hu] at hn
    | some d =>
      cases d with
      | interface ms =>
        simp only [hu] at hl hn
        cases u <;> simp only [nilLit, Bool.false_eq_true] at hl
        cases v <;> simp only at hn
        all_goals subst hn
        all_goals refine ⟨equal_run fun d => by simp [Op.equalIn, run_underlying hu], rfl, rfl, fun op X => ?_⟩
        all_goals cases op <;> simp [eqGuard]
      | pointer e =>
        simp only [hu] at hl hn
        cases u with
        | pointer q =>
          cases q <;> simp only [nilLit, Bool.false_eq_true] at hl
          cases v with
          | pointer q =>
            cases q <;> simp only at hn
            all_goals subst hn
            all_goals refine ⟨equal_run fun d => by simp [Op.equalIn, run_underlying hu], rfl, rfl, fun op X => ?_⟩
            all_goals cases op <;> simp [eqGuard]
          | _ => simp at hn
        | _ => simp [nilLit] at hl
      | slice e =>
        simp only [hu] at hl hn
        cases u with
        | slice q n c =>
          cases q <;> simp only [nilLit, Bool.false_eq_true] at hl
          cases v with
          | slice q n c =>
            cases q <;> simp only at hn
            all_goals subst hn
            all_goals refine ⟨equal_run fun d => by simp [Op.equalIn, run_underlying hu], rfl, rfl, fun op X => ?_⟩
            all_goals cases op <;> simp [eqGuard]
          | _ => simp at hn
        | _ => simp [nilLit] at hl
      | func a b c =>
        simp only [hu] at hl hn
        cases u <;> simp only [nilLit, Bool.false_eq_true] at hl
        cases v <;> simp only at hn
        all_goals subst hn
        all_goals refine ⟨equal_run fun d => by simp [Op.equalIn, run_underlying hu], rfl, rfl, fun op X => ?_⟩
        all_goals cases op <;> simp [eqGuard]
      | _ => simp [hu] at hn
  obtain ⟨m1, m2, m3, m4⟩ := main
  refine ⟨by rw [m2]; simp [m1], by rw [m3]; simp [m1], m4⟩
theorem nilIs_val {k : NK} {x : AV} {v : Value} {b : Bool} (hn : nilIs k x = some b) (hv : Rel w B E.bs ρ x v) :
    nilV k v b := by
  unfold nilV
  unfold nilIs at hn
  split at hn <;> simp at hn
  all_goals subst hn
  all_goals cases hv
  all_goals simp
theorem binV_run {op : BinOp} {T : TypeId} {x y z : AV} {u v : Value} (h : binV op x y = some z) (hx : Rel w B E.bs ρ x u) (hy : Rel w B E.bs ρ y v) :
    ∃ r, (binOp op T u v).run P w = .ok r w ∧ z = .val r ∧ ∀ X Y, (eqGuard op T X Y u v).run P w = .ok () w := by
  unfold binV at h
  split at h
  · rename_i k a k' b
    obtain rfl := hx.val_eq
    obtain rfl := hy.val_eq
    have hg : ∀ X Y, (eqGuard op T X Y (.int k a) (.int k' b)).run P w = .ok () w := fun X Y => by cases op <;> simp [eqGuard]
    cases op <;> simp only at h <;> (repeat' split at h) <;> (try (simp at h; done)) <;> (simp only [Option.some.injEq] at h; subst h)
    all_goals refine ⟨_, ?_, rfl, hg⟩
    all_goals simp_all [binOp, Op.intArith, Op.intDiv, Op.intBits, Op.intCmp, Op.shift, bitsV]
    all_goals (intro hneg; omega)
  · rename_i p q
    obtain rfl := hx.val_eq
    obtain rfl := hy.val_eq
    have hg : ∀ X Y, (eqGuard op T X Y (.string p) (.string q)).run P w = .ok () w := fun X Y => by cases op <;> simp [eqGuard]
    cases op <;> simp only at h <;> (try (simp at h; done)) <;> (simp only [Option.some.injEq] at h; subst h)
    all_goals refine ⟨_, ?_, rfl, hg⟩
    all_goals simp [binOp, Op.stringOp]
  · simp at h
theorem fld_spec {T : TypeId} {f o : Nat} {k : TK} (h : fld P T f = some (o, k)) : ∃ fs g i, P.underlying T = some (.struct fs) ∧ fs[f]? = some g ∧ g.offset = o ∧ tk P g.type = k ∧ P.info? g.type = some i ∧ i.size ≠ 0 ∧ k ≠ .bad := by
  unfold fld at h
  split at h
  · rename_i fs hu
    cases hg : fs[f]? with
    | none => simp [hg] at h
    | some g =>
      simp only [hg, Option.bind_some] at h
      split at h
      · simp at h
      · simp at h
      · rename_i k' h1 h2
        simp only [Option.some.injEq, Prod.mk.injEq] at h
        obtain ⟨rfl, rfl⟩ := h
        cases hk : tk P g.type with
        | scal =>
          obtain ⟨d, i, _, hi, hs, _⟩ := tk_scal hk
          exact ⟨fs, g, i, hu, hg, rfl, hk, hi, by omega, by simp⟩
        | aggr n =>
          obtain ⟨d, i, _, hi, hs, _⟩ := tk_aggr hk
          refine ⟨fs, g, i, hu, hg, rfl, hk, hi, ?_, by simp⟩
          rintro h0
          rw [h0] at hs; subst hs
          exact h2 hk
        | bad => exact absurd hk h1
  · simp at h
theorem run_fieldAt {T : TypeId} {f o b off : Nat} {k : TK} (h : fld P T f = some (o, k)) :
    (Instr.fieldAt T (.pointer (some ⟨b, off, none⟩)) f).run P w = .ok (.pointer (some ⟨b, off + o, none⟩)) w := by
  obtain ⟨fs, g, i, hu, hg, rfl, hk, hi, hs, hb⟩ := fld_spec h
  simp [Instr.fieldAt, run_underlying hu, hg, Instr.sureAddr, fieldPlace, run_sizeOf hi, hs, addr_add]
theorem run_fieldOf {T : TypeId} {f o : Nat} {k : TK} {l : List AV} {cs : List Value} {x : AV} (h : fld P T f = some (o, k)) (hr : RelL w B E.bs ρ l cs) (e : part' l o k = some x) :
    ∃ v, (Instr.field T (.agg cs.toArray) f).run P w = .ok v w ∧ Rel w B E.bs ρ x v := by
  obtain ⟨fs, g, i, hu, hg, rfl, hk, hi, hs, hb⟩ := fld_spec h
  rcases hr.part' e with ⟨rfl, v, hv, hr⟩ | ⟨n, rfl, hl, hr⟩
  · refine ⟨v, ?_, hr⟩
    obtain ⟨d, i', hu', hi', hs', hd'⟩ := tk_scal hk
    simp [Instr.field, run_underlying hu, hg, asAgg, part, run_isAgg hu', hd', hv]
  · refine ⟨_, ?_, hr⟩
    obtain ⟨d, i', hu', hi', hs', hd'⟩ := tk_aggr hk
    simp [Instr.field, run_underlying hu, hg, asAgg, part, run_isAgg hu', hd', run_sizeOf hi', hs']
theorem RelL.map_ev (hs : RS E s ρ B a w) : ∀ l : List Operand, RelL w B E.bs ρ (l.map s.ev) (l.map a.eval)
  | [] => .nil
  | x :: l => .cons (hs.ev x) (RelL.map_ev hs l)
theorem RelL.vals : ∀ (l : List Value), RelL w B E.bs ρ (l.map AV.val) l
  | [] => .nil
  | x :: l => .cons (.val x) (RelL.vals l)
theorem box_cells {k b : Nat} {T : TypeId} {cs : List AV} (hs : RS E s ρ B a w) (h : s.ob[k]? = some (.box T cs)) :
    ∃ b vs fz, ρ[k]? = some (.pointer (some ⟨b, 0, none⟩)) ∧ w.heap[b]? = some (.cells (List.toArray vs) T fz) ∧ thaw fz vs.length ∧ RelL w B E.bs ρ cs vs ∧ (∀ c ∈ cs, c.oc = true) ∧
      ∀ j v, vs[j]? = some v → w.cell? ⟨b, 0 + j, none⟩ = some v := by
  obtain ⟨b, vs, fz, h1, h2, h3, h4, h5⟩ := hs.rw_.obs k _ h
  refine ⟨b, vs, fz, h1, h2, h3, h4, h5, ?_⟩
  intro j v hj
  simp [World.cell?, h2, hj]
theorem run_len_slice {t ty : TypeId} {A : Option Addr} {n c : Nat} (h : isSlc P t = true) : (Builtin.len_ #[t] ty #[.slice A n c]).run P w = .ok (.int .i64 n) w := by
  unfold isSlc at h
  split at h
  · rename_i e hu; simp [Builtin.len_, run_underlying hu, goInt]
  · simp at h
theorem run_len_string {t ty : TypeId} {b : ByteArray} (h : isStr P t = true) : (Builtin.len_ #[t] ty #[.string b]).run P w = .ok (.int .i64 b.size) w := by
  unfold isStr at h
  split at h
  · rename_i hu; simp [Builtin.len_, run_underlying hu, goInt]
  · simp at h
theorem bin_run {op : BinOp} {T : TypeId} {x y : Operand} {z : AV} (hs : RS E s ρ B a w) (h : binV op (s.ev x) (s.ev y) = some z) :
    ∃ v, (do eqGuard op T x y (a.eval x) (a.eval y); binOp op T (a.eval x) (a.eval y) : Sem Value).run P w = .ok v w ∧ Rel w B E.bs ρ z v := by
  obtain ⟨r, h1, rfl, h2⟩ := binV_run (P := P) (T := T) h (hs.ev x) (hs.ev y)
  refine ⟨r, ?_, .val r⟩
  simp [h2 x y, h1]
theorem bin_runC {op : BinOp} {T : TypeId} {x : Operand} {c : Value} {z : AV} (hs : RS E s ρ B a w) (h : binV op (s.ev x) (.val c) = some z) :
    ∃ v, (do eqGuard op T x (.const c) (a.eval x) (c); binOp op T (a.eval x) (c) : Sem Value).run P w = .ok v w ∧ Rel w B E.bs ρ z v := by
  obtain ⟨r, h1, rfl, h2⟩ := binV_run (P := P) (T := T) h (hs.ev x) (.val c)
  refine ⟨r, ?_, .val r⟩
  simp [h2 x (.const c), h1]
theorem sval_run {x : AV} (h : sval P s o.op = some x) (hs : RS E s ρ B a w) : ∃ v, (execOp a.eval o).run P w = .ok (.value v) w ∧ Rel w B E.bs ρ x v := by
  have val : ∀ {e : Sem Value} {v : Value}, e.run P w = .ok v w → (do pure (.value (← e)) : Sem Next).run P w = .ok (.value v) w := fun h => by simp [h]
  obtain ⟨dst, op, ty, pos, after, guard⟩ := o
  simp only at h
  cases op <;> simp only [sval] at h <;> (try (simp at h; done))
  case move y => simp only [Option.some.injEq] at h; subst h; exact ⟨_, rfl, hs.ev y⟩
  case assign y => simp only [Option.some.injEq] at h; subst h; exact ⟨_, rfl, hs.ev y⟩
  case pick c y z =>
    have hc := hs.ev c
    split at h <;> simp only [Option.some.injEq, reduceCtorEq] at h
    rename_i g e
    rw [e] at hc
    have hv := hc.val_eq
    subst h
    simp only [execOp, hv]
    cases g
    · exact ⟨_, rfl, hs.ev z⟩
    · exact ⟨_, rfl, hs.ev y⟩
  case build T parts =>
    split at h <;> (try (simp at h; done))
    rename_i pl z hpl hz
    simp only [Option.map_eq_some_iff] at h
    obtain ⟨cs, hf, rfl⟩ := h
    unfold places at hpl
    unfold zc at hz
    cases hi : P.info? T with
    | none => simp [hi] at hz
    | some i =>
      cases hzz : i.zero with
      | none => simp [hi, hzz] at hz
      | some zv =>
        simp only [hi, hzz, Option.bind_some] at hz
        split at hz <;> simp only [Option.some.injEq, reduceCtorEq] at hz
        rename_i hall
        subst hz
        obtain ⟨vs', k1, k2, k3, k4⟩ := fill_rel (w := w) (B := B) (bs := E.bs) (ρ := ρ) (pl[·]?) (parts.toList.map fun p => (p.1, s.ev p.2)) (parts.toList.map fun p => (p.1, a.eval p.2)) (zv.cells.toList.map AV.val) cs zv.cells.toList
          (by simp) (by simpa [Function.comp_def] using RelL.map_ev hs (parts.toList.map (·.2))) (RelL.vals _) (by
            intro c hc
            simp only [List.mem_map] at hc
            obtain ⟨v, hv, rfl⟩ := hc
            exact List.all_eq_true.1 hall v hv) hf
        refine ⟨.agg vs'.toArray, ?_, .agg k2⟩
        have hzv : (zeroValue T).run P w = .ok zv w := by simp [zeroValue, typeInfo, hi, hzz]
        split at hpl <;> (try (simp at hpl; done))
        · rename_i fs hu
          have hpl' : (fs.mapM fun f => (do pure (f.offset, ← sizeOf f.type) : Sem (Nat × Nat))).run P w = .ok pl.toArray w := by
            refine run_mapM_array _ _ ?_ fs pl w hpl
            intro x y w hx
            simp only [Option.map_eq_some_iff] at hx
            obtain ⟨j, hj, rfl⟩ := hx
            simp [run_sizeOf hj]
          simp only [execOp]
          refine val ?_
          simp only [Instr.build, Sem.run_bind, hzv, run_underlying hu, Result.andThen_ok, hpl']
          have k1' : Instr.fill (pl.toArray[·]?) zv.cells (Array.map (fun x => (x.fst, a.eval x.snd)) parts).toList = some vs'.toArray := by
            simpa using k1
          rw [k1']
          simp
        · rename_i n e hu
          simp only [Option.map_eq_some_iff] at hpl
          obtain ⟨j, hj, rfl⟩ := hpl
          simp only [execOp]
          refine val ?_
          simp only [Instr.build, Sem.run_bind, hzv, run_underlying hu, Result.andThen_ok, run_sizeOf hj]
          have k1' : Instr.fill (fun i => some (i * j.size, j.size)) zv.cells (Array.map (fun x => (x.fst, a.eval x.snd)) parts).toList = some vs'.toArray := by
            refine fill_array n j.size _ _ _ ?_
            simpa using k1
          rw [k1']
          simp
  case load T y =>
    have hy := hs.ev y
    split at h <;> (try (simp at h; done))
    · rename_i k off e
      rw [e] at hy
      split at h <;> (try (simp at h; done))
      rename_i T' cs hk
      obtain ⟨b, vs, fz, r1, r2, r3, r4, r5, r6⟩ := box_cells hs hk (b := 0)
      simp only [execOp]
      generalize a.eval y = u at hy
      cases hy with
      | ptr hp =>
        rw [r1] at hp
        simp only [Option.some.injEq, Value.pointer.injEq, Addr.mk.injEq, and_true] at hp
        subst hp
        obtain ⟨v, h1, h2⟩ := run_load_cells (T := T) rfl r4 r6 h
        exact ⟨v, val (by simpa [Instr.loadAt, Instr.sureAddr] using h1), h2⟩
    · rename_i nw y' e
      rw [e] at hy
      split at h <;> (try (simp at h; done))
      rename_i hlen
      simp only [execOp]
      generalize a.eval y = u at hy
      cases hy with
      | ref hc hn =>
        obtain ⟨vs, c1, c2, c3⟩ := hc.get
        obtain ⟨v, h1, h2⟩ := run_load_cells (T := T) (off := 0) rfl c1 c3 h
        exact ⟨v, val (by simpa [Instr.loadAt, Instr.sureAddr] using h1), h2⟩
  case nilCheck y =>
    have hy := hs.ev y
    split at h <;> (try (simp at h; done))
    · rename_i e; rw [e] at hy; simp only [Option.some.injEq] at h; subst h
      simp only [execOp]
      generalize a.eval y = u at hy
      cases hy with | ptr hp => exact ⟨_, rfl, .ptr hp⟩
    · rename_i e; rw [e] at hy; simp only [Option.some.injEq] at h; subst h
      simp only [execOp]
      generalize a.eval y = u at hy
      cases hy with | ept hp => exact ⟨_, rfl, .ept hp⟩
    · rename_i e; rw [e] at hy; simp only [Option.some.injEq] at h; subst h
      simp only [execOp]
      generalize a.eval y = u at hy
      cases hy with | ref hp hn => exact ⟨_, rfl, .ref hp hn⟩
    · rename_i f l m e
      rw [e] at hy
      split at h <;> (try (simp at h; done))
      rename_i hf
      simp only [Option.some.injEq] at h; subst h
      simp only [execOp]
      generalize a.eval y = u at hy
      cases hy with
      | fn h1 h2 =>
        refine ⟨_, ?_, .fn h1 h2⟩
        cases f <;> first | rfl | exact absurd rfl (hf _)
  case binOp op T y z yt =>
    simp only [execOp]
    cases z with
    | const c =>
      simp only at h
      cases op <;> simp only at h
      case eql =>
        split at h
        · rename_i hl
          simp only [Option.map_eq_some_iff] at h
          obtain ⟨b, hb, rfl⟩ := h
          obtain ⟨n1, n2, n3⟩ := nil_eq (w := w) hl (nilIs_val hb (hs.ev y))
          exact ⟨_, val (by simp only [Sem.run_bind, show a.eval (.const c) = c from rfl, n3, Result.andThen_ok]; exact n1), .val _⟩
        · obtain ⟨v, h1, h2⟩ := bin_runC (P := P) (T := T) (c := c) hs h; exact ⟨v, val h1, h2⟩
      case neq =>
        split at h
        · rename_i hl
          simp only [Option.map_eq_some_iff] at h
          obtain ⟨b, hb, rfl⟩ := h
          obtain ⟨n1, n2, n3⟩ := nil_eq (w := w) hl (nilIs_val hb (hs.ev y))
          exact ⟨_, val (by simp only [Sem.run_bind, show a.eval (.const c) = c from rfl, n3, Result.andThen_ok]; exact n2), .val _⟩
        · obtain ⟨v, h1, h2⟩ := bin_runC (P := P) (T := T) (c := c) hs h; exact ⟨v, val h1, h2⟩
      all_goals
        obtain ⟨v, h1, h2⟩ := bin_runC (P := P) (T := T) (c := c) hs h
        exact ⟨v, val h1, h2⟩
    | _ =>
      simp only at h
      obtain ⟨v, h1, h2⟩ := bin_run (P := P) (T := T) hs h
      exact ⟨v, val h1, h2⟩
  case unOp op T y =>
    have hy := hs.ev y
    cases op <;> simp only at h <;> (try (simp at h; done))
    all_goals
      split at h <;> (try (simp at h; done))
      rename_i e
      rw [e] at hy
      have hv := hy.val_eq
      simp only [Option.some.injEq] at h
      subst h
      simp only [execOp, hv]
      exact ⟨_, val rfl, .val _⟩
  case convert src dst' y =>
    have hy := hs.ev y
    split at h <;> (try (simp at h; done))
    rename_i k k' n hc e
    rw [e] at hy
    have hv := hy.val_eq
    simp only [Option.some.injEq] at h
    subst h
    unfold cvInt at hc
    split at hc <;> simp only [Option.some.injEq, reduceCtorEq] at hc
    rename_i hsrc hdst
    subst hc
    replace hsrc := ikd_spec hsrc
    replace hdst := ikd_spec hdst
    simp only [execOp, hv]
    exact ⟨_, val (by simp [convert, run_underlying hsrc, run_underlying hdst, Conv.intToInt]), .val _⟩
  case makeInterface T y =>
    split at h <;> (try (simp at h; done))
    rename_i hc
    simp only [Option.some.injEq] at h
    subst h
    refine ⟨.iface T (a.eval y), ?_, .ifc (hs.ev y)⟩
    simp only [execOp]
    refine val ?_
    unfold concrete at hc
    cases hu : P.underlying T with
    | none => simp [hu] at hc
    | some d => cases d <;> simp [hu] at hc <;> simp [Instr.makeInterface, run_underlying hu]
  case makeFunc f l m =>
    simp only [Option.some.injEq] at h
    subst h
    refine ⟨.func f (l.map a.eval) (m.map a.eval), ?_, ?_⟩
    · simp only [execOp]; exact val rfl
    · show Rel w B E.bs ρ _ _
      have := Rel.fn (f := f) (RelL.map_ev hs l.toList) (RelL.map_ev hs m.toList)
      have e : ∀ l : Array Operand, (List.map a.eval l.toList).toArray = l.map a.eval := fun l => by apply Array.ext'; simp
      rw [e, e] at this
      exact this
  case fieldAddr T y f =>
    have hy := hs.ev y
    split at h <;> (try (simp at h; done))
    · rename_i o' k' k off hf e
      rw [e] at hy
      simp only [Option.some.injEq] at h; subst h
      simp only [execOp]
      generalize a.eval y = u at hy
      cases hy with | ptr hp => exact ⟨_, val (run_fieldAt hf), .ptr hp⟩
    · rename_i o' k' k off hf e
      rw [e] at hy
      simp only [Option.some.injEq] at h; subst h
      simp only [execOp]
      generalize a.eval y = u at hy
      cases hy with | ept hp => exact ⟨_, val (run_fieldAt hf), .ept hp⟩
    · rename_i o' k' nw y' hf e
      rw [e] at hy
      simp only [Option.map_eq_some_iff] at h
      obtain ⟨z, hz, rfl⟩ := h
      simp only [execOp]
      generalize a.eval y = u at hy
      cases hy with
      | ref hc hn =>
        refine ⟨_, val (run_fieldAt hf), .ref ?_ ?_⟩
        · cases k' with
          | scal =>
            simp only [Abs.part'] at hz
            obtain ⟨vs, c1, c2, c3⟩ := RelCells.get hc
            have hd := hc.drop o'
            have h1 : z.one = true := c2 z (List.mem_of_getElem? hz)
            have hzc : z.cells = [z] := by cases z <;> simp_all [AV.cells, AV.one]
            rw [hzc]
            have : (y'.cells.drop o').take 1 = [z] := by
              rw [List.take_one, List.head?_drop, hz]; rfl
            rw [← this]
            exact hd.take 1
          | aggr n =>
            simp only [Abs.part'] at hz
            split at hz <;> simp only [Option.some.injEq, reduceCtorEq] at hz
            subst hz
            exact (hc.drop o').take n
          | bad => simp [Abs.part'] at hz
        · cases k' with
          | scal =>
            simp only [Abs.part'] at hz
            obtain ⟨vs, c1, c2, c3⟩ := RelCells.get hc
            have h1 : z.one = true := c2 z (List.mem_of_getElem? hz)
            cases z <;> simp_all [AV.cells, AV.one]
          | aggr n =>
            obtain ⟨_, _, _, _, _, _, _, hi, hsz, _⟩ := fld_spec hf
            simp only [Abs.part'] at hz
            split at hz <;> simp only [Option.some.injEq, reduceCtorEq] at hz
            subst hz
            intro hnil
            have : (AV.cells (.agg (List.take n (List.drop o' y'.cells)))).length = n := by show (List.take n (List.drop o' y'.cells)).length = n; simp; omega
            rw [hnil] at this
            obtain ⟨fs, g, i, _, _, _, hk, hi, hsz, _⟩ := fld_spec hf
            obtain ⟨_, i', _, hi', hs', _⟩ := tk_aggr hk
            rw [hi] at hi'
            simp at hi' this
            subst hi'
            omega
          | bad => simp [Abs.part'] at hz
  case field T y f =>
    have hy := hs.ev y
    split at h <;> (try (simp at h; done))
    rename_i o' k' l hf e
    rw [e] at hy
    simp only [execOp]
    generalize a.eval y = u at hy
    cases hy with
    | agg hr =>
      obtain ⟨v, h1, h2⟩ := run_fieldOf hf hr h
      exact ⟨v, val h1, h2⟩
  case extract y i =>
    have hy := hs.ev y
    split at h <;> (try (simp at h; done))
    rename_i l e
    rw [e] at hy
    simp only [execOp]
    generalize a.eval y = u at hy
    cases hy with
    | tup hr =>
      obtain ⟨v, h1, h2⟩ := hr.get h
      exact ⟨v, val (by simp [Instr.extract, h1]), h2⟩
  case call c =>
    obtain ⟨callee, args, ts⟩ := c
    cases callee <;> (try (simp at h; done))
    rename_i bi
    cases bi <;> (try (simp at h; done))
    simp only at h
    split at h <;> (try (simp at h; done))
    rename_i x t hx ht
    obtain rfl : args = #[x] := by apply Array.ext'; simpa using hx
    obtain rfl : ts = #[t] := by apply Array.ext'; simpa using ht
    have hv := hs.ev x
    have key : ∀ v, (Builtin.len_ #[t] ty #[a.eval x]).run P w = .ok v w → (execOp a.eval { dst := dst, op := .call { callee := .builtin .len, args := #[x], argTypes := #[t] }, type := ty, pos := pos, after := after, guard := guard }).run P w = .ok (.value v) w := by
      intro v h
      simp [execOp, resolve, invoke, builtin, h]
    split at h <;> (try (simp at h; done))
    · rename_i e; rw [e] at hv
      split at h <;> simp only [Option.some.injEq, reduceCtorEq] at h
      rename_i hc
      subst h
      refine ⟨_, key _ ?_, .val _⟩
      generalize a.eval x = u at hv
      cases hv with
      | slE => exact run_len_slice hc
      | sl => exact run_len_slice hc
    · rename_i e; rw [e] at hv
      split at h <;> simp only [Option.some.injEq, reduceCtorEq] at h
      rename_i hc
      subst h
      refine ⟨_, key _ ?_, .val _⟩
      rw [hv.val_eq]
      exact run_len_slice hc
    · rename_i e; rw [e] at hv
      split at h <;> simp only [Option.some.injEq, reduceCtorEq] at h
      rename_i hc
      subst h
      refine ⟨_, key _ ?_, .val _⟩
      rw [hv.val_eq]
      exact run_len_string hc
    · rename_i k e; rw [e] at hv
      split at h <;> (try (simp at h; done))
      rename_i T sz xs hk
      split at h <;> simp only [Option.some.injEq, reduceCtorEq] at h
      rename_i hc
      subst h
      refine ⟨_, key _ ?_, .val _⟩
      obtain ⟨h0, hr⟩ := hs.rw_.obs k _ hk
      generalize a.eval x = u at hv
      cases hv with
      | own hp =>
        rcases hr with ⟨rfl, hr⟩ | ⟨b, cap, vs, ws, fz, h1, _⟩
        · rw [hr] at hp; simp only [Option.some.injEq] at hp; subst hp; exact run_len_slice hc
        · rw [h1] at hp; simp only [Option.some.injEq] at hp; subst hp; exact run_len_slice hc
end
set_option linter.unusedVariables false
set_option linter.unusedSectionVars false
set_option linter.unusedSimpArgs false
def elSz (P : Program) (T : TypeId) : Option Nat :=
  match P.underlying T with
  | some (.slice e) => (P.info? e).bind fun i => match zc P e with
    | some z => if z.length = i.size then some i.size else none
    | none => none
  | _ => none
def elB (P : Program) (T : TypeId) : Nat :=
  match P.underlying T with
  | some (.slice e) => ((P.info? e).map (·.bytes)).getD 0
  | _ => 0
def sstep (P : Program) (s : AS) (o : Oper) : Option AS :=
  match o.op with
  | .alloc T => (zc P T).map fun z => ({ s with ob := s.ob ++ [.box T (z.map AV.val)] } : AS).put o.dst (.ptr s.ob.length 0)
  | .box T x => if (s.ev x).flat = true then some (({ s with ob := s.ob ++ [.box T (s.ev x).cells] } : AS).put o.dst (.ptr s.ob.length 0)) else none
  | .store T x v =>
    match s.ev x with
    | .ptr k off =>
      match s.ob[k]? with
      | some (.box T' cs) =>
        if (s.ev v).flat = true ∧ (s.ev v).cells.length = tkLen (tk P T) ∧ 0 < (s.ev v).cells.length ∧ off + (s.ev v).cells.length ≤ cs.length then
          some (({ s with ob := s.ob.set k (.box T' (splice cs off (s.ev v).cells)) } : AS).put o.dst .any)
        else none
      | _ => none
    | _ => none
  | .buildSlice T len parts =>
    match elSz P T with
    | some sz => if 0 < len ∧ parts.toList.map (·.1) = List.range len ∧ (∀ p ∈ parts.toList, (s.ev p.2).flat = true ∧ (s.ev p.2).cells.length = sz) ∧ len * sz ≤ 2 ^ 24 then
        some (s.put o.dst (.sl true sz (parts.toList.map fun p => s.ev p.2))) else none
    | none => none
  | op => (sval P s op).map fun x => s.put o.dst x
def srun (P : Program) (ops : Array Oper) : List Oper → AS → List Oper × AS
  | [], s => ([], s)
  | o :: r, s =>
    match gd ops s o with
    | some true =>
      match sstep P s o with
      | some s' => srun P ops r s'
      | none => (o :: r, s)
    | some false => srun P ops r (s.put o.dst (.val (.tuple #[])))
    | none => (o :: r, s)
def cont (P : Program) (ops : Array Oper) (g : Option Bool) (x : Option AS) (o : Oper) (r : List Oper) (s : AS) : List Oper × AS :=
  match g with
  | some true =>
    match x with
    | some s' => srun P ops r s'
    | none => (o :: r, s)
  | some false => srun P ops r (s.put o.dst (.val (.tuple #[])))
  | none => (o :: r, s)
theorem srun_nil (P : Program) (ops : Array Oper) (s : AS) : srun P ops [] s = ([], s) := rfl
theorem srun_cons (P : Program) (ops : Array Oper) (o : Oper) (r : List Oper) (s : AS) : srun P ops (o :: r) s = cont P ops (gd ops s o) (sstep P s o) o r s := by
  simp only [srun, cont]
theorem cont_t (P : Program) (ops : Array Oper) (s' : AS) (o : Oper) (r : List Oper) (s : AS) : cont P ops (some true) (some s') o r s = srun P ops r s' := rfl
theorem cont_tn (P : Program) (ops : Array Oper) (o : Oper) (r : List Oper) (s : AS) : cont P ops (some true) none o r s = (o :: r, s) := rfl
theorem cont_f (P : Program) (ops : Array Oper) (x : Option AS) (o : Oper) (r : List Oper) (s : AS) : cont P ops (some false) x o r s = srun P ops r (s.put o.dst (.val (.tuple #[]))) := rfl
theorem cont_n (P : Program) (ops : Array Oper) (x : Option AS) (o : Oper) (r : List Oper) (s : AS) : cont P ops none x o r s = (o :: r, s) := rfl
def ARun2 (P : Program) (ops : Array Oper) (p : List Oper × AS) (Q : AS → Prop) : Prop := ARun P ops p.1 p.2 Q
section
variable {P : Program} {ops : Array Oper} {E : Env} {s : AS} {ρ : List Value} {B : Nat → Prop} {a : Act} {w w' : World} {o : Oper} {rest : List Oper} {Q : AS → Prop}
theorem RW.pubNew {ob : List Ob} (h : RW E ob ρ B w) (hs : Same w w') {b : Nat} (h1 : w.heap.size ≤ b) (h2 : b < w'.heap.size) : RW E ob ρ (fun x => B x ∨ x = b) w' := by
  have hBw : ∀ b, B b → w'.heap[b]? = w.heap[b]? := fun b hb => hs.block b (h.blt b hb)
  refine { ep := h.ep, os := hs.os.trans h.os, tape := hs.tape.trans h.tape, output := hs.output.trans h.output, size := Nat.le_trans h.size hs.size,
           block := fun k h1 h2 => (hs.block k (Nat.lt_of_lt_of_le h1 h.size)).trans (h.block k h1 h2), pre := h.pre, bsub := fun b hb => .inl (h.bsub b hb), bnew := ?_,
           blt := ?_, len := h.len, obs := ?_, dis := h.dis, prv := ?_ }
  · rintro x (hx | rfl)
    · exact h.bnew x hx
    · exact .inr (Nat.le_trans h.size h1)
  · rintro x (hx | rfl)
    · exact Nat.lt_of_lt_of_le (h.blt x hx) hs.size
    · exact h2
  · intro k o hk
    refine (h.obs k o hk).mono (fun _ h => .inl h) hBw (fun _ _ h => h) ?_
    intro v b' l hv hb
    exact hs.block b' (h.prv k o v b' hk l hv hb).2.1
  · intro k o v b' hk l hv hb
    obtain ⟨p1, p2, p3⟩ := h.prv k o v b' hk l hv hb
    refine ⟨?_, Nat.lt_of_lt_of_le p2 hs.size, p3⟩
    rintro (hx | rfl)
    · exact p1 hx
    · omega
theorem RS.pubNew (h : RS E s ρ B a w) (hs : Same w w') {b : Nat} (h1 : w.heap.size ≤ b) (h2 : b < w'.heap.size) : RS E s ρ (fun x => B x ∨ x = b) a w' :=
  ⟨h.rw_.pubNew hs h1 h2, h.m, h.n, h.df, h.jj.chg ⟨hs.os, hs.tape, hs.output, hs.size, fun b hb _ => hs.block b hb, fun _ h => .inl h, fun _ h => .inl h, fun _ h => h.elim .inl fun e => .inr (.inr (by rw [e]; exact h1))⟩ (h.rw_.pubNew hs h1 h2).bd, fun t x hm => ⟨(h.rf t x hm).1, (h.rf t x hm).2.mono (fun _ h => .inl h) (fun b hb => hs.block b (h.rw_.blt b hb)) (Nat.le_refl _) (fun _ _ h => h)⟩⟩
theorem one_cells {x : AV} (h : x.one = true) : x.cells = [x] := by
  cases x <;> simp_all [AV.cells, AV.one]
theorem fill_all (sz : Nat) : ∀ (ys : List AV) (k : Nat) (cs : List AV), cs.length = (k + ys.length) * sz → (∀ y ∈ ys, y.flat = true ∧ y.cells.length = sz) →
    afill (fun i => some (i * sz, sz)) cs ((List.range' k ys.length).zip ys) = some (cs.take (k * sz) ++ ys.flatMap AV.cells)
  | [], k, cs, h, _ => by
    simp only [List.length_nil, List.range'_zero, List.zip_nil_left, afill, List.flatMap_nil, List.append_nil]
    rw [List.take_of_length_le (by simp at h; omega)]
  | y :: ys, k, cs, h, hy => by
    obtain ⟨hf, hl⟩ := hy y (by simp)
    have hlen : k * sz + sz ≤ cs.length := by rw [h]; simp only [List.length_cons]; rw [Nat.add_mul, Nat.add_mul]; omega
    simp only [List.length_cons, List.range'_succ, List.zip_cons_cons, afill]
    rw [if_pos ⟨hf, hl, by omega⟩]
    have hc : (splice cs (k * sz) y.cells).length = (k + 1 + ys.length) * sz := by
      simp only [splice, List.length_append, List.length_take, List.length_drop, hl]
      rw [h] at hlen ⊢
      simp only [List.length_cons] at hlen ⊢
      have : (k + 1 + ys.length) * sz = (k + (ys.length + 1)) * sz := by rw [show k + 1 + ys.length = k + (ys.length + 1) by omega]
      omega
    rw [fill_all sz ys (k + 1) _ hc (fun z hz => hy z (by simp [hz]))]
    congr 1
    rw [List.flatMap_cons, ← List.append_assoc]
    congr 1
    unfold splice
    exact List.take_left' (by simp only [List.length_append, List.length_take, hl]; rw [Nat.add_mul]; omega)
theorem range_zip (l : List (Nat × Operand)) (n : Nat) (h : l.map (·.1) = List.range n) (f : Operand → AV) : (l.map fun p => (p.1, f p.2)) = (List.range' 0 (l.map fun p => f p.2).length).zip (l.map fun p => f p.2) := by
  have hn : l.length = n := by have := congrArg List.length h; simpa using this
  rw [List.length_map, hn, ← List.range_eq_range', ← h]
  clear h hn
  induction l with
  | nil => rfl
  | cons p l ih => simp only [List.map_cons, List.zip_cons_cons, ih]
theorem elSz_spec {T : TypeId} {sz : Nat} (h : elSz P T = some sz) : ∃ e i zv, P.underlying T = some (.slice e) ∧ P.info? e = some i ∧ i.size = sz ∧ i.zero = some zv ∧ zv.cells.size = sz ∧ ∀ v ∈ zv.cells.toList, v.oneCell' = true := by
  unfold elSz at h
  split at h <;> (try (simp at h; done))
  rename_i e hu
  cases hi : P.info? e with
  | none => simp [hi] at h
  | some i =>
    simp only [hi, Option.bind_some] at h
    split at h <;> (try (simp at h; done))
    rename_i z hz
    split at h <;> simp only [Option.some.injEq, reduceCtorEq] at h
    rename_i hl
    unfold zc at hz
    cases hzz : i.zero with
    | none => simp [hi, hzz] at hz
    | some zv =>
      simp only [hi, hzz, Option.bind_some] at hz
      split at hz <;> simp only [Option.some.injEq, reduceCtorEq] at hz
      rename_i hall
      subst hz
      refine ⟨e, i, zv, hu, hi, h, hzz, by rw [← h, ← hl]; simp, fun v hv => List.all_eq_true.1 hall v hv⟩
theorem run_buildSlice {T : TypeId} {sz len : Nat} {parts : Array (Nat × Operand)} (hsz : elSz P T = some sz) (hp : parts.toList.map (·.1) = List.range len)
    (hx : ∀ p ∈ parts.toList, (s.ev p.2).flat = true ∧ (s.ev p.2).cells.length = sz) (hlen : len * sz ≤ 2 ^ 24)
    (hs : RS E s ρ B a w) :
    ∃ e vs, P.underlying T = some (.slice e) ∧ (Instr.buildSlice T len (parts.map fun (i, x) => (i, a.eval x))).run P w = .ok (.slice (some ⟨w.heap.size, 0, none⟩) len len) (w.alloc (.cells (List.toArray vs) e)) ∧
      RelL w B E.bs ρ ((parts.toList.map fun p => s.ev p.2).flatMap AV.cells) vs ∧ (∀ c ∈ (parts.toList.map fun p => s.ev p.2).flatMap AV.cells, c.one = true) ∧ vs.length = len * sz := by
  obtain ⟨e, i, zv, hu, hi, hs1, hz, hzl, hz1⟩ := elSz_spec hsz
  have hn : parts.toList.length = len := by have := congrArg List.length hp; simpa using this
  -- the row before it is filled
  have base : ∃ us : List Value, us.length = len * sz ∧ (∀ v ∈ us, v.oneCell' = true) ∧
      (if len * sz = 0 then pure #[] else do pure (← zeroValue e).cells : Sem (Array Value)).run P w = .ok (if len * sz = 0 then #[] else zv.cells) w ∧
      ((Array.range (len * sz)).map ((if len * sz = 0 then #[] else zv.cells)[· % (if len * sz = 0 then #[] else zv.cells).size]!)) = us.toArray := by
    by_cases h0 : len * sz = 0
    · exact ⟨[], by simp [h0], by simp, by simp [h0], by simp [h0]⟩
    · have hpos : 0 < sz := by rcases Nat.eq_zero_or_pos sz with h | h; simp [h] at h0; exact h
      refine ⟨(List.range (len * sz)).map fun j => zv.cells[j % sz]!, by simp, ?_, by simp [h0, zeroValue, typeInfo, hi, hz], ?_⟩
      · intro v hv
        simp only [List.mem_map] at hv
        obtain ⟨j, _, rfl⟩ := hv
        have hj : j % sz < zv.cells.size := by rw [hzl]; exact Nat.mod_lt _ hpos
        rw [getElem!_pos zv.cells (j % sz) hj]
        exact hz1 _ (by simp)
      · simp only [h0, if_false, hzl]
        apply Array.ext'
        simp
  obtain ⟨us, hul, hu1, hr, hb⟩ := base
  have hyl : (parts.toList.map fun p => s.ev p.2).length = len := by simpa using hn
  have hall : ∀ y ∈ parts.toList.map fun p => s.ev p.2, y.flat = true ∧ y.cells.length = sz := by
    intro y hy
    simp only [List.mem_map] at hy
    obtain ⟨p, hp, rfl⟩ := hy
    exact hx p hp
  have hfa := fill_all sz (parts.toList.map fun p => s.ev p.2) 0 (us.map AV.val) (by simp [hul, hyl]) hall
  rw [← range_zip parts.toList len hp] at hfa
  obtain ⟨vs, k1, k2, k3, k4⟩ := fill_rel (w := w) (B := B) (bs := E.bs) (ρ := ρ) (fun i => some (i * sz, sz)) (parts.toList.map fun p => (p.1, s.ev p.2)) (parts.toList.map fun p => (p.1, a.eval p.2)) (us.map AV.val) _ us
    (by simp) (by simpa [Function.comp_def] using RelL.map_ev hs (parts.toList.map (·.2))) (RelL.vals _) (by
      intro c hc
      simp only [List.mem_map] at hc
      obtain ⟨v, hv, rfl⟩ := hc
      exact hu1 v hv) hfa
  simp only [Nat.zero_mul, List.take_zero, List.nil_append] at k2 k3
  refine ⟨e, vs, hu, ?_, k2, k3, ?_⟩
  · have k1' : Instr.fill (fun i => some (i * sz, sz)) us.toArray (Array.map (fun x => (x.fst, a.eval x.snd)) parts).toList = some vs.toArray := by simpa using k1
    have hgt : ¬ (len * sz > 2 ^ 24) := by omega
    have hzr : (zeroValue e).run P w = .ok zv w := by simp [zeroValue, typeInfo, hi, hz]
    by_cases h0 : len * sz = 0
    · simp only [h0, if_true] at hb
      simp only [Instr.buildSlice, Sem.run_bind, run_underlying hu, Result.andThen_ok, run_sizeOf hi, hs1, Sem.run_ite, if_neg hgt, Sem.run_pure, h0, if_true]
      rw [hb, k1']
      simp [newRow]
    · simp only [h0, if_false] at hb
      simp only [Instr.buildSlice, Sem.run_bind, run_underlying hu, Result.andThen_ok, run_sizeOf hi, hs1, Sem.run_ite, if_neg hgt, Sem.run_pure, h0, if_false, hzr]
      rw [hb, k1']
      simp [newRow]
  · rw [← k2.length_eq]
    simp only [List.nil_append, Nat.zero_mul, List.take_zero] at k4
    rw [k4]; simp [hul]
theorem block_cell {w : World} {b : Nat} {vs : List Value} {e : TypeId} {fz : Nat × Nat} (h : w.heap[b]? = some (.cells vs.toArray e fz)) (o : Nat) : ∀ j v, (vs.drop o)[j]? = some v → w.cell? ⟨b, o + j, none⟩ = some v := by
  intro j v hj
  rw [List.getElem?_drop] at hj
  simp [World.cell?, h, hj]
theorem RelRow.fresh {e : TypeId} {vs : List Value} {sz : Nat} {xs : List AV} {ρ : List Value} {w : World} {B : Nat → Prop} {bs n c : Nat} (hbs : bs ≤ w.heap.size) (hB : ∀ b, B b → b < w.heap.size)
    (h : RelL w B bs ρ (xs.flatMap AV.cells) vs) (h1 : ∀ x ∈ xs, x.cells.length = sz ∧ ∀ c ∈ x.cells, c.one = true) (hn : n = xs.length) (hc : n ≤ c) (ws : List Value) (fz : Nat × Nat) {w' : World} (hs : Same w w')
    (hb : w'.heap[w.heap.size]? = some (.cells (List.toArray (vs ++ ws)) e fz)) :
    Rel w' (fun x => B x ∨ x = w.heap.size) bs ρ (.sl true sz xs) (.slice (some ⟨w.heap.size, 0, none⟩) n c) := by
  subst hn
  cases xs with
  | nil => exact .slE _ _ _ _
  | cons x xs =>
    refine .sl (RelRow.mk (.inr rfl) (fun _ => hbs) (vs := vs) ?_ h1 ?_) hc
    · exact h.mono (fun _ h => .inl h) (fun b hb => hs.block b (hB b hb)) (Nat.le_refl _) (fun _ _ h => h)
    · intro j v hj
      exact block_cell hb 0 j v (by simpa using get_append_some hj)
theorem sstep_sound {s' : AS} (h : sstep P s o = some s') (k : ARun P ops rest s' Q) : AOp P ops o rest s Q := by
  have val : ∀ {e : Sem Value} {v : Value} {w w' : World}, e.run P w = .ok v w' → (do pure (.value (← e)) : Sem Next).run P w = .ok (.value v) w' := fun h => by simp [h]
  have easy : ∀ op, o.op = op → (sval P s op).map (fun x => s.put o.dst x) = some s' → AOp P ops o rest s Q := by
    intro op ho h
    simp only [Option.map_eq_some_iff] at h
    obtain ⟨x, hx, rfl⟩ := h
    exact AOp.pure1 (fun E ρ B a w hs => sval_run (by rw [ho]; exact hx) hs) k
  unfold sstep at h
  cases ho : o.op <;> simp only [ho] at h <;> (try exact easy _ ho h)
  case alloc T =>
    simp only [Option.map_eq_some_iff] at h
    obtain ⟨z, hz, rfl⟩ := h
    refine AOp.value (s' := { s with ob := s.ob ++ [.box T (z.map AV.val)] }) (fun E ρ B a w hs => ?_) k
    unfold zc at hz
    cases hi : P.info? T with
    | none => simp [hi] at hz
    | some i =>
      cases hzz : i.zero with
      | none => simp [hi, hzz] at hz
      | some zv =>
        simp only [hi, hzz, Option.bind_some] at hz
        split at hz <;> simp only [Option.some.injEq, reduceCtorEq] at hz
        rename_i hall
        subst hz
        have hn := hs.newBox (T := T) (RelL.vals zv.cells.toList) (by
          intro c hc
          simp only [List.mem_map] at hc
          obtain ⟨v, hv, rfl⟩ := hc
          exact List.all_eq_true.1 hall v hv)
        refine ⟨.pointer (some ⟨w.heap.size, 0, none⟩), _, _, B, ?_, hn, .ptr (b := w.heap.size) ?_⟩
        · simp only [execOp, ho]
          exact val (by simp [Instr.alloc, zeroValue, typeInfo, hi, hzz, newVar, newRow])
        · rw [← hs.rw_.len]; simp
  case box T x =>
    split at h <;> simp only [Option.some.injEq, reduceCtorEq] at h
    rename_i hf
    subst h
    refine AOp.value (s' := { s with ob := s.ob ++ [.box T (s.ev x).cells] }) (fun E ρ B a w hs => ?_) k
    obtain ⟨r1, r2⟩ := (hs.ev x).toCells hf
    have hn := hs.newBox (T := T) r1 r2
    refine ⟨.pointer (some ⟨w.heap.size, 0, none⟩), _, _, B, ?_, hn, .ptr (b := w.heap.size) ?_⟩
    · simp only [execOp, ho]
      exact val (by simp [Instr.box, newVar, newRow])
    · rw [← hs.rw_.len]; simp
  case store T x v =>
    split at h <;> (try (simp at h; done))
    rename_i k' off e
    split at h <;> (try (simp at h; done))
    rename_i T' cs hk
    split at h <;> simp only [Option.some.injEq, reduceCtorEq] at h
    rename_i hc
    obtain ⟨hf, hl, hpos, hle⟩ := hc
    subst h
    refine AOp.unit (s' := { s with ob := s.ob.set k' (.box T' (splice cs off (s.ev v).cells)) }) (fun E ρ B a w hs => ?_) (by rw [ho]; intro c h; cases h) k
    obtain ⟨b, vs, fz, r1, r2, r3, r4, r5, r6⟩ := box_cells hs hk (b := 0)
    obtain ⟨c1, c2⟩ := (hs.ev v).toCells hf
    have hx := hs.ev x
    rw [e] at hx
    have hi : ∃ i, P.info? T = some i ∧ i.size = (s.ev v).cells.length := by
      rw [hl]
      cases ht : tk P T with
      | scal => obtain ⟨d, i, _, hi, hs, _⟩ := tk_scal ht; exact ⟨i, hi, hs⟩
      | aggr n => obtain ⟨d, i, _, hi, hs, _⟩ := tk_aggr ht; exact ⟨i, hi, hs⟩
      | bad =>
        rw [ht] at hl
        simp only [tkLen] at hl
        omega
    obtain ⟨i, hi, hsz⟩ := hi
    have hlen := r4.length_eq
    have hlc := c1.length_eq
    generalize hu : a.eval x = u at hx
    have hst := run_storeVar (P := P) (w := w) (t := T) (b := b) (o := off) (T := T') hi (v := a.eval v) rfl (by rw [hsz, hlc]) r2 r3 (by omega) (c1.ones c2)
    have hw : RS E { s with ob := s.ob.set k' (.box T' (splice cs off (s.ev v).cells)) } ρ B a (setBlk w b (.cells (vs.take off ++ (a.eval v).cells.toList ++ vs.drop (off + (a.eval v).cells.toList.length)).toArray T' fz)) := by
      obtain ⟨p1, p2, p3⟩ := hs.rw_.prv k' _ _ b hk rfl r1 rfl
      have hB : ∀ b', B b' → (setBlk w b (.cells (vs.take off ++ (a.eval v).cells.toList ++ vs.drop (off + (a.eval v).cells.toList.length)).toArray T' fz)).heap[b']? = w.heap[b']? := fun b' hb' => by
        rw [setBlk_get _ _ _ _ p2, if_neg (by rintro rfl; exact p1 hb')]
      refine hs.write (b := b) hk rfl r1 rfl ⟨b, _, fz, r1, by rw [setBlk_get _ _ _ _ p2, if_pos rfl], ?_, (r4.splice c1 off).mono (fun _ h => h) hB (Nat.le_refl _) (fun _ _ h => h), ?_⟩
      · have : (vs.take off ++ (a.eval v).cells.toList ++ vs.drop (off + (a.eval v).cells.toList.length)).length = vs.length := by simp only [List.length_append, List.length_take, List.length_drop]; omega
        rw [this]; exact r3
      · intro c hc
        simp only [splice, List.mem_append] at hc
        rcases hc with (hc | hc) | hc
        · exact r5 c (List.mem_of_mem_take hc)
        · exact AV.oc_of (c2 c hc)
        · exact r5 c (List.mem_of_mem_drop hc)
    cases hx with
    | ptr hp =>
      rw [r1] at hp
      simp only [Option.some.injEq, Value.pointer.injEq, Addr.mk.injEq, and_true] at hp
      subst hp
      refine ⟨_, ρ, B, ?_, hw⟩
      have he : a.eval x = .pointer (some ⟨b, off, none⟩) := hu
      simp only [execOp, ho]
      simp [Instr.storeAt, he, Instr.sureAddr, hst]
  case buildSlice T len parts =>
    split at h <;> (try (simp at h; done))
    rename_i sz hsz
    split at h <;> simp only [Option.some.injEq, reduceCtorEq] at h
    rename_i hc
    obtain ⟨_, hp, hx, hle⟩ := hc
    subst h
    refine AOp.value (s' := s) (fun E ρ B a w hs => ?_) k
    obtain ⟨e, vs, hu, hr, hrel, h1, hvl⟩ := run_buildSlice hsz hp hx hle hs
    have hn : parts.toList.length = len := by have := congrArg List.length hp; simpa using this
    have hsame := same_alloc w (.cells (List.toArray vs) e)
    have hrow := RelRow.fresh (sz := sz) (bs := E.bs) (xs := List.map (fun (p : Nat × Operand) => s.ev p.2) parts.toList) (n := len) (c := len) hs.rw_.le hs.rw_.blt hrel (by
      intro y hy
      have : y ∈ parts.toList.map fun p => s.ev p.2 := hy
      simp only [List.mem_map] at this
      obtain ⟨p, hpm, rfl⟩ := this
      refine ⟨(hx p hpm).2, fun c hc => h1 c ?_⟩
      simp only [List.mem_flatMap]
      exact ⟨_, hy, hc⟩) (by simpa using hn.symm) (Nat.le_refl _) [] (0, 0) hsame (by rw [List.append_nil]; exact alloc_get _ _)
    refine ⟨.slice (some ⟨w.heap.size, 0, none⟩) len len, w.alloc (.cells (List.toArray vs) e), ρ, _, ?_, hs.pubNew hsame (Nat.le_refl _) (by simp), hrow⟩
    simp only [execOp, ho]
    exact val hr
end
set_option linter.unusedVariables false
set_option linter.unusedSectionVars false
set_option linter.unusedSimpArgs false
set_option linter.unnecessarySimpa false
section
variable {P : Program} {ops : Array Oper} {E : Env} {s s' : AS} {ρ : List Value} {B : Nat → Prop} {a : Act} {w w' : World} {o : Oper} {rest : List Oper} {Q : AS → Prop}
theorem ARun.srun : ∀ {l : List Oper} {s : AS}, ARun2 P ops (srun P ops l s) Q → ARun P ops l s Q
  | [], s, h => h
  | o :: r, s, h => by
    simp only [Abs.srun] at h
    split at h
    · rename_i hg
      split at h
      · rename_i s' hs
        exact ARun.exec hg (sstep_sound hs (ARun.srun h))
      · exact h
    · rename_i hg
      exact ARun.pass hg (ARun.srun h)
    · exact h
theorem ARun2.nil {s : AS} (h : Q s) : ARun2 P ops ([], s) Q := ARun.nil h
def AS.lit (s : AS) (d : Nat) (b : Bool) : AS := { s with fr := (d, .val (.bool b)) :: del s.fr d }
theorem RS.lit (h : RS E s ρ B a w) {d : Nat} {b : Bool} (e : lk s.fr d = .val (.bool b)) : RS E (s.lit d b) ρ B a w := by
  refine ⟨h.rw_, h.m, h.n, h.df, h.jj, ?_⟩
  intro t x hm
  rcases List.mem_cons.1 hm with hm | hm
  · have ht : t = d := congrArg Prod.fst hm
    have hx' : x = .val (.bool b) := congrArg Prod.snd hm
    subst ht; subst hx'
    have hd := h.get t
    rw [e] at hd
    refine ⟨?_, hd⟩
    rcases lk_mem e with hx | hx
    · simp at hx
    · exact (h.rf t _ hx).1
  · exact h.rf t x (del_mem hm).1
theorem ARun.split {j d : Nat} {want b : Bool} (hg : o.guard = some (j, want)) (hd : (ops[j]?).bind (·.dst) = some d) (e : lk s.fr d = .val (.bool b))
    (ht : b = true → ARun P ops (o :: rest) (s.lit d true) Q) (hf : b = false → ARun P ops (o :: rest) (s.lit d false) Q) : ARun P ops (o :: rest) s Q := by
  intro E hE ρ B a w hs Q' hQ
  have hl := hs.lit e
  cases b with
  | true => exact ht rfl E hE ρ B a w hl Q' hQ
  | false => exact hf rfl E hE ρ B a w hl Q' hQ
theorem ARun2.split {j d : Nat} {want b : Bool} (hg : o.guard = some (j, want)) (hd : (ops[j]?).bind (·.dst) = some d) (e : lk s.fr d = .val (.bool b))
    (ht : b = true → ARun P ops (o :: rest) (s.lit d true) Q) (hf : b = false → ARun P ops (o :: rest) (s.lit d false) Q) : ARun2 P ops (o :: rest, s) Q :=
  ARun.split hg hd e ht hf
theorem ARun2.exec (h : gd ops s o = some true) (k : AOp P ops o rest s Q) : ARun2 P ops (o :: rest, s) Q := ARun.exec h k
def Le (s s' : AS) : Prop := ∀ (E : Env) (ρ : List Value) (B : Nat → Prop) (a : Act) (w : World), RS E s ρ B a w → ∃ ρ' B', RS E s' ρ' B' a w
theorem AWp.weak {c : Code} {Q : Exit → AS → Prop} (h : Le s s') (k : AWp P c s' Q) : AWp P c s Q := by
  intro E hE ρ B a w hs Q' hQ
  obtain ⟨ρ', B', hs'⟩ := h E ρ B a w hs
  exact k E hE ρ' B' a w hs' Q' hQ
theorem ARun.weak {l : List Oper} (h : Le s s') (k : ARun P ops l s' Q) : ARun P ops l s Q := by
  intro E hE ρ B a w hs Q' hQ
  obtain ⟨ρ', B', hs'⟩ := h E ρ B a w hs
  exact k E hE ρ' B' a w hs' Q' hQ
theorem Le.refl (s : AS) : Le s s := fun E ρ B a w h => ⟨ρ, B, h⟩
theorem Le.trans {s1 s2 s3 : AS} (h : Le s1 s2) (k : Le s2 s3) : Le s1 s3 := fun E ρ B a w hs => by
  obtain ⟨ρ', B', h1⟩ := h E ρ B a w hs
  exact k E ρ' B' a w h1
def keeps (fr : List (Nat × AV)) : List (Nat × AV) → Prop
  | [] => True
  | (t, x) :: r => lk fr t = x ∧ x ≠ .any ∧ keeps fr r
theorem keeps_spec {fr fr' : List (Nat × AV)} (h : keeps fr fr') {t : Nat} {x : AV} (hm : (t, x) ∈ fr') : (t, x) ∈ fr := by
  induction fr' with
  | nil => simp at hm
  | cons p r ih =>
    obtain ⟨t', x'⟩ := p
    obtain ⟨h1, h2, h3⟩ := h
    rcases List.mem_cons.1 hm with e | hm
    · have ht : t = t' := congrArg Prod.fst e
      have hx : x = x' := congrArg Prod.snd e
      subst ht; subst hx
      rcases lk_mem h1 with e | e
      · exact absurd e h2
      · exact e
    · exact ih h3 hm
theorem Le.keep {fr' : List (Nat × AV)} (h : keeps s.fr fr') : Le s { s with fr := fr' } := by
  intro E ρ B a w hs
  exact ⟨ρ, B, hs.rw_, hs.m, hs.n, hs.df, hs.jj, fun t x hm => hs.rf t x (keeps_spec h hm)⟩
theorem RW.drop {ob : List Ob} {k : Nat} (h : RW E ob ρ B w) : RW E (ob.set k .gone) ρ B w := by
  have get : ∀ {i : Nat} {o1 : Ob}, (ob.set k .gone)[i]? = some o1 → o1.live = true → ob[i]? = some o1 := by
    intro i o1 h1 l1
    by_cases hik : k = i
    · subst hik
      have hlt : k < ob.length := by have := get_lt h1; simpa using this
      rw [List.getElem?_set_self hlt] at h1
      simp at h1; subst h1; simp [Ob.live] at l1
    · rwa [List.getElem?_set_ne hik] at h1
  refine { ep := h.ep, os := h.os, tape := h.tape, output := h.output, size := h.size, block := h.block, pre := h.pre, bsub := h.bsub, bnew := h.bnew, blt := h.blt, len := by simp [h.len], obs := ?_, dis := ?_, prv := ?_ }
  · intro i o1 h1
    by_cases hl : o1.live = true
    · exact h.obs i o1 (get h1 hl)
    · cases o1 <;> simp [Ob.live] at hl; trivial
  · intro i j o1 o2 u v b hij h1 l1 h2 l2
    exact h.dis i j o1 o2 u v b hij (get h1 l1) l1 (get h2 l2) l2
  · intro i o1 v b h1 l1
    exact h.prv i o1 v b (get h1 l1) l1
theorem RW.cut {ob : List Ob} {n : Nat} (h : RW E ob ρ B w) (hn : E.ρ0.length ≤ n ∧ E.pp.length ≤ n) (hob : ∀ (k : Nat) (o : Ob), (ob.take n)[k]? = some o → match o with
      | .box _ cs => AV.idsOkL (· < n) cs = true
      | .row _ _ xs => AV.idsOkL (· < n) xs = true
      | _ => True) : RW E (ob.take n) (ρ.take n) B w := by
  have tk : ∀ {α : Type} {l : List α} {k : Nat} {v : α}, (l.take n)[k]? = some v → k < n ∧ l[k]? = some v := by
    intro α l k v h
    rw [List.getElem?_take] at h
    split at h
    · exact ⟨‹_›, h⟩
    · simp at h
  have tkb : ∀ {k : Nat} {v : Value}, k < n → ρ[k]? = some v → (ρ.take n)[k]? = some v := by
    intro k v hk h
    rw [List.getElem?_take, if_pos hk]; exact h
  have hids : ∀ (k : Nat) (v : Value), decide (k < n) = true → ρ[k]? = some v → (ρ.take n)[k]? = some v := fun k v hk h => tkb (by simpa using hk) h
  have cells : ∀ xs : List AV, AV.idsOkL (· < n) xs = true → AV.idsOkL (· < n) (xs.flatMap AV.cells) = true := by
    intro xs hx
    rw [AV.idsOkL_iff] at hx ⊢
    intro c hc
    simp only [List.mem_flatMap] at hc
    obtain ⟨x, hx', hc⟩ := hc
    have := hx x hx'
    rw [← AV.idsOkL_cells, AV.idsOkL_iff] at this
    exact this c hc
  refine { ep := h.ep, os := h.os, tape := h.tape, output := h.output, size := h.size, block := h.block, pre := ?_, bsub := h.bsub, bnew := h.bnew, blt := h.blt, len := by simp [h.len], obs := ?_, dis := ?_, prv := ?_ }
  · intro k v h1 h2
    exact tkb (h1.elim (fun h1 => Nat.lt_of_lt_of_le (get_lt h1) hn.1) fun h1 => Nat.lt_of_lt_of_le (get_lt h1) hn.2) (h.pre k v h1 h2)
  · intro k o hk
    have hid := hob k o hk
    obtain ⟨hkn, hk⟩ := tk hk
    have ho := h.obs k o hk
    cases o with
    | box T cs =>
      obtain ⟨b, vs, fz, h1, h2, h3, h4, h5⟩ := ho
      exact ⟨b, vs, fz, tkb hkn h1, h2, h3, h4.ids hids hid, h5⟩
    | row T sz xs =>
      obtain ⟨h0, ho⟩ := ho
      refine ⟨h0, ?_⟩
      rcases ho with ho | ⟨b, cap, vs, ws, fz, h1, h2, h3, h4, h5, h6⟩
      · exact .inl ⟨ho.1, tkb hkn ho.2⟩
      · exact .inr ⟨b, cap, vs, ws, fz, tkb hkn h1, h2, h3, h4, h5, h6.ids hids (cells xs hid)⟩
    | mp es =>
      obtain ⟨b, ms, c, h1, h2, h3⟩ := ho
      exact ⟨b, ms, c, tkb hkn h1, h2, h3⟩
    | gone => trivial
  · intro i j o1 o2 u v b hij h1 l1 h2 l2 r1 r2
    exact h.dis i j o1 o2 u v b hij (tk h1).2 l1 (tk h2).2 l2 (tk r1).2 (tk r2).2
  · intro k o v b h1 l1 r1
    exact h.prv k o v b (tk h1).2 l1 (tk r1).2
def obIds (p : Nat → Bool) : Ob → Bool
  | .box _ cs => AV.idsOkL p cs
  | .row _ _ xs => AV.idsOkL p xs
  | .mp _ => true
  | .gone => true
def frIds (p : Nat → Bool) : List (Nat × AV) → Bool
  | [] => true
  | (_, x) :: r => x.idsOk p && frIds p r
theorem frIds_mem {p : Nat → Bool} {fr : List (Nat × AV)} (h : frIds p fr = true) {t : Nat} {x : AV} (hm : (t, x) ∈ fr) : x.idsOk p = true := by
  induction fr with
  | nil => simp at hm
  | cons q r ih =>
    obtain ⟨t', x'⟩ := q
    simp only [frIds, Bool.and_eq_true] at h
    rcases List.mem_cons.1 hm with e | hm
    · have hx : x = x' := congrArg Prod.snd e
      subst hx; exact h.1
    · exact ih h.2 hm
theorem Dof.take {ob : List Ob} {n b : Nat} (h : Dof (ob.take n) (ρ.take n) b) : Dof ob ρ b := by
  obtain ⟨k, o, v, h1, h2, h3, h4⟩ := h
  rw [List.getElem?_take] at h1 h3
  split at h1
  · rename_i hk
    rw [if_pos hk] at h3
    exact ⟨k, o, v, h1, h2, h3, h4⟩
  · simp at h1
theorem Le.cut (n : Nat) (hm : s.m ≤ n) (hf : frIds (· < n) s.fr = true) (ho : (s.ob.take n).all (obIds (· < n)) = true) : Le s { s with ob := s.ob.take n } := by
  intro E ρ B a w hs
  have hcut : RW E (s.ob.take n) (ρ.take n) B w := hs.rw_.cut ⟨Nat.le_trans hs.m.1 hm, Nat.le_trans hs.m.2.1 hm⟩ (by
    intro k o hk
    have := List.all_eq_true.1 ho o (List.mem_of_getElem? hk)
    cases o <;> simpa [obIds] using this)
  refine ⟨ρ.take n, B, hcut, hs.m, hs.n, hs.df, hs.jj.chg ⟨rfl, rfl, rfl, Nat.le_refl _, fun _ _ _ => rfl, fun b hd => .inl (Dof.take hd), fun _ h => h, fun _ h => .inl h⟩ hcut.bd, ?_⟩
  · intro t x hmem
    obtain ⟨h1, h2⟩ := hs.rf t x hmem
    refine ⟨h1, h2.ids (p := (· < n)) ?_ (frIds_mem hf hmem)⟩
    intro k v hk hv
    rw [List.getElem?_take, if_pos (by simpa using hk)]
    exact hv
def Sub (x y : AV) : Prop := ∀ (w : World) (B : Nat → Prop) (bs bs' : Nat) (ρ : List Value) (v : Value), bs' ≤ bs → Rel w B bs ρ x v → Rel w B bs' [] y v
def SubL : List AV → List AV → Prop
  | [], [] => True
  | x :: xs, y :: ys => Sub x y ∧ SubL xs ys
  | _, _ => False
theorem SubL.rel : ∀ {xs ys : List AV} {vs : List Value} {w : World} {B : Nat → Prop} {bs bs' : Nat} {ρ : List Value}, SubL xs ys → bs' ≤ bs → RelL w B bs ρ xs vs → RelL w B bs' [] ys vs
  | [], [], _, _, _, _, _, _, _, _, .nil => .nil
  | x :: xs, y :: ys, _, _, _, _, _, _, h, hb, .cons h1 h2 => .cons (h.1 _ _ _ _ _ _ hb h1) (SubL.rel h.2 hb h2)
  | [], _ :: _, _, _, _, _, _, _, h, _, _ => h.elim
  | _ :: _, [], _, _, _, _, _, _, h, _, _ => h.elim
def PC (P : Program) (f : FuncId) (args : List AV) (r : AV) : Prop :=
  r.idsOk (fun _ => false) = true ∧ ACalls P f args [] fun r' τ' => r' = r ∧ τ' = []
theorem RW.callee {ob : List Ob} (h : RW E ob ρ B w) : RW (E0 E.bs w B []) [] [] B w :=
  { ep := h.le, os := rfl, tape := rfl, output := rfl, size := Nat.le_refl _, block := fun _ _ _ => rfl, pre := fun k v h => by simp at h, bsub := fun _ h => h, bnew := fun _ h => .inl h,
    blt := h.blt, len := rfl, obs := fun k o h => by simp at h, dis := fun i j o o' u v b _ h => by simp at h, prv := fun k o v b h => by simp at h }
theorem RW.back {ep : Nat} {ob : List Ob} {B' : Nat → Prop} (h : RW E ob ρ B w) (k : RW (E0 ep w B []) [] [] B' w') : RW E ob ρ B' w' ∧ Same w w' := by
  have hs : Same w w' := ⟨k.os, k.tape, k.output, k.size, fun i hi => k.block i hi ⟨by rintro ⟨v, hv, _⟩; simp at hv, by simp⟩⟩
  refine ⟨?_, hs⟩
  have hBw : ∀ b, B b → w'.heap[b]? = w.heap[b]? := fun b hb => hs.block b (h.blt b hb)
  refine { ep := h.ep, os := hs.os.trans h.os, tape := hs.tape.trans h.tape, output := hs.output.trans h.output, size := Nat.le_trans h.size hs.size,
           block := fun k h1 h2 => (hs.block k (Nat.lt_of_lt_of_le h1 h.size)).trans (h.block k h1 h2), pre := h.pre, bsub := fun b hb => k.bsub b (h.bsub b hb), bnew := ?_,
           blt := k.blt, len := h.len, obs := ?_, dis := h.dis, prv := ?_ }
  · intro b hb
    rcases k.bnew b hb with hb | hb
    · exact h.bnew b hb
    · exact .inr (Nat.le_trans h.size hb)
  · intro i o hi
    refine (h.obs i o hi).mono k.bsub hBw (fun _ _ h => h) ?_
    intro v b l hv hb
    exact hs.block b (h.prv i o v b hi l hv hb).2.1
  · intro i o v b hi l hv hb
    obtain ⟨p1, p2, p3⟩ := h.prv i o v b hi l hv hb
    refine ⟨?_, Nat.lt_of_lt_of_le p2 hs.size, p3⟩
    intro hB
    rcases k.bnew b hB with hB | hB
    · exact p1 hB
    · exact absurd p2 (Nat.not_lt.2 hB)
theorem RS.back {ep : Nat} {B' : Nat → Prop} (h : RS E s ρ B a w) (k : RW (E0 ep w B []) [] [] B' w') : RS E s ρ B' a w' := by
  obtain ⟨h1, hs⟩ := h.rw_.back k
  exact ⟨h1, h.m, h.n, h.df, h.jj.chg ⟨hs.os, hs.tape, hs.output, hs.size, fun b hb _ => hs.block b hb, fun _ h => .inl h, k.bsub, fun b hb => (k.bnew b hb).elim .inl fun h => .inr (.inr h)⟩ h1.bd, fun t x hm => ⟨(h.rf t x hm).1, (h.rf t x hm).2.mono k.bsub (fun b hb => hs.block b (h.rw_.blt b hb)) (Nat.le_refl _) (fun _ _ h => h)⟩⟩
theorem run_call_func {f : FuncId} {fn : Func} {args : Array Operand} {ts : Array TypeId} {ty : TypeId} {ρe : Operand → Value} (hf : P.funcs[f]? = some fn) (hb : fn.body.isSome = true) (hn : (fn.name == "runtime.NumGoroutine") = false)
    (hv : ρe (.func f) = .func (.func f) #[] #[]) : (do let d ← resolve ρe { callee := .value (.func f), args := args, argTypes := ts } ty; invoke d.target d.args : Sem Next).run P w = .ok (.enter f (args.map ρe)) w := by
  cases hbody : fn.body with
  | none => simp [hbody] at hb
  | some c =>
    have hn' : ¬ fn.name = "runtime.NumGoroutine" := by simpa using hn
    simp [resolve, hv, Deferred.ofValue, invoke, callFunc, hf, hn', hbody]
def callable (P : Program) (f : FuncId) : Bool :=
  match P.funcs[f]? with
  | some fn => fn.body.isSome && !(fn.name == "runtime.NumGoroutine")
  | none => false
theorem AOp.call {f : FuncId} {args : Array Operand} {ts : Array TypeId} {ys : List AV} {r : AV} (ho : o.op = .call { callee := .value (.func f), args := args, argTypes := ts }) (hc : callable P f = true)
    (hp : PC P f ys r) (hsub : SubL (args.toList.map s.ev) ys) (k : ARun P ops rest (s.put o.dst r) Q) : AOp P ops o rest s Q := by
  intro E hE ρ B a w hs Q' hQ
  unfold callable at hc
  split at hc <;> (try (simp at hc; done))
  rename_i fn hf
  simp only [Bool.and_eq_true, Bool.not_eq_true'] at hc
  have hr := run_call_func (P := P) (w := w) (args := args) (ts := ts) (ty := o.type) (ρe := a.eval) hf hc.1 hc.2 rfl
  have he : (execOp a.eval o).run P w = .ok (.enter f (args.map a.eval)) w := by
    simp only [execOp, ho]; exact hr
  have hrel : RelL w B E.bs ρ (args.toList.map s.ev) (args.toList.map a.eval) := RelL.map_ev hs _
  refine owp_enter he ?_
  have hargs : args.map a.eval = (args.toList.map a.eval).toArray := by apply Array.ext'; simp
  rw [hargs]
  refine hp.2 E.bs w [] B _ (hE.glb.call hs.rw_ (fun _ h => h) (by intro v hv; simp at hv)) hs.rw_.callee (hsub.rel (Nat.le_refl _) hrel) _ ?_
  rintro r' v τ' ρ' B' w' ⟨rfl, rfl⟩ hw hv
  have hρ : ρ' = [] := by have := hw.len; simpa using this
  subst hρ
  have hs' := hs.back hw
  refine ⟨v, rfl, k E hE ρ B' _ w' (hs'.put o.dst ?_) Q' hQ⟩
  refine (hv.mono (fun _ h => h) (fun _ _ => rfl) (Nat.le_refl _) (fun _ _ h => h)).ids (p := fun _ => false) ?_ hp.1
  intro _ _ h; simp at h
theorem ARun2.call {f : FuncId} {args : Array Operand} {ts : Array TypeId} {ys : List AV} {r : AV} (hp : PC P f ys r) (hg : gd ops s o = some true) (ho : o.op = .call { callee := .value (.func f), args := args, argTypes := ts }) (hc : callable P f = true)
    (hsub : SubL (args.toList.map s.ev) ys) (k : ARun P ops rest (s.put o.dst r) Q) : ARun2 P ops (o :: rest, s) Q :=
  ARun.exec hg (AOp.call ho hc hp hsub k)
def frOf : Nat → List AV → List (Nat × AV)
  | _, [] => []
  | i, x :: xs => (i, x) :: frOf (i + 1) xs
theorem frOf_mem : ∀ {xs : List AV} {i t : Nat} {x : AV}, (t, x) ∈ frOf i xs → ∃ j, t = i + j ∧ xs[j]? = some x
  | [], _, _, _, h => by simp [frOf] at h
  | y :: ys, i, t, x, h => by
    rcases List.mem_cons.1 h with e | h
    · have ht : t = i := congrArg Prod.fst e
      have hx : x = y := congrArg Prod.snd e
      exact ⟨0, by omega, by subst hx; rfl⟩
    · obtain ⟨j, h1, h2⟩ := frOf_mem h
      exact ⟨j + 1, by omega, by simpa using h2⟩
def resAV (P : Program) (s : AS) : ResultVar → Option AV
  | .tmp t => some (lk s.fr t)
  | .cell t T =>
    match lk s.fr t with
    | .ptr k off =>
      match s.ob[k]? with
      | some (.box _ cs) => part' cs off (tk P T)
      | _ => none
    | _ => none
def resAVs (P : Program) (s : AS) : List ResultVar → Option (List AV)
  | [] => some []
  | r :: rs => match resAV P s r, resAVs P s rs with
    | some x, some xs => some (x :: xs)
    | _, _ => none
def resOf : List AV → AV
  | [x] => x
  | xs => .tup xs
theorem run_resAV (hs : RS E s ρ B a w) {r : ResultVar} {x : AV} (h : resAV P s r = some x) :
    ∃ v, ((match r with
      | .tmp t => pure (a.tmps.getD t undef)
      | .cell t T => do loadVar T (← asAddr (a.tmps.getD t undef))) : Sem Value).run P w = .ok v w ∧ Rel w B E.bs ρ x v := by
  cases r with
  | tmp t => simp [resAV] at h; subst h; exact ⟨_, rfl, hs.get t⟩
  | cell t T =>
    simp only [resAV] at h
    split at h <;> (try (simp at h; done))
    rename_i k off e
    split at h <;> (try (simp at h; done))
    rename_i T' cs hk
    have hy := hs.get t
    rw [e] at hy
    obtain ⟨b, vs, fz, r1, r2, r3, r4, r5, r6⟩ := box_cells hs hk (b := 0)
    simp only
    generalize a.tmps.getD t undef = u at hy ⊢
    cases hy with
    | ptr hp =>
      rw [r1] at hp
      simp only [Option.some.injEq, Value.pointer.injEq, Addr.mk.injEq, and_true] at hp
      subst hp
      obtain ⟨v, h1, h2⟩ := run_load_cells (P := P) (T := T) (E := E) (w := w) (B := B) (ρ := ρ) rfl r4 r6 h
      exact ⟨v, by simpa [asAddr] using h1, h2⟩
theorem run_resAVs (hs : RS E s ρ B a w) : ∀ {rs : List ResultVar} {xs : List AV}, resAVs P s rs = some xs →
    ∃ vs, (rs.mapM fun r => ((match r with
      | .tmp t => pure (a.tmps.getD t undef)
      | .cell t T => do loadVar T (← asAddr (a.tmps.getD t undef))) : Sem Value)).run P w = .ok vs w ∧ RelL w B E.bs ρ xs vs
  | [], xs, h => by simp [resAVs] at h; subst h; exact ⟨[], by simp, .nil⟩
  | r :: rs, xs, h => by
    simp only [resAVs] at h
    split at h <;> simp only [Option.some.injEq, reduceCtorEq] at h
    rename_i x xs' h1 h2
    subst h
    obtain ⟨v, k1, k2⟩ := run_resAV hs h1
    obtain ⟨vs, k3, k4⟩ := run_resAVs hs h2
    refine ⟨v :: vs, ?_, .cons k2 k4⟩
    rw [List.mapM_cons]
    simp only [Sem.run_bind, k1, Result.andThen_ok, k3]
    simp
def bodyQ (P : Program) (fn : Func) (R : AV → AS → Prop) : Exit → AS → Prop
  | .normal, s | .ret, s => ∃ xs, resAVs P s fn.results.toList = some xs ∧ R (resOf xs) s
  | _, _ => False
theorem run_results (hs : RS E s ρ B a w) {fn : Func} {xs : List AV} (h : resAVs P s fn.results.toList = some xs) : ∃ v, (results fn a.tmps).run P w = .ok v w ∧ Rel w B E.bs ρ (resOf xs) v := by
  obtain ⟨vs, h1, h2⟩ := run_resAVs hs h
  have hr : ∀ f : ResultVar → Sem Value, (fn.results.toList.mapM f).run P w = .ok vs w → (fn.results.mapM f).run P w = .ok vs.toArray w := by
    intro f hf
    rw [Array.mapM_eq_mapM_toList]
    simp [hf]
  have hres : (results fn a.tmps).run P w = .ok (if h : vs.toArray.size = 1 then vs.toArray[0] else .tuple vs.toArray) w := by
    unfold results
    rw [Sem.run_bind]
    refine (congrArg (fun r : Result (Array Value) => r.andThen fun vs w' => (Pure.pure (if h : vs.size = 1 then vs[0] else .tuple vs) : Sem Value).run P w') (hr _ ?_)).trans rfl
    refine Eq.trans (congrArg (fun g : ResultVar → Sem Value => (fn.results.toList.mapM g).run P w) ?_) h1
    funext r
    cases r <;> rfl
  refine ⟨_, hres, ?_⟩
  clear hres hr h1
  cases h2 with
  | nil => exact .tup .nil
  | cons k1 k2 =>
    cases k2 with
    | nil => exact k1
    | cons k3 k4 => exact .tup (.cons k1 (.cons k3 k4))
theorem E0.ok (ep : Nat) (w : World) (B : Nat → Prop) (ρ : List Value) (P : Program) (hg : Globs w B ρ) : (E0 ep w B ρ).Ok P := ⟨hg, fun l X h => by simp at h, fun l h => by simp at h⟩
theorem RS.init {ep : Nat} {τ : List Ob} {vs : List Value} {args : List AV} {n : Nat} (h : RW (E0 ep w B ρ) τ ρ B w) (hr : RelL w B ep ρ args vs) (hn : vs.length ≤ n) :
    RS (E0 ep w B ρ) { n := n, m := τ.length, fr := frOf 0 args, ob := τ } ρ B { tmps := vs.toArray ++ Array.replicate (n - vs.toArray.size) undef, defers := [] } w := by
  refine ⟨h, ⟨by simp [h.len], by simp, rfl⟩, by simp; omega, rfl, ⟨trivial, fun _ _ _ _ _ _ _ _ _ _ _ => trivial, List.nodup_nil, by simp⟩, ?_⟩
  intro t x hm
  obtain ⟨j, rfl, hj⟩ := frOf_mem hm
  obtain ⟨v, hv, hrel⟩ := hr.get hj
  have hlt := get_lt hv
  refine ⟨by simp; omega, ?_⟩
  have : (vs.toArray ++ Array.replicate (n - vs.toArray.size) undef).getD (0 + j) undef = v := by
    rw [Array.getD_eq_getD_getElem?, Nat.zero_add, Array.getElem?_append_left (by simpa using hlt)]
    simp [hv]
  rw [this]
  exact hrel
theorem RW.tidy {ob : List Ob} {b : Nat} {o : Obj} (h : RW E ob ρ B w) (h1 : E.w0.heap.size ≤ b) (h2 : b < w.heap.size) (h3 : ¬ B b) (h4 : ¬ Dof ob ρ b) : RW E ob ρ B (setBlk w b o) := by
  have hB : ∀ b', B b' → (setBlk w b o).heap[b']? = w.heap[b']? := fun b' hb' => by rw [setBlk_get _ _ _ _ h2, if_neg (by rintro rfl; exact h3 hb')]
  refine { ep := h.ep, os := h.os, tape := h.tape, output := h.output, size := by simpa [setBlk] using h.size, block := ?_, pre := h.pre, bsub := h.bsub, bnew := h.bnew,
           blt := fun b' hb' => by simpa [setBlk] using h.blt b' hb', len := h.len, obs := ?_, dis := h.dis, prv := ?_ }
  · intro j h1' h2'
    rw [setBlk_get _ _ _ _ h2, if_neg (by omega)]
    exact h.block j h1' h2'
  · intro j oj hj
    refine (h.obs j oj hj).mono (fun _ h => h) hB (fun _ _ h => h) ?_
    intro u b' l hu hbu
    rw [setBlk_get _ _ _ _ h2, if_neg (by rintro rfl; exact h4 ⟨j, oj, u, hj, l, hu, hbu⟩)]
  · intro j oj u b' hj l hu hbu
    have := h.prv j oj u b' hj l hu hbu
    exact ⟨this.1, by simpa [setBlk] using this.2.1, this.2.2⟩
theorem resAVs_df (d : List Nat) : ∀ l : List ResultVar, resAVs P { s with df := d } l = resAVs P s l
  | [] => rfl
  | r :: l => by
    have h1 : resAV P { s with df := d } r = resAV P s r := by cases r <;> rfl
    simp only [resAVs, h1, resAVs_df d l]
theorem leaves_marks {fn : Func} {s : AS} {t : Array Value} {R' : Ending → World → Prop} : ∀ (df : List Nat) (w : World), RS E { s with df := df } ρ B { tmps := t, defers := df.map mark } w →
    (∀ w2, RS E { s with df := [] } ρ B { tmps := t, defers := [] } w2 → ∃ v, (results fn t).run P w2 = .ok v w2 ∧ R' (.returned v) w2) → LeavesInM Fence.wide 0 P fn t R' (df.map mark) .returning w
  | [], w, hs, h => h w hs
  | b :: df, w, hs, h => by
    refine ⟨by simp, .inl ⟨b, setBlk w b (.deferred none), rfl, ?_, ?_⟩⟩
    · exact run_takeDeferred (hs.jj.mks b (by simp)).1
    · obtain ⟨m1, m2, m3, m4⟩ := hs.jj.mks b (by simp)
      have hlt : b < w.heap.size := by
        rcases Nat.lt_or_ge b w.heap.size with h' | h'
        · exact h'
        · simp [Array.getElem?_eq_none h'] at m1
      have hnd := List.nodup_cons.1 hs.jj.nodup
      have hne : ∀ b', b' ∈ df → b' ≠ b := by rintro b' hb' rfl; exact hnd.1 hb'
      have hB : ∀ b', B b' → (setBlk w b (.deferred none)).heap[b']? = w.heap[b']? := fun b' hb' => by rw [setBlk_get _ _ _ _ hlt, if_neg (by rintro rfl; exact m3 hb')]
      have htd := hs.rw_.tidy (o := .deferred none) m4 hlt m3 m2
      refine leaves_marks (s := s) df _ ⟨hs.rw_.tidy m4 hlt m3 m2, hs.m, hs.n, rfl, ⟨hs.jj.stab _ _ _ _ _ _ _ _ hs.jj.j ⟨rfl, rfl, rfl, by simp [setBlk], ?_, ?_, fun _ h => h, fun _ h => .inl h⟩ ⟨htd.bd.1, ?_⟩, hs.jj.stab, hnd.2, ?_⟩, ?_⟩ h
      · intro b' _ hb'
        rw [setBlk_get _ _ _ _ hlt, if_neg (by rintro rfl; exact hb' (.inr (by simp)))]
      · rintro b' (h | h)
        · exact .inl (.inl h)
        · exact .inl (.inr (by simp [h]))
      · rintro b' (h | h)
        · exact htd.bd.2 b' h
        · obtain ⟨k1, k2, k3, k4⟩ := hs.jj.mks b' (by simp [h])
          refine ⟨?_, k3⟩
          rcases Nat.lt_or_ge b' w.heap.size with h' | h'
          · simpa [setBlk] using h'
          · simp [Array.getElem?_eq_none h'] at k1
      · intro b' hb'
        obtain ⟨k1, k2, k3, k4⟩ := hs.jj.mks b' (by simp [hb'])
        exact ⟨by rw [setBlk_get _ _ _ _ hlt, if_neg (hne b' hb')]; exact k1, k2, k3, k4⟩
      · intro t x hm
        obtain ⟨h1, h2⟩ := hs.rf t x hm
        exact ⟨h1, h2.mono (fun _ h => h) hB (Nat.le_refl _) (fun _ _ h => h)⟩
theorem calls_body {f : FuncId} {fn : Func} {c : Code} {vs : Array Value} {s : AS} {R : AV → AS → Prop} (hE : E.Ok P) (hr : E.rnd = none) (hf : P.funcs[f]? = some fn) (hb : fn.body = some c)
    (hs : RS E s ρ B { tmps := vs ++ Array.replicate (fn.ntmps - vs.size) undef, defers := [] } w) (h : AWp P c s (bodyQ P fn R)) {R' : Ending → World → Prop}
    (hR' : ∀ r v s' ρ' B' a' w', R r s' → RS E { s' with df := [] } ρ' B' a' w' → Rel w' B' E.bs ρ' r v → R' (.returned v) w') : Calls P f vs w R' := by
  refine callsIn_wide.1 (callsIn_of_wp_marks (F := Fence.wide) (n := 0) hf hb trivial ?_)
  have hw := h E hE ρ B _ w hs (bodyPostM Fence.wide 0 P fn R') ?_
  · rw [hr] at hw; exact hw
  intro e s' ρ' B' a' w' q hs'
  have fin : ∀ xs, resAVs P s' fn.results.toList = some xs → R (resOf xs) s' → LeavesInM Fence.wide 0 P fn a'.tmps R' a'.defers .returning w' := by
    intro xs hx hRx
    obtain ⟨t, d⟩ := a'
    have hd : d = s'.df.map mark := hs'.df
    subst hd
    refine leaves_marks (s := s') s'.df w' hs' ?_
    intro w2 hs2
    obtain ⟨v, h1, h2⟩ := run_results hs2 (fn := fn) (xs := xs) ((resAVs_df [] _).trans hx)
    exact ⟨v, h1, hR' _ _ s' ρ' B' _ w2 hRx hs2 h2⟩
  cases e with
  | normal => obtain ⟨xs, hx, hRx⟩ := q; exact fin xs hx hRx
  | ret => obtain ⟨xs, hx, hRx⟩ := q; exact fin xs hx hRx
  | _ => exact q.elim
theorem ACalls.of_body {f : FuncId} {fn : Func} {c : Code} {args : List AV} {τ : List Ob} {R : AV → List Ob → Prop} (hf : P.funcs[f]? = some fn) (hb : fn.body = some c) (hn : args.length ≤ fn.ntmps)
    (h : AWp P c { n := fn.ntmps, m := τ.length, fr := frOf 0 args, ob := τ } (bodyQ P fn fun r s => R r s.ob)) : ACalls P f args τ R := by
  intro ep w ρ B vs hg hw hr R' hR'
  have hs := RS.init (n := fn.ntmps) hw hr (by rw [← hr.length_eq]; exact hn)
  refine calls_body (E0.ok ep w B ρ P hg) rfl hf hb (by simpa using hs) h ?_
  intro r v s' ρ' B' a' w' hRr hs' hv
  exact hR' _ _ _ _ _ _ hRr hs'.rw_ hv
theorem PC.of_body {f : FuncId} {fn : Func} {c : Code} {args : List AV} {r : AV} (hr : r.idsOk (fun _ => false) = true) (hf : P.funcs[f]? = some fn) (hb : fn.body = some c) (hn : args.length ≤ fn.ntmps)
    (h : AWp P c { n := fn.ntmps, m := 0, fr := frOf 0 args, ob := [] } (bodyQ P fn fun r' _ => r' = r)) : PC P f args r := by
  refine ⟨hr, ?_⟩
  intro ep w ρ B vs hg hw hrel R' hR'
  refine ACalls.of_body (τ := []) (R := fun r' _ => r' = r) hf hb hn h ep w ρ B vs hg hw hrel R' ?_
  rintro r' v τ' ρ' B' w' rfl hw' hv
  have hρ : ρ = [] := by have := hw.len; simpa using this
  subst hρ
  refine hR' _ v [] [] B' w' ⟨rfl, rfl⟩ ?_ (hv.ids (p := fun _ => false) (by intro _ _ h; simp at h) hr)
  have := hw'.cut (n := 0) (by simp) (by intro k o h; simp at h)
  simpa using this
end
set_option linter.unusedVariables false
section
variable {P : Program} {ops : Array Oper} {s s' : AS} {o : Oper} {rest : List Oper} {Q : AS → Prop} {x y c c' : Code} {R : Exit → AS → Prop} {id : Nat}
theorem AWp.regionS (h : ∀ K : AS → Prop, (∀ s', AWp P y s' R → K s') → ARun2 P ops (srun P ops ops.toList s) K) : AWp P (.seq (.region id ops false) y) s R :=
  AWp.seq (AWp.region (ARun.srun (h _ fun _ h => h)))
theorem AWp.regionE (h : ∀ K : AS → Prop, (∀ s', R .normal s' → K s') → ARun2 P ops (srun P ops ops.toList s) K) : AWp P (.region id ops false) s R :=
  AWp.region (ARun.srun (h _ fun _ h => h))
theorem AWp.seqK (h : ∀ K : AS → Prop, (∀ s', AWp P y s' R → K s') → AWp P x s (thenQ K R)) : AWp P (.seq x y) s R :=
  AWp.seq (h _ fun _ h => h)
theorem Le.to {S : AS} (n : Nat) (h1 : S.n = s.n ∧ S.m = s.m ∧ S.df = s.df ∧ S.yl = s.yl ∧ S.tr = s.tr ∧ S.go = s.go) (hob : s.ob.take n = S.ob) (hmn : s.m ≤ n) (hk : keeps s.fr S.fr) (hf : frIds (· < n) S.fr = true)
    (ho : S.ob.all (obIds (· < n)) = true) : Le s S := by
  obtain ⟨n', m', fr', ob', df', yl', tr', go'⟩ := S
  obtain ⟨rfl, rfl, rfl, rfl, rfl, rfl⟩ := h1
  simp only at hob
  subst hob
  exact (Le.keep hk).trans (Le.cut n hmn hf ho)
theorem AWp.loopS {α : Type} (S : α → AS) (p : α → Prop) (μ : α → Nat) (x : α) (h0 : Le s (S x)) (hp : p x)
    (round : ∀ x, p x → AWp P c (S x) (thenQ (fun s' => ∃ y, p y ∧ μ y < μ x ∧ Le s' (S y)) R)) : AWp P (.loop c) s R := by
  refine AWp.weak h0 ?_
  refine AWp.loop (fun x s => p x ∧ Le s (S x)) μ x ⟨hp, Le.refl _⟩ ?_
  rintro x s' ⟨hx, hl⟩
  refine AWp.weak hl ((round x hx).mono ?_)
  intro e s'' q
  cases e with
  | normal => obtain ⟨y, h1, h2, h3⟩ := q; exact ⟨y, ⟨h1, h3⟩, h2⟩
  | _ => exact q
theorem ARun2.cont {g : Bool} {X : Option AS} {r : List Oper} (ht : g = true → ARun2 P ops (Abs.cont P ops (some true) X o r s) Q) (hf : g = false → ARun2 P ops (Abs.cont P ops (some false) X o r s) Q) :
    ARun2 P ops (Abs.cont P ops (some g) X o r s) Q := by
  cases g with
  | true => exact ht rfl
  | false => exact hf rfl
theorem ARun2.go {l : List Oper} (h : ARun2 P ops (srun P ops l s) Q) : ARun P ops l s Q := ARun.srun h
end
theorem bif_t {α : Type} (x y : α) : (bif true then x else y) = x := rfl
theorem bif_f {α : Type} (x y : α) : (bif false then x else y) = y := rfl
@[push_cast] theorem one_val (v : Value) : AV.one (.val v) = v.oneCell' := rfl
@[push_cast] theorem flat_val (v : Value) : AV.flat (.val v) = v.oneCell' := rfl
@[push_cast] theorem cells_val (v : Value) : AV.cells (.val v) = [.val v] := rfl
@[push_cast] theorem one_agg (l : List AV) : AV.one (.agg l) = false := rfl
@[push_cast] theorem flat_agg (l : List AV) : AV.flat (.agg l) = l.all AV.one := rfl
@[push_cast] theorem cells_agg (l : List AV) : AV.cells (.agg l) = l := rfl
@[push_cast] theorem one_tup (l : List AV) : AV.one (.tup l) = false := rfl
@[push_cast] theorem flat_tup (l : List AV) : AV.flat (.tup l) = false := rfl
@[push_cast] theorem cells_tup (l : List AV) : AV.cells (.tup l) = [.tup l] := rfl
@[push_cast] theorem one_sl (b : Bool) (n : Nat) (l : List AV) : AV.one (.sl b n l) = true := rfl
@[push_cast] theorem flat_sl (b : Bool) (n : Nat) (l : List AV) : AV.flat (.sl b n l) = true := rfl
@[push_cast] theorem cells_sl (b : Bool) (n : Nat) (l : List AV) : AV.cells (.sl b n l) = [.sl b n l] := rfl
@[push_cast] theorem one_own (k : Nat) : AV.one (.own k) = true := rfl
@[push_cast] theorem flat_own (k : Nat) : AV.flat (.own k) = true := rfl
@[push_cast] theorem cells_own (k : Nat) : AV.cells (.own k) = [.own k] := rfl
@[push_cast] theorem one_ptr (k o : Nat) : AV.one (.ptr k o) = true := rfl
@[push_cast] theorem flat_ptr (k o : Nat) : AV.flat (.ptr k o) = true := rfl
@[push_cast] theorem cells_ptr (k o : Nat) : AV.cells (.ptr k o) = [.ptr k o] := rfl
@[push_cast] theorem one_ept (k o : Nat) : AV.one (.ept k o) = true := rfl
@[push_cast] theorem flat_ept (k o : Nat) : AV.flat (.ept k o) = true := rfl
@[push_cast] theorem cells_ept (k o : Nat) : AV.cells (.ept k o) = [.ept k o] := rfl
@[push_cast] theorem one_ref (b : Bool) (x : AV) : AV.one (.ref b x) = true := rfl
@[push_cast] theorem flat_ref (b : Bool) (x : AV) : AV.flat (.ref b x) = true := rfl
@[push_cast] theorem cells_ref (b : Bool) (x : AV) : AV.cells (.ref b x) = [.ref b x] := rfl
@[push_cast] theorem one_ifc (t : TypeId) (x : AV) : AV.one (.ifc t x) = true := rfl
@[push_cast] theorem flat_ifc (t : TypeId) (x : AV) : AV.flat (.ifc t x) = true := rfl
@[push_cast] theorem cells_ifc (t : TypeId) (x : AV) : AV.cells (.ifc t x) = [.ifc t x] := rfl
@[push_cast] theorem one_fn (f : Fn) (l m : List AV) : AV.one (.fn f l m) = true := rfl
@[push_cast] theorem flat_fn (f : Fn) (l m : List AV) : AV.flat (.fn f l m) = true := rfl
@[push_cast] theorem cells_fn (f : Fn) (l m : List AV) : AV.cells (.fn f l m) = [.fn f l m] := rfl
@[push_cast] theorem one_any  : AV.one .any = false := rfl
@[push_cast] theorem flat_any  : AV.flat .any = false := rfl
@[push_cast] theorem cells_any  : AV.cells .any = [.any] := rfl
theorem nilIs_1 (t : TypeId) (x : AV) : nilIs .ifc (.ifc t x) = some false := rfl
theorem nilIs_2 : nilIs .ifc (.val .nilIface) = some true := rfl
theorem nilIs_3 (k o : Nat) : nilIs .ptr (.ptr k o) = some false := rfl
theorem nilIs_4 (k o : Nat) : nilIs .ptr (.ept k o) = some false := rfl
theorem nilIs_5 (b : Bool) (x : AV) : nilIs .ptr (.ref b x) = some false := rfl
theorem nilIs_6 : nilIs .ptr (.val (.pointer none)) = some true := rfl
theorem nilIs_7 (b : Bool) (n : Nat) (x : AV) (xs : List AV) : nilIs .slc (.sl b n (x :: xs)) = some false := rfl
theorem nilIs_8 (m n : Nat) : nilIs .slc (.val (.slice none m n)) = some true := rfl
theorem nilIs_9 (f : Fn) (l m : List AV) : nilIs .fnc (.fn f l m) = some false := rfl
theorem nilIs_10 : nilIs .fnc (.val .nilFunc) = some true := rfl
theorem nilIs_11 (b : Bool) (n : Nat) : nilIs .slc (.sl b n []) = none := rfl
attribute [push_cast] nilIs_1 nilIs_2 nilIs_3 nilIs_4 nilIs_5 nilIs_6 nilIs_7 nilIs_8 nilIs_9 nilIs_10 nilIs_11
attribute [push_cast] srun_nil srun_cons cont_t cont_tn cont_f cont_n gd sstep sval AS.put AS.ev lk del binV frOf part' splice tkLen nilLit afill cvInt AS.lit resAV resAVs resOf SubL thenQ blockQ bodyQ keeps frIds obIds AV.idsOk AV.idsOkL Value.oneCell'
attribute [push_cast] Option.map_some Option.map_none Option.bind_some Option.bind_none List.getElem?_cons_zero List.getElem?_cons_succ List.getElem?_nil List.map_cons List.map_nil List.length_cons List.length_nil List.take_succ_cons List.take_zero List.take_nil List.drop_succ_cons List.drop_zero List.drop_nil List.cons_append List.nil_append List.append_nil List.set_cons_zero List.set_cons_succ List.all_cons List.all_nil List.getElem?_toArray List.toList_toArray and_true true_and and_false false_and Bool.and_true Bool.true_and Bool.and_false Bool.false_and Bool.not_true Bool.not_false if_true if_false List.mem_cons forall_eq_or_imp List.not_mem_nil false_imp_iff implies_true forall_const beq_self_eq_true Bool.true_beq Bool.false_beq
set_option linter.unusedVariables false
set_option linter.unusedSectionVars false
set_option linter.unusedSimpArgs false
set_option linter.unnecessarySimpa false
section
variable {P : Program} {ops : Array Oper} {E : Env} {s s' : AS} {ρ : List Value} {B : Nat → Prop} {a : Act} {w w' : World} {o : Oper} {rest : List Oper} {Q : AS → Prop}
theorem val_run {e : Sem Value} {v : Value} {w w' : World} (h : e.run P w = .ok v w') : (do pure (.value (← e)) : Sem Next).run P w = .ok (.value v) w' := by simp [h]
theorem index_run (hs : RS E s ρ B a w) {T : TypeId} {x i : Operand} {nw : Bool} {sz : Nat} {xs : List AV} {k : IntKind} {j : Int} {y : AV} (ho : o.op = .indexAddr T x i) (hx : s.ev x = .sl nw sz xs) (hi : s.ev i = .val (.int k j))
    (hz : elSz P T = some sz) (hs0 : sz ≠ 0) (h0 : 0 ≤ j) (hy : xs[j.toNat]? = some y) : ∃ v, (execOp a.eval o).run P w = .ok (.value v) w ∧ Rel w B E.bs ρ (.ref nw y) v := by
  obtain ⟨e, ti, zv, hu, hti, hsz, _⟩ := elSz_spec hz
  have hxr := hs.ev x
  have hir := hs.ev i
  rw [hx] at hxr
  rw [hi] at hir
  have hlt := get_lt hy
  have hv := hir.val_eq
  simp only [execOp, ho, hv]
  generalize a.eval x = u at hxr
  cases hxr with
  | slE => simp at hlt
  | sl hr hc =>
    rename_i b o' cap x' xs'
    obtain ⟨h1, h2⟩ := hr.at hy
    have hne : y.cells ≠ [] := by intro h; rw [h] at h2; simp at h2; omega
    refine ⟨_, val_run (v := .pointer (some ⟨b, o' + j.toNat * sz, none⟩)) ?_, .ref h1 hne⟩
    have hj : 0 ≤ j ∧ j < ((xs'.length + 1 : Nat) : Int) := ⟨h0, by simp at hlt; omega⟩
    simp only [Instr.indexAt, asIntOf, Sem.run_bind, Sem.run_pure, Result.andThen_ok, run_underlying hu]
    simp only [if_pos hj, Sem.run_bind, run_sizeOf hti, hsz, Result.andThen_ok, addr_add, Sem.run_pure]
theorem AOp.index {T : TypeId} {x i : Operand} {nw : Bool} {sz : Nat} {xs : List AV} {k : IntKind} {j : Int} {y : AV} (ho : o.op = .indexAddr T x i) (hx : s.ev x = .sl nw sz xs) (hi : s.ev i = .val (.int k j))
    (hz : elSz P T = some sz) (hs0 : sz ≠ 0) (h0 : 0 ≤ j) (hy : xs[j.toNat]? = some y) (K : ARun P ops rest (s.put o.dst (.ref nw y)) Q) : AOp P ops o rest s Q :=
  AOp.pure1 (fun E ρ B a w hs => index_run hs ho hx hi hz hs0 h0 hy) K
theorem ARun2.index {T : TypeId} {x i : Operand} {nw : Bool} {sz : Nat} {xs : List AV} {k : IntKind} {j : Int} {y : AV} (hg : gd ops s o = some true) (ho : o.op = .indexAddr T x i) (hx : s.ev x = .sl nw sz xs) (hi : s.ev i = .val (.int k j))
    (hz : elSz P T = some sz) (hs0 : sz ≠ 0) (h0 : 0 ≤ j) (hy : xs[j.toNat]? = some y) (K : ARun2 P ops (Abs.srun P ops rest (s.put o.dst (.ref nw y))) Q) : ARun2 P ops (o :: rest, s) Q :=
  ARun.exec hg (AOp.index ho hx hi hz hs0 h0 hy (ARun.srun K))
def intLit : Option AV → Option (Option Int)
  | none => some none
  | some (.val (.int _ n)) => some (some n)
  | _ => none
def litV (v : Option Value) (d n : Int) : Prop :=
  match v with
  | none => n = d
  | some (.int _ j) => n = j
  | _ => False
theorem litV_of (hs : RS E s ρ B a w) {q : Option Operand} {d n : Int} (hq : intLit (q.map s.ev) = some (if q.isSome then some n else none)) (h0 : q = none → n = d) : litV (q.map a.eval) d n := by
  cases q with
  | none => exact h0 rfl
  | some q =>
    have hv := hs.ev q
    simp only [Option.map_some, Option.isSome_some, if_true] at hq ⊢
    generalize s.ev q = y at hq hv
    unfold intLit at hq
    split at hq <;> simp only [Option.some.injEq, reduceCtorEq] at hq
    rename_i e
    simp only [Option.some.injEq] at e
    subst e
    rw [hv.val_eq]
    exact hq.symm
theorem run_bounds {lo hi : Option Value} {l h : Int} {n c : Nat} (isS : Bool) (hl : litV lo 0 l) (hh : litV hi n h)
    (h0 : 0 ≤ l) (h1 : l ≤ h) (h2 : h ≤ n) (h3 : n ≤ c) : (Instr.sliceBounds isS n c lo hi none).run P w = .ok (l.toNat, h.toNat, c) w := by
  have e2 : 0 ≤ h := by omega
  have e3 : h ≤ c := by omega
  unfold litV at hl hh
  cases lo with
  | none =>
    simp only at hl; subst hl
    cases hi with
    | none => simp only at hh; subst hh; simp [Instr.sliceBounds]
    | some v =>
      cases v <;> simp only at hh
      subst hh
      simp [Instr.sliceBounds, Instr.sliceBound, asIntOf, e2, e3]
  | some v =>
    cases v <;> simp only at hl
    subst hl
    cases hi with
    | none => simp only at hh; subst hh; simp [Instr.sliceBounds, Instr.sliceBound, asIntOf, h0, h1]
    | some v =>
      cases v <;> simp only at hh
      subst hh
      have e4 : l ≤ max h 0 := by omega
      simp [Instr.sliceBounds, Instr.sliceBound, asIntOf, e2, e3, h0, e4]
theorem Rel.slice {nw : Bool} {sz : Nat} {xs : List AV} {A : Option Addr} {n c : Nat} (hr : Rel w B E.bs ρ (.sl nw sz xs) (.slice A n c)) {l h : Nat} (h1 : l ≤ h) (h2 : h ≤ xs.length) (m : Nat) (hm : h ≤ m) (hmc : m ≤ c) :
    Rel w B E.bs ρ (.sl nw sz ((xs.take h).drop l)) (.slice (if m = l then A else A.map (·.add (l * sz))) (h - l) (m - l)) := by
  by_cases he : h = l
  · subst he
    have : (xs.take h).drop h = [] := by simp
    rw [this, Nat.sub_self]
    exact .slE _ _ _ _
  · cases hr with
    | slE => simp at h2; omega
    | sl hrow hc =>
      rename_i b o' x' xs'
      rw [if_neg (by omega)]
      have hd := (hrow.take h).drop l
      have hlen : (((x' :: xs').take h).drop l).length = h - l := by simp at h2 ⊢; omega
      simp only [Option.map_some, addr_add]
      generalize hq : ((x' :: xs').take h).drop l = ys at hd hlen ⊢
      cases ys with
      | nil => simp at hlen; omega
      | cons y ys =>
        have e : h - l = ys.length + 1 := by simpa using hlen.symm
        rw [e]
        exact .sl hd (by omega)
theorem slice_run (hs : RS E s ρ B a w) {T : TypeId} {x : Operand} {lo hi : Option Operand} {nw : Bool} {sz : Nat} {xs : List AV} {l h : Int} (ho : o.op = .slice T x lo hi none) (hx : s.ev x = .sl nw sz xs)
    (hl : intLit (lo.map s.ev) = some (if lo.isSome then some l else none)) (hl0 : lo = none → l = 0) (hh : intLit (hi.map s.ev) = some (if hi.isSome then some h else none)) (hh0 : hi = none → h = xs.length)
    (hz : elSz P T = some sz) (h0 : 0 ≤ l) (h1 : l ≤ h) (h2 : h ≤ xs.length) : ∃ v, (execOp a.eval o).run P w = .ok (.value v) w ∧ Rel w B E.bs ρ (.sl nw sz ((xs.take h.toNat).drop l.toNat)) v := by
  obtain ⟨e, ti, zv, hu, hti, hsz, _⟩ := elSz_spec hz
  have hxr := hs.ev x
  rw [hx] at hxr
  have hcap : ∃ A c, a.eval x = .slice A xs.length c ∧ xs.length ≤ c := by
    generalize a.eval x = u at hxr
    cases hxr with
    | slE => exact ⟨_, _, rfl, Nat.zero_le _⟩
    | sl hr hc => exact ⟨_, _, rfl, hc⟩
  obtain ⟨A, c, hv, hc⟩ := hcap
  rw [hv] at hxr
  have hb := run_bounds (P := P) (w := w) true (litV_of hs hl hl0) (litV_of hs hh hh0) h0 h1 h2 hc
  refine ⟨_, ?_, hxr.slice (l := l.toNat) (h := h.toNat) (by omega) (by omega) c (by omega) (Nat.le_refl _)⟩
  simp only [execOp, ho]
  refine val_run ?_
  simp only [Instr.sliceAt, Sem.run_bind, run_underlying hu, Result.andThen_ok, Instr.slice, hv, Option.map_none, hb, run_sizeOf hti, hsz, Sem.run_pure]
theorem AOp.slice {T : TypeId} {x : Operand} {lo hi : Option Operand} {nw : Bool} {sz : Nat} {xs : List AV} {l h : Int} (ho : o.op = .slice T x lo hi none) (hx : s.ev x = .sl nw sz xs)
    (hl : intLit (lo.map s.ev) = some (if lo.isSome then some l else none)) (hl0 : lo = none → l = 0) (hh : intLit (hi.map s.ev) = some (if hi.isSome then some h else none)) (hh0 : hi = none → h = xs.length)
    (hz : elSz P T = some sz) (h0 : 0 ≤ l) (h1 : l ≤ h) (h2 : h ≤ xs.length) (K : ARun P ops rest (s.put o.dst (.sl nw sz ((xs.take h.toNat).drop l.toNat))) Q) : AOp P ops o rest s Q :=
  AOp.pure1 (fun E ρ B a w hs => slice_run hs ho hx hl hl0 hh hh0 hz h0 h1 h2) K
theorem slice3_run (hs : RS E s ρ B a w) {T : TypeId} {x lo hi mx : Operand} {nw : Bool} {sz : Nat} {xs : List AV} {l h m : Int} {k1 k2 k3 : IntKind} (ho : o.op = .slice T x (some lo) (some hi) (some mx)) (hx : s.ev x = .sl nw sz xs)
    (hl : s.ev lo = .val (.int k1 l)) (hh : s.ev hi = .val (.int k2 h)) (hm : s.ev mx = .val (.int k3 m))
    (hz : elSz P T = some sz) (h0 : 0 ≤ l) (h1 : l ≤ h) (h2 : h ≤ m) (h3 : m ≤ xs.length) : ∃ v, (execOp a.eval o).run P w = .ok (.value v) w ∧ Rel w B E.bs ρ (.sl nw sz ((xs.take h.toNat).drop l.toNat)) v := by
  obtain ⟨e, ti, zv, hu, hti, hsz, _⟩ := elSz_spec hz
  have hxr := hs.ev x
  rw [hx] at hxr
  have hcap : ∃ A c, a.eval x = .slice A xs.length c ∧ xs.length ≤ c := by
    generalize a.eval x = u at hxr
    cases hxr with
    | slE => exact ⟨_, _, rfl, Nat.zero_le _⟩
    | sl hr hc => exact ⟨_, _, rfl, hc⟩
  obtain ⟨A, c, hv, hc⟩ := hcap
  rw [hv] at hxr
  have vl := hs.ev lo; rw [hl] at vl; replace vl := vl.val_eq
  have vh := hs.ev hi; rw [hh] at vh; replace vh := vh.val_eq
  have vm := hs.ev mx; rw [hm] at vm; replace vm := vm.val_eq
  have e1 : 0 ≤ h := by omega
  have e2 : 0 ≤ m := by omega
  have e3 : m ≤ c := by omega
  have e4 : h ≤ max m 0 := by omega
  have e5 : l ≤ max h 0 := by omega
  refine ⟨_, ?_, hxr.slice (l := l.toNat) (h := h.toNat) (by omega) (by omega) m.toNat (by omega) (by omega)⟩
  simp only [execOp, ho]
  refine val_run ?_
  simp [Instr.sliceAt, run_underlying hu, Instr.slice, hv, Instr.sliceBounds, Instr.sliceBound, asIntOf, vl, vh, vm, h0, e1, e2, e3, e4, e5, run_sizeOf hti, hsz]
theorem AOp.slice3 {T : TypeId} {x lo hi mx : Operand} {nw : Bool} {sz : Nat} {xs : List AV} {l h m : Int} {k1 k2 k3 : IntKind} (ho : o.op = .slice T x (some lo) (some hi) (some mx)) (hx : s.ev x = .sl nw sz xs)
    (hl : s.ev lo = .val (.int k1 l)) (hh : s.ev hi = .val (.int k2 h)) (hm : s.ev mx = .val (.int k3 m))
    (hz : elSz P T = some sz) (h0 : 0 ≤ l) (h1 : l ≤ h) (h2 : h ≤ m) (h3 : m ≤ xs.length) (K : ARun P ops rest (s.put o.dst (.sl nw sz ((xs.take h.toNat).drop l.toNat))) Q) : AOp P ops o rest s Q :=
  AOp.pure1 (fun E ρ B a w hs => slice3_run hs ho hx hl hh hm hz h0 h1 h2 h3) K
end
set_option linter.unusedVariables false
set_option linter.unusedSectionVars false
set_option linter.unusedSimpArgs false
set_option linter.unnecessarySimpa false
def AV.inval (k : Nat) (x : AV) : AV := if x.idsOk (· != k) = true then x else .any
def Ob.inval (k : Nat) : Ob → Ob
  | .box T cs => .box T (cs.map (AV.inval k))
  | .row T sz xs => if AV.idsOkL (· != k) xs = true then .row T sz xs else .gone
  | .mp es => .mp es
  | .gone => .gone
def frInval (k : Nat) (fr : List (Nat × AV)) : List (Nat × AV) := fr.map fun p => (p.1, p.2.inval k)
section
variable {P : Program} {ops : Array Oper} {E : Env} {s s' : AS} {ρ : List Value} {B : Nat → Prop} {a : Act} {w w' : World} {o : Oper} {rest : List Oper} {Q : AS → Prop} {bs : Nat}
theorem Rel.inval {k : Nat} {v' : Value} {x : AV} {v : Value} (h : Rel w B bs ρ x v) : Rel w B bs (ρ.set k v') (x.inval k) v := by
  unfold AV.inval
  split
  · rename_i hx
    refine h.ids (p := (· != k)) ?_ hx
    intro j u hj hu
    have hne : k ≠ j := by have : j ≠ k := by simpa using hj
                           exact this.symm
    rw [List.getElem?_set_ne hne]; exact hu
  · exact .any _
theorem RelL.inval {k : Nat} {v' : Value} : ∀ {xs : List AV} {vs : List Value}, RelL w B bs ρ xs vs → RelL w B bs (ρ.set k v') (xs.map (AV.inval k)) vs
  | _, _, .nil => .nil
  | _, _, .cons h1 h2 => .cons h1.inval (RelL.inval h2)
theorem oc_inval {k : Nat} {x : AV} (h : x.oc = true) : (x.inval k).oc = true := by
  unfold AV.inval; split
  · exact h
  · rfl
theorem Ob.inval_live {k : Nat} {o : Ob} (h : (o.inval k).live = true) : o.live = true := by
  cases o <;> simp_all [Ob.inval, Ob.live]
theorem RO.inval {k j : Nat} {v' : Value} {o : Ob} (hB : ∀ b, B b → w'.heap[b]? = w.heap[b]?) (hj : j ≠ k) (hk : ∀ (v : Value) (b : Nat), o.live = true → ρ[j]? = some v → blk v = some b → w'.heap[b]? = w.heap[b]?)
    (h : RO w B bs ρ j o) : RO w' B bs (ρ.set k v') j (o.inval k) := by
  have hg : ∀ {u : Value}, ρ[j]? = some u → (ρ.set k v')[j]? = some u := fun h => by rw [List.getElem?_set_ne (Ne.symm hj)]; exact h
  cases o with
  | box T cs =>
    obtain ⟨b, vs, fz, h1, h2, h3, h4, h5⟩ := h
    refine ⟨b, vs, fz, hg h1, (hk _ b rfl h1 rfl).trans h2, h3, (h4.inval).mono (fun _ h => h) hB (Nat.le_refl _) (fun _ _ h => h), ?_⟩
    intro c hc
    simp only [List.mem_map] at hc
    obtain ⟨c', hc', rfl⟩ := hc
    exact oc_inval (h5 c' hc')
  | row T sz xs =>
    simp only [Ob.inval]
    split
    · rename_i hx
      obtain ⟨h0, h⟩ := h
      refine ⟨h0, ?_⟩
      have hids : ∀ (i : Nat) (u : Value), (i != k) = true → ρ[i]? = some u → (ρ.set k v')[i]? = some u := by
        intro i u hi hu
        have hne : k ≠ i := by have : i ≠ k := by simpa using hi
                               exact this.symm
        rw [List.getElem?_set_ne hne]; exact hu
      rcases h with h | ⟨b, cap, vs, ws, fz, h1, h2, h3, h4, h5, h6⟩
      · exact .inl ⟨h.1, hg h.2⟩
      · refine .inr ⟨b, cap, vs, ws, fz, hg h1, (hk _ b rfl h1 rfl).trans h2, h3, h4, h5, (h6.ids hids ?_).mono (fun _ h => h) hB (Nat.le_refl _) (fun _ _ h => h)⟩
        rw [AV.idsOkL_iff] at hx ⊢
        intro c hc
        simp only [List.mem_flatMap] at hc
        obtain ⟨x, hx', hc⟩ := hc
        have := hx x hx'
        rw [← AV.idsOkL_cells, AV.idsOkL_iff] at this
        exact this c hc
    · trivial
  | mp es =>
    obtain ⟨b, ms, c, h1, h2, h3⟩ := h
    exact ⟨b, ms, c, hg h1, (hk _ b rfl h1 rfl).trans h2, h3⟩
  | gone => trivial
theorem RW.regrow {ob : List Ob} {k : Nat} {o' : Ob} {v v' : Value} {T : TypeId} {sz : Nat} {xs : List AV} (h : RW E ob ρ B w) (hk : ob[k]? = some (.row T sz xs)) (hv : ρ[k]? = some v) (hp : isPtr v = false)
    (hos : w'.os = w.os) (htape : w'.tape = w.tape) (hout : w'.output = w.output) (hsize : w.heap.size ≤ w'.heap.size)
    (hblock : ∀ j, j < w.heap.size → blk v ≠ some j → w'.heap[j]? = w.heap[j]?)
    (hb : ∀ b, blk v' = some b → blk v = some b ∨ (w.heap.size ≤ b ∧ b < w'.heap.size))
    (ho : RO w' B E.bs (ρ.set k v') k o') : RW E ((ob.map (Ob.inval k)).set k o') (ρ.set k v') B w' := by
  have prv := fun b hb => h.prv k _ v b hk rfl hv hb
  have hBw : ∀ b, B b → w'.heap[b]? = w.heap[b]? := fun b hBb => hblock b (h.blt b hBb) (fun e => (prv b e).1 hBb)
  have hkl := get_lt hk
  have hkρ : k < ρ.length := get_lt hv
  have get : ∀ {i : Nat} {o1 : Ob}, ((ob.map (Ob.inval k)).set k o')[i]? = some o1 → i ≠ k → ∃ o2, ob[i]? = some o2 ∧ o1 = o2.inval k := by
    intro i o1 h1 hik
    rw [List.getElem?_set_ne (Ne.symm hik), List.getElem?_map] at h1
    simp only [Option.map_eq_some_iff] at h1
    obtain ⟨o2, h2, h3⟩ := h1
    exact ⟨o2, h2, h3.symm⟩
  have gρ : ∀ {i : Nat} {u : Value}, (ρ.set k v')[i]? = some u → i ≠ k → ρ[i]? = some u := by
    intro i u h1 hik
    rwa [List.getElem?_set_ne (Ne.symm hik)] at h1
  have gk : ∀ {u : Value}, (ρ.set k v')[k]? = some u → u = v' := by
    intro u h1
    rw [List.getElem?_set_self hkρ] at h1
    exact (Option.some.inj h1).symm
  refine { ep := h.ep, os := hos.trans h.os, tape := htape.trans h.tape, output := hout.trans h.output, size := Nat.le_trans h.size hsize, block := ?_, pre := ?_, bsub := h.bsub, bnew := h.bnew,
           blt := fun b hb => Nat.lt_of_lt_of_le (h.blt b hb) hsize, len := by simp [h.len], obs := ?_, dis := ?_, prv := ?_ }
  · intro j h1 h2
    refine (hblock j (Nat.lt_of_lt_of_le h1 h.size) ?_).trans (h.block j h1 h2)
    intro e
    rcases (prv j e).2.2 with h3 | h3
    · omega
    · exact h2.1 h3.x
  · intro j u h1 h2
    have h3 := h.pre j u h1 h2
    have hne : k ≠ j := by
      rintro rfl
      rw [hv] at h3
      simp only [Option.some.injEq] at h3
      subst h3
      rw [hp] at h2; simp at h2
    rw [List.getElem?_set_ne hne]; exact h3
  · intro i o1 h1
    by_cases hik : i = k
    · subst hik
      rw [List.getElem?_set_self (by simpa using hkl)] at h1
      have : o1 = o' := (Option.some.inj h1).symm
      subst this; exact ho
    · obtain ⟨o2, h2, rfl⟩ := get h1 hik
      refine (h.obs i o2 h2).inval hBw hik ?_
      intro u b l hu hbu
      exact hblock b (h.prv i o2 u b h2 l hu hbu).2.1 (fun e => h.dis i k o2 _ u v b hik h2 l hk rfl hu hv hbu e)
  · intro i j o1 o2 u1 u2 b hij h1 l1 h2 l2 r1 r2 b1 b2
    by_cases hik : i = k
    · subst hik
      have hjk : j ≠ i := Ne.symm hij
      obtain ⟨o3, h3, rfl⟩ := get h2 hjk
      have e2 := gρ r2 hjk
      have l3 := Ob.inval_live l2
      have := gk r1; subst this
      rcases hb b b1 with hb | hb
      · exact h.dis i j _ o3 v u2 b hij hk rfl h3 l3 hv e2 hb b2
      · have := (h.prv j o3 u2 b h3 l3 e2 b2).2.1; omega
    · obtain ⟨o3, h3, rfl⟩ := get h1 hik
      have e1 := gρ r1 hik
      have l3 := Ob.inval_live l1
      by_cases hjk : j = k
      · subst hjk
        have := gk r2; subst this
        rcases hb b b2 with hb | hb
        · exact h.dis i j o3 _ u1 v b hij h3 l3 hk rfl e1 hv b1 hb
        · have := (h.prv i o3 u1 b h3 l3 e1 b1).2.1; omega
      · obtain ⟨o4, h4, rfl⟩ := get h2 hjk
        exact h.dis i j o3 o4 u1 u2 b hij h3 l3 h4 (Ob.inval_live l2) e1 (gρ r2 hjk) b1 b2
  · intro i o1 u b h1 l1 r1 hbu
    by_cases hik : i = k
    · subst hik
      have := gk r1; subst this
      rcases hb b hbu with hb | hb
      · obtain ⟨p1, p2, p3⟩ := prv b hb
        exact ⟨p1, Nat.lt_of_lt_of_le p2 hsize, p3⟩
      · exact ⟨fun hB => by have := h.blt b hB; omega, hb.2, .inl (Nat.le_trans h.size hb.1)⟩
    · obtain ⟨o3, h3, rfl⟩ := get h1 hik
      obtain ⟨p1, p2, p3⟩ := h.prv i o3 u b h3 (Ob.inval_live l1) (gρ r1 hik) hbu
      exact ⟨p1, Nat.lt_of_lt_of_le p2 hsize, p3⟩
theorem RS.regrow {k : Nat} {o' : Ob} {v v' : Value} {T : TypeId} {sz : Nat} {xs : List AV} (h : RS E s ρ B a w) (hk : s.ob[k]? = some (.row T sz xs)) (hv : ρ[k]? = some v) (hp : isPtr v = false)
    (hos : w'.os = w.os) (htape : w'.tape = w.tape) (hout : w'.output = w.output) (hsize : w.heap.size ≤ w'.heap.size)
    (hblock : ∀ j, j < w.heap.size → blk v ≠ some j → w'.heap[j]? = w.heap[j]?)
    (hb : ∀ b, blk v' = some b → blk v = some b ∨ (w.heap.size ≤ b ∧ b < w'.heap.size))
    (ho : RO w' B E.bs (ρ.set k v') k o') : RS E { s with ob := (s.ob.map (Ob.inval k)).set k o', fr := frInval k s.fr } (ρ.set k v') B a w' := by
  have hrg := h.rw_.regrow hk hv hp hos htape hout hsize hblock hb ho
  refine ⟨h.rw_.regrow hk hv hp hos htape hout hsize hblock hb ho, h.m, h.n, h.df, h.jj.chg ⟨hos, htape, hout, hsize, fun b hlt hd => hblock b hlt fun e => hd ⟨k, _, v, hk, rfl, hv, e⟩, ?_, fun _ h => h, fun _ h => .inl h⟩ hrg.bd, ?_⟩
  · rintro b ⟨j, oj, u, h1, h2, h3, h4⟩
    by_cases hjk : k = j
    · subst hjk
      rw [List.getElem?_set_self (get_lt hv)] at h3
      have : v' = u := Option.some.inj h3
      subst this
      rcases hb b h4 with h5 | h5
      · exact .inl ⟨k, _, v, hk, rfl, hv, h5⟩
      · exact .inr h5.1
    · rw [List.getElem?_set_ne hjk] at h1 h3
      rw [List.getElem?_map] at h1
      simp only [Option.map_eq_some_iff] at h1
      obtain ⟨o2, h5, rfl⟩ := h1
      exact .inl ⟨j, o2, u, h5, Ob.inval_live h2, h3, h4⟩
  intro t x hm
  simp only [frInval, List.mem_map] at hm
  obtain ⟨⟨t', x'⟩, hm, he⟩ := hm
  simp only [Prod.mk.injEq] at he
  obtain ⟨rfl, rfl⟩ := he
  obtain ⟨h1, h2⟩ := h.rf t' x' hm
  refine ⟨h1, (h2.inval).mono (fun _ h => h) ?_ (Nat.le_refl _) (fun _ _ h => h)⟩
  intro b hBb
  exact hblock b (h.rw_.blt b hBb) (fun e => (h.rw_.prv k _ v b hk rfl hv e).1 hBb)
theorem flat_len {sz : Nat} : ∀ {ys : List AV}, (∀ y ∈ ys, y.cells.length = sz) → (ys.flatMap AV.cells).length = ys.length * sz
  | [], _ => by simp
  | y :: ys, h => by
    rw [List.flatMap_cons, List.length_append, h y (by simp), flat_len (fun z hz => h z (by simp [hz])), List.length_cons, Nat.add_mul]; omega
def srcOf (s : AS) (sz : Nat) : AV → Option (List AV)
  | .sl _ sz' ys => if sz' = sz then some ys else none
  | .val (.slice none 0 0) => some []
  | .own j =>
    match s.ob[j]? with
    | some (.row _ sz' ys) => if sz' = sz then some ys else none
    | _ => none
  | _ => none
theorem src_run (hs : RS E s ρ B a w) {x : AV} {v : Value} {sz : Nat} {ys : List AV} (h : srcOf s sz x = some ys) (hx : Rel w B E.bs ρ x v) :
    ∃ us, (∀ d, (Builtin.firstCells sz ys.length v).run P { w with drawn := d } = .ok (List.toArray us) { w with drawn := d }) ∧ (∀ w, (Builtin.lenOf v).run P w = .ok ys.length w) ∧
      RelL w B E.bs ρ (ys.flatMap AV.cells) us ∧ us.length = ys.length * sz ∧ ∀ y ∈ ys, y.cells.length = sz ∧ ∀ c ∈ y.cells, c.one = true := by
  have cells : ∀ {b o n c : Nat} {us : List Value}, (∀ j u, us[j]? = some u → w.cell? ⟨b, o + j, none⟩ = some u) → us.length = n * sz → ∀ d, (Builtin.firstCells sz n (.slice (some ⟨b, o, none⟩) n c)).run P { w with drawn := d } = .ok us.toArray { w with drawn := d } := by
    intro b o n c us h hl d
    have := run_loadCells_list (P := P) { w with drawn := d } ⟨b, o, none⟩ us (fun j u hj => by rw [addr_add]; exact h j u hj)
    simp only [Builtin.firstCells, ← hl]
    exact this
  cases x with
  | sl nw sz' ys' =>
    simp only [srcOf] at h
    split at h <;> simp only [Option.some.injEq, reduceCtorEq] at h
    rename_i e; subst e; subst h
    cases hx with
    | slE _ _ A cap =>
      refine ⟨[], ?_, by simp [Builtin.lenOf], .nil, by simp, by simp⟩
      intro d
      cases A with
      | none => simp [Builtin.firstCells]
      | some A => simp [Builtin.firstCells, loadCells, loadCellsFrom]
    | sl hr hc =>
      obtain ⟨f1, f2⟩ := hr.flat
      obtain ⟨us, c1, c2, c3⟩ := f1.get
      refine ⟨us, cells c3 (by rw [← c1.length_eq, f2]), by simp [Builtin.lenOf], c1, by rw [← c1.length_eq, f2], ?_⟩
      intro y hy
      obtain ⟨j, hj⟩ := List.getElem?_of_mem hy
      obtain ⟨r1, r2⟩ := hr.at hj
      obtain ⟨_, _, r3, _⟩ := r1.get
      exact ⟨r2, r3⟩
  | val u =>
    have hv := hx.val_eq
    subst hv
    have hu : v = .slice none 0 0 ∧ ys = [] := by
      cases v with
      | slice A n c =>
        cases A with
        | none =>
          cases n with
          | zero =>
            cases c with
            | zero => simp [srcOf] at h; exact ⟨rfl, h⟩
            | succ c => simp [srcOf] at h
          | succ n => simp [srcOf] at h
        | some A => simp [srcOf] at h
      | _ => simp [srcOf] at h
    obtain ⟨rfl, rfl⟩ := hu
    exact ⟨[], by simp [Builtin.firstCells], by simp [Builtin.lenOf], .nil, by simp, by simp⟩
  | own j =>
    simp only [srcOf] at h
    split at h <;> (try (simp at h; done))
    rename_i T sz' ys' hj
    split at h <;> simp only [Option.some.injEq, reduceCtorEq] at h
    rename_i e; subst e; subst h
    obtain ⟨h0, hr⟩ := hs.rw_.obs j _ hj
    cases hx with
    | own hp =>
      rcases hr with ⟨rfl, hr⟩ | ⟨b, cap, vs, ws, fz, h1, h2, h3, h4, h5, h6⟩
      · rw [hr] at hp; simp only [Option.some.injEq] at hp; subst hp
        exact ⟨[], by simp [Builtin.firstCells], by simp [Builtin.lenOf], .nil, by simp, by simp⟩
      · rw [h1] at hp; simp only [Option.some.injEq] at hp; subst hp
        have hl := flat_len (ys := ys') (fun y hy => (h0 y hy).1)
        refine ⟨vs, cells (o := 0) ?_ (by rw [← h6.length_eq, hl]), by simp [Builtin.lenOf], h6, by rw [← h6.length_eq, hl], h0⟩
        intro i u hi
        exact block_cell h2 0 i u (by simpa using get_append_some hi)
  | _ => simp [srcOf] at h
theorem growBy_le (newLen : Nat) (h : 256 ≤ newLen) : ∀ (r c : Nat), c ≤ 2 * newLen → Builtin.growBy newLen r c ≤ 2 * newLen
  | 0, c, hc => by simpa [Builtin.growBy] using hc
  | r + 1, c, hc => by
    simp only [Builtin.growBy]
    split
    · exact hc
    · exact growBy_le newLen h r _ (by omega)
theorem nextslicecap_le {need cap : Nat} (h : cap < need) : Builtin.nextslicecap need cap ≤ 2 * need := by
  unfold Builtin.nextslicecap
  split
  · omega
  · split
    · omega
    · exact growBy_le need (by omega) 4 cap (by omega)
theorem elB_spec {T e : TypeId} {i : TypeInfo} (hu : P.underlying T = some (.slice e)) (hi : P.info? e = some i) : elB P T = i.bytes := by
  simp [elB, hu, hi]
theorem isSlc_spec {T : TypeId} (h : isSlc P T = true) : ∃ e, P.underlying T = some (.slice e) := by
  unfold isSlc at h
  split at h
  · exact ⟨_, ‹_›⟩
  · simp at h
theorem isStr_spec {T : TypeId} (h : isStr P T = true) : P.underlying T = some .string := by
  unfold isStr at h
  split at h
  · assumption
  · simp at h
theorem run_app_room {T T2 ty e : TypeId} {i : TypeInfo} {A : Option Addr} {n c m : Nat} {xv : Value} {new : Array Value} {w' : World} (hu : P.underlying T = some (.slice e)) (hi : P.info? e = some i) (h2 : isSlc P T2 = true ∨ isStr P T2 = true)
    (hl : (Builtin.lenOf xv).run P w = .ok m w) (hroom : n + m ≤ c) (hnew : (Builtin.firstCells i.size m xv).run P w = .ok new w)
    (hst : match A with | some a => (storeCells (a.add (n * i.size)) new.toList).run P w = .ok () w' | none => w' = w) :
    (Builtin.append_ #[T, T2] ty #[.slice A n c, xv]).run P w = .ok (.slice A (n + m) c) w' := by
  have hd : (∃ e2, P.underlying T2 = some (.slice e2)) ∨ P.underlying T2 = some .string := h2.imp isSlc_spec isStr_spec
  rcases hd with ⟨e2, hd⟩ | hd
  all_goals
    cases A with
    | none => simp only at hst; subst hst; simp [Builtin.append_, run_underlying hu, run_underlying hd, run_sizeOf hi, hl, hroom, hnew]
    | some a => simp only at hst; simp [Builtin.append_, run_underlying hu, run_underlying hd, run_sizeOf hi, hl, hroom, hnew, hst]
theorem run_app_grow {T T2 ty e : TypeId} {i : TypeInfo} {A : Option Addr} {n c m : Nat} {xv z : Value} {old new : Array Value} (hu : P.underlying T = some (.slice e)) (hi : P.info? e = some i) (h2 : isSlc P T2 = true ∨ isStr P T2 = true)
    (hl : (Builtin.lenOf xv).run P w = .ok m w) (hroom : ¬ n + m ≤ c) (hsmall : n + m ≤ 9223372036854775807) (hb : Builtin.nextslicecap (n + m) c * i.bytes ≤ 2 ^ 48)
    (hold : (Builtin.firstCells i.size n (.slice A n c)).run P { w with drawn := w.drawn + 1 } = .ok old { w with drawn := w.drawn + 1 })
    (hnew : (Builtin.firstCells i.size m xv).run P { w with drawn := w.drawn + 1 } = .ok new { w with drawn := w.drawn + 1 }) (hz : i.zero = some z) :
    ∃ cap', n + m ≤ cap' ∧ (Builtin.append_ #[T, T2] ty #[.slice A n c, xv]).run P w =
      .ok (.slice (some ⟨w.heap.size, 0, none⟩) (n + m) cap') ({ w with drawn := w.drawn + 1 }.alloc (.cells (old ++ new ++ Builtin.zeroCells z.cells (cap' - (n + m))) e)) := by
  have hd : (∃ e2, P.underlying T2 = some (.slice e2)) ∨ P.underlying T2 = some .string := h2.imp isSlc_spec isStr_spec
  have hb' : ¬ (Builtin.nextslicecap (n + m) c * i.bytes > 281474976710656) := by omega
  have hs' : ¬ ((n : Int) + m > IntKind.i64.max) := by simp [IntKind.max, IntKind.signed, IntKind.bits]; omega
  refine ⟨(Question.appendCap (n + m) c e).cut (w.tape w.drawn (.appendCap (n + m) c e)), by simp [Question.cut], ?_⟩
  have hq : (Question.appendCap (n + m) c e).forced = false := rfl
  have hzr : ∀ w, (zeroValue e).run P w = .ok z w := fun w => by simp [zeroValue, typeInfo, hi, hz]
  rcases hd with ⟨e2, hd⟩ | hd
  all_goals
    simp [Builtin.append_, run_underlying hu, run_underlying hd, run_sizeOf hi, hl, hroom, typeInfo, hi, hb', hs', hq, newRow, hzr] at hold hnew ⊢
    simp [hold, hnew]
    intro hbig
    exfalso
    omega
theorem zeroCells_len (z : Array Value) (n : Nat) : (Builtin.zeroCells z n).toList.length = n * z.size := by simp [Builtin.zeroCells]
theorem append_core (hs : RS E s ρ B a w) {T T2 ty : TypeId} {k sz : Nat} {e : TypeId} {xs ys : List AV} {x : AV} {v xv : Value} (hz : elSz P T = some sz) (hT : P.underlying T = some (.slice e)) (h2 : isSlc P T2 = true ∨ isStr P T2 = true)
    (hk : s.ob[k]? = some (.row e sz xs)) (hv : ρ[k]? = some v) (hsrc : srcOf s sz x = some ys) (hx : Rel w B E.bs ρ x xv) (hb : 2 * (xs.length + ys.length) * elB P T ≤ 2 ^ 48) (hsm : xs.length + ys.length ≤ 2 ^ 60)
    (hid : AV.idsOkL (· != k) xs = true) (hid2 : AV.idsOkL (· != k) ys = true) :
    ∃ v' w', (Builtin.append_ #[T, T2] ty #[v, xv]).run P w = .ok v' w' ∧ RS E { s with ob := (s.ob.map (Ob.inval k)).set k (.row e sz (xs ++ ys)), fr := frInval k s.fr } (ρ.set k v') B a w' ∧ v'.oneCell' = true := by
  obtain ⟨e', i, zv, hu, hi, hsz, hzz, hzl, hz1⟩ := elSz_spec hz
  rw [hT] at hu
  simp only [Option.some.injEq, TypeDesc.slice.injEq] at hu
  subst hu
  have heb := elB_spec hT hi
  obtain ⟨us, u1, u2, u3, u4, u5⟩ := src_run hs hsrc hx
  obtain ⟨h0, hr⟩ := hs.rw_.obs k _ hk
  have hkρ := get_lt hv
  have h0' : ∀ y ∈ xs ++ ys, y.cells.length = sz ∧ ∀ c ∈ y.cells, c.one = true := by
    intro y hy
    rcases List.mem_append.1 hy with hy | hy
    · exact h0 y hy
    · exact u5 y hy
  have hidf : ∀ l : List AV, AV.idsOkL (· != k) l = true → AV.idsOkL (· != k) (l.flatMap AV.cells) = true := by
    intro l hl
    rw [AV.idsOkL_iff] at hl ⊢
    intro c hc
    simp only [List.mem_flatMap] at hc
    obtain ⟨x, hx', hc⟩ := hc
    have := hl x hx'
    rw [← AV.idsOkL_cells, AV.idsOkL_iff] at this
    exact this c hc
  have hids : ∀ (v' : Value) (j : Nat) (u : Value), (j != k) = true → ρ[j]? = some u → (ρ.set k v')[j]? = some u := by
    intro v' j u hj hu
    have hne : k ≠ j := by have : j ≠ k := by simpa using hj
                           exact this.symm
    rw [List.getElem?_set_ne hne]; exact hu
  have hu1 := u3.ones (fun c hc => by
    simp only [List.mem_flatMap] at hc
    obtain ⟨y, hy, hc⟩ := hc
    exact (u5 y hy).2 c hc)
  -- where it grows
  have grow : ∀ (A : Option Addr) (n c : Nat) (vs : List Value), v = .slice A n c → n = xs.length → RelL w B E.bs ρ (xs.flatMap AV.cells) vs → vs.length = n * sz → ¬ n + ys.length ≤ c → isPtr v = false →
      (Builtin.firstCells sz n (.slice A n c)).run P { w with drawn := w.drawn + 1 } = .ok vs.toArray { w with drawn := w.drawn + 1 } →
      ∃ v' w', (Builtin.append_ #[T, T2] ty #[v, xv]).run P w = .ok v' w' ∧ RS E { s with ob := (s.ob.map (Ob.inval k)).set k (.row e sz (xs ++ ys)), fr := frInval k s.fr } (ρ.set k v') B a w' ∧ v'.oneCell' = true := by
    intro A n c vs hve hn hrel hvl hroom hptr hold
    subst hn
    have hbb : Builtin.nextslicecap (xs.length + ys.length) c * i.bytes ≤ 2 ^ 48 := by
      refine Nat.le_trans (Nat.mul_le_mul_right _ (nextslicecap_le (by omega))) ?_
      rw [← heb]; exact hb
    obtain ⟨cap', hcap, hrun⟩ := run_app_grow (P := P) (w := w) (T := T) (T2 := T2) (ty := ty) (e := e) (i := i) (A := A) (n := xs.length) (c := c) (m := ys.length) (xv := xv) (z := zv) hT hi h2 (u2 w) hroom (by omega) hbb (by rw [hsz]; exact hold) (by rw [hsz]; exact u1 _) hzz
    refine ⟨_, _, by rw [hve]; exact hrun, ?_, rfl⟩
    have hlist : (vs.toArray ++ us.toArray ++ Builtin.zeroCells zv.cells (cap' - (xs.length + ys.length))) = List.toArray ((vs ++ us) ++ (Builtin.zeroCells zv.cells (cap' - (xs.length + ys.length))).toList) := by
      apply Array.ext'; simp
    rw [hlist]
    have hsame : Same w ({ w with drawn := w.drawn + 1 }.alloc (.cells (List.toArray ((vs ++ us) ++ (Builtin.zeroCells zv.cells (cap' - (xs.length + ys.length))).toList)) e)) :=
      have h1 := same_alloc { w with drawn := w.drawn + 1 } (.cells (List.toArray ((vs ++ us) ++ (Builtin.zeroCells zv.cells (cap' - (xs.length + ys.length))).toList)) e)
      ⟨h1.os, h1.tape, h1.output, h1.size, h1.block⟩
    refine hs.regrow hk hv hptr hsame.os hsame.tape hsame.output hsame.size (fun j hj _ => hsame.block j hj) ?_ ?_
    · intro b hb
      simp only [blk, Option.some.injEq] at hb
      subst hb
      exact .inr ⟨Nat.le_refl _, by simp⟩
    · refine ⟨h0', .inr ⟨w.heap.size, cap', vs ++ us, (Builtin.zeroCells zv.cells (cap' - (xs.length + ys.length))).toList, (0, 0), ?_, alloc_get { w with drawn := w.drawn + 1 } _, ?_, by simpa using hcap, .inl (by simp), ?_⟩⟩
      · rw [List.getElem?_set_self hkρ]; simp
      · simp only [List.length_append, zeroCells_len, hvl, u4, hzl, ← Nat.add_mul]
        congr 1; omega
      · rw [List.flatMap_append]
        refine ((hrel.append u3).ids (hids _) ?_).mono (fun _ h => h) (fun b hb => hsame.block b (hs.rw_.blt b hb)) (Nat.le_refl _) (fun _ _ h => h)
        rw [← List.flatMap_append]
        refine hidf _ ?_
        rw [AV.idsOkL_iff] at hid hid2 ⊢
        intro x hx
        rcases List.mem_append.1 hx with hx | hx
        · exact hid x hx
        · exact hid2 x hx
  rcases hr with ⟨rfl, hr⟩ | ⟨b, cap, vs, ws, fz, h1, hh, h3, h4, h5, h6⟩
  · rw [hr] at hv
    simp only [Option.some.injEq] at hv
    subst hv
    by_cases hy : ys = []
    · subst hy
      have hus : us = [] := List.eq_nil_of_length_eq_zero (by simpa using u4)
      subst hus
      have hrun := run_app_room (P := P) (w := w) (w' := w) (T := T) (T2 := T2) (ty := ty) (e := e) (i := i) (A := none) (n := 0) (c := 0) (m := 0) (xv := xv) (new := #[]) hT hi h2 (u2 w) (Nat.le_refl _) (by rw [hsz]; exact u1 _) rfl
      refine ⟨_, _, hrun, ?_, rfl⟩
      refine hs.regrow hk hr rfl rfl rfl rfl (Nat.le_refl _) (fun _ _ _ => rfl) (by intro b hb; simp [blk] at hb) ⟨by simp, .inl ⟨rfl, ?_⟩⟩
      rw [List.getElem?_set_self hkρ]
    · refine grow none 0 0 [] rfl rfl .nil (by simp) ?_ rfl (by simp [Builtin.firstCells])
      cases ys with
      | nil => exact absurd rfl hy
      | cons y ys => simp
  · rw [h1] at hv
    simp only [Option.some.injEq] at hv
    subst hv
    have hvl : vs.length = xs.length * sz := by rw [← h6.length_eq]; exact flat_len (fun y hy => (h0 y hy).1)
    by_cases hroom : xs.length + ys.length ≤ cap
    · have hwl : ws.length = cap * sz - xs.length * sz := by have := h3; simp only [List.length_append] at this; omega
      have hmul : xs.length * sz + ys.length * sz ≤ cap * sz := by rw [← Nat.add_mul]; exact Nat.mul_le_mul_right _ hroom
      have hst := run_storeCells (P := P) b e fz (xs.length * sz) us 0 (vs ++ ws) w hh h5 (by rw [Nat.add_zero, h3, u4]; exact hmul) hu1
      have htake : (vs ++ ws).take (xs.length * sz + 0) = vs := by rw [Nat.add_zero, ← hvl]; exact List.take_left
      rw [htake] at hst
      have hrun := run_app_room (P := P) (w := w) (w' := setBlk w b (.cells (vs ++ us ++ (vs ++ ws).drop (xs.length * sz + 0 + us.length)).toArray e fz)) (T := T) (T2 := T2) (ty := ty) (e := e) (i := i) (A := some ⟨b, 0, none⟩) (n := xs.length) (c := cap) (m := ys.length) (xv := xv) (new := us.toArray) hT hi h2 (u2 w) hroom
        (by rw [hsz]; exact u1 _) (by simp only [hsz, addr_add, Nat.zero_add]; exact hst)
      refine ⟨_, _, hrun, ?_, rfl⟩
      obtain ⟨p1, p2, p3⟩ := hs.rw_.prv k _ _ b hk rfl h1 rfl
      have hBw : ∀ b', B b' → (setBlk w b (.cells (vs ++ us ++ (vs ++ ws).drop (xs.length * sz + 0 + us.length)).toArray e fz)).heap[b']? = w.heap[b']? := fun b' hb' => by
        rw [setBlk_get _ _ _ _ p2, if_neg (by rintro rfl; exact p1 hb')]
      refine hs.regrow hk h1 rfl rfl rfl rfl (by simp [setBlk]) ?_ ?_ ?_
      · intro j hj hne
        rw [setBlk_get _ _ _ _ p2, if_neg (by rintro rfl; exact hne rfl)]
      · intro b' hb'; exact .inl hb'
      · refine ⟨h0', .inr ⟨b, cap, vs ++ us, (vs ++ ws).drop (xs.length * sz + 0 + us.length), fz, ?_, by rw [setBlk_get _ _ _ _ p2, if_pos rfl], ?_, by simpa using hroom, ?_, ?_⟩⟩
        · rw [List.getElem?_set_self hkρ]; simp
        · simp only [List.length_append, List.length_drop, hvl, u4, hwl]; omega
        · have : (vs ++ us ++ (vs ++ ws).drop (xs.length * sz + 0 + us.length)).length = (vs ++ ws).length := by
            simp only [List.length_append, List.length_drop, hvl, u4, hwl]; omega
          rw [this]; exact h5
        · rw [List.flatMap_append]
          refine ((h6.append u3).ids (hids _) ?_).mono (fun _ h => h) hBw (Nat.le_refl _) (fun _ _ h => h)
          rw [← List.flatMap_append]
          refine hidf _ ?_
          rw [AV.idsOkL_iff] at hid hid2 ⊢
          intro x hx
          rcases List.mem_append.1 hx with hx | hx
          · exact hid x hx
          · exact hid2 x hx
    · refine grow (some ⟨b, 0, none⟩) xs.length cap vs rfl rfl h6 hvl hroom rfl ?_
      have := run_loadCells_list (P := P) { w with drawn := w.drawn + 1 } ⟨b, 0, none⟩ vs (fun j u hj => by
        rw [addr_add]
        exact block_cell (w := w) hh 0 j u (by simpa using get_append_some hj))
      simp only [Builtin.firstCells, ← hvl]
      exact this
theorem AOp.append {T T2 : TypeId} {x y : Operand} {k sz : Nat} {e : TypeId} {xs ys : List AV} (ho : o.op = .call { callee := .builtin .append, args := #[x, y], argTypes := #[T, T2] }) (hx : s.ev x = .own k) (hk : s.ob[k]? = some (.row e sz xs))
    (hz : elSz P T = some sz) (hT : P.underlying T = some (.slice e)) (h2 : isSlc P T2 = true ∨ isStr P T2 = true) (hsrc : srcOf s sz (s.ev y) = some ys) (hb : 2 * (xs.length + ys.length) * elB P T ≤ 2 ^ 48) (hsm : xs.length + ys.length ≤ 2 ^ 60)
    (hid : AV.idsOkL (· != k) xs = true) (hid2 : AV.idsOkL (· != k) ys = true)
    (K : ARun P ops rest (({ s with ob := (s.ob.map (Ob.inval k)).set k (.row e sz (xs ++ ys)), fr := frInval k s.fr } : AS).put o.dst (.own k)) Q) : AOp P ops o rest s Q := by
  refine AOp.value (s' := { s with ob := (s.ob.map (Ob.inval k)).set k (.row e sz (xs ++ ys)), fr := frInval k s.fr }) (fun E ρ B a w hs => ?_) K
  have hxr := hs.ev x
  rw [hx] at hxr
  generalize hu : a.eval x = u at hxr
  cases hxr with
  | own hp =>
    obtain ⟨v', w', h1, h3, h4⟩ := append_core (P := P) (ty := o.type) (T := T) (T2 := T2) hs hz hT h2 hk hp hsrc (hs.ev y) hb hsm hid hid2
    refine ⟨v', w', _, B, ?_, h3, .own ?_ h4⟩
    · simp [execOp, ho, resolve, invoke, builtin, hu, h1]
    · rw [List.getElem?_set_self (get_lt hp)]
theorem srcOf_new {sz : Nat} {y : AV} {ys : List AV} {o' : Ob} (h : srcOf s sz y = some ys) : srcOf { s with ob := s.ob ++ [o'] } sz y = some ys := by
  cases y with
  | own j =>
    simp only [srcOf] at h ⊢
    cases hj : s.ob[j]? with
    | none => simp [hj] at h
    | some q => rw [hj] at h; rw [get_append_some hj]; exact h
  | val v => unfold srcOf at h ⊢; split at h <;> simp_all
  | _ => exact h
def elT (P : Program) (T : TypeId) : Option TypeId :=
  match P.underlying T with
  | some (.slice e) => some e
  | _ => none
theorem elT_spec {T e : TypeId} (h : elT P T = some e) : P.underlying T = some (.slice e) := by
  unfold elT at h
  split at h <;> simp only [Option.some.injEq, reduceCtorEq] at h
  subst h; assumption
theorem ARun2.append {T T2 : TypeId} {x y : Operand} {k sz : Nat} {e : TypeId} {xs ys : List AV} (hg : gd ops s o = some true) (ho : o.op = .call { callee := .builtin .append, args := #[x, y], argTypes := #[T, T2] }) (hx : s.ev x = .own k) (hk : s.ob[k]? = some (.row e sz xs))
    (hz : elSz P T = some sz) (hT : elT P T = some e) (h2 : isSlc P T2 = true ∨ isStr P T2 = true) (hsrc : srcOf s sz (s.ev y) = some ys) (hb : 2 * (xs.length + ys.length) * elB P T ≤ 2 ^ 48) (hsm : xs.length + ys.length ≤ 2 ^ 60)
    (hid : AV.idsOkL (· != k) xs = true) (hid2 : AV.idsOkL (· != k) ys = true)
    (K : ARun2 P ops (Abs.srun P ops rest (({ s with ob := (s.ob.map (Ob.inval k)).set k (.row e sz (xs ++ ys)), fr := frInval k s.fr } : AS).put o.dst (.own k))) Q) : ARun2 P ops (o :: rest, s) Q :=
  ARun.exec hg (AOp.append ho hx hk hz (elT_spec hT) h2 hsrc hb hsm hid hid2 (ARun.srun K))
def AV.pub (k sz : Nat) (xs : List AV) : AV → AV
  | .own j => if j = k then .sl true sz xs else .own j
  | x => x
def frPub (k sz : Nat) (xs : List AV) (fr : List (Nat × AV)) : List (Nat × AV) := fr.map fun p => (p.1, p.2.pub k sz xs)
theorem RW.publish {ob : List Ob} {k : Nat} {e : TypeId} {sz : Nat} {xs : List AV} (h : RW E ob ρ B w) (hk : ob[k]? = some (.row e sz xs)) (hm : E.ρ0.length ≤ k) :
    ∃ B' v, (∀ b, B b → B' b) ∧ ρ[k]? = some v ∧ RW E (ob.set k .gone) ρ B' w ∧ Rel w B' E.bs ρ (.sl true sz xs) v ∧ ∀ b, B' b → B b ∨ Dof ob ρ b := by
  obtain ⟨h0, hr⟩ := h.obs k _ hk
  have hdrop : RW E (ob.set k .gone) ρ B w := by
    have get : ∀ {i : Nat} {o1 : Ob}, (ob.set k .gone)[i]? = some o1 → o1.live = true → ob[i]? = some o1 := by
      intro i o1 h1 l1
      by_cases hik : k = i
      · subst hik
        rw [List.getElem?_set_self (get_lt hk)] at h1
        simp at h1; subst h1; simp [Ob.live] at l1
      · rwa [List.getElem?_set_ne hik] at h1
    exact h.drop
  rcases hr with ⟨rfl, hr⟩ | ⟨b, cap, vs, ws, fz, h1, hh, h3, h4, h5, h6⟩
  · exact ⟨B, _, fun _ h => h, hr, hdrop, .slE _ _ _ _, fun _ h => .inl h⟩
  · obtain ⟨p1, p2, p3⟩ := h.prv k _ _ b hk rfl h1 rfl
    have hbnew : E.w0.heap.size ≤ b := by
      rcases p3 with p3 | ⟨v0, p3, _⟩
      · exact p3
      · have := get_lt p3; omega
    refine ⟨fun x => B x ∨ x = b, _, fun _ h => .inl h, h1, ?_, ?_, fun x hx => hx.elim .inl fun e => .inr ⟨k, _, _, hk, rfl, h1, by rw [e]; rfl⟩⟩
    · refine { ep := h.ep, os := h.os, tape := h.tape, output := h.output, size := h.size, block := h.block, pre := h.pre, bsub := fun x hx => .inl (h.bsub x hx), bnew := ?_, blt := ?_, len := hdrop.len, obs := ?_, dis := hdrop.dis, prv := ?_ }
      · rintro x (hx | rfl)
        · exact h.bnew x hx
        · exact .inr hbnew
      · rintro x (hx | rfl)
        · exact h.blt x hx
        · exact p2
      · intro i o hi
        exact (hdrop.obs i o hi).mono (fun _ h => .inl h) (fun _ _ => rfl) (fun _ _ h => h) (fun _ _ _ _ _ => rfl)
      · intro i o u c hi hl hu hc
        obtain ⟨q1, q2, q3⟩ := hdrop.prv i o u c hi hl hu hc
        refine ⟨?_, q2, q3⟩
        rintro (hx | rfl)
        · exact q1 hx
        · by_cases hik : i = k
          · subst hik
            rw [List.getElem?_set_self (get_lt hk)] at hi
            simp at hi; subst hi; simp [Ob.live] at hl
          · rw [List.getElem?_set_ne (Ne.symm hik)] at hi
            exact h.dis i k o _ u _ c hik hi hl hk rfl hu h1 hc rfl
    · cases xs with
      | nil => exact .slE _ _ _ _
      | cons x xs =>
        refine .sl (RelRow.mk (.inr rfl) (fun _ => Nat.le_trans h.ep hbnew) (vs := vs) (h6.mono (fun _ h => .inl h) (fun _ _ => rfl) (Nat.le_refl _) (fun _ _ h => h)) h0 ?_) h4
        intro j v hj
        exact block_cell hh 0 j v (by simpa using get_append_some hj)
theorem Le.pub {k : Nat} {e : TypeId} {sz : Nat} {xs : List AV} (hk : s.ob[k]? = some (.row e sz xs)) (hm : s.m ≤ k) : Le s { s with ob := s.ob.set k .gone, fr := frPub k sz xs s.fr } := by
  intro E ρ B a w hs
  obtain ⟨B', v, h1, h2, h3, h4, h5⟩ := hs.rw_.publish hk (Nat.le_trans hs.m.1 hm)
  refine ⟨ρ, B', h3, hs.m, hs.n, hs.df, hs.jj.chg ⟨rfl, rfl, rfl, Nat.le_refl _, fun _ _ _ => rfl, fun b hd => .inl (Dof.set hk rfl b hd), h1, fun b hb => (h5 b hb).elim .inl fun h => .inr (.inl h)⟩ h3.bd, ?_⟩
  intro t x hmem
  simp only [frPub, List.mem_map] at hmem
  obtain ⟨⟨t', x'⟩, hmem, he⟩ := hmem
  simp only [Prod.mk.injEq] at he
  obtain ⟨rfl, rfl⟩ := he
  obtain ⟨r1, r2⟩ := hs.rf t' x' hmem
  refine ⟨r1, ?_⟩
  generalize a.tmps.getD t' undef = u at r2 ⊢
  have r3 := r2.mono (B' := B') (ρ' := ρ) h1 (fun _ _ => rfl) (Nat.le_refl _) (fun _ _ h => h)
  cases x' with
  | own j =>
    simp only [AV.pub]
    split
    · rename_i hj
      subst hj
      cases r2 with
      | own hp _ =>
        rw [h2] at hp
        simp only [Option.some.injEq] at hp
        rw [← hp]; exact h4
    · exact r3
  | _ => exact r3
theorem ARun2.weak {l : List Oper} (h : Le s s') (k : ARun2 P ops (l, s') Q) : ARun2 P ops (l, s) Q := ARun.weak h k
theorem ARun2.pub {l : List Oper} (k : Nat) {e : TypeId} {sz : Nat} {xs : List AV} (hk : s.ob[k]? = some (.row e sz xs)) (hm : s.m ≤ k) (K : ARun2 P ops (Abs.srun P ops l { s with ob := s.ob.set k .gone, fr := frPub k sz xs s.fr }) Q) : ARun2 P ops (l, s) Q :=
  ARun2.weak (Le.pub hk hm) (ARun.srun K)
theorem AWp.pub {c : Code} {Q : Exit → AS → Prop} (k : Nat) {e : TypeId} {sz : Nat} {xs : List AV} (hk : s.ob[k]? = some (.row e sz xs)) (hm : s.m ≤ k) (K : AWp P c { s with ob := s.ob.set k .gone, fr := frPub k sz xs s.fr } Q) : AWp P c s Q :=
  AWp.weak (Le.pub hk hm) K
end
attribute [push_cast] AV.inval Ob.inval frInval srcOf AV.pub frPub List.length_append List.length_map
set_option linter.unusedVariables false
set_option linter.unusedSectionVars false
set_option linter.unusedSimpArgs false
set_option linter.unnecessarySimpa false
section
variable {P : Program} {ops : Array Oper} {E : Env} {s s' : AS} {ρ : List Value} {B : Nat → Prop} {a : Act} {w w' : World} {o : Oper} {rest : List Oper} {Q : AS → Prop}
def RJ (E : Env) (s : AS) (ob : List Ob) (ρ : List Value) (B : Nat → Prop) (w : World) : Prop := RW E ob ρ B w ∧ JJ E s.tr s.go s.df (Dof ob ρ) B w
theorem RS.rj (h : RS E s ρ B a w) : RJ E s s.ob ρ B w := ⟨h.rw_, h.jj⟩
theorem wpAnyIn_of_seq {r : Option Nat} {md : Region.Mode} {Q' : Exit → Act → World → Prop} : ∀ (l : List Oper) (k : Nat) (listed : Array Bool) (a : Act) (w : World), (∀ j, l[j]? = ops[k + j]?) →
    Region.seqB md ops l.length k listed = true → lwp r P ops Q' l a w → wpAnyIn (FR r) 0 P md ops Q' l.length listed a w
  | [], _, _, _, _, _, hB, h => ⟨by simpa [Region.seqB] using hB, h⟩
  | o :: l, k, listed, a, w, hl, hB, h => by
    have h0 : ops[k]? = some o := by simpa using (hl 0).symm
    simp only [List.length_cons, Region.seqB, Bool.and_eq_true, decide_eq_true_eq] at hB
    refine ⟨fun h1 => (by rw [hB.1] at h1; cases h1), fun i hi => ?_⟩
    rw [hB.1] at hi
    have hik : i = k := by simpa using hi
    subst hik
    have hw : wpOpIn (FR r) 0 P ops Q' i (lwp r P ops Q' l) a w := by
      unfold wpOpIn
      simp only [h0]
      simp only [lwp] at h
      split
      · rename_i hw; rw [if_pos hw] at h; exact h
      · rename_i hw; rw [if_neg hw] at h; exact ⟨fun _ _ => trivial, h⟩
    exact wpOpIn_mono (fun a' w' h' => wpAnyIn_of_seq l (i + 1) _ a' w' (fun j => by have := hl (j + 1); simpa [Nat.add_assoc, Nat.add_comm 1 j] using this) hB.2 h') hw
def NSpec (P : Program) (ops : Array Oper) (o : Oper) (s : AS) (x : AV) : Prop :=
  ∀ (E : Env), E.Ok P → ∀ (ρ : List Value) (B : Nat → Prop) (a : Act) (w : World) (ob : List Ob), RS E { s with ob := s.ob ++ ob } ρ B a w → ∀ (K : Act → World → Prop) (Q' : Exit → Act → World → Prop),
    (∀ v w' B', RJ E s (s.ob ++ ob) ρ B' w' → (∀ b, B b → B' b) → (∀ b, B b → w'.heap[b]? = w.heap[b]?) → Rel w' B' E.bs ρ x v → K (a.put o.dst v) w') →
    if Region.wanted o (yielded ops a.tmps) then owp E.rnd P o a w K Q' else K (a.put o.dst undef) w
theorem NSpec.pass (h : gd ops s o = some false) : NSpec P ops o s (.val (.tuple #[])) := by
  intro E hE ρ B a w ob hs K Q' hK
  rw [if_neg (by rw [gd_wanted (s := { s with ob := s.ob ++ ob }) h hs]; simp)]
  exact hK _ _ _ hs.rj (fun _ h => h) (fun _ _ => rfl) (.val _)
theorem NSpec.pure1 {x : AV} (hg : gd ops s o = some true) (h : ∀ (E : Env) (ρ : List Value) (B : Nat → Prop) (a : Act) (w : World) (ob : List Ob), RS E { s with ob := s.ob ++ ob } ρ B a w →
      ∃ v, (execOp a.eval o).run P w = .ok (.value v) w ∧ Rel w B E.bs ρ x v) : NSpec P ops o s x := by
  intro E hE ρ B a w ob hs K Q' hK
  rw [if_pos (gd_wanted (s := { s with ob := s.ob ++ ob }) hg hs)]
  obtain ⟨v, h1, h2⟩ := h E ρ B a w ob hs
  exact owp_value h1 (hK _ _ _ hs.rj (fun _ h => h) (fun _ _ => rfl) h2)
theorem sval_ob {op : Op} {x : AV} (ob : List Ob) (h : sval P s op = some x) : sval P { s with ob := s.ob ++ ob } op = some x := by
  have hev : ∀ y, AS.ev { s with ob := s.ob ++ ob } y = s.ev y := fun y => by cases y <;> rfl
  have hev' : AS.ev { s with ob := s.ob ++ ob } = s.ev := funext hev
  cases op <;> (try (simp only [sval, hev'] at h ⊢; exact h))
  case binOp bo T y z yt => cases z <;> (first | (simp only [sval, hev'] at h ⊢; exact h) | (cases bo <;> (simp only [sval, hev'] at h ⊢; exact h)))
  case unOp uo T y => cases uo <;> (simp only [sval, hev'] at h ⊢; exact h)
  case load T y =>
    simp only [sval, hev'] at h ⊢
    split at h <;> (try (simp at h; done))
    · rename_i k off e
      split at h <;> (try (simp at h; done))
      rename_i T' cs hk
      simp only [get_append_some hk]
      exact h
    · exact h
  case call c =>
    obtain ⟨callee, args, ts⟩ := c
    cases callee <;> (try (simp [sval] at h; done))
    rename_i bi
    cases bi <;> (try (simp [sval] at h; done))
    simp only [sval, hev'] at h ⊢
    split at h <;> (try (simp at h; done))
    split at h <;> (try (simp at h; done))
    · exact h
    · exact h
    · exact h
    · rename_i k e
      split at h <;> (try (simp at h; done))
      rename_i hk
      simp only [get_append_some hk]
      exact h
theorem NSpec.simple {x : AV} (hg : gd ops s o = some true) (h : sval P s o.op = some x) : NSpec P ops o s x :=
  NSpec.pure1 hg fun E ρ B a w ob hs => sval_run (sval_ob ob h) hs
theorem NSpec.index {T : TypeId} {x i : Operand} {nw : Bool} {sz : Nat} {xs : List AV} {k : IntKind} {j : Int} {y : AV} (hg : gd ops s o = some true) (ho : o.op = .indexAddr T x i) (hx : s.ev x = .sl nw sz xs) (hi : s.ev i = .val (.int k j))
    (hz : elSz P T = some sz) (hs0 : sz ≠ 0) (h0 : 0 ≤ j) (hy : xs[j.toNat]? = some y) : NSpec P ops o s (.ref nw y) :=
  NSpec.pure1 hg fun E ρ B a w ob hs => index_run (s := { s with ob := s.ob ++ ob }) hs ho (by cases x <;> exact hx) (by cases i <;> exact hi) hz hs0 h0 hy
theorem NSpec.buildSlice {T : TypeId} {len sz : Nat} {parts : Array (Nat × Operand)} (hg : gd ops s o = some true) (ho : o.op = .buildSlice T len parts) (hz : elSz P T = some sz)
    (hc : parts.toList.map (·.1) = List.range len ∧ (∀ p ∈ parts.toList, (s.ev p.2).flat = true ∧ (s.ev p.2).cells.length = sz) ∧ len * sz ≤ 2 ^ 24) :
    NSpec P ops o s (.sl true sz (parts.toList.map fun p => s.ev p.2)) := by
  intro E hE ρ B a w ob hs K Q' hK
  rw [if_pos (gd_wanted (s := { s with ob := s.ob ++ ob }) hg hs)]
  obtain ⟨hp, hx, hle⟩ := hc
  have hev : AS.ev { s with ob := s.ob ++ ob } = s.ev := funext fun y => by cases y <;> rfl
  obtain ⟨e, vs, hu, hr, hrel, h1, hvl⟩ := run_buildSlice (s := { s with ob := s.ob ++ ob }) hz hp (by rw [hev]; exact hx) hle hs
  rw [hev] at hrel h1
  have hn : parts.toList.length = len := by have := congrArg List.length hp; simpa using this
  have hsame := same_alloc w (.cells (List.toArray vs) e)
  have hrow := RelRow.fresh (sz := sz) (bs := E.bs) (xs := List.map (fun (p : Nat × Operand) => s.ev p.2) parts.toList) (n := len) (c := len) hs.rw_.le hs.rw_.blt hrel (by
    intro y hy
    have : y ∈ parts.toList.map fun p => s.ev p.2 := hy
    simp only [List.mem_map] at this
    obtain ⟨p, hpm, rfl⟩ := this
    refine ⟨(hx p hpm).2, fun c hc => h1 c ?_⟩
    simp only [List.mem_flatMap]
    exact ⟨_, hy, hc⟩) (by simpa using hn.symm) (Nat.le_refl _) [] (0, 0) hsame (by rw [List.append_nil]; exact alloc_get _ _)
  have hrun : (execOp a.eval o).run P w = .ok (.value (.slice (some ⟨w.heap.size, 0, none⟩) len len)) (w.alloc (.cells (List.toArray vs) e)) := by
    simp only [execOp, ho]; exact val_run hr
  exact owp_value hrun (hK _ _ _ (hs.pubNew hsame (Nat.le_refl _) (by simp)).rj (fun _ h => .inl h) (fun b hb => hsame.block b (hs.rw_.blt b hb)) hrow)
theorem NSpec.call {f : FuncId} {args : Array Operand} {ts : Array TypeId} {ys : List AV} {r : AV} (hg : gd ops s o = some true) (ho : o.op = .call { callee := .value (.func f), args := args, argTypes := ts }) (hc : callable P f = true)
    (hp : PC P f ys r) (hsub : SubL (args.toList.map s.ev) ys) : NSpec P ops o s r := by
  intro E hE ρ B a w ob hs K Q' hK
  rw [if_pos (gd_wanted (s := { s with ob := s.ob ++ ob }) hg hs)]
  unfold callable at hc
  split at hc <;> (try (simp at hc; done))
  rename_i fn hf
  simp only [Bool.and_eq_true, Bool.not_eq_true'] at hc
  have hr := run_call_func (P := P) (w := w) (args := args) (ts := ts) (ty := o.type) (ρe := a.eval) hf hc.1 hc.2 rfl
  have he : (execOp a.eval o).run P w = .ok (.enter f (args.map a.eval)) w := by
    simp only [execOp, ho]; exact hr
  have hev : AS.ev { s with ob := s.ob ++ ob } = s.ev := funext fun y => by cases y <;> rfl
  have hrel : RelL w B E.bs ρ (args.toList.map s.ev) (args.toList.map a.eval) := by have := RelL.map_ev hs args.toList; rwa [hev] at this
  refine owp_enter he ?_
  have hargs : args.map a.eval = (args.toList.map a.eval).toArray := by apply Array.ext'; simp
  rw [hargs]
  refine hp.2 E.bs w [] B _ (hE.glb.call hs.rw_ (fun _ h => h) (by intro v hv; simp at hv)) hs.rw_.callee (hsub.rel (Nat.le_refl _) hrel) _ ?_
  rintro r' v τ' ρ' B' w' ⟨rfl, rfl⟩ hw hv
  have hρ : ρ' = [] := by have := hw.len; simpa using this
  subst hρ
  obtain ⟨hb, hsame⟩ := hs.rw_.back hw
  refine ⟨v, rfl, hK _ _ B' (hs.back hw).rj hw.bsub (fun b h => hsame.block b (hs.rw_.blt b h)) ?_⟩
  refine (hv.mono (fun _ h => h) (fun _ _ => rfl) (Nat.le_refl _) (fun _ _ h => h)).ids (p := fun _ => false) ?_ hp.1
  intro _ _ h; simp at h
def needFr (fr : List (Nat × AV)) (vals : List AV) : List (Nat × Option Nat) → List (Nat × AV)
  | [] => []
  | (t, some j) :: r => (t, vals.getD j .any) :: needFr fr vals r
  | (t, none) :: r => (t, lk fr t) :: needFr fr vals r
theorem needFr_mem {fr : List (Nat × AV)} {vals : List AV} : ∀ {nd : List (Nat × Option Nat)} {t : Nat} {x : AV}, (t, x) ∈ needFr fr vals nd → (∃ j, (t, some j) ∈ nd ∧ x = vals.getD j .any) ∨ ((t, none) ∈ nd ∧ x = lk fr t)
  | [], _, _, h => by simp [needFr] at h
  | (t', some j) :: r, t, x, h => by
    rcases List.mem_cons.1 h with e | h
    · have e1 : t = t' := congrArg Prod.fst e
      have e2 : x = vals.getD j .any := congrArg Prod.snd e
      subst e1; exact .inl ⟨j, by simp, e2⟩
    · rcases needFr_mem h with ⟨j', h1, h2⟩ | ⟨h1, h2⟩
      · exact .inl ⟨j', by simp [h1], h2⟩
      · exact .inr ⟨by simp [h1], h2⟩
  | (t', none) :: r, t, x, h => by
    rcases List.mem_cons.1 h with e | h
    · have e1 : t = t' := congrArg Prod.fst e
      have e2 : x = lk fr t' := congrArg Prod.snd e
      subst e1; exact .inr ⟨by simp, e2⟩
    · rcases needFr_mem h with ⟨j', h1, h2⟩ | ⟨h1, h2⟩
      · exact .inl ⟨j', by simp [h1], h2⟩
      · exact .inr ⟨by simp [h1], h2⟩
def dstOf (ops : Array Oper) (i : Nat) : Option Nat := (ops[i]?).bind (·.dst)
def drawnB (ops : Array Oper) (n sn : Nat) (nds : List (List (Nat × Option Nat))) : Bool :=
  decide (n ≤ ops.size) &&
  (decide (n = ops.size) || (Region.sinkB .any ops n && Region.chainB .any ops n)) &&
  Region.seqB .any ops (ops.size - n) n ((List.range ops.size).map fun i => decide (i < n)).toArray &&
  ((List.range n).all fun i => match ops[i]? with
    | none => false
    | some o => (o.after.all fun e => !Region.binds .any e || decide (e.on < i)) &&
      -- a slot is written once in the head
      (match o.dst with
        | none => true
        | some d => decide (d < sn) && ((List.range n).all fun j => decide (j = i) || decide (dstOf ops j ≠ some d))) &&
      ((nds.getD i []).all fun p => match p.2 with
        | some j => decide (j < n) && decide (dstOf ops j = some p.1) && Region.waitsFor .any ops i j
        | none => decide (p.1 < sn) && (List.range n).all fun j => decide (dstOf ops j ≠ some p.1) || (decide (j ≠ i) && Region.waitsFor .any ops j i) || decide (j = i)))
def obl (al : Option (Nat × Ob)) (listed : Array Bool) : List Ob :=
  match al with
  | some (i, o) => if listed.getD i false = true then [o] else []
  | none => []
def oball : Option (Nat × Ob) → List Ob
  | some p => [p.2]
  | none => []
def ASpec (P : Program) (ops : Array Oper) (o : Oper) (s : AS) (x : AV) (ob : Ob) : Prop :=
  ∀ (E : Env) (ρ : List Value) (B : Nat → Prop) (a : Act) (w : World), RS E s ρ B a w → ∀ (K : Act → World → Prop) (Q' : Exit → Act → World → Prop),
    (∀ v w' u, RJ E s (s.ob ++ [ob]) (ρ ++ [u]) B w' → (∀ b, B b → w'.heap[b]? = w.heap[b]?) → Rel w' B E.bs (ρ ++ [u]) x v → K (a.put o.dst v) w') →
    if Region.wanted o (yielded ops a.tmps) then owp E.rnd P o a w K Q' else K (a.put o.dst undef) w
theorem ASpec.alloc {T : TypeId} {z : List Value} (hg : gd ops s o = some true) (ho : o.op = .alloc T) (hz : zc P T = some z) : ASpec P ops o s (.ptr s.ob.length 0) (.box T (z.map AV.val)) := by
  intro E ρ B a w hs K Q' hK
  rw [if_pos (gd_wanted hg hs)]
  unfold zc at hz
  cases hi : P.info? T with
  | none => simp [hi] at hz
  | some i =>
    cases hzz : i.zero with
    | none => simp [hi, hzz] at hz
    | some zv =>
      simp only [hi, hzz, Option.bind_some] at hz
      split at hz <;> simp only [Option.some.injEq, reduceCtorEq] at hz
      rename_i hall
      subst hz
      have hn := hs.newBox (T := T) (RelL.vals zv.cells.toList) (by
        intro c hc
        simp only [List.mem_map] at hc
        obtain ⟨v, hv, rfl⟩ := hc
        exact List.all_eq_true.1 hall v hv)
      have hrun : (execOp a.eval o).run P w = .ok (.value (.pointer (some ⟨w.heap.size, 0, none⟩))) (w.alloc (.cells zv.cells.toList.toArray T)) := by
        simp only [execOp, ho]
        exact val_run (by simp [Instr.alloc, zeroValue, typeInfo, hi, hzz, newVar, newRow])
      refine owp_value hrun (hK _ _ _ hn.rj (fun b hb => (same_alloc w _).block b (hs.rw_.blt b hb)) (.ptr (b := w.heap.size) ?_))
      rw [← hs.rw_.len]; simp
structure HInv (E : Env) (s : AS) (ops : Array Oper) (n : Nat) (vals : List AV) (al : Option (Nat × Ob)) (ρ : List Value) (B : Nat → Prop) (listed : Array Bool) (a : Act) (w : World) : Prop where
  rj : RJ E s (s.ob ++ obl al listed) ρ B w
  m : E.ρ0.length ≤ s.m ∧ E.pp.length ≤ s.m ∧ E.yl = s.yl
  sz : a.tmps.size = s.n
  df : a.defers = s.df.map mark
  new : ∀ (i d : Nat), i < n → listed.getD i false = true → dstOf ops i = some d → Rel w B E.bs ρ (vals.getD i .any) (a.tmps.getD d undef)
  old : ∀ t, (∀ i, i < n → listed.getD i false = true → dstOf ops i ≠ some t) → Rel w B E.bs ρ (lk s.fr t) (a.tmps.getD t undef)
def left (n : Nat) (listed : Array Bool) : Nat := (List.range n).countP fun i => !listed.getD i false
theorem left_set {n i : Nat} {listed : Array Bool} (hi : i < n) (hs : i < listed.size) (hl : listed.getD i false = false) : left n listed = left n (listed.setIfInBounds i true) + 1 := by
  unfold left
  have key : ∀ l : List Nat, l.Nodup → (i ∈ l → l.countP (fun j => !listed.getD j false) = l.countP (fun j => !(listed.setIfInBounds i true).getD j false) + 1) ∧
      (i ∉ l → l.countP (fun j => !listed.getD j false) = l.countP (fun j => !(listed.setIfInBounds i true).getD j false)) := by
    intro l
    induction l with
    | nil => intro _; simp
    | cons x l ih =>
      intro hn
      obtain ⟨h1, h2⟩ := List.nodup_cons.1 hn
      obtain ⟨ih1, ih2⟩ := ih h2
      by_cases hx : x = i
      · subst hx
        refine ⟨fun _ => ?_, fun h => absurd (by simp) h⟩
        have e1 : (!listed.getD x false) = true := by rw [hl]; rfl
        have e2 : (!(listed.setIfInBounds x true).getD x false) = false := by simp [hs]
        rw [List.countP_cons, List.countP_cons, e1, e2, ih2 h1]; simp
      · have e : (listed.setIfInBounds i true).getD x false = listed.getD x false := getD_set_ne false (Ne.symm hx)
        constructor
        · intro h
          have hm : i ∈ l := by rcases List.mem_cons.1 h with h | h; exact absurd h.symm hx; exact h
          simp only [List.countP_cons, e]
          rw [ih1 hm]; omega
        · intro h
          have hm : i ∉ l := fun h' => h (by simp [h'])
          simp only [List.countP_cons, e]
          rw [ih2 hm]
  exact (key _ List.nodup_range).1 (List.mem_range.2 hi)
theorem left_zero {n : Nat} {listed : Array Bool} (h : left n listed = 0) : ∀ i, i < n → listed.getD i false = true := by
  intro i hi
  unfold left at h
  rw [List.countP_eq_zero] at h
  have := h i (List.mem_range.2 hi)
  simpa using this
def drawnH (ops : Array Oper) (n sn : Nat) (nds : List (List (Nat × Option Nat))) : Bool :=
  ((List.range n).all fun i => match ops[i]? with
    | none => false
    | some o => (o.after.all fun e => !Region.binds .any e || decide (e.on < i)) &&
      (match o.dst with
        | none => true
        | some d => decide (d < sn) && ((List.range n).all fun j => decide (j = i) || decide (dstOf ops j ≠ some d))) &&
      ((nds.getD i []).all fun p => match p.2 with
        | some j => decide (j < n) && decide (dstOf ops j = some p.1) && Region.waitsFor .any ops i j
        | none => decide (p.1 < sn) && (List.range n).all fun j => decide (dstOf ops j ≠ some p.1) || (decide (j ≠ i) && Region.waitsFor .any ops j i) || decide (j = i)))
def AAny (P : Program) (ops : Array Oper) (fuel : Nat) (listed : Array Bool) (Q : AS → Prop) (s : AS) : Prop :=
  ∀ (E : Env), E.Ok P → ∀ (ρ : List Value) (B : Nat → Prop) (a : Act) (w : World), RS E s ρ B a w → ∀ Q' : Exit → Act → World → Prop,
    (∀ s' ρ' B' a' w', Q s' → RS E s' ρ' B' a' w' → Q' .normal a' w') → wpAnyIn (FR E.rnd) 0 P .any ops Q' fuel listed a w
def listed0 (n m : Nat) : Array Bool := ((List.range m).map fun i => decide (i < n)).toArray
theorem AWp.drawnF {id : Nat} {R : Exit → AS → Prop} (n q : Nat) (nds : List (List (Nat × Option Nat))) (vals : List AV) (al : Option (Nat × Ob)) (fr1 fr2 : List (Nat × AV)) (hm : P.follows .mixedOrders = true) (hn : n ≤ ops.size) (hB : drawnH ops n s.n nds = true)
    (hT : ∀ listed, HeadInv .any ops n listed → (∃ i, i < n ∧ i ≠ q ∧ listed.getD i true = false) → ∀ j, n ≤ j → j ∉ Region.ready .any ops listed)
    (hal : ∀ i o, al = some (i, o) → i < n ∧ i ≠ q)
    (specs : ∀ i o, i < n → ops[i]? = some o → (∀ ob, al ≠ some (i, ob)) → NSpec P ops o { s with fr := needFr s.fr vals (nds.getD i []) } (vals.getD i .any))
    (aspec : ∀ i o ob, al = some (i, ob) → ops[i]? = some o → ASpec P ops o { s with fr := needFr s.fr vals (nds.getD i []) } (vals.getD i .any) ob)
    (hfr : ∀ t x, (t, x) ∈ fr1 → t < s.n ∧ ((∃ i, i < n ∧ dstOf ops i = some t ∧ x = vals.getD i .any) ∨ ((∀ i, i < n → dstOf ops i ≠ some t) ∧ x = lk s.fr t)))
    (hfr2 : q < n → ∀ t x, (t, x) ∈ fr2 → t < s.n ∧ ((∃ i, i < n ∧ i ≠ q ∧ dstOf ops i = some t ∧ x = vals.getD i .any) ∨ ((∀ i, i < n → i ≠ q → dstOf ops i ≠ some t) ∧ x = lk s.fr t)))
    (K : AAny P ops (ops.size - n) (listed0 n ops.size) (R .normal) { s with fr := fr1, ob := s.ob ++ oball al })
    (K2 : q < n → AAny P ops (ops.size - n + 1) ((listed0 n ops.size).setIfInBounds q false) (R .normal) { s with fr := fr2, ob := s.ob ++ oball al }) : AWp P (.region id ops true) s R := by
  intro E hE ρ0 B0 a0 w0 hs0 Q' hQ
  refine wpIn_region_any hm ?_
  have hhead := hB
  simp only [drawnH] at hhead
  have head : ∀ i, i < n → ∃ o, ops[i]? = some o ∧ (∀ e ∈ o.after, Region.binds .any e = true → e.on < i) ∧ (∀ d, o.dst = some d → d < s.n ∧ ∀ j, j < n → dstOf ops j = some d → j = i) ∧
      (∀ p ∈ nds.getD i [], match p.2 with
        | some j => j < n ∧ dstOf ops j = some p.1 ∧ Region.waitsFor .any ops i j = true
        | none => p.1 < s.n ∧ ∀ j, j < n → dstOf ops j = some p.1 → (j ≠ i ∧ Region.waitsFor .any ops j i = true) ∨ j = i) := by
    intro i hi
    have h := List.all_eq_true.1 hhead i (List.mem_range.2 hi)
    cases ho : ops[i]? with
    | none => simp [ho] at h
    | some o =>
      simp only [ho, Bool.and_eq_true] at h
      obtain ⟨⟨h1, h2⟩, h3⟩ := h
      refine ⟨o, rfl, ?_, ?_, ?_⟩
      · intro e he hb
        have := Array.all_eq_true_iff_forall_mem.1 h1 e he
        simpa [hb] using this
      · intro d hd
        simp only [hd, Bool.and_eq_true, decide_eq_true_eq] at h2
        refine ⟨h2.1, fun j hj hdj => ?_⟩
        have := List.all_eq_true.1 h2.2 j (List.mem_range.2 hj)
        simp only [Bool.or_eq_true, decide_eq_true_eq] at this
        rcases this with this | this
        · exact this
        · exact absurd hdj this
      · intro p hp
        have := List.all_eq_true.1 h3 p hp
        cases hp2 : p.2 with
        | some j =>
          simp only [hp2, Bool.and_eq_true, decide_eq_true_eq] at this
          exact ⟨this.1.1, this.1.2, this.2⟩
        | none =>
          simp only [hp2, Bool.and_eq_true, decide_eq_true_eq] at this
          refine ⟨this.1, ?_⟩
          intro j hj hdj
          have := List.all_eq_true.1 this.2 j (List.mem_range.2 hj)
          simp only [Bool.or_eq_true, decide_eq_true_eq, Bool.and_eq_true] at this
          rcases this with (this | this) | this
          · exact absurd hdj this
          · exact .inl this
          · exact .inr this
  have hs0' : RS E s ρ0 B0 a0 { w0 with drawn := w0.drawn + 1 } := hs0.same ⟨rfl, rfl, rfl, Nat.le_refl _, fun _ _ => rfl⟩
  -- the main induction
  have main : ∀ (u : Nat) (listed : Array Bool) (ρ : List Value) (B : Nat → Prop) (a : Act) (w : World), left n listed = u → HeadInv .any ops n listed → HInv E s ops n vals al ρ B listed a w → wpAnyIn (FR E.rnd) 0 P .any ops Q' (u + (ops.size - n)) listed a w := by
    intro u
    induction u with
    | zero =>
      intro listed ρ B a w hu inv hi
      have hall := left_zero hu
      have hlisted : listed = ((List.range ops.size).map fun i => decide (i < n)).toArray := by
        apply Array.ext
        · simp [inv.size]
        · intro i h1 h2
          have hi' : i < ops.size := by rw [← inv.size]; exact h1
          have hg : listed.getD i false = listed[i] := by simp [h1]
          have : listed[i] = decide (i < n) := by
            by_cases hin : i < n
            · rw [← hg, hall i hin]; simp [hin]
            · have h3 := getD_both (inv.tail i (by omega) hi')
              rw [← hg, h3]; simp [hin]
          rw [this]; simp
      rw [Nat.zero_add]
      have hobl : obl al listed = oball al := by
        have key : ∀ y, al = y → obl y listed = oball y := by
          intro y hy
          cases y with
          | none => rfl
          | some p =>
            obtain ⟨i, o⟩ := p
            simp only [obl, oball, hall i (hal i o hy).1, if_true]
        exact key _ rfl
      rw [show listed = listed0 n ops.size from hlisted]
      refine K E hE ρ B a w ⟨by rw [← hobl]; exact hi.rj.1, hi.m, hi.sz, hi.df, by rw [← hobl]; exact hi.rj.2, ?_⟩ Q' (fun s' ρ' B' a' w' q hs' => hQ _ _ _ _ _ _ q hs')
      intro t x hmem
      obtain ⟨hlt, h⟩ := hfr t x hmem
      refine ⟨by rw [hi.sz]; exact hlt, ?_⟩
      rcases h with ⟨i, h1, h2, rfl⟩ | ⟨h1, rfl⟩
      · exact hi.new i t h1 (hall i h1) h2
      · exact hi.old t (fun i hi' _ => h1 i hi')
    | succ u ih =>
      intro listed ρ B a w hu inv hi
      by_cases hlate : ∃ i, i < n ∧ i ≠ q ∧ listed.getD i true = false
      case neg =>
        have hex : ∃ i, i < n ∧ listed.getD i false = false := by
          apply Classical.byContradiction
          intro hne
          have hz : left n listed = 0 := by
            unfold left
            rw [List.countP_eq_zero]
            intro i hi'
            have := List.mem_range.1 hi'
            have h2 : ¬ listed.getD i false = false := fun e => hne ⟨i, this, e⟩
            simpa using h2
          omega
        obtain ⟨i, hin, hil⟩ := hex
        have hother : ∀ j, j < n → j ≠ q → listed.getD j false = true := by
          intro j hj hjq
          cases hl : listed.getD j false with
          | true => rfl
          | false => exact absurd ⟨j, hj, hjq, getD_in (by rw [inv.size]; omega) hl⟩ hlate
        have hiq : i = q := by
          apply Classical.byContradiction
          intro hne
          rw [hother i hin hne] at hil; cases hil
        subst hiq
        have hlisted : listed = (listed0 n ops.size).setIfInBounds i false := by
          apply Array.ext
          · simp [inv.size, listed0]
          · intro j h1 h2
            have hj' : j < ops.size := by rw [← inv.size]; exact h1
            have hg : listed.getD j false = listed[j] := by simp [h1]
            by_cases hji : i = j
            · subst hji; rw [← hg, hil]; simp
            · rw [Array.getElem_setIfInBounds_ne (by simpa [listed0] using hj') hji]
              have : listed[j] = decide (j < n) := by
                by_cases hjn : j < n
                · rw [← hg, hother j hjn (Ne.symm hji)]; simp [hjn]
                · have h3 := getD_both (inv.tail j (by omega) hj')
                  rw [← hg, h3]; simp [hjn]
              rw [this]; simp [listed0]
        have hleft := left_set hin (by rw [inv.size]; omega) hil
        have hu0 : u = 0 := by
          have hz : left n (listed.setIfInBounds i true) = 0 := by
            unfold left
            rw [List.countP_eq_zero]
            intro j hj
            have hjn := List.mem_range.1 hj
            by_cases hji : i = j
            · subst hji; simp [inv.size, Nat.lt_of_lt_of_le hin hn]
            · rw [getD_set_ne false hji, hother j hjn (Ne.symm hji)]; simp
          omega
        subst hu0
        have hobl : obl al listed = oball al := by
          have key : ∀ y, al = y → obl y listed = oball y := by
            intro y hy
            cases y with
            | none => rfl
            | some p =>
              obtain ⟨j, o⟩ := p
              simp only [obl, oball, hother j (hal j o hy).1 (hal j o hy).2, if_true]
          exact key _ rfl
        have hK := K2 hin E hE ρ B a w (by
          refine ⟨by rw [← hobl]; exact hi.rj.1, hi.m, hi.sz, hi.df, by rw [← hobl]; exact hi.rj.2, ?_⟩
          intro t x hmem
          obtain ⟨hlt, h⟩ := hfr2 hin t x hmem
          refine ⟨by rw [hi.sz]; exact hlt, ?_⟩
          rcases h with ⟨j, h1, h2, h3, rfl⟩ | ⟨h1, rfl⟩
          · exact hi.new j t h1 (hother j h1 h2) h3
          · refine hi.old t (fun j hj hl => ?_)
            by_cases hji : j = i
            · subst hji; rw [hil] at hl; cases hl
            · exact h1 j hj hji) Q' (fun s' ρ' B' a' w' q hs' => hQ _ _ _ _ _ _ q hs')
        rw [← hlisted] at hK
        rwa [show 0 + 1 + (ops.size - n) = ops.size - n + 1 by omega]
      have hnr : ∀ j ∈ Region.ready .any ops listed, j < n := by
        intro j hj
        rcases Nat.lt_or_ge j n with h | h
        · exact h
        · exact absurd hj (hT listed inv hlate j h)
      rw [show u + 1 + (ops.size - n) = (u + (ops.size - n)) + 1 by omega]
      refine ⟨?_, ?_⟩
      · intro hempty
        exfalso
        -- the least of the head that has not come up is ready
        have hex : ∃ i, i < n ∧ listed.getD i false = false := by
          apply Classical.byContradiction
          intro hne
          have hz : left n listed = 0 := by
            unfold left
            rw [List.countP_eq_zero]
            intro i hi'
            have := List.mem_range.1 hi'
            have h2 : ¬ listed.getD i false = false := fun e => hne ⟨i, this, e⟩
            simpa using h2
          omega
        obtain ⟨i, ⟨hin, hil⟩, hmin⟩ := exists_least (p := fun i => i < n ∧ listed.getD i false = false) hex
        obtain ⟨o, ho, hedge, _, _⟩ := head i hin
        have hready : i ∈ Region.ready .any ops listed := by
          rw [mem_ready]
          refine ⟨getD_in (by rw [inv.size]; omega) hil, o, ho, ?_⟩
          intro e he hb
          have hlt := hedge e he hb
          cases hl : listed.getD e.on false with
          | true => rfl
          | false =>
            have := hmin e.on ⟨by omega, hl⟩
            omega
        rw [hempty] at hready
        cases hready
      · intro i hr
        have hin := hnr i hr
        obtain ⟨hun, o', ho', hwait⟩ := mem_ready.1 hr
        obtain ⟨o, ho, hedge, hdst, hneed⟩ := head i hin
        have : o' = o := Option.some.inj (ho'.symm.trans ho)
        subst this
        have hil : listed.getD i false = false := getD_both hun
        have hsz : i < listed.size := by rw [inv.size]; omega
        have hleft := left_set hin hsz hil
        have inv' := inv.set hr hin
        have waits : ∀ j, Region.waitsFor .any ops i j = true → listed.getD j false = true := by
          intro j hj
          obtain ⟨o2, h2, e, he, hb, rfl⟩ := Region.waitsFor_spec hj
          have : o2 = o' := Option.some.inj (h2.symm.trans ho)
          subst this
          exact hwait e he hb
        have notyet : ∀ j, Region.waitsFor .any ops j i = true → listed.getD j false = false := by
          intro j hj
          obtain ⟨o2, h2, e, he, hb, hon⟩ := Region.waitsFor_spec hj
          cases hl : listed.getD j false with
          | false => rfl
          | true =>
            have := inv.closed j o2 h2 hl e he hb
            rw [hon, hil] at this
            cases this
        -- what the operation needs is there
        have hrs : ∀ ob, ob = s.ob ++ obl al listed → RS E { s with fr := needFr s.fr vals (nds.getD i []), ob := ob } ρ B a w := by
          rintro ob rfl
          refine ⟨hi.rj.1, hi.m, hi.sz, hi.df, hi.rj.2, ?_⟩
          intro t x hmem
          rcases needFr_mem hmem with ⟨j, h1, rfl⟩ | ⟨h1, rfl⟩
          · have h := hneed _ h1
            simp only at h
            obtain ⟨hj, hdj, hw⟩ := h
            refine ⟨?_, hi.new j t hj (waits j hw) hdj⟩
            obtain ⟨oj, hoj, _, hdj', _⟩ := head j hj
            have : oj.dst = some t := by simpa [dstOf, hoj] using hdj
            rw [hi.sz]; exact (hdj' t this).1
          · have h := hneed _ h1
            simp only at h
            refine ⟨by rw [hi.sz]; exact h.1, hi.old t ?_⟩
            intro j hj hl hdj
            rcases h.2 j hj hdj with ⟨_, h⟩ | h
            · rw [notyet j h] at hl; cases hl
            · subst h; rw [hil] at hl; cases hl
        have step : ∀ (v : Value) (w' : World) (ρ' : List Value) (B' : Nat → Prop), RJ E s (s.ob ++ obl al (listed.setIfInBounds i true)) ρ' B' w' → (∀ b, B b → B' b) → (∀ b, B b → w'.heap[b]? = w.heap[b]?) → (∀ (k : Nat) (u : Value), ρ[k]? = some u → ρ'[k]? = some u) →
            Rel w' B' E.bs ρ' (vals.getD i .any) v → wpAnyIn (FR E.rnd) 0 P .any ops Q' (u + (ops.size - n)) (listed.setIfInBounds i true) (a.put o'.dst v) w' := by
          intro v w' ρ' B' h1 h2 h3 h3' h4
          refine ih _ ρ' B' _ _ (by omega) inv' ⟨h1, hi.m, ?_, ?_, ?_, ?_⟩
          · cases o'.dst <;> simp [Act.put, hi.sz]
          · cases o'.dst <;> simp [Act.put, hi.df]
          · intro j d hj hl hdj
            by_cases hji : j = i
            · subst hji
              have hd : o'.dst = some d := by simpa [dstOf, ho] using hdj
              have : (a.put o'.dst v).tmps.getD d undef = v := by
                have := (hdst d hd).1
                rw [hd]; simp [Act.put, Array.getD_eq_getD_getElem?, hi.sz, this]
              rw [this]; exact h4
            · rw [getD_set_ne false (Ne.symm hji)] at hl
              have hold := (hi.new j d hj hl hdj).mono h2 h3 (Nat.le_refl _) h3'
              have : (a.put o'.dst v).tmps.getD d undef = a.tmps.getD d undef := by
                cases hd : o'.dst with
                | none => rfl
                | some d' =>
                  have hne : d' ≠ d := by
                    rintro rfl
                    exact hji ((hdst d' hd).2 j hj hdj)
                  simp [Act.put, Array.getD_eq_getD_getElem?, Array.getElem?_setIfInBounds_ne hne]
              rw [this]; exact hold
          · intro t ht
            have hold := (hi.old t (fun j hj hl => ht j hj (by
              by_cases hji : j = i
              · subst hji; rw [hil] at hl; cases hl
              · rw [getD_set_ne false (Ne.symm hji)]; exact hl))).mono h2 h3 (Nat.le_refl _) h3'
            have : (a.put o'.dst v).tmps.getD t undef = a.tmps.getD t undef := by
              cases hd : o'.dst with
              | none => rfl
              | some d' =>
                have hne : d' ≠ t := by
                  rintro rfl
                  exact ht i hin (by simp [hsz]) (by simp [dstOf, ho, hd])
                simp [Act.put, Array.getD_eq_getD_getElem?, Array.getElem?_setIfInBounds_ne hne]
            rw [this]; exact hold
        unfold wpOpIn
        simp only [ho]
        have fin : ∀ {K' : Act → World → Prop}, (if Region.wanted o' (yielded ops a.tmps) then owp E.rnd P o' a w K' Q' else K' (a.put o'.dst undef) w) → (if Region.wanted o' (yielded ops a.tmps) then o'.wpIn (FR E.rnd) 0 P a w K' Q' else (∀ f, o'.about P w a.eval = some f → (FR E.rnd).fn f) ∧ K' (a.put o'.dst undef) w) := by
          intro K' h
          split at h
          · rename_i hw; rw [if_pos hw]; exact h
          · rename_i hw; rw [if_neg hw]; exact ⟨fun _ _ => trivial, h⟩
        refine fin ?_
        by_cases hai : ∃ ob, al = some (i, ob)
        · obtain ⟨ob, hal'⟩ := hai
          have hobl : obl al listed = [] := by simp [obl, hal', hil]
          have hobl' : obl al (listed.setIfInBounds i true) = [ob] := by simp [obl, hal', hsz]
          have h := hrs (s.ob ++ obl al listed) rfl
          rw [hobl, List.append_nil] at h
          refine aspec i o' ob hal' ho E ρ B a w h _ Q' ?_
          intro v w' q h1 h2 h3
          exact step v w' _ B (by rw [hobl']; exact h1) (fun _ h => h) h2 (fun k u h => get_append_some h) h3
        · have hne : ∀ ob, al ≠ some (i, ob) := fun ob e => hai ⟨ob, e⟩
          have hobl : obl al (listed.setIfInBounds i true) = obl al listed := by
            have key : ∀ y, al = y → obl y (listed.setIfInBounds i true) = obl y listed := by
              intro y hy
              cases y with
              | none => rfl
              | some p =>
                obtain ⟨j, ob⟩ := p
                have : i ≠ j := by rintro rfl; exact hne ob hy
                simp only [obl, getD_set_ne false this]
            exact key _ rfl
          refine specs i o' hin ho hne E hE ρ B a w (obl al listed) (hrs _ rfl) _ Q' ?_
          intro v w' B' h1 h2 h3 h4
          exact step v w' ρ B' (by rw [hobl]; exact h1) h2 h3 (fun _ _ h => h) h4
  have inv0 : HeadInv .any ops n (Array.replicate ops.size false) :=
    ⟨by simp, fun j oj _ hl => (by rw [getD_replicate_false] at hl; cases hl), fun t _ ht => getD_in (by simpa using ht) (getD_replicate_false _ _)⟩
  have h0 : HInv E s ops n vals al ρ0 B0 (Array.replicate ops.size false) a0 { w0 with drawn := w0.drawn + 1 } := by
    refine ⟨?_, hs0'.m, hs0'.n, hs0'.df, fun i d _ hl => (by rw [getD_replicate_false] at hl; cases hl), fun t _ => hs0'.get t⟩
    have : obl al (Array.replicate ops.size false) = [] := by
      have key : ∀ y, obl y (Array.replicate ops.size false) = [] := by
        intro y
        cases y with
        | none => rfl
        | some p => simp only [obl, getD_replicate_false]; rfl
      exact key _
    rw [this, List.append_nil]; exact hs0'.rj
  have hl0 : left n (Array.replicate ops.size false) = n := by
    unfold left
    rw [List.countP_eq_length.2 (by intro i _; rw [getD_replicate_false]; rfl)]
    simp
  have := main n _ ρ0 B0 a0 _ hl0 inv0 h0
  rwa [show n + (ops.size - n) = ops.size by omega] at this
theorem AWp.drawnA {id : Nat} {R : Exit → AS → Prop} (n : Nat) (nds : List (List (Nat × Option Nat))) (vals : List AV) (al : Option (Nat × Ob)) (fr1 : List (Nat × AV)) (hm : P.follows .mixedOrders = true) (hn : n ≤ ops.size) (hB : drawnH ops n s.n nds = true)
    (hT : ∀ listed, HeadInv .any ops n listed → (∃ i, i < n ∧ listed.getD i true = false) → ∀ j, n ≤ j → j ∉ Region.ready .any ops listed)
    (hal : ∀ i o, al = some (i, o) → i < n)
    (specs : ∀ i o, i < n → ops[i]? = some o → (∀ ob, al ≠ some (i, ob)) → NSpec P ops o { s with fr := needFr s.fr vals (nds.getD i []) } (vals.getD i .any))
    (aspec : ∀ i o ob, al = some (i, ob) → ops[i]? = some o → ASpec P ops o { s with fr := needFr s.fr vals (nds.getD i []) } (vals.getD i .any) ob)
    (hfr : ∀ t x, (t, x) ∈ fr1 → t < s.n ∧ ((∃ i, i < n ∧ dstOf ops i = some t ∧ x = vals.getD i .any) ∨ ((∀ i, i < n → dstOf ops i ≠ some t) ∧ x = lk s.fr t)))
    (K : AAny P ops (ops.size - n) (listed0 n ops.size) (R .normal) { s with fr := fr1, ob := s.ob ++ oball al }) : AWp P (.region id ops true) s R := by
  refine AWp.drawnF n n nds vals al fr1 fr1 hm hn hB (fun listed inv hex j h => hT listed inv (let ⟨i, h1, _, h2⟩ := hex; ⟨i, h1, h2⟩) j h) (fun i o h => ⟨hal i o h, Nat.ne_of_lt (hal i o h)⟩) specs aspec hfr (fun h => absurd h (Nat.lt_irrefl _)) K (fun h => absurd h (Nat.lt_irrefl _))
theorem AWp.drawn {id : Nat} {R : Exit → AS → Prop} (n : Nat) (nds : List (List (Nat × Option Nat))) (vals : List AV) (al : Option (Nat × Ob)) (fr1 : List (Nat × AV)) (hm : P.follows .mixedOrders = true) (hB : drawnB ops n s.n nds = true)
    (hal : ∀ i o, al = some (i, o) → i < n)
    (specs : ∀ i o, i < n → ops[i]? = some o → (∀ ob, al ≠ some (i, ob)) → NSpec P ops o { s with fr := needFr s.fr vals (nds.getD i []) } (vals.getD i .any))
    (aspec : ∀ i o ob, al = some (i, ob) → ops[i]? = some o → ASpec P ops o { s with fr := needFr s.fr vals (nds.getD i []) } (vals.getD i .any) ob)
    (hfr : ∀ t x, (t, x) ∈ fr1 → t < s.n ∧ ((∃ i, i < n ∧ dstOf ops i = some t ∧ x = vals.getD i .any) ∨ ((∀ i, i < n → dstOf ops i ≠ some t) ∧ x = lk s.fr t)))
    (K : ARun P ops (ops.toList.drop n) { s with fr := fr1, ob := s.ob ++ oball al } (R .normal)) : AWp P (.region id ops true) s R := by
  simp only [drawnB, Bool.and_eq_true, decide_eq_true_eq, Bool.or_eq_true] at hB
  obtain ⟨⟨⟨hn, hsc⟩, hseq⟩, hhead⟩ := hB
  refine AWp.drawnA n nds vals al fr1 hm hn (by simpa only [drawnH] using hhead) (fun listed inv hex j h hj => ?_) hal specs aspec hfr ?_
  · obtain ⟨i, hin, hil⟩ := hex
    have hjs : j < ops.size := by obtain ⟨_, o, ho, _⟩ := mem_ready.1 hj; exact (Array.getElem?_eq_some_iff.1 ho).1
    rcases hsc with hsc | ⟨hs, hc⟩
    · omega
    · exact tail_waits hs hc (by omega) inv _ i rfl hin hil j h hj
  · intro E hE ρ B a w hs Q' hQ
    have hdl : (ops.toList.drop n).length = ops.size - n := by simp
    rw [← hdl]
    refine wpAnyIn_of_seq (md := .any) (ops.toList.drop n) n _ a w (fun j => by simp [List.getElem?_drop]) (by rw [hdl]; exact hseq) ?_
    exact K E hE ρ B a w hs Q' hQ
end
set_option linter.unusedVariables false
set_option linter.unusedSectionVars false
set_option linter.unusedSimpArgs false
set_option linter.unnecessarySimpa false
section
variable {P : Program} {ops : Array Oper} {E : Env} {s s' : AS} {ρ : List Value} {B : Nat → Prop} {a : Act} {w w' : World} {o : Oper} {rest : List Oper} {Q : AS → Prop}
theorem callFunc_run {f : FuncId} (hc : callable P f = true) (args : Array Value) (w : World) : (callFunc f args).run P w = .ok (.enter f args) w := by
  unfold callable at hc
  split at hc <;> (try (simp at hc; done))
  rename_i fn hf
  simp only [Bool.and_eq_true, Bool.not_eq_true'] at hc
  cases hbody : fn.body with
  | none => simp [hbody] at hc
  | some c =>
    have hn' : ¬ fn.name = "runtime.NumGoroutine" := by simpa using hc.2
    simp [callFunc, hf, hn', hbody]
theorem run_callV {f : FuncId} {g : Operand} {cap : Array Value} {args : Array Operand} {ts : Array TypeId} {ty : TypeId} {ρe : Operand → Value} (hc : callable P f = true)
    (hv : ρe g = .func (.func f) #[] cap) : (do let d ← resolve ρe { callee := .value g, args := args, argTypes := ts } ty; invoke d.target d.args : Sem Next).run P w = .ok (.enter f (args.map ρe ++ cap)) w := by
  have := callFunc_run hc (args.map ρe ++ cap) w
  simp [resolve, hv, Deferred.ofValue, invoke, this]
theorem AOp.callV {f : FuncId} {g : Operand} {cap : List AV} {args : Array Operand} {ts : Array TypeId} {ys : List AV} {r : AV} (ho : o.op = .call { callee := .value g, args := args, argTypes := ts }) (hg : s.ev g = .fn (.func f) [] cap) (hc : callable P f = true)
    (hp : PC P f ys r) (hsub : SubL (args.toList.map s.ev ++ cap) ys) (k : ARun P ops rest (s.put o.dst r) Q) : AOp P ops o rest s Q := by
  intro E hE ρ B a w hs Q' hQ
  have hfn := hs.ev g
  rw [hg] at hfn
  obtain ⟨v, hv⟩ : ∃ v, a.eval g = v := ⟨_, rfl⟩
  rw [hv] at hfn
  cases hfn with
  | fn r1 r2 =>
    rename_i cs ds
    cases r1
    have he : (execOp a.eval o).run P w = .ok (.enter f (args.map a.eval ++ ds.toArray)) w := by
      simp only [execOp, ho]; exact run_callV hc (by simpa using hv)
    have hrel : RelL w B E.bs ρ (args.toList.map s.ev ++ cap) (args.toList.map a.eval ++ ds) := (RelL.map_ev hs _).append r2
    refine owp_enter he ?_
    have hargs : args.map a.eval ++ ds.toArray = (args.toList.map a.eval ++ ds).toArray := by apply Array.ext'; simp
    rw [hargs]
    refine hp.2 E.bs w [] B _ (hE.glb.call hs.rw_ (fun _ h => h) (by intro v hv; simp at hv)) hs.rw_.callee (hsub.rel (Nat.le_refl _) hrel) _ ?_
    rintro r' v τ' ρ' B' w' ⟨rfl, rfl⟩ hw hv
    have hρ : ρ' = [] := by have := hw.len; simpa using this
    subst hρ
    have hs' := hs.back hw
    refine ⟨v, rfl, k E hE ρ B' _ w' (hs'.put o.dst ?_) Q' hQ⟩
    refine (hv.mono (fun _ h => h) (fun _ _ => rfl) (Nat.le_refl _) (fun _ _ h => h)).ids (p := fun _ => false) ?_ hp.1
    intro _ _ h; simp at h
theorem ARun2.callV {f : FuncId} {g : Operand} {cap : List AV} {args : Array Operand} {ts : Array TypeId} {ys : List AV} {r : AV} (hp : PC P f ys r) (hgd : gd ops s o = some true) (ho : o.op = .call { callee := .value g, args := args, argTypes := ts })
    (hg : s.ev g = .fn (.func f) [] cap) (hc : callable P f = true) (hsub : SubL (args.toList.map s.ev ++ cap) ys) (k : ARun P ops rest (s.put o.dst r) Q) : ARun2 P ops (o :: rest, s) Q :=
  ARun.exec hgd (AOp.callV ho hg hc hp hsub k)
theorem RS.kept {b : Bool} {x : List AV} (h : RS E s ρ B a w) (k : Kept (fun b => Dof s.ob ρ b ∨ b ∈ s.df) B w w') (hy : E.yl.isSome = true) (hj : E.J (s.tr ++ [x]) b (fun b => Dof s.ob ρ b ∨ b ∈ s.df) B w') :
    RS E { s with tr := s.tr ++ [x], go := b } ρ B a w' := by
  have hBw : ∀ b, B b → w'.heap[b]? = w.heap[b]? := fun b hb => k.block b (.inl hb)
  refine ⟨?_, h.m, h.n, h.df, ⟨hj, h.jj.stab, h.jj.nodup, fun b hb => ?_⟩, fun t y hm => ⟨(h.rf t y hm).1, (h.rf t y hm).2.mono (fun _ h => h) hBw (Nat.le_refl _) (fun _ _ h => h)⟩⟩
  · have r := h.rw_
    exact { ep := r.ep, os := k.os.trans r.os, tape := k.tape.trans r.tape, output := k.output.trans r.output, size := Nat.le_trans r.size k.size,
            block := fun j h1 h2 => (hBw j (r.bsub j (h2.2 hy))).trans (r.block j h1 h2), pre := r.pre, bsub := r.bsub, bnew := r.bnew,
            blt := fun b hb => Nat.lt_of_lt_of_le (r.blt b hb) k.size, len := r.len,
            obs := fun j o hj => (r.obs j o hj).mono (fun _ h => h) hBw (fun _ _ h => h) (fun u b l hu hb => k.block b (.inr (.inl ⟨j, o, u, hj, l, hu, hb⟩))), dis := r.dis,
            prv := fun j o v b h1 h2 h3 h4 => by obtain ⟨a1, a2, a3⟩ := r.prv j o v b h1 h2 h3 h4; exact ⟨a1, Nat.lt_of_lt_of_le a2 k.size, a3⟩ }
  · obtain ⟨h1, h2⟩ := h.jj.mks b hb
    exact ⟨(k.block b (.inr (.inr hb))).trans h1, h2⟩
theorem RS.bdj (h : RS E s ρ B a w) : Bd (fun b => Dof s.ob ρ b ∨ b ∈ s.df) B w :=
  ⟨h.rw_.bd.1, fun b hb => hb.elim (h.rw_.bd.2 b) fun hb => by
    obtain ⟨h1, h2, h3, h4⟩ := h.jj.mks b hb
    refine ⟨?_, h3⟩
    rcases Nat.lt_or_ge b w.heap.size with h' | h'
    · exact h'
    · simp [Array.getElem?_eq_none h'] at h1⟩
theorem AOp.yield {g : Operand} {l : Nat} {X : List (List AV)} {x : List AV} {post : List (List AV)} {args : Array Operand} {ts : Array TypeId} (ho : o.op = .call { callee := .value g, args := args, argTypes := ts }) (hg : s.ev g = .val (.func (.yield l) #[] #[]))
    (hy : s.yl = some (l, X)) (hgo : s.go = true) (hx : args.toList.map s.ev = x) (hX : X = s.tr ++ x :: post) (hcl : AV.idsOkL (fun _ => false) x = true)
    (k : ∀ b : Bool, ARun P ops rest ({ s with tr := s.tr ++ [x], go := b }.put o.dst (.val (.bool b))) Q) : AOp P ops o rest s Q := by
  intro E hE ρ B a w hs Q' hQ
  have hgv := hs.ev g
  rw [hg] at hgv
  have hv : a.eval g = .func (.yield l) #[] #[] := by generalize a.eval g = v at hgv; cases hgv; rfl
  have hEy : E.yl = some (l, X) := hs.m.2.2.trans hy
  have hrel : RelL w B E.bs [] x (args.toList.map a.eval) := by
    have := RelL.map_ev hs args.toList
    rw [hx] at this
    exact this.ids (p := fun _ => false) (by intro _ _ h; simp at h) hcl
  have hj := hs.jj.j
  rw [hgo] at hj
  obtain ⟨fn, tmps, assign, body, hrun, hround⟩ := hE.yld l X hEy s.tr x post _ _ B w hX hj hrel hs.bdj.1 hs.bdj.2
  have he : (execOp a.eval o).run P w = .ok (.round l fn tmps assign body) w := by
    have hargs : args.map a.eval = (args.toList.map a.eval).toArray := by apply Array.ext'; simp
    simp only [execOp, ho]
    simp [resolve, hv, Deferred.ofValue, invoke, hargs]
    simpa using hrun
  refine ⟨fun _ _ => trivial, ?_⟩
  rw [Oper.semAt_eq _ _ _ (by rw [ho]; intro c h; cases h), he]
  refine ⟨fun h => by simp [Fence.wide] at h, ?_⟩
  have hround' : RoundIn (FR E.rnd) 0 P l fn tmps assign body w _ := hround
  refine hround'.mono ?_
  rintro e w' ⟨b, rfl, hk, hj'⟩
  exact k b E hE ρ B _ w' ((hs.kept hk (by rw [hEy]; rfl) hj').put o.dst (.val _)) Q' hQ
theorem ARun2.yield {g : Operand} {l : Nat} {X : List (List AV)} {x : List AV} {args : Array Operand} {ts : Array TypeId} (post : List (List AV)) (hgd : gd ops s o = some true) (ho : o.op = .call { callee := .value g, args := args, argTypes := ts }) (hg : s.ev g = .val (.func (.yield l) #[] #[]))
    (hy : s.yl = some (l, X)) (hgo : s.go = true) (hx : args.toList.map s.ev = x) (hX : X = s.tr ++ x :: post) (hcl : AV.idsOkL (fun _ => false) x = true)
    (k : ∀ b : Bool, ARun P ops rest ({ s with tr := s.tr ++ [x], go := b }.put o.dst (.val (.bool b))) Q) : ARun2 P ops (o :: rest, s) Q :=
  ARun.exec hgd (AOp.yield ho hg hy hgo hx hX hcl k)
def Fin (xs tr : List (List AV)) (go : Bool) : Prop := (go = true → tr = xs) ∧ (go = false → ∃ r, xs = tr ++ r)
def IterC (P : Program) (f : FuncId) (cap : List AV) (xs : List (List AV)) : Prop :=
  ∀ (E : Env), E.Ok P → E.Stab → E.rnd = none → E.ρ0 = [] → E.pp = [] → ∀ l, E.yl = some (l, xs) → ∀ vs, RW E [] [] E.B0 E.w0 → E.J [] true (fun _ => False) E.B0 E.w0 → RelL E.w0 E.B0 E.bs [] cap vs →
    Calls P f (.func (.yield l) #[] #[] :: vs).toArray E.w0 fun e w' => (∃ v, e = .returned v) ∧ ∃ B' tr go, RW E [] [] B' w' ∧ E.J tr go (fun _ => False) B' w' ∧ Fin xs tr go
theorem IterC.of_body {f : FuncId} {fn : Func} {c : Code} {cap : List AV} {xs : List (List AV)} (hf : P.funcs[f]? = some fn) (hb : fn.body = some c) (hn : cap.length + 1 ≤ fn.ntmps)
    (h : ∀ l : Nat, AWp P c { n := fn.ntmps, m := 0, fr := frOf 0 (.val (.func (.yield l) #[] #[]) :: cap), ob := [], yl := some (l, xs) } (bodyQ P fn fun _ s => Fin xs s.tr s.go)) : IterC P f cap xs := by
  intro E hE hst hr h0 hp l hy vs hw hj hrel
  have hlen := hrel.length_eq
  have hs : RS E { n := fn.ntmps, m := 0, fr := frOf 0 (.val (.func (.yield l) #[] #[]) :: cap), ob := [], yl := some (l, xs) } [] E.B0
      { tmps := (.func (.yield l) #[] #[] :: vs).toArray ++ Array.replicate (fn.ntmps - (Value.func (.yield l) #[] #[] :: vs).toArray.size) undef, defers := [] } E.w0 := by
    refine ⟨hw, by rw [h0, hp]; exact ⟨Nat.le_refl _, Nat.le_refl _, hy⟩, by simp; omega, rfl, ⟨?_, hst, List.nodup_nil, by simp⟩, ?_⟩
    · refine hst _ _ _ _ _ _ _ _ hj ⟨rfl, rfl, rfl, Nat.le_refl _, fun _ _ _ => rfl, ?_, fun _ h => h, fun _ h => .inl h⟩ ⟨hw.blt, ?_⟩
      · rintro b (⟨k, o, v, h1, _⟩ | h)
        · simp at h1
        · simp at h
      · rintro b (⟨k, o, v, h1, _⟩ | h)
        · simp at h1
        · simp at h
    · intro t x hm
      obtain ⟨j, rfl, hj⟩ := frOf_mem hm
      obtain ⟨v, hv, hx⟩ := (RelL.cons (.val _) hrel : RelL E.w0 E.B0 E.bs [] (.val (.func (.yield l) #[] #[]) :: cap) (.func (.yield l) #[] #[] :: vs)).get hj
      have hlt := get_lt hv
      refine ⟨by simp at hlt ⊢; omega, ?_⟩
      have : ((Value.func (.yield l) #[] #[] :: vs).toArray ++ Array.replicate (fn.ntmps - (Value.func (.yield l) #[] #[] :: vs).toArray.size) undef).getD (0 + j) undef = v := by
        rw [Array.getD_eq_getD_getElem?, Nat.zero_add, Array.getElem?_append_left (by simpa using hlt)]
        simp [hv]
      rw [this]
      exact hx
  refine calls_body hE hr hf hb hs (h l) ?_
  intro r v s' ρ' B' a' w' hfin hs' _
  have hc : RW E (s'.ob.take 0) (ρ'.take 0) B' w' := hs'.rw_.cut (by rw [h0, hp]; exact ⟨Nat.le_refl _, Nat.le_refl _⟩) (by intro k o h; simp at h)
  refine ⟨⟨v, rfl⟩, B', s'.tr, s'.go, by simpa using hc, ?_, hfin⟩
  exact hst _ _ _ _ _ _ _ _ hs'.jj.j ⟨rfl, rfl, rfl, Nat.le_refl _, fun _ _ _ => rfl, fun b h => h.elim, fun _ h => h, fun _ h => .inl h⟩ ⟨hs'.rw_.blt, fun b h => h.elim⟩
end
set_option linter.unusedVariables false
set_option linter.unusedSectionVars false
set_option linter.unusedSimpArgs false
set_option linter.unnecessarySimpa false
section
variable {P : Program} {ops : Array Oper} {E : Env} {s s' : AS} {ρ : List Value} {B : Nat → Prop} {a : Act} {w w' : World} {o : Oper} {rest : List Oper}
theorem heapLt {w : World} {b : Nat} {o : Obj} (h : w.heap[b]? = some o) : b < w.heap.size := by
  rcases Nat.lt_or_ge b w.heap.size with h' | h'
  · exact h'
  · simp [Array.getElem?_eq_none h'] at h
structure J1 (E : Env) (df : List Nat) (l : Nat) (rec : Loop) (D2 B2 : Nat → Prop) (W : World) (tr : List (List AV)) (go : Bool) (D B : Nat → Prop) (w : World) : Prop where
  jj : JJ E tr go df (fun b => D b ∨ b = l ∨ D2 b) B w
  rec_ : w.heap[l]? = some (.loop rec)
  lD : ¬ D l
  lB : ¬ B l
  l2 : ¬ D2 l
  d2 : ∀ b, D2 b → b < W.heap.size ∧ w.heap[b]? = W.heap[b]? ∧ ¬ D b ∧ ¬ B b
  b2 : ∀ b, B2 b → b < W.heap.size ∧ w.heap[b]? = W.heap[b]? ∧ ¬ D b ∧ B b
  os : w.os = W.os
  tape : w.tape = W.tape
  output : w.output = W.output
  size : W.heap.size ≤ w.heap.size
  bd : Bd D B w
theorem J1.chg {df : List Nat} {l : Nat} {rec : Loop} {D2 B2 : Nat → Prop} {W : World} {tr : List (List AV)} {go : Bool} {D D' B' : Nat → Prop} (h : J1 E df l rec D2 B2 W tr go D B w) (c : Chg D B w D' B' w') (hb : Bd D' B' w') :
    J1 E df l rec D2 B2 W tr go D' B' w' := by
  have hl := heapLt h.rec_
  have hlD' : ¬ D' l := fun hd => (c.dsub l hd).elim h.lD (by omega)
  have hlB' : ¬ B' l := fun hd => (c.bnew l hd).elim h.lB fun hd => hd.elim h.lD (by omega)
  have h2D' : ∀ b, D2 b → ¬ D' b := fun b hd hd' => (c.dsub b hd').elim (h.d2 b hd).2.2.1 (by have := (h.d2 b hd).1; have := h.size; omega)
  have h2B' : ∀ b, D2 b → ¬ B' b := fun b hd hd' => (c.bnew b hd').elim (h.d2 b hd).2.2.2 fun hd' => hd'.elim (h.d2 b hd).2.2.1 (by have := (h.d2 b hd).1; have := h.size; omega)
  refine ⟨h.jj.chg ⟨c.os, c.tape, c.output, c.size, fun b h1 h2 => c.block b h1 fun h => h2 (.inl h), ?_, c.bsub, ?_⟩ ⟨hb.1, ?_⟩, (c.block l hl h.lD).trans h.rec_, hlD', hlB', h.l2, ?_, ?_, c.os.trans h.os, c.tape.trans h.tape, c.output.trans h.output, Nat.le_trans h.size c.size, hb⟩
  · rintro b (hd | hd | hd)
    · exact (c.dsub b hd).elim (fun h => .inl (.inl h)) .inr
    · exact .inl (.inr (.inl hd))
    · exact .inl (.inr (.inr hd))
  · intro b hd
    rcases c.bnew b hd with h1 | h1 | h1
    · exact .inl h1
    · exact .inr (.inl (.inl h1))
    · exact .inr (.inr h1)
  · rintro b (hd | rfl | hd)
    · exact hb.2 b hd
    · exact ⟨Nat.lt_of_lt_of_le hl c.size, hlB'⟩
    · exact ⟨Nat.lt_of_lt_of_le (h.d2 b hd).1 (Nat.le_trans h.size c.size), h2B' b hd⟩
  · intro b hd
    obtain ⟨k1, k2, k3, k4⟩ := h.d2 b hd
    exact ⟨k1, (c.block b (by have := h.size; omega) k3).trans k2, h2D' b hd, h2B' b hd⟩
  · intro b hd
    obtain ⟨k1, k2, k3, k4⟩ := h.b2 b hd
    exact ⟨k1, (c.block b (by have := h.size; omega) k3).trans k2, fun hd' => (hb.2 b hd').2 (c.bsub b k4), c.bsub b k4⟩
def Env.inRound (E : Env) (pp : List Value) (df : List Nat) (l : Nat) (rec : Loop) (D2 B2 : Nat → Prop) (W : World) : Env :=
  { E with pp := pp, rnd := some l, J := J1 E df l rec D2 B2 W }
theorem Env.inRound_stab {pp : List Value} {df : List Nat} {l : Nat} {rec : Loop} {D2 B2 : Nat → Prop} {W : World} : (E.inRound pp df l rec D2 B2 W).Stab := fun _ _ _ _ _ _ _ _ h c b => J1.chg h c b
theorem Env.inRound_ok {pp : List Value} {df : List Nat} {l : Nat} {rec : Loop} {D2 B2 : Nat → Prop} {W : World} (hE : E.Ok P) : (E.inRound pp df l rec D2 B2 W).Ok P := by
  refine ⟨hE.glb, ?_, ?_⟩
  · intro l1 X hy tr x post vs D B w hX hj hrel hb1 hb2
    have hj : J1 E df l rec D2 B2 W tr true D B w := hj
    have hl := heapLt hj.rec_
    obtain ⟨fn, tmps, assign, body, hrun, hround⟩ := hE.yld l1 X hy tr x post vs _ B w hX hj.jj.j hrel hb1 (by
      rintro b ((hd | rfl | hd) | hd)
      · exact hb2 b hd
      · exact ⟨hl, hj.lB⟩
      · exact ⟨Nat.lt_of_lt_of_le (hj.d2 b hd).1 hj.size, (hj.d2 b hd).2.2.2⟩
      · exact ⟨heapLt (hj.jj.mks b hd).1, (hj.jj.mks b hd).2.2.1⟩)
    refine ⟨fn, tmps, assign, body, hrun, hround.mono ?_⟩
    rintro e w' ⟨b, rfl, hk, hj'⟩
    refine ⟨b, rfl, ⟨hk.os, hk.tape, hk.output, hk.size, fun b hb => hk.block b (hb.elim .inl fun h => .inr (.inl (.inl h)))⟩, ?_⟩
    show J1 E df l rec D2 B2 W (tr ++ [x]) b D B w'
    refine ⟨⟨hj', hj.jj.stab, hj.jj.nodup, fun b hb => ?_⟩, (hk.block l (.inr (.inl (.inr (.inl rfl))))).trans hj.rec_, hj.lD, hj.lB, hj.l2, ?_, ?_, hk.os.trans hj.os, hk.tape.trans hj.tape, hk.output.trans hj.output, Nat.le_trans hj.size hk.size, ?_⟩
    · obtain ⟨h1, h2⟩ := hj.jj.mks b hb
      exact ⟨(hk.block b (.inr (.inr hb))).trans h1, h2⟩
    · intro b hd
      obtain ⟨k1, k2, k3⟩ := hj.d2 b hd
      exact ⟨k1, (hk.block b (.inr (.inl (.inr (.inr hd))))).trans k2, k3⟩
    · intro b hd
      obtain ⟨k1, k2, k3, k4⟩ := hj.b2 b hd
      exact ⟨k1, (hk.block b (.inl k4)).trans k2, k3, k4⟩
    · exact ⟨fun b hb => Nat.lt_of_lt_of_le (hb1 b hb) hk.size, fun b hb => ⟨Nat.lt_of_lt_of_le (hb2 b hb).1 hk.size, (hb2 b hb).2⟩⟩
  · intro l1 hl1 tr go D B w hj
    have hj : J1 E df l rec D2 B2 W tr go D B w := hj
    have : l1 = l := (Option.some.inj hl1).symm
    subst this
    exact ⟨_, hj.rec_⟩
mutual
theorem idsOk_mono {p q : Nat → Bool} (h : ∀ k, p k = true → q k = true) : ∀ x : AV, x.idsOk p = true → x.idsOk q = true
  | .val _, _ | .any, _ => rfl
  | .agg l, e | .tup l, e => idsOkL_mono h l e
  | .sl _ _ xs, e => idsOkL_mono h xs e
  | .slc _ xs, e => idsOkL_mono h xs e
  | .own k, e | .ptr k _, e | .ept k _, e => h k e
  | .ref _ x, e | .ifc _ x, e => idsOk_mono h x e
  | .fn _ l m, e => by
    simp only [AV.idsOk, Bool.and_eq_true] at e ⊢
    exact ⟨idsOkL_mono h l e.1, idsOkL_mono h m e.2⟩
theorem idsOkL_mono {p q : Nat → Bool} (h : ∀ k, p k = true → q k = true) : ∀ l : List AV, AV.idsOkL p l = true → AV.idsOkL q l = true
  | [], _ => rfl
  | x :: l, e => by
    simp only [AV.idsOkL, Bool.and_eq_true] at e ⊢
    exact ⟨idsOk_mono h x e.1, idsOkL_mono h l e.2⟩
end
mutual
theorem idsOk_true : ∀ x : AV, x.idsOk (fun _ => true) = true
  | .val _ | .any => rfl
  | .agg l | .tup l => idsOkL_true l
  | .sl _ _ xs => idsOkL_true xs
  | .slc _ xs => idsOkL_true xs
  | .own k | .ptr k _ | .ept k _ => rfl
  | .ref _ x | .ifc _ x => idsOk_true x
  | .fn _ l m => by simp only [AV.idsOk, idsOkL_true l, idsOkL_true m, Bool.and_self]
theorem idsOkL_true : ∀ l : List AV, AV.idsOkL (fun _ => true) l = true
  | [] => rfl
  | x :: l => by simp only [AV.idsOkL, idsOk_true x, idsOkL_true l, Bool.and_self]
end
def isBox (ob : List Ob) (k : Nat) : Bool :=
  match ob[k]? with
  | some (.box _ _) => true
  | _ => false
def setps (fr : List (Nat × AV)) : List Nat → List AV → List (Nat × AV)
  | p :: ps, x :: xs => setps ((p, x) :: del fr p) ps xs
  | _, _ => fr
def codeOf : Exit → Option Code
  | .ret => some .ret
  | .exit id => some (.exit id)
  | _ => none
def roundQ (I : List (List AV) → List Ob → List (List AV) → Bool → Prop) (Ix : Exit → List Ob → List (List AV) → Bool → Prop) (tr1 : List (List AV)) : Exit → AS → Prop
  | .normal, s => ∃ s2, Le s s2 ∧ I tr1 s2.ob s2.tr s2.go
  | .ret, s => ∃ s2, Le s s2 ∧ Ix .ret s2.ob s2.tr s2.go
  | .exit id, s => ∃ s2, Le s s2 ∧ Ix (.exit id) s2.ob s2.tr s2.go
  | _, _ => False
structure Susp (E : Env) (df : List Nat) (l : Nat) (t0 : Array Value) (fr0 : List (Nat × AV)) (pp : List Value) (base : Nat) (ob : List Ob) (tr : List (List AV)) (go : Bool) (ρ : List Value) (Bc D2 B2 : Nat → Prop) (W : World) : Prop where
  rw_ : RW E ob ρ Bc W
  jj : JJ E tr go df (fun b => Dof ob ρ b ∨ b = l ∨ D2 b) Bc W
  rf : RF W Bc E.bs ρ t0 fr0
  ptr : ∀ (k : Nat) (v : Value), pp[k]? = some v → isPtr v = true → ρ[k]? = some v
  b2 : ∀ b, B2 b → Bc b
  d2 : ∀ b, D2 b → ¬ Bc b ∧ ¬ Dof ob ρ b ∧ b ≠ l ∧ b < W.heap.size ∧ base ≤ b
  lB : ¬ Bc l
  lD : ¬ Dof ob ρ l
  ll : l < W.heap.size
  lb : base ≤ W.heap.size
theorem Susp.chg {df : List Nat} {l : Nat} {t0 : Array Value} {fr0 : List (Nat × AV)} {pp : List Value} {base : Nat} {ob : List Ob} {tr : List (List AV)} {go : Bool} {Bc D2 B2 D2' B2' : Nat → Prop} {W W' : World}
    (h : Susp E df l t0 fr0 pp base ob tr go ρ Bc D2 B2 W) (hbase : E.w0.heap.size ≤ base) (c : Chg D2 B2 W D2' B2' W') (hb : Bd D2' B2' W') : Susp E df l t0 fr0 pp base ob tr go ρ (fun b => Bc b ∨ B2' b) D2' B2' W' ∧ W'.heap[l]? = W.heap[l]? := by
  have hBw : ∀ b, Bc b → W'.heap[b]? = W.heap[b]? := fun b hb => c.block b (h.rw_.blt b hb) fun hd => (h.d2 b hd).1 hb
  have hDw : ∀ b, Dof ob ρ b → W'.heap[b]? = W.heap[b]? := fun b hb => c.block b (h.rw_.bd.2 b hb).1 fun hd => (h.d2 b hd).2.1 hb
  have hlw : W'.heap[l]? = W.heap[l]? := c.block l h.ll fun hd => (h.d2 l hd).2.2.1 rfl
  have nB : ∀ b, B2' b → Bc b ∨ (base ≤ b ∧ ¬ Dof ob ρ b ∧ b ≠ l) := by
    intro b hb'
    rcases c.bnew b hb' with h1 | h1 | h1
    · exact .inl (h.b2 b h1)
    · obtain ⟨k1, k2, k3, k4, k5⟩ := h.d2 b h1
      exact .inr ⟨k5, k2, k3⟩
    · refine .inr ⟨Nat.le_trans h.lb h1, fun hd => ?_, fun e => ?_⟩
      · have := (h.rw_.bd.2 b hd).1; omega
      · have := h.ll; omega
  have nD : ∀ b, D2' b → ¬ Bc b ∧ ¬ Dof ob ρ b ∧ b ≠ l ∧ base ≤ b := by
    intro b hd
    rcases c.dsub b hd with h1 | h1
    · obtain ⟨k1, k2, k3, k4, k5⟩ := h.d2 b h1
      exact ⟨k1, k2, k3, k5⟩
    · refine ⟨fun hd => ?_, fun hd => ?_, fun e => ?_, Nat.le_trans h.lb h1⟩
      · have := h.rw_.blt b hd; omega
      · have := (h.rw_.bd.2 b hd).1; omega
      · have := h.ll; omega
  have hrw : RW E ob ρ (fun b => Bc b ∨ B2' b) W' := by
    have r := h.rw_
    refine { ep := r.ep, os := c.os.trans r.os, tape := c.tape.trans r.tape, output := c.output.trans r.output, size := Nat.le_trans r.size c.size,
             block := fun j h1 h2 => (c.block j (Nat.lt_of_lt_of_le h1 r.size) fun hd => ?_).trans (r.block j h1 h2), pre := r.pre, bsub := fun b hb => .inl (r.bsub b hb), bnew := ?_,
             blt := ?_, len := r.len,
             obs := fun j o hj => (r.obs j o hj).mono (fun _ h => .inl h) hBw (fun _ _ h => h) (fun u b l hu hb => hDw b ⟨j, o, u, hj, l, hu, hb⟩), dis := r.dis, prv := ?_ }
    · have := (h.d2 j hd).2.2.2.2; omega
    · rintro b (h1 | h1)
      · exact r.bnew b h1
      · rcases nB b h1 with h2 | h2
        · exact r.bnew b h2
        · exact .inr (Nat.le_trans hbase h2.1)
    · rintro b (h1 | h1)
      · exact Nat.lt_of_lt_of_le (r.blt b h1) c.size
      · exact hb.1 b h1
    · intro j o v b h1 h2 h3 h4
      obtain ⟨a1, a2, a3⟩ := r.prv j o v b h1 h2 h3 h4
      refine ⟨?_, Nat.lt_of_lt_of_le a2 c.size, a3⟩
      rintro (h5 | h5)
      · exact a1 h5
      · rcases nB b h5 with h6 | h6
        · exact a1 h6
        · exact h6.2.1 ⟨j, o, v, h1, h2, h3, h4⟩
  refine ⟨⟨hrw, ?_, fun t x hm => ⟨(h.rf t x hm).1, (h.rf t x hm).2.mono (fun _ h => .inl h) hBw (Nat.le_refl _) (fun _ _ h => h)⟩, h.ptr, fun b hb => .inr hb, ?_, ?_, h.lD, Nat.lt_of_lt_of_le h.ll c.size, Nat.le_trans h.lb c.size⟩, hlw⟩
  · refine h.jj.chg ⟨c.os, c.tape, c.output, c.size, fun b h1 h2 => c.block b h1 fun h => h2 (.inr (.inr h)), ?_, fun _ h => .inl h, ?_⟩ ⟨hrw.blt, ?_⟩
    · rintro b (hd | hd | hd)
      · exact .inl (.inl hd)
      · exact .inl (.inr (.inl hd))
      · exact (c.dsub b hd).elim (fun h => .inl (.inr (.inr h))) .inr
    · rintro b (h1 | h1)
      · exact .inl h1
      · rcases c.bnew b h1 with h2 | h2 | h2
        · exact .inl (h.b2 b h2)
        · exact .inr (.inl (.inr (.inr h2)))
        · exact .inr (.inr h2)
    · rintro b (hd | rfl | hd)
      · exact hrw.bd.2 b hd
      · refine ⟨Nat.lt_of_lt_of_le h.ll c.size, ?_⟩
        rintro (h1 | h1)
        · exact h.lB h1
        · rcases nB _ h1 with h2 | h2
          · exact h.lB h2
          · exact h2.2.2 rfl
      · refine ⟨(hb.2 b hd).1, ?_⟩
        rintro (h1 | h1)
        · exact (nD b hd).1 h1
        · exact (hb.2 b hd).2 h1
  · intro b hd
    obtain ⟨k1, k2, k3, k4⟩ := nD b hd
    refine ⟨?_, k2, k3, (hb.2 b hd).1, k4⟩
    rintro (h1 | h1)
    · exact k1 h1
    · exact (hb.2 b hd).2 h1
  · rintro (h1 | h1)
    · exact h.lB h1
    · rcases nB _ h1 with h2 | h2
      · exact h.lB h2
      · exact h2.2.2 rfl
end
end Go.Abs
