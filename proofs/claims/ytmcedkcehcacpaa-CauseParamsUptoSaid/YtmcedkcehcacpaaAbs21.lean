/- Groups of guarded operations; loops that keep slots; what is handed over, by the callee's numbers; drawn regions step by step. No condition. -/
import Derived.Test.YtmcedkcehcacpaaAbs20
namespace Go.Abs
set_option linter.unusedVariables false
set_option linter.unusedSectionVars false
set_option linter.unusedSimpArgs false
set_option linter.unnecessarySimpa false

/-! ### values under a condition -/
theorem bif_bif1 {α : Type} (g : Bool) (x y z : α) : (bif g then (bif g then x else y) else z) = bif g then x else z := by cases g <;> rfl
theorem bif_bif2 {α : Type} (g : Bool) (x y z : α) : (bif g then x else (bif g then y else z)) = bif g then x else z := by cases g <;> rfl
theorem bif_nbif1 {α : Type} (g : Bool) (x y z : α) : (bif g then (bif !g then x else y) else z) = bif g then y else z := by cases g <;> rfl
theorem bif_nbif2 {α : Type} (g : Bool) (x y z : α) : (bif g then x else (bif !g then y else z)) = bif g then x else y := by cases g <;> rfl
theorem bif_not {α : Type} (g : Bool) (x y : α) : (bif !g then x else y) = bif g then y else x := by cases g <;> rfl
theorem bif_bool (g p q : Bool) : (bif g then AV.val (.bool p) else AV.val (.bool q)) = .val (.bool (bif g then p else q)) := by cases g <;> rfl
theorem bif_same {α : Type} (g : Bool) (x : α) : (bif g then x else x) = x := by cases g <;> rfl
theorem bif_ff (g p : Bool) : (bif g then p else false) = (g && p) := by cases g <;> rfl
theorem bif_tt (g p : Bool) : (bif g then true else p) = (g || p) := by cases g <;> rfl
theorem bif_ft (g p : Bool) : (bif g then p else true) = (!g || p) := by cases g <;> rfl
theorem bif_tf (g p : Bool) : (bif g then false else p) = (!g && p) := by cases g <;> rfl
theorem gdv_bif (g p want : Bool) (l : Array Value) : gdv (bif g then .val (.bool p) else .val (.tuple l)) want = some (g && (p == want)) := by cases g <;> rfl

section
variable {P : Program} {ops : Array Oper} {E : Env} {s s' : AS} {ρ σ : List Value} {B : Nat → Prop} {a : Act} {w w' : World} {o : Oper} {rest : List Oper} {Q : AS → Prop} {R : Exit → AS → Prop}

/-! ### frames cut to some slots -/
def keepFr (fr : List (Nat × AV)) : List Nat → List (Nat × AV)
  | [] => []
  | t :: l => (t, lk fr t) :: keepFr fr l

def hasK (fr : List (Nat × AV)) (l : List Nat) : Bool := l.all fun t => (fr.map Prod.fst).contains t

theorem keepFr_mem {fr : List (Nat × AV)} : ∀ {l : List Nat} {t : Nat} {x : AV}, (t, x) ∈ keepFr fr l → t ∈ l ∧ x = lk fr t
  | [], t, x, h => by simp [keepFr] at h
  | t' :: l, t, x, h => by
    rcases List.mem_cons.1 h with e | h
    · have e1 : t = t' := congrArg Prod.fst e
      have e2 : x = lk fr t' := congrArg Prod.snd e
      subst e1; exact ⟨by simp, e2⟩
    · have := keepFr_mem h; exact ⟨by simp [this.1], this.2⟩

theorem lk_of_has {fr : List (Nat × AV)} {t : Nat} (h : t ∈ fr.map Prod.fst) : (t, lk fr t) ∈ fr := by
  induction fr with
  | nil => simp at h
  | cons p r ih =>
    obtain ⟨k, a⟩ := p
    simp only [lk]
    split
    · rename_i e; subst e; simp
    · rename_i hne
      simp only [List.map_cons, List.mem_cons] at h
      rcases h with h | h
      · exact absurd h.symm hne
      · exact List.mem_cons_of_mem _ (ih h)

theorem keepFr_sub {fr : List (Nat × AV)} {l : List Nat} (h : hasK fr l = true) {t : Nat} {x : AV} (hm : (t, x) ∈ keepFr fr l) : (t, x) ∈ fr := by
  obtain ⟨h1, rfl⟩ := keepFr_mem hm
  exact lk_of_has (by simpa using List.all_eq_true.1 h t h1)

theorem Le.sub {fr' : List (Nat × AV)} (h : ∀ t x, (t, x) ∈ fr' → (t, x) ∈ s.fr) : Le s { s with fr := fr' } := by
  intro E ρ B a w hs
  exact ⟨ρ, B, hs.rw_, hs.m, hs.n, hs.df, hs.jj, fun t x hm => hs.rf t x (h t x hm)⟩

/-- only these slots are still known -/
theorem Le.keepL (l : List Nat) (h : hasK s.fr l = true) : Le s { s with fr := keepFr s.fr l } := Le.sub fun _ _ hm => keepFr_sub h hm

theorem AWp.keepL {c : Code} (l : List Nat) (h : hasK s.fr l = true) (k : AWp P c { s with fr := keepFr s.fr l } R) : AWp P c s R := AWp.weak (Le.keepL l h) k
theorem ARun2.keepL {r : List Oper} (l : List Nat) (h : hasK s.fr l = true) (k : ARun P ops r { s with fr := keepFr s.fr l } Q) : ARun2 P ops (r, s) Q := ARun.weak (Le.keepL l h) k

/-! ### a list of operations in parts -/
theorem wpIn_mono2 {F : Fence} {n : Nat} {K K' : Act → World → Prop} {Q Q' : Exit → Act → World → Prop} (h : ∀ a w, K a w → K' a w) (hq : ∀ e a w, e ≠ .normal → Q e a w → Q' e a w)
    (hh : o.wpIn F n P a w K Q) : o.wpIn F n P a w K' Q' := by
  unfold Oper.wpIn at *
  refine ⟨hh.1, ?_⟩
  have hh := hh.2
  generalize (o.semAt F.round a.eval).run P w = r at *
  cases r with
  | ok x w' =>
    cases x <;> simp only [Oper.uponIn] at hh ⊢ <;>
      first
        | exact h _ _ hh
        | exact ⟨hh.1, CallsIn.mono hh.2 (fun e w'' he => by
            cases e with
            | returned v => exact h _ _ he
            | panicked c => exact hq _ _ _ (by simp) he
            | outgrown => obtain ⟨a, w, he⟩ := he; exact ⟨a, w, hq _ _ _ (by simp) he⟩)⟩
        | exact ⟨hh.1, RowsIn.mono hh.2 (fun _ _ he => h _ _ he)⟩
        | exact ⟨hh.1, RoundIn.mono hh.2 (fun e w'' he => by
            cases e with
            | returned v => exact h _ _ he
            | panicked c => exact hq _ _ _ (by simp) he
            | outgrown => obtain ⟨a, w, he⟩ := he; exact ⟨a, w, hq _ _ _ (by simp) he⟩)⟩
        | exact hh.elim
  | halt x w' =>
    cases x <;> simp only [Oper.uponIn] at hh ⊢ <;> first | exact hq _ _ _ (by simp) hh | exact hh.elim

theorem lwp_append {r : Option Nat} {l2 : List Oper} {Q' Q'' : Exit → Act → World → Prop} (h1 : ∀ a w, Q'' .normal a w → lwp r P ops Q' l2 a w) (h2 : ∀ e a w, e ≠ .normal → Q'' e a w → Q' e a w) :
    ∀ (l1 : List Oper) (a : Act) (w : World), lwp r P ops Q'' l1 a w → lwp r P ops Q' (l1 ++ l2) a w
  | [], a, w, h => h1 a w h
  | o :: l, a, w, h => by
    simp only [List.cons_append, lwp] at h ⊢
    split
    · rename_i hw
      rw [if_pos hw] at h
      exact wpIn_mono2 (fun a w h => lwp_append h1 h2 l a w h) h2 h
    · rename_i hw
      rw [if_neg hw] at h
      exact lwp_append h1 h2 l _ w h

theorem ARun.append {l1 l2 : List Oper} (h : ARun P ops l1 s (fun s' => ARun P ops l2 s' Q)) : ARun P ops (l1 ++ l2) s Q := by
  intro E hE ρ B a w hs Q' hQ
  refine lwp_append (Q'' := fun e a w => match e with | .normal => lwp E.rnd P ops Q' l2 a w | e => Q' e a w) (fun a w h => h) (fun e a w he h => by cases e <;> first | exact absurd rfl he | exact h) l1 a w ?_
  exact h E hE ρ B a w hs _ fun s' ρ' B' a' w' q hs' => q E hE ρ' B' a' w' hs' Q' hQ

/-- the first n operations; then the rest -/
theorem ARun.seg {l : List Oper} (n : Nat) (h : ∀ K : AS → Prop, (∀ s', ARun P ops (l.drop n) s' Q → K s') → ARun2 P ops (Abs.srun P ops (l.take n) s) K) : ARun P ops l s Q := by
  have := ARun.append (ARun.srun (h _ fun _ h => h))
  rwa [List.take_append_drop] at this

theorem lk_del_self (fr : List (Nat × AV)) (t : Nat) : lk (del fr t) t = .any := by
  induction fr with
  | nil => rfl
  | cons p r ih =>
    obtain ⟨k, a⟩ := p
    simp only [del]
    split
    · exact ih
    · rename_i h; simp only [lk, if_neg h]; exact ih
theorem lk_del_ne (fr : List (Nat × AV)) {t u : Nat} (h : u ≠ t) : lk (del fr t) u = lk fr u := by
  induction fr with
  | nil => rfl
  | cons p r ih =>
    obtain ⟨k, a⟩ := p
    simp only [del]
    split
    · rename_i e; subst e; simp only [lk, if_neg (Ne.symm h)]; exact ih
    · simp only [lk]; split
      · rfl
      · exact ih

theorem keepFr_congr {fr fr' : List (Nat × AV)} (h : ∀ t, lk fr t = lk fr' t) : ∀ l, keepFr fr l = keepFr fr' l
  | [] => rfl
  | t :: l => by simp only [keepFr, h t, keepFr_congr h l]

theorem lit_lk {d : Nat} {b : Bool} (e : lk s.fr d = .val (.bool b)) (t : Nat) : lk (s.lit d b).fr t = lk s.fr t := by
  simp only [AS.lit, lk]
  split
  · rename_i h; subst h; exact e.symm
  · rename_i h; exact lk_del_ne _ (fun h' => h h'.symm)

/-- operations that hang on one guard: carried out, or not; behind them slot d holds x, or nothing -/
theorem ARun.grp {l : List Oper} (n j : Nat) {dj : Nat} (want : Bool) {b : Bool} (d : Nat) {x : AV} (ks : List Nat)
    (hd : (ops[j]?).bind (·.dst) = some dj) (e : lk s.fr dj = .val (.bool b))
    (ht : b = want → ∀ K : AS → Prop, (∀ s', Le s' { s with fr := (d, x) :: keepFr (s.lit dj want).fr ks } → K s') → ARun P ops (l.take n) (s.lit dj want) K)
    (hf : (b = !want) → ∀ K : AS → Prop, (∀ s', Le s' { s with fr := (d, .val (.tuple #[])) :: keepFr (s.lit dj !want).fr ks } → K s') → ARun P ops (l.take n) (s.lit dj !want) K)
    (k : ARun P ops (l.drop n) { s with fr := (d, bif b == want then x else .val (.tuple #[])) :: keepFr s.fr ks } Q) : ARun P ops l s Q := by
  have main : ARun P ops (l.take n ++ l.drop n) s Q := by
    refine ARun.append ?_
    intro E hE ρ B a w hs Q' hQ
    have hl := hs.lit e
    by_cases hb : b = want
    · subst hb
      refine ht rfl (fun s' => ARun P ops (l.drop n) s' Q) (fun s' hle => ARun.weak hle ?_) E hE ρ B a w hl Q' hQ
      rw [keepFr_congr (lit_lk e)]
      simpa using k
    · have hb' : b = !want := by cases b <;> cases want <;> simp_all
      subst hb'
      refine hf rfl (fun s' => ARun P ops (l.drop n) s' Q) (fun s' hle => ARun.weak hle ?_) E hE ρ B a w hl Q' hQ
      rw [keepFr_congr (lit_lk e)]
      have : (!want == want) = false := by cases want <;> rfl
      simpa [this] using k
  rwa [List.take_append_drop] at main

/-- a loop that keeps slots l as they are; upd: those that turn -/
theorem AWp.loopK {α : Type} {c : Code} (ks : List Nat) (upd : α → List (Nat × AV)) (obs : α → List Ob) (p : α → Prop) (μ : α → Nat) (x : α)
    (h0 : Le s { s with fr := upd x ++ keepFr s.fr ks, ob := obs x }) (hp : p x)
    (round : ∀ x, p x → ∀ K : AS → Prop, (∀ s' y, p y → μ y < μ x → Le s' { s with fr := upd y ++ keepFr s.fr ks, ob := obs y } → K s') → AWp P c { s with fr := upd x ++ keepFr s.fr ks, ob := obs x } (thenQ K R)) : AWp P (.loop c) s R :=
  AWp.loopS (fun x => { s with fr := upd x ++ keepFr s.fr ks, ob := obs x }) p μ x h0 hp fun x hx => round x hx _ fun s' y h1 h2 h3 => ⟨y, h1, h2, h3⟩

/-- the state behind a stretch of code, under a name -/
theorem AWp.join {x y : Code} (S : AS) (h : ∀ K : AS → Prop, (∀ s', Le s' S → K s') → AWp P x s (thenQ K R)) (k : AWp P y S R) : AWp P (.seq x y) s R :=
  AWp.seqK fun K hK => h K fun s' hl => hK s' (AWp.weak hl k)
end

/-! ### what is handed over -/
def posOf : List Nat → Nat → Nat
  | [], _ => 0
  | i :: is, k => if i = k then 0 else posOf is k + 1

theorem posOf_get : ∀ {is : List Nat} {k : Nat}, is.contains k = true → is[posOf is k]? = some k
  | [], k, h => by simp at h
  | i :: is, k, h => by
    simp only [posOf]
    split
    · rename_i e; subst e; rfl
    · rename_i hne
      simp only [List.getElem?_cons_succ]
      refine posOf_get ?_
      simp only [List.contains_cons, Bool.or_eq_true, beq_iff_eq] at h
      rcases h with h | h
      · exact absurd h.symm hne
      · exact h

mutual
/-- as the callee reads it: its numbers of the objects ids; nothing is known to be new -/
def AV.hand (ids : List Nat) : AV → AV
  | .val v => .val v
  | .any => .any
  | .agg l => .agg (AV.handL ids l)
  | .tup l => .tup (AV.handL ids l)
  | .sl _ sz xs => .sl false sz (AV.handL ids xs)
  | .own k => .own (posOf ids k)
  | .ptr k o => .ptr (posOf ids k) o
  | .ept k o => .ept (posOf ids k) o
  | .ref _ x => .ref false (x.hand ids)
  | .ifc t x => .ifc t (x.hand ids)
  | .fn f l m => .fn f (AV.handL ids l) (AV.handL ids m)
def AV.handL (ids : List Nat) : List AV → List AV
  | [] => []
  | x :: xs => x.hand ids :: AV.handL ids xs
end

theorem AV.handL_map (ids : List Nat) : ∀ l : List AV, AV.handL ids l = l.map (AV.hand ids)
  | [] => rfl
  | x :: l => by simp [AV.handL, AV.handL_map ids l]
theorem AV.hand_one (ids : List Nat) (x : AV) : (x.hand ids).one = x.one := by cases x <;> rfl
theorem AV.hand_oc (ids : List Nat) (x : AV) : (x.hand ids).oc = x.oc := by cases x <;> rfl
theorem AV.hand_cells (ids : List Nat) (x : AV) : (x.hand ids).cells = x.cells.map (AV.hand ids) := by cases x <;> simp [AV.hand, AV.cells, AV.handL_map]

section hand
variable {w : World} {B : Nat → Prop} {bs bs' : Nat} {ρ σ : List Value} {ids : List Nat}
variable (hi : ∀ i k : Nat, ids[i]? = some k → σ[i]? = ρ[k]?)
include hi
mutual
theorem Rel.hand : ∀ {x : AV} {v : Value}, Rel w B bs ρ x v → x.idsOk (fun k => ids.contains k) = true → Rel w B bs' σ (x.hand ids) v
  | _, _, .val v, _ => .val v
  | _, _, .agg h, e => .agg (h.hand (by simpa [AV.idsOk] using e))
  | _, _, .tup h, e => .tup (h.hand (by simpa [AV.idsOk] using e))
  | _, _, .slE nw sz A cap, _ => .slE false sz A cap
  | _, _, .sl (xs := xs) h hc, e => by
    have h2 := RelRow.hand h (by simpa [AV.idsOk] using e)
    have := Rel.sl (cap := _) h2 (by rw [AV.handL_map, List.length_map]; exact hc)
    simp only [AV.handL_map, List.length_map] at this
    simpa only [AV.hand, AV.handL, AV.handL_map] using this
  | _, _, .own (k := k) h h1, e => .own ((hi _ _ (posOf_get (by simpa [AV.idsOk] using e))).trans h) h1
  | _, _, .ptr h, e => .ptr ((hi _ _ (posOf_get (by simpa [AV.idsOk] using e))).trans h)
  | _, _, .ept h, e => .ept ((hi _ _ (posOf_get (by simpa [AV.idsOk] using e))).trans h)
  | _, _, .ref (x := x) h hn, e => .ref (by rw [AV.hand_cells, ← AV.handL_map]; exact h.hand (by rw [AV.idsOkL_cells]; simpa [AV.idsOk] using e)) (by rw [AV.hand_cells]; simpa using hn)
  | _, _, .ifc h, e => .ifc (h.hand (by simpa [AV.idsOk] using e))
  | _, _, .fn h h2, e => .fn (h.hand (by simp [AV.idsOk] at e; simpa using e.1)) (h2.hand (by simp [AV.idsOk] at e; simpa using e.2))
  | _, _, .any v, _ => .any v
theorem RelL.hand : ∀ {xs : List AV} {vs : List Value}, RelL w B bs ρ xs vs → AV.idsOkL (fun k => ids.contains k) xs = true → RelL w B bs' σ (AV.handL ids xs) vs
  | _, _, .nil, _ => .nil
  | _, _, .cons h h2, e => .cons (h.hand (by simp only [AV.idsOkL, Bool.and_eq_true] at e; exact e.1)) (h2.hand (by simp only [AV.idsOkL, Bool.and_eq_true] at e; exact e.2))
theorem RelCells.hand : ∀ {nw : Bool} {b o : Nat} {xs : List AV}, RelCells w B bs ρ nw b o xs → AV.idsOkL (fun k => ids.contains k) xs = true → RelCells w B bs' σ false b o (AV.handL ids xs)
  | _, _, _, _, .nil, _ => .nil
  | _, _, _, _, .cons h1 h2 h3 h4 h5 h6, e => .cons h1 (fun h => by simp at h) h3 (by rw [AV.hand_one]; exact h4) (h5.hand (by simp only [AV.idsOkL, Bool.and_eq_true] at e; exact e.1)) (h6.hand (by simp only [AV.idsOkL, Bool.and_eq_true] at e; exact e.2))
theorem RelRow.hand : ∀ {nw : Bool} {b sz o : Nat} {xs : List AV}, RelRow w B bs ρ nw b sz o xs → AV.idsOkL (fun k => ids.contains k) xs = true → RelRow w B bs' σ false b sz o (AV.handL ids xs)
  | _, _, _, _, _, .nil, _ => .nil
  | _, _, _, _, _, .cons (x := x) h1 h2 h3, e => .cons (by rw [AV.hand_cells, ← AV.handL_map]; exact h1.hand (by rw [AV.idsOkL_cells]; simp only [AV.idsOkL, Bool.and_eq_true] at e; exact e.1)) (by rw [AV.hand_cells]; simpa using h2) (h3.hand (by simp only [AV.idsOkL, Bool.and_eq_true] at e; exact e.2))
end
end hand

/-- how an argument may be read by the callee -/
def Hand (ids : List Nat) (x y : AV) : Prop := SubX ids x y
def HandL (ids : List Nat) (xs ys : List AV) : Prop := SubXL ids xs ys

section handrules
variable {ids : List Nat}
theorem Hand.eq {x y : AV} (h : x.idsOk (fun k => ids.contains k) = true) (e : x.hand ids = y) : Hand ids x y := by
  subst e
  intro w B bs bs' ρ σ v hi hr
  exact hr.hand hi h
theorem Hand.nil {nw : Bool} {sz : Nat} : Hand ids (.val (.slice none 0 0)) (.sl nw sz []) := by
  intro w B bs bs' ρ σ v hi hr
  cases hr
  exact .slE _ _ _ _
theorem Hand.agg {xs ys : List AV} (h : HandL ids xs ys) : Hand ids (.agg xs) (.agg ys) := SubX.agg h
theorem Hand.any {x : AV} : Hand ids x .any := SubX.any
theorem HandL.nil : HandL ids [] [] := trivial
theorem HandL.cons {x y : AV} {xs ys : List AV} (h : Hand ids x y) (h2 : HandL ids xs ys) : HandL ids (x :: xs) (y :: ys) := ⟨h, h2⟩
end handrules

def Ob.hand (ids : List Nat) : Ob → Ob
  | .box T cs => .box T (AV.handL ids cs)
  | o => o

def handOk (ids : List Nat) : Ob → Bool
  | .box _ cs => AV.idsOkL (fun k => ids.contains k) cs && cs.all AV.oc
  | .row _ _ xs => AV.plL xs
  | .mp _ => true
  | .gone => false

theorem SubXL.hand {ids : List Nat} : ∀ {xs : List AV}, AV.idsOkL (fun k => ids.contains k) xs = true → SubXL ids xs (AV.handL ids xs)
  | [], _ => trivial
  | x :: xs, h => by
    simp only [AV.idsOkL, Bool.and_eq_true] at h
    exact ⟨Hand.eq h.1 rfl, SubXL.hand h.2⟩

theorem SubO.hand {ids : List Nat} {o : Ob} (h : handOk ids o = true) : o.live = true ∧ SubO ids o (o.hand ids) := by
  cases o with
  | box T cs =>
    simp only [handOk, Bool.and_eq_true] at h
    refine ⟨rfl, rfl, SubXL.hand h.1, ?_⟩
    rw [AV.handL_map, List.all_map]
    refine Eq.trans ?_ h.2
    congr 1
    funext x
    exact AV.hand_oc ids x
  | row T sz xs => exact ⟨rfl, rfl, rfl, rfl, h⟩
  | mp es => exact ⟨rfl, rfl⟩
  | gone => simp [handOk] at h

/-- the objects that are handed over, as the callee sees them -/
def handObs (ids : List Nat) (ob : List Ob) : List Nat → List Ob
  | [] => []
  | i :: is => (ob.getD i .gone).hand ids :: handObs ids ob is

def handObsOk (ids : List Nat) (ob : List Ob) : List Nat → Bool
  | [] => true
  | i :: is => handOk ids (ob.getD i .gone) && handObsOk ids ob is

theorem SubOL.hand {ids : List Nat} {ob : List Ob} : ∀ {is : List Nat}, handObsOk ids ob is = true → SubOL ids ob is (handObs ids ob is)
  | [], _ => trivial
  | i :: is, h => by
    simp only [handObsOk, Bool.and_eq_true] at h
    obtain ⟨h1, h2⟩ := SubO.hand h.1
    refine ⟨⟨ob.getD i .gone, ?_, h1, h2⟩, SubOL.hand h.2⟩
    rw [List.getD_eq_getElem?_getD] at h1 ⊢
    cases he : ob[i]? with
    | none => rw [he] at h1; simp [Ob.live] at h1
    | some o => simp

section
variable {P : Program} {ops : Array Oper} {E : Env} {s s' : AS} {ρ σ : List Value} {B : Nat → Prop} {a : Act} {w w' : World} {o : Oper} {rest : List Oper} {Q : AS → Prop} {R : Exit → AS → Prop}

/-- a call of a pure function -/
theorem ARun2.callA {f : FuncId} {args : Array Operand} {ts : Array TypeId} {ys : List AV} {r : AV} (hp : PC P f ys r) (hg : gd ops s o = some true) (ho : o.op = .call { callee := .value (.func f), args := args, argTypes := ts }) (hc : callable P f = true)
    (hsub : HandL [] (args.toList.map s.ev) ys) (k : ARun P ops rest (s.put o.dst r) Q) : ARun2 P ops (o :: rest, s) Q :=
  ARun2.call hp hg ho hc (SubL.of hsub) k

/-- a call that is handed objects -/
theorem ARun2.callB {f : FuncId} {g : Operand} {cap : List AV} {args : Array Operand} {ts : Array TypeId} {ys : List AV} {τ τ' : List Ob} {r : AV} (ids : List Nat) (hp : OC P f ys τ r τ') (hgd : gd ops s o = some true)
    (ho : o.op = .call { callee := .value g, args := args, argTypes := ts }) (hg : s.ev g = .fn (.func f) [] cap) (hc : callable P f = true) (hn : ids.Nodup) (hok : handObsOk ids s.ob ids = true) (hτ : handObs ids s.ob ids = τ)
    (hsub : HandL ids (args.toList.map s.ev ++ cap) ys) (hm : ids.length ≤ τ'.length)
    (k : ARun P ops rest ({ s with ob := obAfter s.ob ids τ τ', fr := frInvalL (rowIds ids τ) s.fr }.put o.dst (r.ren (phi ids s.ob.length))) Q) : ARun2 P ops (o :: rest, s) Q :=
  ARun2.callO ids hp hgd ho hg hc hn (hτ ▸ SubOL.hand hok) hsub hm k

/-- a pure function's value is called -/
theorem ARun2.callVA {f : FuncId} {g : Operand} {cap : List AV} {args : Array Operand} {ts : Array TypeId} {ys : List AV} {r : AV} (hp : PC P f ys r) (hgd : gd ops s o = some true) (ho : o.op = .call { callee := .value g, args := args, argTypes := ts })
    (hg : s.ev g = .fn (.func f) [] cap) (hc : callable P f = true) (hsub : HandL [] (args.toList.map s.ev ++ cap) ys) (k : ARun P ops rest (s.put o.dst r) Q) : ARun2 P ops (o :: rest, s) Q :=
  ARun2.callV hp hgd ho hg hc (SubL.of hsub) k

/-! ### a drawn region, step by step -/
def isAl : Op → Bool
  | .alloc _ => true
  | _ => false

/-- the first operations of the head come to these values (but those that make a variable) -/
def PSpec (P : Program) (ops : Array Oper) (s : AS) (nds : List (List (Nat × Option Nat))) (vals : List AV) : Prop :=
  ∀ i o, i < vals.length → ops[i]? = some o → isAl o.op = false → NSpec P ops o { s with fr := needFr s.fr vals (nds.getD i []) } (vals.getD i .any)

def Dr (P : Program) (ops : Array Oper) (s : AS) (nds : List (List (Nat × Option Nat))) (vals : List AV) (G : Prop) : Prop := PSpec P ops s nds vals → G

def ndsB (nds : List (List (Nat × Option Nat))) : Bool := (List.range nds.length).all fun i => (nds.getD i []).all fun p => match p.2 with
  | some j => decide (j < i)
  | none => true

theorem needFr_app {fr : List (Nat × AV)} {vals vs : List AV} : ∀ {nd : List (Nat × Option Nat)}, (∀ p ∈ nd, ∀ j, p.2 = some j → j < vals.length) → needFr fr (vals ++ vs) nd = needFr fr vals nd
  | [], _ => rfl
  | (t, some j) :: r, h => by
    have hj := h (t, some j) (by simp) j rfl
    simp only [needFr]
    rw [needFr_app fun p hp => h p (by simp [hp])]
    congr 2
    rw [List.getD_eq_getElem?_getD, List.getD_eq_getElem?_getD, List.getElem?_append_left hj]
  | (t, none) :: r, h => by
    simp only [needFr]
    rw [needFr_app fun p hp => h p (by simp [hp])]

theorem Dr.step' {G : Prop} {nds : List (List (Nat × Option Nat))} {vals : List AV} {x : AV} (hn : ndsB nds = true) (ho : ops[vals.length]? = some o) (h : isAl o.op = false → NSpec P ops o { s with fr := needFr s.fr vals (nds.getD vals.length []) } x)
    (k : Dr P ops s nds (vals ++ [x]) G) : Dr P ops s nds vals G := by
  intro hp
  refine k ?_
  have low : ∀ i, i ≤ vals.length → needFr s.fr (vals ++ [x]) (nds.getD i []) = needFr s.fr vals (nds.getD i []) := by
    intro i hi
    refine needFr_app fun p hp j hj => ?_
    rcases Nat.lt_or_ge i nds.length with hl | hl
    · have h1 := List.all_eq_true.1 (List.all_eq_true.1 hn i (List.mem_range.2 hl)) p hp
      rw [hj] at h1
      have : j < i := by simpa using h1
      omega
    · rw [List.getD_eq_getElem?_getD, List.getElem?_eq_none hl] at hp
      simp at hp
  intro i o' hi ho' hna
  rw [List.length_append, List.length_cons, List.length_nil] at hi
  rw [low i (by omega)]
  rcases Nat.lt_or_ge i vals.length with hl | hl
  · have e : (vals ++ [x]).getD i .any = vals.getD i .any := by simp only [List.getD_eq_getElem?_getD, List.getElem?_append_left hl]
    rw [e]
    exact hp i o' hl ho' hna
  · have hie : i = vals.length := by omega
    subst hie
    rw [ho] at ho'
    have := Option.some.inj ho'
    subst this
    have e : (vals ++ [x]).getD vals.length .any = x := by simp [List.getD_eq_getElem?_getD]
    rw [e]
    exact h hna

theorem Dr.step {G : Prop} {nds : List (List (Nat × Option Nat))} {vals : List AV} {x : AV} (hn : ndsB nds = true) (ho : ops[vals.length]? = some o) (h : NSpec P ops o { s with fr := needFr s.fr vals (nds.getD vals.length []) } x)
    (k : Dr P ops s nds (vals ++ [x]) G) : Dr P ops s nds vals G := Dr.step' hn ho (fun _ => h) k

/-- slots behind the head: written in it, or as they were -/
def drB (ops : Array Oper) (n sn : Nat) (fr : List (Nat × AV)) (new : List (Nat × Nat)) (old : List Nat) : Bool :=
  (new.all fun p => decide (p.1 < sn) && decide (p.2 < n) && decide (dstOf ops p.2 = some p.1)) &&
  (old.all fun t => decide (t < sn) && (List.range n).all fun i => decide (dstOf ops i ≠ some t))

/-- the head makes no variable but (perhaps) in operation i0 -/
def noAl (ops : Array Oper) (n : Nat) (i0 : Option Nat) : Bool := (List.range n).all fun i => decide (i0 = some i) || match ops[i]? with
  | some o => !isAl o.op
  | none => true

theorem drFr {n : Nat} {new : List (Nat × Nat)} {old : List Nat} {vals : List AV} (hk : drB ops n s.n s.fr new old = true) : ∀ t x, (t, x) ∈ (new.map fun p => (p.1, vals.getD p.2 .any)) ++ keepFr s.fr old →
    t < s.n ∧ ((∃ i, i < n ∧ dstOf ops i = some t ∧ x = vals.getD i .any) ∨ ((∀ i, i < n → dstOf ops i ≠ some t) ∧ x = lk s.fr t)) := by
  intro t x hmem
  simp only [drB, Bool.and_eq_true] at hk
  rcases List.mem_append.1 hmem with h | h
  · simp only [List.mem_map] at h
    obtain ⟨p, hp, e⟩ := h
    have e1 : p.1 = t := congrArg Prod.fst e
    have e2 : vals.getD p.2 .any = x := congrArg Prod.snd e
    have := List.all_eq_true.1 hk.1 p hp
    simp only [Bool.and_eq_true, decide_eq_true_eq] at this
    subst e1; subst e2
    exact ⟨this.1.1, .inl ⟨p.2, this.1.2, this.2, rfl⟩⟩
  · obtain ⟨h1, rfl⟩ := keepFr_mem h
    have := List.all_eq_true.1 hk.2 t h1
    simp only [Bool.and_eq_true, decide_eq_true_eq] at this
    exact ⟨this.1, .inr ⟨fun i hi => by simpa using List.all_eq_true.1 this.2 i (List.mem_range.2 hi), rfl⟩⟩

/-- a drawn region in whose head a variable is made -/
theorem AWp.drA {id : Nat} {n : Nat} (i0 : Nat) {o0 : Oper} {T : TypeId} {z : List Value} (nds : List (List (Nat × Option Nat))) (new : List (Nat × Nat)) (old : List Nat) (vals : List AV) (hm : P.follows .mixedOrders = true) (hB : drawnB ops n s.n nds = true)
    (hk : drB ops n s.n s.fr new old = true) (ha : noAl ops n (some i0) = true) (hl : vals.length = n) (hp : PSpec P ops s nds vals) (h0 : ops[i0]? = some o0) (ho : o0.op = .alloc T) (hg : o0.guard = none) (hz : zc P T = some z) (hlt : i0 < n) (hv : vals.getD i0 .any = .ptr s.ob.length 0)
    (k : ARun P ops (ops.toList.drop n) { s with fr := (new.map fun p => (p.1, vals.getD p.2 .any)) ++ keepFr s.fr old, ob := s.ob ++ [.box T (z.map AV.val)] } (R .normal)) : AWp P (.region id ops true) s R := by
  subst hl
  refine AWp.drawn vals.length nds vals (some (i0, .box T (z.map AV.val))) _ hm hB (fun i o h => ?_) (fun i o h1 h2 h3 => hp i o h1 h2 ?_) (fun i o ob h h2 => ?_) (drFr hk) (by simpa [oball] using k)
  · cases h; exact hlt
  · have := List.all_eq_true.1 ha i (List.mem_range.2 h1)
    simp only [h2, Bool.or_eq_true, decide_eq_true_eq, Bool.not_eq_true'] at this
    rcases this with h | h
    · cases h; exact absurd rfl (h3 _)
    · exact h
  · cases h
    rw [h0] at h2
    cases h2
    rw [hv]
    exact ASpec.alloc (by simp only [gd, hg]) ho hz

/-- a drawn region: n: the length of its head; new: slots and the operations that write them; old: slots that are kept -/
theorem AWp.dr {id : Nat} {n : Nat} (nds : List (List (Nat × Option Nat))) (new : List (Nat × Nat)) (old : List Nat) (vals : List AV) (hm : P.follows .mixedOrders = true) (hB : drawnB ops n s.n nds = true)
    (hk : (drB ops n s.n s.fr new old && noAl ops n none) = true) (hl : vals.length = n) (hp : PSpec P ops s nds vals)
    (k : ARun P ops (ops.toList.drop n) { s with fr := (new.map fun p => (p.1, vals.getD p.2 .any)) ++ keepFr s.fr old } (R .normal)) : AWp P (.region id ops true) s R := by
  subst hl
  rw [Bool.and_eq_true] at hk
  refine AWp.drawn vals.length nds vals none _ hm hB (fun i o h => by cases h) (fun i o h1 h2 _ => hp i o h1 h2 ?_) (fun i o ob h => by cases h) (drFr hk.1) (by simpa [oball] using k)
  have := List.all_eq_true.1 hk.2 i (List.mem_range.2 h1)
  simp only [h2, Bool.or_eq_true, decide_eq_true_eq, Bool.not_eq_true'] at this
  rcases this with h | h
  · cases h
  · exact h

/-- the walk of a drawn region begins -/
theorem AWp.drS {id : Nat} {y : Code} (nds : List (List (Nat × Option Nat))) (h : ∀ G : Prop, (∀ vals, PSpec P ops s nds vals → AWp P (.region id ops true) s (thenQ (fun s' => AWp P y s' R) R) → G) → Dr P ops s nds [] G) : AWp P (.seq (.region id ops true) y) s R := by
  refine AWp.seq ?_
  exact h _ (fun vals hp hg => hg) (fun i o hi => by simp at hi)

theorem Dr.fin {id : Nat} {n : Nat} {G : Prop} {nds : List (List (Nat × Option Nat))} {vals : List AV} {y : Code} (new : List (Nat × Nat)) (old : List Nat) (hG : ∀ vals, PSpec P ops s nds vals → AWp P (.region id ops true) s (thenQ (fun s' => AWp P y s' R) R) → G)
    (hl : vals.length = n) (hm : P.follows .mixedOrders = true) (hB : drawnB ops n s.n nds = true) (hk : (drB ops n s.n s.fr new old && noAl ops n none) = true)
    (k : ∀ K : AS → Prop, (∀ s', AWp P y s' R → K s') → ARun2 P ops (Abs.srun P ops (ops.toList.drop n) { s with fr := (new.map fun p => (p.1, vals.getD p.2 .any)) ++ keepFr s.fr old }) K) : Dr P ops s nds vals G := by
  intro hp
  exact hG vals hp (AWp.dr nds new old vals hm hB hk hl hp (ARun.srun (k _ fun _ h => h)))

/-- the same, where the region is the last code -/
theorem AWp.drE {id : Nat} (nds : List (List (Nat × Option Nat))) (h : ∀ G : Prop, (∀ vals, PSpec P ops s nds vals → AWp P (.region id ops true) s R → G) → Dr P ops s nds [] G) : AWp P (.region id ops true) s R := by
  exact h _ (fun vals hp hg => hg) (fun i o hi => by simp at hi)

theorem Dr.finE {id : Nat} {n : Nat} {G : Prop} {nds : List (List (Nat × Option Nat))} {vals : List AV} (new : List (Nat × Nat)) (old : List Nat) (hG : ∀ vals, PSpec P ops s nds vals → AWp P (.region id ops true) s R → G)
    (hl : vals.length = n) (hm : P.follows .mixedOrders = true) (hB : drawnB ops n s.n nds = true) (hk : (drB ops n s.n s.fr new old && noAl ops n none) = true)
    (k : ∀ K : AS → Prop, (∀ s', R .normal s' → K s') → ARun2 P ops (Abs.srun P ops (ops.toList.drop n) { s with fr := (new.map fun p => (p.1, vals.getD p.2 .any)) ++ keepFr s.fr old }) K) : Dr P ops s nds vals G := by
  intro hp
  exact hG vals hp (AWp.dr nds new old vals hm hB hk hl hp (ARun.srun (k _ fun _ h => h)))

/-- an operation of the head that hangs on a guard -/
theorem NSpec.grd {g : Bool} {x : AV} (hg : gd ops s o = some g) (h : g = true → NSpec P ops o s x) : NSpec P ops o s (bif g then x else .val (.tuple #[])) := by
  cases g with
  | true => exact h rfl
  | false => exact NSpec.pass hg

theorem NSpec.callA {f : FuncId} {args : Array Operand} {ts : Array TypeId} {ys : List AV} {r : AV} (hp : PC P f ys r) (hg : gd ops s o = some true) (ho : o.op = .call { callee := .value (.func f), args := args, argTypes := ts }) (hc : callable P f = true)
    (hsub : HandL [] (args.toList.map s.ev) ys) : NSpec P ops o s r := NSpec.call hg ho hc hp (SubL.of hsub)
end

attribute [push_cast] bif_not bif_bif1 bif_bif2 bif_nbif1 bif_nbif2 bif_bool bif_same bif_ff bif_tt bif_ft bif_tf gdv_bif gdv keepFr posOf AV.hand AV.handL Ob.hand handOk handObs handObsOk List.contains_cons List.contains_nil
  List.append_assoc bif_t bif_f beq_true beq_false Bool.not_not List.getElem?_append_left List.nodup_cons List.nodup_nil obAfter rowIds setAll Ob.invalL AV.invalL frInvalL AV.ren AV.renL Ob.ren phi
end Go.Abs
