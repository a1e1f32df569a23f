/- The evaluation set, and the forms of the rules that a proof steps through code with. No condition. -/
import Derived.Test.YtmcedkcehcacpaaAbs5
namespace Go.Abs
set_option linter.unusedVariables false

section
variable {P : Program} {ops : Array Oper} {s s' : AS} {o : Oper} {rest : List Oper} {Q : AS → Prop} {x y c c' : Code} {R : Exit → AS → Prop} {id : Nat}

theorem AWp.regionS (h : ∀ K : AS → Prop, (∀ s', AWp P y s' R → K s') → ARun2 P ops (srun P ops ops.toList s) K) : AWp P (.seq (.region id ops false) y) s R :=
  AWp.seq (AWp.region (ARun.srun (h _ fun _ h => h)))

theorem AWp.regionE (h : ∀ K : AS → Prop, (∀ s', R .normal s' → K s') → ARun2 P ops (srun P ops ops.toList s) K) : AWp P (.region id ops false) s R :=
  AWp.region (ARun.srun (h _ fun _ h => h))

theorem AWp.condS {co : Operand} {t : Bool} (hc : s.ev co = .val (.bool t)) (ht : t = true → AWp P x s (thenQ (fun s' => AWp P y s' R) R)) (hf : t = false → AWp P c s (thenQ (fun s' => AWp P y s' R) R)) :
    AWp P (.seq (.cond co x c) y) s R := AWp.seq (AWp.cond hc ht hf)

/-- the rest behind the name K -/
theorem AWp.seqK (h : ∀ K : AS → Prop, (∀ s', AWp P y s' R → K s') → AWp P x s (thenQ K R)) : AWp P (.seq x y) s R :=
  AWp.seq (h _ fun _ h => h)

/-- what is kept, slot by slot and object by object -/
theorem Le.to {S : AS} (n : Nat) (h1 : S.n = s.n ∧ S.m = s.m ∧ S.df = s.df ∧ S.yl = s.yl ∧ S.tr = s.tr ∧ S.go = s.go) (hob : s.ob.take n = S.ob) (hmn : s.m ≤ n) (hk : keeps s.fr S.fr) (hf : frIds (· < n) S.fr = true)
    (ho : S.ob.all (obIds (· < n)) = true) : Le s S := by
  obtain ⟨n', m', fr', ob', df', yl', tr', go'⟩ := S
  obtain ⟨rfl, rfl, rfl, rfl, rfl, rfl⟩ := h1
  simp only at hob
  subst hob
  exact (Le.keep hk).trans (Le.cut n hmn hf ho)

/-- a loop: a state for each stage -/
theorem AWp.loopS {α : Type} (S : α → AS) (p : α → Prop) (μ : α → Nat) (x : α) (h0 : Le s (S x)) (hp : p x)
    (round : ∀ x, p x → AWp P c (S x) (thenQ (fun s' => ∃ y, p y ∧ μ y < μ x ∧ Le s' (S y)) R)) : AWp P (.loop c) s R := by
  refine AWp.weak h0 ?_
  refine AWp.loop (fun x s => p x ∧ Le s (S x)) μ x ⟨hp, Le.refl _⟩ ?_
  rintro x s' ⟨hx, hl⟩
  refine AWp.weak hl ((round x hx).mono ?_)
  intro e s'' q
  cases e with
  | normal => obtain ⟨y, h1, h2, h3⟩ := q; exact ⟨y, ⟨h1, h3⟩, h2⟩
  | _ => exact q

/-- both ways of a guard -/
theorem ARun2.cont {g : Bool} {X : Option AS} {r : List Oper} (ht : g = true → ARun2 P ops (Abs.cont P ops (some true) X o r s) Q) (hf : g = false → ARun2 P ops (Abs.cont P ops (some false) X o r s) Q) :
    ARun2 P ops (Abs.cont P ops (some g) X o r s) Q := by
  cases g with
  | true => exact ht rfl
  | false => exact hf rfl

/-- a region whose paths meet again in state S -/
theorem AWp.regionJ (S : AS) (h : ∀ K : AS → Prop, (∀ s', Le s' S → K s') → ARun2 P ops (srun P ops ops.toList s) K) (k : AWp P y S R) : AWp P (.seq (.region id ops false) y) s R :=
  AWp.seq (AWp.region (ARun.srun (h _ fun _ hl => AWp.weak hl k)))

theorem ARun2.go {l : List Oper} (h : ARun2 P ops (srun P ops l s) Q) : ARun P ops l s Q := ARun.srun h
end

theorem bif_t {α : Type} (x y : α) : (bif true then x else y) = x := rfl
theorem bif_f {α : Type} (x y : α) : (bif false then x else y) = y := rfl

theorem nilIs_1 (t : TypeId) (x : AV) : nilIs .ifc (.ifc t x) = some false := rfl
theorem nilIs_2 : nilIs .ifc (.val .nilIface) = some true := rfl
theorem nilIs_3 (k o : Nat) : nilIs .ptr (.ptr k o) = some false := rfl
theorem nilIs_4 (k o : Nat) : nilIs .ptr (.ept k o) = some false := rfl
theorem nilIs_5 (b : Bool) (x : AV) : nilIs .ptr (.ref b x) = some false := rfl
theorem nilIs_6 : nilIs .ptr (.val (.pointer none)) = some true := rfl
theorem nilIs_7 (b : Bool) (n : Nat) (x : AV) (xs : List AV) : nilIs .slc (.sl b n (x :: xs)) = some false := rfl
theorem nilIs_8 (m n : Nat) : nilIs .slc (.val (.slice none m n)) = some true := rfl
theorem nilIs_9 (f : Fn) (l m : List AV) : nilIs .fnc (.fn f l m) = some false := rfl
theorem nilIs_10 : nilIs .fnc (.val .nilFunc) = some true := rfl
theorem nilIs_11 (b : Bool) (n : Nat) : nilIs .slc (.sl b n []) = none := rfl
attribute [push_cast] nilIs_1 nilIs_2 nilIs_3 nilIs_4 nilIs_5 nilIs_6 nilIs_7 nilIs_8 nilIs_9 nilIs_10 nilIs_11
attribute [push_cast] srun_nil srun_cons cont_t cont_tn cont_f cont_n gd sstep sval AS.put AS.ev lk del binV frOf part' splice AV.cells AV.flat AV.one tkLen nilLit afill cvInt AS.lit resAV resAVs resOf SubL thenQ blockQ bodyQ keeps frIds obIds
  AV.idsOk AV.idsOkL Value.oneCell'
attribute [push_cast] Option.map_some Option.map_none Option.bind_some Option.bind_none List.getElem?_cons_zero List.getElem?_cons_succ List.getElem?_nil List.map_cons List.map_nil List.length_cons List.length_nil
  List.take_succ_cons List.take_zero List.take_nil List.drop_succ_cons List.drop_zero List.drop_nil List.cons_append List.nil_append List.append_nil List.set_cons_zero List.set_cons_succ List.all_cons List.all_nil
  List.getElem?_toArray List.toList_toArray and_true true_and and_false false_and Bool.and_true Bool.true_and Bool.and_false Bool.false_and Bool.not_true Bool.not_false if_true if_false
  List.mem_cons forall_eq_or_imp List.not_mem_nil false_imp_iff implies_true forall_const beq_self_eq_true Bool.true_beq Bool.false_beq
end Go.Abs
