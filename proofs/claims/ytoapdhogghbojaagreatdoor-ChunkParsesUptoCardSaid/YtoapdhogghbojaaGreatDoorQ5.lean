/- A drawn head that makes a variable (at any time) and a row of the call's own. No condition. -/
import Derived.Test.YtoapdhogghbojaaGreatDoorQ4
import Derived.WalkKit
import Derived.ProofKit
import Derived.OpenShut
import Derived.JoinedCond
import Derived.Carry
import Derived.ChangeSlices
import Derived.Test.YtoapdhogghbojaaGreatDoorRows
import Derived.Deep.Strs
import Derived.LaidLaws
import Derived.LaidHandle
import Derived.Stop.Joined
import Derived.Test.YtoapdhogghbojaaGreatDoorCards
import Derived.Test.YtoapdhogghbojaaGreatDoorTie
import Derived.Deep.DeepHandedRow
namespace Go.Abs
set_option linter.unusedVariables false
set_option linter.unusedSectionVars false
set_option linter.unusedSimpArgs false
set_option linter.unnecessarySimpa false
section
variable {P : Program} {ops : Array Oper} {E : Env} {s s' : AS} {ρ ρ' : List Value} {B B' : Nat → Prop} {a a' : Act} {w w' : World} {o : Oper} {rest : List Oper} {Q : AS → Prop} {R : Exit → AS → Prop} {nds : List (List (Nat × Option Nat))} {vals : List AV} {G : Prop}
def slotO (T : TypeId) (z : List Value) (b : Bool) : Ob := match b with | true => .box T (z.map AV.val) | false => .gone
theorem Ob.inval_ids {k : Nat} {o : Ob} (h : obIds (· != k) o = true) : Ob.inval k o = o := by
  cases o with
  | box T cs =>
    simp only [Ob.inval, Ob.box.injEq, true_and]
    simp only [obIds] at h
    refine (List.map_congr_left (g := id) fun x hx => ?_).trans (List.map_id _)
    unfold AV.inval
    rw [if_pos ((AV.idsOkL_iff _ _).1 h x hx)]; rfl
  | row T sz xs =>
    simp only [obIds] at h
    simp only [Ob.inval]
    rw [if_pos h]
  | mp es => rfl
  | gone => rfl
theorem RJ.gone (h : RJ E s s.ob ρ B w) : RJ E s (s.ob ++ [.gone]) (ρ ++ [undef]) B w := by
  have h1 : RW E (s.ob ++ [.gone]) (ρ ++ [undef]) B w := h.1.new (same_refl w) trivial (by intro b hb; cases hb)
  exact ⟨h1, h.2.chg ⟨rfl, rfl, rfl, Nat.le_refl _, fun _ _ _ => rfl, Dof.new h.1.len (n := w.heap.size) (by intro b hb; cases hb), fun _ h => h, fun _ h => .inl h⟩ h1.bd⟩
theorem RJ.fill {T : TypeId} {z : List Value} {ob X : List Ob} {k : Nat} (h : RJ E s (ob ++ [slotO T z false] ++ X) ρ B w) (hk : ob.length = k) (hm : E.ρ0.length ≤ k ∧ E.pp.length ≤ k) (hone : ∀ x ∈ z.map AV.val, x.one = true) (hob : ob.all (obIds (· != k)) = true) (hX : X.all (obIds (· != k)) = true) :
    RJ E s (ob ++ [slotO T z true] ++ X) (ρ.set k (.pointer (some ⟨w.heap.size, 0, none⟩))) B (w.alloc (.cells z.toArray T)) := by
  obtain ⟨h, hj⟩ := h
  subst hk
  have hs := same_alloc w (.cells z.toArray T)
  have hBw : ∀ b, B b → (w.alloc (.cells z.toArray T)).heap[b]? = w.heap[b]? := fun b hb => hs.block b (h.blt b hb)
  have hsz : (w.alloc (.cells z.toArray T)).heap.size = w.heap.size + 1 := by simp
  have hlen := h.len
  have hkl : ob.length < ρ.length := by rw [hlen]; simp
  have tk : ∀ {i : Nat} {o : Ob}, (ob ++ [slotO T z true] ++ X)[i]? = some o → (i = ob.length ∧ o = slotO T z true) ∨ (i ≠ ob.length ∧ (ob ++ [slotO T z false] ++ X)[i]? = some o ∧ obIds (· != ob.length) o = true) := by
    intro i o hi
    rw [List.append_assoc] at hi
    rw [List.append_assoc]
    rcases Nat.lt_trichotomy i ob.length with hlt | rfl | hgt
    · rw [List.getElem?_append_left hlt] at hi
      refine .inr ⟨Nat.ne_of_lt hlt, by rw [List.getElem?_append_left hlt]; exact hi, ?_⟩
      exact List.all_eq_true.1 hob o (List.mem_of_getElem? hi)
    · rw [List.getElem?_append_right (Nat.le_refl _), Nat.sub_self] at hi
      exact .inl ⟨rfl, (by simpa using hi.symm)⟩
    · rw [List.getElem?_append_right (Nat.le_of_lt hgt)] at hi
      have e : i - ob.length = (i - ob.length - 1) + 1 := by omega
      rw [e] at hi
      refine .inr ⟨Nat.ne_of_gt hgt, ?_, ?_⟩
      · rw [List.getElem?_append_right (Nat.le_of_lt hgt), e]; simpa using hi
      · have hi' : X[i - ob.length - 1]? = some o := by simpa using hi
        exact List.all_eq_true.1 hX o (List.mem_of_getElem? hi')
  have hne : ∀ {i : Nat} {v u : Value}, i ≠ ob.length → (ρ.set ob.length v)[i]? = some u → ρ[i]? = some u := fun hi h => by rw [List.getElem?_set_ne (Ne.symm hi)] at h; exact h
  have hself : ∀ {v u : Value}, (ρ.set ob.length v)[ob.length]? = some u → u = v := fun h => by rw [List.getElem?_set_self hkl] at h; exact (Option.some.inj h).symm
  have hrw : RW E (ob ++ [slotO T z true] ++ X) (ρ.set ob.length (.pointer (some ⟨w.heap.size, 0, none⟩))) B (w.alloc (.cells z.toArray T)) := by
    refine { ep := h.ep, os := hs.os.trans h.os, tape := hs.tape.trans h.tape, output := hs.output.trans h.output, size := Nat.le_trans h.size hs.size,
             block := fun k h1 h2 => (hs.block k (Nat.lt_of_lt_of_le h1 h.size)).trans (h.block k h1 h2), pre := ?_, bsub := h.bsub, bnew := h.bnew,
             blt := fun b hb => Nat.lt_of_lt_of_le (h.blt b hb) hs.size, len := by simpa using hlen, obs := ?_, dis := ?_, prv := ?_ }
    · intro j v h1 h2
      have hj : j < ob.length := by
        rcases h1 with h1 | h1
        · have := get_lt h1; omega
        · have := get_lt h1; omega
      rw [List.getElem?_set_ne (by omega)]; exact h.pre j v h1 h2
    · intro i o hi
      rcases tk hi with ⟨rfl, rfl⟩ | ⟨h1, h2, h3⟩
      · refine ⟨w.heap.size, z, (0, 0), List.getElem?_set_self hkl, alloc_get _ _, .inl (by simp), RelL.vals z, fun c hc => AV.oc_of (hone c hc)⟩
      · have := RO.inval (k := ob.length) (v' := .pointer (some ⟨w.heap.size, 0, none⟩)) hBw h1 (fun u b hl hu hbu => hs.block b (h.prv i o u b h2 hl hu hbu).2.1) (h.obs i o h2)
        rw [Ob.inval_ids h3] at this
        exact this
    · intro i j o1 o2 u1 u2 b hij h1 l1 h2 l2 r1 r2 b1 b2
      rcases tk h1 with ⟨rfl, rfl⟩ | ⟨p1, p2, p3⟩ <;> rcases tk h2 with ⟨rfl, rfl⟩ | ⟨q1, q2, q3⟩
      · exact hij rfl
      · have e1 := hself r1
        subst e1
        have := (h.prv j o2 u2 b q2 l2 (hne q1 r2) b2).2.1
        simp only [blk, Option.some.injEq] at b1
        omega
      · have e1 := hself r2
        subst e1
        have := (h.prv i o1 u1 b p2 l1 (hne p1 r1) b1).2.1
        simp only [blk, Option.some.injEq] at b2
        omega
      · exact h.dis i j o1 o2 u1 u2 b hij p2 l1 q2 l2 (hne p1 r1) (hne q1 r2) b1 b2
    · intro i o u b hi hl hu hbu
      rcases tk hi with ⟨rfl, rfl⟩ | ⟨p1, p2, p3⟩
      · have e1 := hself hu
        subst e1
        simp only [blk, Option.some.injEq] at hbu
        subst hbu
        exact ⟨fun hB => by have := h.blt _ hB; omega, by omega, .inl h.size⟩
      · obtain ⟨a1, a2, a3⟩ := h.prv i o u b p2 hl (hne p1 hu) hbu
        exact ⟨a1, Nat.lt_of_lt_of_le a2 hs.size, a3⟩
  refine ⟨hrw, hj.chg ⟨hs.os, hs.tape, hs.output, hs.size, fun b hb _ => hs.block b hb, ?_, fun _ h => h, fun _ h => .inl h⟩ hrw.bd⟩
  rintro b ⟨i, o, u, h1, h2, h3, h4⟩
  rcases tk h1 with ⟨rfl, rfl⟩ | ⟨p1, p2, p3⟩
  · have e1 := hself h3
    subst e1
    simp only [blk, Option.some.injEq] at h4
    exact .inr (Nat.le_of_eq h4)
  · exact .inl ⟨i, o, u, p2, h2, hne p1 h3, h4⟩
theorem AS.ev_ob (s : AS) (X : List Ob) : AS.ev { s with ob := X } = AS.ev s := by
  funext y
  cases y with
  | const v => cases v <;> rfl
  | _ => rfl
def CLA (P : Program) (ops : Array Oper) (s : AS) (T : TypeId) (z : List Value) (nds1 : List (List (Nat × Option Nat))) (vals : List AV) : List Nat → List Ob → List Ob → Prop
  | [], X, XL => X = XL
  | i :: r, X, XL => ∃ X', X'.all (obIds (· != s.ob.length)) = true ∧ (∀ bb o, ops[i]? = some o → CSpec P ops o { s with fr := needFr s.fr vals (nds1.getD i []), ob := s.ob ++ [slotO T z bb] } X X' (vals.getD i .any)) ∧ CLA P ops s T z nds1 vals r X' XL
theorem CLA.obs {T : TypeId} {z : List Value} {nds1 : List (List (Nat × Option Nat))} : ∀ {ci : List Nat} {X XL : List Ob}, X.all (obIds (· != s.ob.length)) = true → CLA P ops s T z nds1 vals ci X XL → ∃ obs : Nat → List Ob, obs 0 = X ∧ obs ci.length = XL ∧ (∀ k, (obs k).all (obIds (· != s.ob.length)) = true) ∧
    ∀ bb l o, l < ci.length → ops[ci.getD l 0]? = some o → CSpec P ops o { s with fr := needFr s.fr vals (nds1.getD (ci.getD l 0) []), ob := s.ob ++ [slotO T z bb] } (obs l) (obs (l + 1)) (vals.getD (ci.getD l 0) .any)
  | [], X, XL, hX, h => ⟨fun _ => X, rfl, h, fun _ => hX, fun bb l o hl => by simp at hl⟩
  | i :: r, X, XL, hX, ⟨X', h0, h1, h2⟩ => by
    obtain ⟨obs, a1, a2, a4, a3⟩ := CLA.obs h0 h2
    refine ⟨fun l => match l with | 0 => X | l + 1 => obs l, rfl, a2, fun k => ?_, fun bb l o hl ho => ?_⟩
    · cases k with
      | zero => exact hX
      | succ k => exact a4 k
    · cases l with
      | zero =>
        have := h1 bb o (by simpa using ho)
        simp only [List.getD_cons_zero]
        rw [a1]; exact this
      | succ l =>
        simp only [List.getD_cons_succ] at ho ⊢
        exact a3 bb l o (by simpa using hl) ho
section cl
variable {T : TypeId} {z : List Value} {nds1 : List (List (Nat × Option Nat))} {X XL : List Ob} {i : Nat} {r : List Nat}
theorem CLA.nil : CLA P ops s T z nds1 vals [] X X := rfl
end cl
def chIds (p : Nat → Bool) (ci : List Nat) : Nat → List AV → Bool
  | _, [] => true
  | i, x :: r => (bif ciB ci i then x.idsOk p else true) && chIds p ci (i + 1) r
attribute [push_cast] chIds slotO cond_true cond_false
end
set_option linter.unusedVariables false
set_option linter.unusedSectionVars false
set_option linter.unusedSimpArgs false
section
variable {P : Program} {ops : Array Oper} {E : Env} {s s' : AS} {ρ σ : List Value} {B : Nat → Prop} {a : Act} {w w' : World} {o : Oper} {rest : List Oper} {Q : AS → Prop} {R : Exit → AS → Prop} {nds : List (List (Nat × Option Nat))} {vals : List AV} {G : Prop}
theorem NSpec.callV {f : FuncId} {g : Operand} {cap : List AV} {args : Array Operand} {ts : Array TypeId} {ys : List AV} {r : AV} (hgd : gd ops s o = some true) (ho : o.op = .call { callee := .value g, args := args, argTypes := ts }) (hg : s.ev g = .fn (.func f) [] cap) (hc : callable P f = true)
    (hp : PC P f ys r) (hsub : SubL (args.toList.map s.ev ++ cap) ys) : NSpec P ops o s r := by
  intro E hE ρ B a w ob hs K Q' hK
  rw [if_pos (gd_wanted (s := { s with ob := s.ob ++ ob }) hgd hs)]
  have hev : AS.ev { s with ob := s.ob ++ ob } = s.ev := funext fun y => by cases y <;> rfl
  have hfn := hs.ev g
  rw [hev, hg] at hfn
  obtain ⟨v, hv⟩ : ∃ v, a.eval g = v := ⟨_, rfl⟩
  rw [hv] at hfn
  cases hfn with
  | fn r1 r2 =>
    rename_i cs ds
    cases r1
    have he : (execOp a.eval o).run P w = .ok (.enter f (args.map a.eval ++ ds.toArray)) w := by
      simp only [execOp, ho]; exact run_callV hc (by simpa using hv)
    have hrel0 : RelL w B E.bs ρ (args.toList.map s.ev) (args.toList.map a.eval) := by have := RelL.map_ev hs args.toList; rwa [hev] at this
    have hrel : RelL w B E.bs ρ (args.toList.map s.ev ++ cap) (args.toList.map a.eval ++ ds) := hrel0.append r2
    refine owp_enter he ?_
    have hargs : args.map a.eval ++ ds.toArray = (args.toList.map a.eval ++ ds).toArray := by apply Array.ext'; simp
    rw [hargs]
    refine hp.2 E.bs w [] B _ (hE.glb.call hs.rw_ (fun _ h => h) (by intro v hv; simp at hv)) hs.rw_.callee (hsub.rel (Nat.le_refl _) hrel) _ ?_
    rintro r' v τ' ρ' B' w' ⟨rfl, rfl⟩ hw hv
    have hρ : ρ' = [] := by have := hw.len; simpa using this
    subst hρ
    obtain ⟨hb, hsame⟩ := hs.rw_.back hw
    refine ⟨v, rfl, hK _ _ B' (hs.back hw).rj hw.bsub (fun b h => hsame.block b (hs.rw_.blt b h)) ?_⟩
    refine (hv.mono (fun _ h => h) (fun _ _ => rfl) (Nat.le_refl _) (fun _ _ h => h)).ids (p := fun _ => false) ?_ hp.1
    intro _ _ h; simp at h
theorem Dr.callV {f : FuncId} {g : Operand} {cap : List AV} {args : Array Operand} {ts : Array TypeId} {ys : List AV} {r : AV} (hp : PC P f ys r) (k : Dr P ops s nds (vals ++ [r]) G) (hn : ndsB nds = true := by first | rfl | decide) (hol : ops[vals.length]? = some o := by exact Go.Abs.evT)
    (ho : o.op = .call { callee := .value g, args := args, argTypes := ts } := by rfl) (hgd : gd ops { s with fr := needFr s.fr vals (nds.getD vals.length []) } o = some true := by exact Go.Abs.evT) (hg : AS.ev { s with fr := needFr s.fr vals (nds.getD vals.length []) } g = .fn (.func f) [] cap := by exact Go.Abs.evT) (hc : callable P f = true := by first | exact Go.Abs.evT | assumption)
    (hsub : HandL [] (args.toList.map (AS.ev { s with fr := needFr s.fr vals (nds.getD vals.length []) }) ++ cap) ys := by
      exact Go.Abs.evH) : Dr P ops s nds vals G :=
  Dr.step hn hol (NSpec.callV (s := { s with fr := needFr s.fr vals (nds.getD vals.length []) }) hgd ho hg hc hp (SubL.of hsub)) k
end
set_option linter.unusedVariables false
set_option linter.unusedSectionVars false
set_option linter.unusedSimpArgs false
set_option linter.unnecessarySimpa false
section
variable {P : Program} {ops : Array Oper} {E : Env} {s s' : AS} {ρ σ : List Value} {B : Nat → Prop} {a : Act} {w w' : World} {o : Oper} {rest : List Oper} {Q : AS → Prop} {R : Exit → AS → Prop}
end
set_option linter.unusedVariables false
set_option linter.unusedSectionVars false
set_option linter.unusedSimpArgs false
section
variable {P : Program} {ops : Array Oper} {E : Env} {s s' : AS} {ρ σ : List Value} {B : Nat → Prop} {a : Act} {w w' : World} {o : Oper} {rest : List Oper} {Q : AS → Prop} {R : Exit → AS → Prop}
end
set_option linter.unusedVariables false
set_option linter.unusedSectionVars false
set_option linter.unusedSimpArgs false
section
variable {P : Program} {ops : Array Oper} {E : Env} {s s' : AS} {ρ : List Value} {B : Nat → Prop} {a : Act} {w w' : World} {o : Oper} {rest : List Oper} {Q : AS → Prop} {R : Exit → AS → Prop} {nds : List (List (Nat × Option Nat))} {vals : List AV} {G : Prop}
end
set_option linter.unusedVariables false
set_option linter.unusedSectionVars false
set_option linter.unusedSimpArgs false
section
variable {P : Program} {ops : Array Oper} {E : Env} {s s' : AS} {ρ : List Value} {B : Nat → Prop} {a : Act} {w w' : World} {o : Oper} {rest : List Oper} {Q : AS → Prop} {R : Exit → AS → Prop}
end
set_option linter.unusedVariables false
set_option linter.unusedSectionVars false
set_option linter.unusedSimpArgs false
section
variable {P : Program} {ops : Array Oper} {E : Env} {s s' : AS} {o : Oper} {Q : AS → Prop}
theorem wpOpIn_mono2 {F : Fence} {n : Nat} {i : Nat} {K K' : Act → World → Prop} {Q Q' : Exit → Act → World → Prop} {a : Act} {w : World} (h : ∀ a w, K a w → K' a w) (hq : ∀ e a w, e ≠ .normal → Q e a w → Q' e a w)
    (hh : wpOpIn F n P ops Q i K a w) : wpOpIn F n P ops Q' i K' a w := by
  unfold wpOpIn at *
  split
  · rename_i hn; simp only [hn] at hh; exact h _ _ hh
  · rename_i o ho
    simp only [ho] at hh
    split
    · rename_i hw; simp only [hw, if_true] at hh; exact wpIn_mono2 h hq hh
    · rename_i hw; simp only [hw] at hh; exact ⟨hh.1, h _ _ hh.2⟩
theorem wpAnyIn_monoQ {F : Fence} {n : Nat} {md : Region.Mode} {Q Q' : Exit → Act → World → Prop} (hq : ∀ e a w, Q e a w → Q' e a w) : ∀ (fuel : Nat) (listed : Array Bool) (a : Act) (w : World),
    wpAnyIn F n P md ops Q fuel listed a w → wpAnyIn F n P md ops Q' fuel listed a w
  | 0, _, _, _, h => ⟨h.1, hq _ _ _ h.2⟩
  | fuel + 1, listed, a, w, h => ⟨fun e => hq _ _ _ (h.1 e), fun i hi => wpOpIn_mono2 (fun a w h => wpAnyIn_monoQ hq fuel _ a w h) (fun e a w _ h => hq e a w h) (h.2 i hi)⟩
def placeB (P : Program) (ops : Array Oper) (s : AS) (j : Nat) : Bool :=
  match ops[j]? with
  | some o => o.guard.isNone && match o.op with
    | .fieldAddr T x f => (fld P T f).isSome && (match s.ev x with | .ptr _ _ => true | _ => false)
    | .move _ => true
    | .binOp op _ x y _ => match s.ev x, s.ev y with
      | .val a, .val b => (binV op (.val a) (.val b)).isSome
      | _, _ => false
    | _ => false
  | none => false
theorem placeB.spec {j : Nat} (h : placeB P ops s j = true) {ρ : List Value} {B : Nat → Prop} {a : Act} {w : World} (hs : RS E s ρ B a w) : ∃ o v, ops[j]? = some o ∧ YieldsFenced P ops o v a := by
  unfold placeB at h
  cases ho : ops[j]? with
  | none => simp [ho] at h
  | some o =>
    simp only [ho, Bool.and_eq_true, Option.isNone_iff_eq_none] at h
    obtain ⟨h1, h2⟩ := h
    have hw : Region.wanted o (yielded ops a.tmps) = true := by unfold Region.wanted; rw [h1]
    split at h2
    · rename_i T x f hop
      simp only [Bool.and_eq_true] at h2
      obtain ⟨h2, h3⟩ := h2
      obtain ⟨⟨o', k'⟩, hf⟩ := Option.isSome_iff_exists.1 h2
      split at h3
      · rename_i k off e
        have hy := hs.ev x
        rw [e] at hy
        generalize hu : a.eval x = u at hy
        cases hy with
        | ptr hp =>
          rename_i b
          refine ⟨o, .pointer (some ⟨b, off + o', none⟩), rfl, .inl ⟨hw, fun w' => ?_⟩, fun w' => by unfold Oper.about; rw [hop]⟩
          simp only [execOp, hop, hu]
          exact val_run (run_fieldAt hf)
      · cases h3
    · rename_i x hop
      refine ⟨o, a.eval x, rfl, .inl ⟨hw, fun w' => ?_⟩, fun w' => by unfold Oper.about; rw [hop]⟩
      simp [execOp, hop]
    · rename_i op T x y T2 hop
      split at h2
      · rename_i u v e1 e2
        obtain ⟨z, hz⟩ := Option.isSome_iff_exists.1 h2
        have hx : a.eval x = u := (e1 ▸ hs.ev x : Rel w B E.bs ρ (.val u) (a.eval x)).val_eq
        have hy : a.eval y = v := (e2 ▸ hs.ev y : Rel w B E.bs ρ (.val v) (a.eval y)).val_eq
        obtain ⟨r, _, hr, _⟩ := binV_run (P := P) (w := w) (B := B) (E := E) (ρ := ρ) (T := T) hz (.val u) (.val v)
        refine ⟨o, r, rfl, .inl ⟨hw, fun w' => ?_⟩, fun w' => by unfold Oper.about; rw [hop]⟩
        obtain ⟨r', h3, h4, h5⟩ := binV_run (P := P) (w := w') (B := B) (E := E) (ρ := ρ) (T := T) hz (.val u) (.val v)
        have hrr : r' = r := by rw [hr] at h4; injection h4 with h4; exact h4.symm
        subst hrr
        simp only [execOp, hop, hx, hy]
        exact val_run (by simp only [Sem.run_bind, h5 x y, Result.andThen_ok]; exact h3)
      · cases h2
    · cases h2
theorem yields_wpOpIn {F : Fence} {n : Nat} {Q : Exit → Act → World → Prop} {i : Nat} {o : Oper} {v : Value} {a : Act} (hd : ∀ c, o.op ≠ .defer c) (hi : ops[i]? = some o) (hy : YieldsFenced P ops o v a)
    {K : Act → World → Prop} {w : World} (h : K (a.put o.dst v) w) : wpOpIn F n P ops Q i K a w := by
  unfold wpOpIn
  simp only [hi]
  have hab : ∀ f, o.about P w a.eval = some f → F.fn f := fun f hf => by rw [hy.2 w] at hf; cases hf
  rcases hy.1 with ⟨hw, hv⟩ | ⟨hw, rfl⟩
  · simp only [hw, if_true, Oper.wpIn, Oper.semAt_eq _ _ _ hd, hv w, Oper.uponIn]; exact ⟨hab, h⟩
  · simp only [hw, Bool.false_eq_true, if_false]; exact ⟨hab, h⟩
theorem wpOpIn_putR {F : Fence} {n : Nat} {Q : Exit → Act → World → Prop} {j : Nat} {oi oj : Oper} {v : Value} (hdj : ∀ c, oj.op ≠ .defer c) (hj : ops[j]? = some oj) (hap : oi.apart ops oj = true)
    (hsi : ∀ cs b, oi.op ≠ .select cs b) (hsj : ∀ cs b, oj.op ≠ .select cs b)
    (hQ : ∀ c a w, Q (.panic c) (a.put oi.dst v) w → Q (.panic c) a w) {K : Act → World → Prop} {a : Act} {w : World}
    (hy : YieldsFenced P ops oi v a) (h : wpOpIn F n P ops Q j K (a.put oi.dst v) w) :
    wpOpIn F n P ops Q j (fun a' w' => YieldsFenced P ops oi v a' ∧ K (a'.put oi.dst v) w') a w := by
  obtain ⟨h1, h2, h3⟩ := Oper.apart_spec hap
  have keep : ∀ (a : Act), YieldsFenced P ops oi v a → ∀ u, YieldsFenced P ops oi v (a.put oj.dst u) := fun a hy u =>
    hy.of_same (execOp_put oi hsi a oj.dst u h3) (wanted_put oi a oj.dst u h3) (fun w => about_put oi w a oj.dst u h3)
  have keepD : ∀ d, YieldsFenced P ops oi v { a with defers := d :: a.defers } := fun d => hy.of_same rfl rfl (fun _ => rfl)
  unfold wpOpIn at *
  simp only [hj] at *
  rw [wanted_put oj a oi.dst v h1, about_put oj w a oi.dst v h1] at h
  split
  · rename_i hw
    simp only [hw, if_true] at h
    unfold Oper.wpIn at *
    rw [about_put oj w a oi.dst v h1] at h
    refine ⟨h.1, ?_⟩
    have h := h.2
    rw [Oper.semAt_eq _ _ _ hdj, execOp_put oj hsj a oi.dst v h1] at h
    rw [Oper.semAt_eq _ _ _ hdj]
    generalize (execOp a.eval oj).run P w = r at *
    cases r with
    | ok x w' =>
      cases x <;> simp only [Oper.uponIn] at h ⊢
      case value u => exact ⟨keep a hy u, by rw [← Act.put_comm a v u h2]; exact h⟩
      case skip => exact ⟨keep a hy _, by rw [← Act.put_comm a v undef h2]; exact h⟩
      case defer d =>
        refine ⟨keep _ (keepD d) _, ?_⟩
        rw [← Act.put_comm _ v undef h2, ← Act.put_defers]
        exact h
      case enter f args =>
        refine ⟨h.1, CallsIn.mono h.2 fun e w'' he => ?_⟩
        cases e with
        | returned u => exact ⟨keep a hy u, by rw [← Act.put_comm a v u h2]; exact he⟩
        | panicked c => exact hQ _ _ _ he
        | outgrown => exact he
      case row row args => exact ⟨h.1, RowsIn.mono h.2 fun u w'' he => ⟨keep a hy u, by rw [← Act.put_comm a v u h2]; exact he⟩⟩
      case round l f tmps assign body =>
        refine ⟨h.1, RoundIn.mono h.2 fun e w'' he => ?_⟩
        cases e with
        | returned u => exact ⟨keep a hy u, by rw [← Act.put_comm a v u h2]; exact he⟩
        | panicked c => exact hQ _ _ _ he
        | outgrown => exact he
    | halt x w' =>
      cases x <;> simp only [Oper.uponIn] at h ⊢
      case panic u => exact hQ _ _ _ h
  · rename_i hw
    simp only [hw] at h
    exact ⟨h.1, keep a hy _, by rw [← Act.put_comm a v undef h2]; exact h.2⟩
theorem wpAnyIn_firstR {F : Fence} {n : Nat} {md : Region.Mode} {Q : Exit → Act → World → Prop} {i : Nat} {oi : Oper} {v : Value} (hdf : ∀ (j : Nat) (o : Oper) c, ops[j]? = some o → o.op ≠ .defer c) (hi : ops[i]? = some oi) (hsel : ∀ (j : Nat) (o : Oper) cs b, ops[j]? = some o → o.op ≠ .select cs b)
    (hQ : ∀ c a w, Q (.panic c) (a.put oi.dst v) w → Q (.panic c) a w) :
    ∀ (fuel : Nat) (listed : Array Bool) (a : Act) (w : World),
      (∀ j oj, ops[j]? = some oj → j ≠ i → listed.getD j true = false → (∀ e ∈ oj.after, Region.binds md e = true → e.on ≠ i) → oi.apart ops oj = true) →
      i ∈ Region.ready md ops listed → YieldsFenced P ops oi v a →
      wpAnyIn F n P md ops Q fuel (listed.setIfInBounds i true) (a.put oi.dst v) w → wpAnyIn F n P md ops Q (fuel + 1) listed a w := by
  intro fuel
  induction fuel with
  | zero =>
    intro listed a w _ hr hy H
    refine ⟨fun h => (by rw [h] at hr; cases hr), fun j hj => ?_⟩
    by_cases hji : j = i
    · subst hji; exact yields_wpOpIn (fun c => hdf _ _ c hi) hi hy H
    · have := ready_mono hj hji
      rw [H.1] at this
      cases this
  | succ fuel ih =>
    intro listed a w hfree hr hy H
    refine ⟨fun h => (by rw [h] at hr; cases hr), fun j hj => ?_⟩
    by_cases hji : j = i
    · subst hji; exact yields_wpOpIn (fun c => hdf _ _ c hi) hi hy H
    · have h1 := H.2 j (ready_mono hj hji)
      obtain ⟨hjun, oj, hoj, hall⟩ := mem_ready.1 hj
      have hnot : ∀ e ∈ oj.after, Region.binds md e = true → e.on ≠ i := fun e he hb heq => by
        have h1 := hall e he hb
        have h0 := (mem_ready.1 hr).1
        rw [heq] at h1
        rcases Nat.lt_or_ge i listed.size with h' | h'
        · simp [h'] at h0 h1; rw [h0] at h1; cases h1
        · simp [Array.getElem?_eq_none h'] at h1
      have h2 := wpOpIn_putR (fun c => hdf _ _ c hoj) hoj (hfree j oj hoj hji hjun hnot) (fun cs b => hsel i oi cs b hi) (fun cs b => hsel j oj cs b hoj) hQ hy h1
      have hfree' : ∀ k ok, ops[k]? = some ok → k ≠ i → (listed.setIfInBounds j true).getD k true = false →
          (∀ e ∈ ok.after, Region.binds md e = true → e.on ≠ i) → oi.apart ops ok = true := fun k ok hk hki hun hno => by
        refine hfree k ok hk hki ?_ hno
        by_cases hjk : j = k
        · subst hjk; exact hjun
        · rw [getD_set_ne true hjk] at hun; exact hun
      refine wpOpIn_mono (fun a' w' h3 => ih (listed.setIfInBounds j true) a' w' hfree' (ready_mono hr (Ne.symm hji)) h3.1 ?_) h2
      rw [Array.setIfInBounds_comm _ _ hji]
      exact h3.2
def noDefer (ops : Array Oper) : Bool := ops.all fun o => match o.op with | .defer .. => false | _ => true
theorem noDefer_spec (h : noDefer ops = true) (j : Nat) (o : Oper) (c) (ho : ops[j]? = some o) : o.op ≠ .defer c := by
  intro heq
  have := Array.all_eq_true_iff_forall_mem.1 h o (Array.mem_of_getElem? ho)
  simp [heq] at this
theorem AAny.first {fuel : Nat} {listed : Array Bool} (j : Nat) (k : ARun P ops (ops[j]?).toList s (fun s' => AAny P ops fuel (listed.setIfInBounds j true) Q s'))
    (hp : placeB P ops s j = true := by kernel_rfl) (hns : (Region.noSelect ops && noDefer ops) = true := by kernel_rfl) (hf : Region.free .any ops listed j = true := by kernel_rfl) (hr : (Region.ready .any ops listed).contains j = true := by kernel_rfl) :
    AAny P ops (fuel + 1) listed Q s := by
  intro E hE ρ B a w hs Q' hQ
  obtain ⟨o, v, ho, hy⟩ := placeB.spec hp hs
  refine wpAnyIn_monoQ (Q := fun e a w => e = .normal ∧ Q' e a w) (fun e a w h => h.2) _ _ _ _ ?_
  rw [Bool.and_eq_true] at hns
  refine wpAnyIn_firstR (oi := o) (v := v) (noDefer_spec hns.2) ho (Region.noSelect_spec hns.1) (fun c a w h => by cases h.1) fuel listed a w (Region.free_spec ho hf) (by simpa using hr) hy ?_
  rw [ho] at k
  have := k E hE ρ B a w hs (fun e a w => match e with | .normal => wpAnyIn (FR E.rnd) 0 P .any ops (fun e a w => e = .normal ∧ Q' e a w) fuel (listed.setIfInBounds j true) a w | e => False)
    (fun s' ρ' B' a' w' q hs' => q E hE ρ' B' a' w' hs' _ (fun s2 ρ2 B2 a2 w2 q2 hs2 => ⟨rfl, hQ _ _ _ _ _ q2 hs2⟩))
  simp only [Option.toList_some, lwp] at this
  rcases hy.1 with ⟨hw, hv⟩ | ⟨hw, hv⟩
  · rw [if_pos hw] at this
    unfold owp Oper.wpIn at this
    have h2 := this.2
    rw [Oper.semAt_eq _ _ _ (fun c => noDefer_spec hns.2 j o c ho), hv w] at h2
    exact h2
  · rw [if_neg (by rw [hw]; simp)] at this
    rw [hv]; exact this
end
set_option linter.unusedVariables false
set_option linter.unusedSectionVars false
set_option linter.unusedSimpArgs false
section
variable {P : Program} {ops : Array Oper} {E : Env} {s s' : AS} {o : Oper} {rest : List Oper} {Q : AS → Prop}
end
set_option linter.unusedVariables false
set_option linter.unusedSectionVars false
set_option linter.unusedSimpArgs false
section
variable {P : Program} {ops : Array Oper} {s : AS} {Q : AS → Prop}
theorem AAny.three {fuel : Nat} {listed : Array Bool} (j1 j2 j3 : Nat) (k1 : ARun P ops (ops[j1]?).toList s (fun s' => AAny P ops fuel (listed.setIfInBounds j1 true) Q s')) (k2 : ARun P ops (ops[j2]?).toList s (fun s' => AAny P ops fuel (listed.setIfInBounds j2 true) Q s'))
    (k3 : ARun P ops (ops[j3]?).toList s (fun s' => AAny P ops fuel (listed.setIfInBounds j3 true) Q s'))
    (ho : ((ops[j1]?).isSome && ((ops[j2]?).isSome && (ops[j3]?).isSome)) = true := by kernel_rfl) (h : Region.ready .any ops listed = [j1, j2, j3] := by kernel_rfl) : AAny P ops (fuel + 1) listed Q s := by
  refine AAny.step h (by simp) fun i hi => ?_
  simp only [Bool.and_eq_true] at ho
  obtain ⟨o1, h1⟩ := Option.isSome_iff_exists.1 ho.1
  obtain ⟨o2, h2⟩ := Option.isSome_iff_exists.1 ho.2.1
  obtain ⟨o3, h3⟩ := Option.isSome_iff_exists.1 ho.2.2
  have : i = j1 ∨ i = j2 ∨ i = j3 := by simpa using hi
  rcases this with rfl | rfl | rfl
  · exact ⟨o1, h1, by rw [h1] at k1; exact k1⟩
  · exact ⟨o2, h2, by rw [h2] at k2; exact k2⟩
  · exact ⟨o3, h3, by rw [h3] at k3; exact k3⟩
end
end Go.Abs
set_option linter.unusedVariables false
set_option linter.unusedSimpArgs false
namespace Go.Proofs.YtoapdhogghbojaaGreatDoor.C
open Go.Abs
theorem peek1_get (b : List UInt8) (i : Nat) (h : i + 1 ≤ b.length) : peekN 1 b i = (b.getD i 0).toNat := by
  have e : (b.drop i).take 1 = [b[i]'(by omega)] := by rw [List.drop_eq_getElem_cons (by omega)]; rfl
  unfold peekN
  rw [if_pos h, e, List.getD_eq_getElem?_getD, List.getElem?_eq_getElem (show i < b.length by omega)]
  simp [beN]
theorem kids_class {t : Nat} (D r : List UInt8) (h : (kindOf t).kids = 0 → D = r) (hl : 0 < (r.drop D.length).length) : classOf t = 1 ∨ classOf t = 2 := by
  by_cases h0 : (kindOf t).kids = 0
  · rw [h h0, List.drop_length] at hl; simp at hl
  · exact kind_class h0
theorem cparse_short (b : List UInt8) (hb : b.length ≤ 2 ^ 30) (t f n p1 p2 p3 : Nat) (x y : Bool) (ht : t < 2 ^ 32) (hf : f < 2 ^ 32)
    (k1 : OC Tryz.prog 49 [.ptr 0 0, nat 1] [cur b 0] (.tup [u32 t, bool x]) [cur b p1])
    (k2 : OC Tryz.prog 49 [.ptr 0 0, nat 1] [cur b p1] (.tup [u32 f, bool y]) [cur b p2])
    (k3 : OC Tryz.prog 49 [.ptr 0 0, nat 2] [cur b p2] (.tup [u32 n, bool false]) [cur b p3]) :
    PC Tryz.prog 28 [.sl false 1 (bys b)] (.tup [chunkA true .zero, erA (.flt 4 0)]) := by
  refine PC.of_bodyK (by simp only [push_cast]) Tryz.func28 rfl (by rw [Tryz.ntmps28]; simp) ?_
  refine AWp.regionW ?_
  refine AWp.regionM fun K1 hK1 => ?_
  refine ARun2.callOM [] (new_c b (by omega)) ?_
  refine ARun2.endm (hK1 _ ?_)
  refine AWp.regionM fun K2 hK2 => ?_
  refine ARun2.callOM [1] (k1) ?_
  refine ARun2.endm (hK2 _ ?_)
  refine AWp.regionM fun K3 hK3 => ?_
  refine ARun2.callOM [1] (k2) ?_
  refine ARun2.endm (hK3 _ ?_)
  refine AWp.regionM fun K4 hK4 => ?_
  refine ARun2.callOM [1] (k3) ?_
  refine ARun2.endm (hK4 _ ?_)
  refine AWp.seqK fun K5 hK5 => ?_
  refine AWp.regionW ?_
  refine AWp.condT ?_
  refine AWp.regionM fun K6 hK6 => ?_
  refine ARun2.callM (fnew_c 4 0) ?_
  refine ARun2.endm (hK6 _ ?_)
  refine AWp.ret ?_
  try simp only [thenQ, blockQ, noGo]
  refine bodyQ.m ?_
  clear hK6 K6 hK5 K5 hK4 K4 hK3 K3 hK2 K2 hK1 K1
  simp only [GChunk.zero]
  first | done | exact Wk.go
theorem cparse_bad (b : List UInt8) (hb : b.length ≤ 2 ^ 30) (h4 : 4 ≤ b.length) (hn : peekN 2 b 2 ≠ b.length) :
    PC Tryz.prog 28 [.sl false 1 (bys b)] (.tup [chunkA true .zero, erA (.flt 4 0)]) := by
  have hp := peek2_lt b 2
  refine PC.of_bodyK (by simp only [push_cast]) Tryz.func28 rfl (by rw [Tryz.ntmps28]; simp) ?_
  refine AWp.regionW ?_
  refine AWp.regionM fun K1 hK1 => ?_
  refine ARun2.callOM [] (new_c b (by omega)) ?_
  refine ARun2.endm (hK1 _ ?_)
  refine AWp.regionM fun K2 hK2 => ?_
  refine ARun2.callOM [1] (num_hit 1 b 0 (by decide) (by omega) (by omega)) ?_
  refine ARun2.endm (hK2 _ ?_)
  refine AWp.regionM fun K3 hK3 => ?_
  refine ARun2.callOM [1] (num_hit 1 b 1 (by decide) (by omega) (by omega)) ?_
  refine ARun2.endm (hK3 _ ?_)
  refine AWp.regionM fun K4 hK4 => ?_
  refine ARun2.callOM [1] (num_hit 2 b 2 (by decide) (by omega) (by omega)) ?_
  refine ARun2.endm (hK4 _ ?_)
  refine AWp.seqK fun K5 hK5 => ?_
  refine AWp.regionW ?_
  refine AWp.condLM (fun c0 => ?_) (fun c0 => ?_)
  · skip
    refine AWp.regionM fun K6 hK6 => ?_
    refine ARun2.callM (fnew_c 4 0) ?_
    refine ARun2.endm (hK6 _ ?_)
    refine AWp.ret ?_
    try simp only [thenQ, blockQ, noGo]
    refine bodyQ.m ?_
    clear hK6 K6 hK5 K5 hK4 K4 hK3 K3 hK2 K2 hK1 K1
    simp only [GChunk.zero]
    first | done | exact Wk.go
  · skip
    exfalso; apply hn; simpa using c0
set_option maxRecDepth 100000 in
set_option maxHeartbeats 2000000 in
theorem cparse_main (b : List UInt8) (hb : b.length ≤ 2 ^ 30) (h4 : 4 ≤ b.length) (hn : peekN 2 b 2 = b.length) :
    PC Tryz.prog 28 [.sl false 1 (bys b)] (.tup [chunkA true (parseC b).1, erA (parseC b).2]) := by
  obtain ⟨R, hR⟩ : ∃ R, R = parseC b := ⟨_, rfl⟩
  have hP : R = if kindHas (headC b).ty = false then (headC b, .ok) else restC (cutC (headC b)) (b.drop 4) := by
    rw [hR]; unfold parseC; rw [if_neg (by rintro (h | h); omega; exact h hn)]
  rw [← hR]
  have e0 := peek1_get b 0 (by omega)
  have e1 := peek1_get b 1 (by omega)
  have g0 := (b.getD 0 0).toNat_lt
  have g1 := (b.getD 1 0).toNat_lt
  obtain ⟨ty, hty⟩ : ∃ ty, ty = (b.getD 0 0).toNat := ⟨_, rfl⟩
  obtain ⟨fl, hfl⟩ : ∃ fl, fl = (b.getD 1 0).toNat := ⟨_, rfl⟩
  have hhead : headC b = ⟨ty, fl, b.drop 4, []⟩ := by rw [hty, hfl]; rfl
  rw [← hty] at e0 g0
  rw [← hfl] at e1 g1
  have hct : (headC b).ty = ty := by rw [hhead]
  rw [hct, hhead] at hP
  have ht1 : (b.drop 4).take (b.length - 4) = b.drop 4 := List.take_of_length_le (by rw [List.length_drop]; exact Nat.le_refl _)
  have hrl : (b.drop 4).length = b.length - 4 := List.length_drop
  obtain ⟨r, hr⟩ : ∃ r, r = b.drop 4 := ⟨_, rfl⟩
  have ht2 := ht1
  rw [← hr] at hrl hP ht2
  have hbd := kind_bd ty
  have hki := kinside_c (kindOf ty).kids (by omega)
  have hclass : (kinsideN (kindOf ty).kids).1 = classOf ty := rfl
  generalize (kinsideN (kindOf ty).kids).2.1 = u1 at hki
  generalize (kinsideN (kindOf ty).kids).2.2 = u2 at hki
  rw [hclass] at hki
  refine PC.of_bodyK (by simp only [push_cast]) Tryz.func28 rfl (by rw [Tryz.ntmps28]; simp) ?_
  refine AWp.regionW ?_
  refine AWp.regionM fun K1 hK1 => ?_
  refine ARun2.callOM [] (new_c b (by omega)) ?_
  refine ARun2.endm (hK1 _ ?_)
  refine AWp.regionM fun K2 hK2 => ?_
  refine ARun2.callOM [1] (num_hit 1 b 0 (by decide) (by omega) (by omega)) ?_
  refine ARun2.endm (hK2 _ ?_)
  refine AWp.regionM fun K3 hK3 => ?_
  refine ARun2.callOM [1] (num_hit 1 b 1 (by decide) (by omega) (by omega)) ?_
  refine ARun2.endm (hK3 _ ?_)
  refine AWp.regionM fun K4 hK4 => ?_
  refine ARun2.callOM [1] (num_hit 2 b 2 (by decide) (by omega) (by omega)) ?_
  refine ARun2.endm (hK4 _ ?_)
  refine AWp.seqK fun K5 hK5 => ?_
  refine AWp.regionW ?_
  refine AWp.condLM (fun c0 => ?_) (fun c0 => ?_)
  · skip
    exfalso; simp [hn] at c0
  · skip
    refine AWp.skip ?_
    refine hK5 _ ?_
    refine AWp.regionM fun K6 hK6 => ?_
    refine ARun2.callOM [1] (left_c b 4 (by omega) (by omega)) ?_
    refine ARun2.callOM [1] (take_ok b 4 (b.length - 4) (by omega) (by omega)) ?_
    refine ARun2.endm (hK6 _ ?_)
    rw [ht1, ← hr, e0, e1]
    refine AWp.regionW ?_
    refine AWp.regionM fun K7 hK7 => ?_
    refine ARun2.callM (kof_c ty g0) ?_
    refine ARun2.endm (hK7 _ ?_)
    refine AWp.seqK fun K8 hK8 => ?_
    refine AWp.regionW ?_
    refine AWp.condLM (fun c1 => ?_) (fun c1 => ?_)
    · skip
      have hh : kindHas ty = false := by simpa using c1
      rw [if_pos hh] at hP
      refine AWp.regionW ?_
      refine AWp.ret ?_
      try simp only [thenQ, blockQ, noGo]
      refine bodyQ.m ?_
      clear hK8 K8 hK7 K7 hK6 K6 hK5 K5 hK4 K4 hK3 K3 hK2 K2 hK1 K1
      first | rw [hP3] | rw [hP2] | rw [hP]
      try rw [hke]
      try simp only [GChunk.zero]
      first | done | exact Wk.go
    · skip
      have hh : kindHas ty = true := by simpa using c1
      rw [if_neg (by rw [hh]; simp)] at hP
      refine AWp.skip ?_
      refine hK8 _ ?_
      refine AWp.seqK fun K9 hK9 => ?_
      refine AWp.regionA fun K10 hK10 => ?_
      refine ARun.segm 4 fun KS hKS => ?_
      refine ARun2.endm (hKS _ ?_); clear hKS KS
      apply ARun.grpM 5 3 true 80 [2, 11, 13, 14, 75]
      · intro g3 KG hKG
        refine ARun2.gom ?_
        exact ARun2.endm (hKG _ Le.grpM)
      refine ARun2.gom ?_
      refine ARun2.endm (hK10 _ ?_)
      refine AWp.condLM (fun c2 => ?_) (fun c2 => ?_)
      · skip
        have hk0 : (kindOf ty).kids ≠ 0 ∧ (kindOf ty).least ≤ r.length := by simpa using c2
        obtain ⟨D, hD⟩ : ∃ D, D = r.take (kindOf ty).least := ⟨_, rfl⟩
        have hcut : cutC ⟨ty, fl, r, []⟩ = ⟨ty, fl, D, []⟩ := by rw [hD]; exact if_pos hk0
        have hDk : (kindOf ty).kids = 0 → D = r := fun h => absurd h hk0.1
        have hDl : D.length ≤ r.length := by rw [hD, List.length_take]; omega
        refine AWp.regionN fun K11 hK11 => ?_
        refine ARun2.sliceHi3M (kindOf ty).least (by rw [bys_len]; exact hk0.2) ?_
        refine ARun2.endm (hK11 _ ?_)
        refine hK9 _ ?_
        refine AWp.seqK fun K12 hK12 => ?_
        rw [hcut] at hP
        have hP2 : R = if dataE4 ⟨ty, fl, D, []⟩ ≠ .ok then (.zero, dataE4 ⟨ty, fl, D, []⟩) else insC ⟨ty, fl, D, []⟩ (parseF 4 (classOf ty) (r.drop D.length) 0) := hP
        have kf := firsts4_c ⟨ty, fl, D, []⟩ (show D.length ≤ _ by omega) (by simp) hh
        try rw [← hD]
        refine AWp.regionM fun K13 hK13 => ?_
        refine ARun2.callM (kf) ?_
        refine ARun2.endm (hK13 _ ?_)
        refine AWp.regionW ?_
        refine AWp.condLM (fun c3 => ?_) (fun c3 => ?_)
        · skip
          have he : dataE4 ⟨ty, fl, D, []⟩ ≠ .ok := by intro h; rw [h] at c3; cases c3
          rw [if_pos he] at hP2
          refine AWp.regionW ?_
          refine AWp.ret ?_
          try simp only [thenQ, blockQ, noGo]
          refine bodyQ.m ?_
          clear hK13 K13 hK12 K12 hK11 K11 hK10 K10 hK9 K9 hK8 K8 hK7 K7 hK6 K6 hK5 K5 hK4 K4 hK3 K3 hK2 K2 hK1 K1
          first | rw [hP3] | rw [hP2] | rw [hP]
          try rw [hke]
          try simp only [GChunk.zero]
          first | done | exact Wk.go
        · skip
          have he : dataE4 ⟨ty, fl, D, []⟩ = .ok := by rw [← isOk_iff]; simpa using c3
          rw [if_neg (by rw [he]; simp)] at hP2
          have kp := nparse_n (classOf ty) (r.drop D.length) (kids_class D r hDk) (by rw [List.length_drop]; omega)
          have hat := parseF_at 4 (classOf ty) (r.drop D.length) 0
          have hpl := parseF_len 4 (classOf ty) (r.drop D.length) 0
          rw [List.length_drop] at hat hpl
          generalize parseF 4 (classOf ty) (r.drop D.length) 0 = O at kp hat hpl hP2
          try rw [← hD] at kp
          have ks := shift_c O.2 (4 + D.length) (by omega) (by omega)
          have kk := ckids_c ⟨ty, fl, D, O.1⟩ (kindOf ty) (by omega) (show O.1.length ≤ _ by omega)
          refine AWp.skip ?_
          refine hK12 _ ?_
          refine AWp.regionM fun K14 hK14 => ?_
          refine ARun2.callM (hki) ?_
          refine ARun2.endm (hK14 _ ?_)
          refine AWp.regionM fun K15 hK15 => ?_
          refine ARun2.sliceLoM (D.length) ?_ ?_
          · rw [bys_len]; omega
          refine ARun2.callM (kp) ?_
          refine ARun2.endm (hK15 _ ?_)
          refine AWp.seqK fun K16 hK16 => ?_
          refine AWp.regionW ?_
          refine AWp.condLM (fun c4 => ?_) (fun c4 => ?_)
          · skip
            have ho : O.2 ≠ .ok := by intro h; rw [h] at c4; cases c4
            have hP3 : R = (.zero, O.2.shift (4 + D.length)) := by rw [hP2]; exact if_pos ho
            refine AWp.regionM fun K17 hK17 => ?_
            refine ARun2.callM (ks) ?_
            refine ARun2.endm (hK17 _ ?_)
            refine AWp.ret ?_
            try simp only [thenQ, blockQ, noGo]
            refine bodyQ.m ?_
            clear hK17 K17 hK16 K16 hK15 K15 hK14 K14 hK13 K13 hK12 K12 hK11 K11 hK10 K10 hK9 K9 hK8 K8 hK7 K7 hK6 K6 hK5 K5 hK4 K4 hK3 K3 hK2 K2 hK1 K1
            first | rw [hP3] | rw [hP2] | rw [hP]
            try rw [hke]
            try simp only [GChunk.zero]
            first | done | exact Wk.go
          · skip
            have ho : O.2 = .ok := by rw [← isOk_iff]; simpa using c4
            refine AWp.skip ?_
            refine hK16 _ ?_
            refine AWp.regionW ?_
            refine AWp.seqK fun K18 hK18 => ?_
            refine AWp.regionM fun K19 hK19 => ?_
            refine ARun2.callM (kk) ?_
            refine ARun2.endm (hK19 _ ?_)
            refine AWp.regionW ?_
            refine AWp.condLM (fun c5 => ?_) (fun c5 => ?_)
            · skip
              have hko : kidsE ⟨ty, fl, D, O.1⟩ (kindOf ty) ≠ .ok := by intro h; rw [h] at c5; cases c5
              have hkn : kkidsOk (kindOf ty) O.1 = false := by
                cases h : kkidsOk (kindOf ty) O.1 with
                | false => rfl
                | true => exact absurd (if_neg (by rw [h]; simp)) hko
              have hke : kidsE ⟨ty, fl, D, O.1⟩ (kindOf ty) = .flt 7 0 := if_pos hkn
              have hP3 : R = (.zero, .flt 7 0) := by rw [hP2]; unfold insC; rw [if_neg (by rw [ho]; simp), if_pos hkn]
              refine AWp.regionW ?_
              refine AWp.ret ?_
              try simp only [thenQ, blockQ, noGo]
              refine bodyQ.m ?_
              clear hK19 K19 hK18 K18 hK16 K16 hK15 K15 hK14 K14 hK13 K13 hK12 K12 hK11 K11 hK10 K10 hK9 K9 hK8 K8 hK7 K7 hK6 K6 hK5 K5 hK4 K4 hK3 K3 hK2 K2 hK1 K1
              first | rw [hP3] | rw [hP2] | rw [hP]
              try rw [hke]
              try simp only [GChunk.zero]
              first | done | exact Wk.go
            · skip
              have hko : kidsE ⟨ty, fl, D, O.1⟩ (kindOf ty) = .ok := by rw [← isOk_iff]; simpa using c5
              have hkn : ¬ kkidsOk (kindOf ty) O.1 = false := by
                intro h; rw [show kidsE ⟨ty, fl, D, O.1⟩ (kindOf ty) = .flt 7 0 from if_pos h] at hko; cases hko
              have hP3 : R = (⟨ty, fl, D, O.1⟩, .ok) := by rw [hP2]; unfold insC; rw [if_neg (by rw [ho]; simp), if_neg hkn]
              refine AWp.skip ?_
              refine hK18 _ ?_
              refine AWp.regionW ?_
              refine AWp.ret ?_
              try simp only [thenQ, blockQ, noGo]
              refine bodyQ.m ?_
              clear hK19 K19 hK18 K18 hK16 K16 hK15 K15 hK14 K14 hK13 K13 hK12 K12 hK11 K11 hK10 K10 hK9 K9 hK8 K8 hK7 K7 hK6 K6 hK5 K5 hK4 K4 hK3 K3 hK2 K2 hK1 K1
              first | rw [hP3] | rw [hP2] | rw [hP]
              try rw [hke]
              try simp only [GChunk.zero]
              first | done | exact Wk.go
      · skip
        have hk0 : ¬ ((kindOf ty).kids ≠ 0 ∧ (kindOf ty).least ≤ r.length) := by
          rintro ⟨h1, h2⟩; simp [h1, h2] at c2
        obtain ⟨D, hD⟩ : ∃ D, D = r := ⟨_, rfl⟩
        have hcut : cutC ⟨ty, fl, r, []⟩ = ⟨ty, fl, D, []⟩ := by rw [hD]; exact if_neg hk0
        have hDk : (kindOf ty).kids = 0 → D = r := fun h => hD
        have hDl : D.length ≤ r.length := by rw [hD]; exact Nat.le_refl _
        refine AWp.skip ?_
        refine hK9 _ ?_
        refine AWp.seqK fun K20 hK20 => ?_
        rw [hcut] at hP
        have hP2 : R = if dataE4 ⟨ty, fl, D, []⟩ ≠ .ok then (.zero, dataE4 ⟨ty, fl, D, []⟩) else insC ⟨ty, fl, D, []⟩ (parseF 4 (classOf ty) (r.drop D.length) 0) := hP
        have kf := firsts4_c ⟨ty, fl, D, []⟩ (show D.length ≤ _ by omega) (by simp) hh
        try rw [← hD]
        refine AWp.regionM fun K21 hK21 => ?_
        refine ARun2.callM (kf) ?_
        refine ARun2.endm (hK21 _ ?_)
        refine AWp.regionW ?_
        refine AWp.condLM (fun c3 => ?_) (fun c3 => ?_)
        · skip
          have he : dataE4 ⟨ty, fl, D, []⟩ ≠ .ok := by intro h; rw [h] at c3; cases c3
          rw [if_pos he] at hP2
          refine AWp.regionW ?_
          refine AWp.ret ?_
          try simp only [thenQ, blockQ, noGo]
          refine bodyQ.m ?_
          clear hK21 K21 hK20 K20 hK10 K10 hK9 K9 hK8 K8 hK7 K7 hK6 K6 hK5 K5 hK4 K4 hK3 K3 hK2 K2 hK1 K1
          first | rw [hP3] | rw [hP2] | rw [hP]
          try rw [hke]
          try simp only [GChunk.zero]
          first | done | exact Wk.go
        · skip
          have he : dataE4 ⟨ty, fl, D, []⟩ = .ok := by rw [← isOk_iff]; simpa using c3
          rw [if_neg (by rw [he]; simp)] at hP2
          have kp := nparse_n (classOf ty) (r.drop D.length) (kids_class D r hDk) (by rw [List.length_drop]; omega)
          have hat := parseF_at 4 (classOf ty) (r.drop D.length) 0
          have hpl := parseF_len 4 (classOf ty) (r.drop D.length) 0
          rw [List.length_drop] at hat hpl
          generalize parseF 4 (classOf ty) (r.drop D.length) 0 = O at kp hat hpl hP2
          try rw [← hD] at kp
          have ks := shift_c O.2 (4 + D.length) (by omega) (by omega)
          have kk := ckids_c ⟨ty, fl, D, O.1⟩ (kindOf ty) (by omega) (show O.1.length ≤ _ by omega)
          refine AWp.skip ?_
          refine hK20 _ ?_
          refine AWp.regionM fun K22 hK22 => ?_
          refine ARun2.callM (hki) ?_
          refine ARun2.endm (hK22 _ ?_)
          refine AWp.regionM fun K23 hK23 => ?_
          refine ARun2.sliceLoM (D.length) ?_ ?_
          · rw [bys_len]; omega
          refine ARun2.callM (kp) ?_
          refine ARun2.endm (hK23 _ ?_)
          refine AWp.seqK fun K24 hK24 => ?_
          refine AWp.regionW ?_
          refine AWp.condLM (fun c4 => ?_) (fun c4 => ?_)
          · skip
            have ho : O.2 ≠ .ok := by intro h; rw [h] at c4; cases c4
            have hP3 : R = (.zero, O.2.shift (4 + D.length)) := by rw [hP2]; exact if_pos ho
            refine AWp.regionM fun K25 hK25 => ?_
            refine ARun2.callM (ks) ?_
            refine ARun2.endm (hK25 _ ?_)
            refine AWp.ret ?_
            try simp only [thenQ, blockQ, noGo]
            refine bodyQ.m ?_
            clear hK25 K25 hK24 K24 hK23 K23 hK22 K22 hK21 K21 hK20 K20 hK10 K10 hK9 K9 hK8 K8 hK7 K7 hK6 K6 hK5 K5 hK4 K4 hK3 K3 hK2 K2 hK1 K1
            first | rw [hP3] | rw [hP2] | rw [hP]
            try rw [hke]
            try simp only [GChunk.zero]
            first | done | exact Wk.go
          · skip
            have ho : O.2 = .ok := by rw [← isOk_iff]; simpa using c4
            refine AWp.skip ?_
            refine hK24 _ ?_
            refine AWp.regionW ?_
            refine AWp.seqK fun K26 hK26 => ?_
            refine AWp.regionM fun K27 hK27 => ?_
            refine ARun2.callM (kk) ?_
            refine ARun2.endm (hK27 _ ?_)
            refine AWp.regionW ?_
            refine AWp.condLM (fun c5 => ?_) (fun c5 => ?_)
            · skip
              have hko : kidsE ⟨ty, fl, D, O.1⟩ (kindOf ty) ≠ .ok := by intro h; rw [h] at c5; cases c5
              have hkn : kkidsOk (kindOf ty) O.1 = false := by
                cases h : kkidsOk (kindOf ty) O.1 with
                | false => rfl
                | true => exact absurd (if_neg (by rw [h]; simp)) hko
              have hke : kidsE ⟨ty, fl, D, O.1⟩ (kindOf ty) = .flt 7 0 := if_pos hkn
              have hP3 : R = (.zero, .flt 7 0) := by rw [hP2]; unfold insC; rw [if_neg (by rw [ho]; simp), if_pos hkn]
              refine AWp.regionW ?_
              refine AWp.ret ?_
              try simp only [thenQ, blockQ, noGo]
              refine bodyQ.m ?_
              clear hK27 K27 hK26 K26 hK24 K24 hK23 K23 hK22 K22 hK21 K21 hK20 K20 hK10 K10 hK9 K9 hK8 K8 hK7 K7 hK6 K6 hK5 K5 hK4 K4 hK3 K3 hK2 K2 hK1 K1
              first | rw [hP3] | rw [hP2] | rw [hP]
              try rw [hke]
              try simp only [GChunk.zero]
              first | done | exact Wk.go
            · skip
              have hko : kidsE ⟨ty, fl, D, O.1⟩ (kindOf ty) = .ok := by rw [← isOk_iff]; simpa using c5
              have hkn : ¬ kkidsOk (kindOf ty) O.1 = false := by
                intro h; rw [show kidsE ⟨ty, fl, D, O.1⟩ (kindOf ty) = .flt 7 0 from if_pos h] at hko; cases hko
              have hP3 : R = (⟨ty, fl, D, O.1⟩, .ok) := by rw [hP2]; unfold insC; rw [if_neg (by rw [ho]; simp), if_neg hkn]
              refine AWp.skip ?_
              refine hK26 _ ?_
              refine AWp.regionW ?_
              refine AWp.ret ?_
              try simp only [thenQ, blockQ, noGo]
              refine bodyQ.m ?_
              clear hK27 K27 hK26 K26 hK24 K24 hK23 K23 hK22 K22 hK21 K21 hK20 K20 hK10 K10 hK9 K9 hK8 K8 hK7 K7 hK6 K6 hK5 K5 hK4 K4 hK3 K3 hK2 K2 hK1 K1
              first | rw [hP3] | rw [hP2] | rw [hP]
              try rw [hke]
              try simp only [GChunk.zero]
              first | done | exact Wk.go
theorem cparse_c (b : List UInt8) (hb : b.length ≤ 2 ^ 30) : PC Tryz.prog 28 [.sl false 1 (bys b)] (.tup [chunkA true (parseC b).1, erA (parseC b).2]) := by
  rcases Nat.lt_or_ge b.length 4 with h | h
  · have hr : parseC b = (.zero, .flt 4 0) := if_pos (.inl h)
    rw [hr]
    have hl : b.length = 0 ∨ b.length = 1 ∨ b.length = 2 ∨ b.length = 3 := by omega
    have q1 := peekN_lt 1 b 0 (by decide)
    have q2 := peekN_lt 1 b 1 (by decide)
    rcases hl with e | e | e | e
    · exact cparse_short b hb 0 0 0 0 0 0 false false (by decide) (by decide) (num_miss 1 b 0 (by decide) (by omega) (by omega) (by omega)) (num_miss 1 b 0 (by decide) (by omega) (by omega) (by omega)) (num_miss 2 b 0 (by decide) (by omega) (by omega) (by omega))
    · exact cparse_short b hb _ 0 0 1 1 1 true false q1 (by decide) (num_hit 1 b 0 (by decide) (by omega) (by omega)) (num_miss 1 b 1 (by decide) (by omega) (by omega) (by omega)) (num_miss 2 b 1 (by decide) (by omega) (by omega) (by omega))
    · exact cparse_short b hb _ _ 0 1 2 2 true true q1 q2 (num_hit 1 b 0 (by decide) (by omega) (by omega)) (num_hit 1 b 1 (by decide) (by omega) (by omega)) (num_miss 2 b 2 (by decide) (by omega) (by omega) (by omega))
    · exact cparse_short b hb _ _ 0 1 2 2 true true q1 q2 (num_hit 1 b 0 (by decide) (by omega) (by omega)) (num_hit 1 b 1 (by decide) (by omega) (by omega)) (num_miss 2 b 2 (by decide) (by omega) (by omega) (by omega))
  · by_cases hn : peekN 2 b 2 = b.length
    · exact cparse_main b hb h hn
    · have hr : parseC b = (.zero, .flt 4 0) := if_pos (.inr hn)
      rw [hr]; exact cparse_bad b hb h hn
theorem getD_at (b : List UInt8) (i : Nat) (h : i < b.length) : (bys b)[i]? = some (u8 (b.getD i 0).toNat) := by
  rw [List.getD_eq_getElem?_getD, List.getElem?_eq_getElem h]
  exact bys_at _ _ h
theorem dataE4_eq (c : GChunk) : dataE4 c = if maskBad c.flags (kindOf c.ty).mask = true then .flt 6 1 else if kfitsN (kindOf c.ty) c.data.length = false then .flt 7 0 else if sackBad c = true then .flt 8 12 else valueE c := by
  unfold dataE4
  simp only [firstE, flagsE, dataE, countE]
  by_cases h1 : maskBad c.flags (kindOf c.ty).mask = true
  · simp [h1]
  · by_cases h2 : kfitsN (kindOf c.ty) c.data.length = false
    · simp [h1, h2]
    · by_cases h4 : sackBad c = true
      · simp [h1, h2, h4]
      · simp only [h1, h2, h4, if_false, if_true]
        by_cases hv : valueE c = .ok
        · simp [hv]
        · simp [hv]
theorem value_at (c : GChunk) (i : Nat) (h : oddN c = some i) : valueE c = .flt 11 (4 + i) ∧ oddI c = N i := by
  unfold valueE oddI; rw [h]; exact ⟨rfl, rfl⟩
theorem value_ok (c : GChunk) (h : oddN c = none) : valueE c = .ok ∧ oddI c = -1 := by
  unfold valueE oddI; rw [h]; exact ⟨rfl, rfl⟩
theorem oddAt_le (d : List UInt8) : ∀ (k i j : Nat), oddAt d k i = some j → j ≤ d.length + 2
  | 0, i, j, h => by simp [oddAt] at h
  | k + 1, i, j, h => by
    rw [oddAt] at h
    split at h
    · split at h
      · simp only [Option.some.injEq] at h; omega
      · exact oddAt_le d k _ _ h
    · cases h
theorem oddN_le {c : GChunk} {w : Nat} (h : oddN c = some w) : w ≤ c.data.length + 6 := by
  unfold oddN at h
  split at h
  · split at h
    · simp only [Option.some.injEq] at h; omega
    · cases h
  · split at h
    · have := oddAt_le _ _ _ _ h; omega
    · cases h
theorem rparse12_short (b : List UInt8) (hb : b.length ≤ 2 ^ 30) (h : b.length < 4) : PC Tryz.prog 31 [.sl false 1 (bys b)] (.tup [chunkA false .zero, nat 4, nat 0]) := by
  have hd : decide (b.length < 4) = true := decide_eq_true h
  refine PC.of_bodyW (by simp only [push_cast]) Tryz.func31 rfl (by rw [Tryz.ntmps31]; simp) ?_
  refine AWp.regionW ?_
  refine AWp.seqK fun K1 hK1 => ?_
  refine AWp.regionS fun K2 hK2 => ?_
  simp only [push_cast, ↓reduceIte, Nat.reduceEqDiff, Nat.reduceLT, Nat.reduceAdd, Nat.reduceSub, Nat.reduceMul, Nat.reduceLeDiff, Nat.reducePow, Int.reduceLT, Int.reduceToNat, reduceCtorEq, Int.reduceNeg, Int.reduceEq, Nat.reduceBEq, Nat.reduceBNe, Int.reduceBEq, Int.reduceBNe, String.reduceEq, hd]
  skip
  refine ARun2.endm (hK2 _ ?_)
  refine AWp.condT ?_
  refine AWp.regionW ?_
  refine AWp.ret ?_
  try simp only [thenQ, blockQ, noGo]
  refine bodyQ.m ?_
  clear hK2 K2 hK1 K1
  simp only [GChunk.zero]
  first | done | exact Hand.go
set_option maxRecDepth 100000 in
set_option maxHeartbeats 2000000 in
theorem rparse12_main (b : List UInt8) (hb : b.length ≤ 2 ^ 30) (h4 : 4 ≤ b.length) :
    PC Tryz.prog 31 [.sl false 1 (bys b)] (.tup [chunkA false (parseC b).1, nat (parseC b).2.codeOf.1, nat (parseC b).2.atOf.1]) := by
  obtain ⟨R, hR⟩ : ∃ R, R = parseC b := ⟨_, rfl⟩
  have hP : R = if b.length < 4 ∨ peekN 2 b 2 ≠ b.length then (.zero, .flt 4 0) else if kindHas (headC b).ty = false then (headC b, .ok) else restC (cutC (headC b)) (b.drop 4) := hR
  rw [← hR]
  have g0 := (b.getD 0 0).toNat_lt
  have g1 := (b.getD 1 0).toNat_lt
  have a0 := getD_at b 0 (by omega)
  have a1 := getD_at b 1 (by omega)
  obtain ⟨ty, hty⟩ : ∃ ty, ty = (b.getD 0 0).toNat := ⟨_, rfl⟩
  obtain ⟨fl, hfl⟩ : ∃ fl, fl = (b.getD 1 0).toNat := ⟨_, rfl⟩
  have hhead : headC b = ⟨ty, fl, b.drop 4, []⟩ := by rw [hty, hfl]; rfl
  rw [← hty] at a0 g0
  rw [← hfl] at a1 g1
  have hct : (headC b).ty = ty := by rw [hhead]
  rw [hct, hhead] at hP
  have hrl : (b.drop 4).length = b.length - 4 := List.length_drop
  obtain ⟨r, hr⟩ : ∃ r, r = b.drop 4 := ⟨_, rfl⟩
  rw [← hr] at hrl hP
  have hbd := kind_bd ty
  have hm := mask_eq fl (kindOf ty).mask g1 hbd.2.2.2.2.2.1
  have e255 : IntKind.i64.wrap (255 - N (kindOf ty).mask) = N (255 - (kindOf ty).mask) := by rw [IntKind.wrap_i64]; unfold N; omega
  have hclass : (kinsideN (kindOf ty).kids).1 = classOf ty := rfl
  have hcx := class11_c (kindOf ty).kids (by omega)
  rw [hclass] at hcx
  have kn := number12_c b 2 (by omega) (by omega)
  obtain ⟨D, hD⟩ : ∃ D, D = if 0 < (kindOf ty).kids then r.take (min (kindOf ty).least r.length) else r := ⟨_, rfl⟩
  have hcut : cutC ⟨ty, fl, r, []⟩ = ⟨ty, fl, D, []⟩ := by
    by_cases hk : 0 < (kindOf ty).kids
    · rw [if_pos hk] at hD
      by_cases hl : (kindOf ty).least ≤ r.length
      · rw [hD, Nat.min_eq_left hl]; exact if_pos ⟨by show (kindOf ty).kids ≠ 0; omega, hl⟩
      · rw [hD, Nat.min_eq_right (by omega), List.take_length]; exact if_neg (fun h => hl h.2)
    · rw [if_neg hk] at hD
      rw [hD]; exact if_neg (fun h => h.1 (by show (kindOf ty).kids = 0; omega))
  have hDk : (kindOf ty).kids = 0 → D = r := fun h => by rw [hD, if_neg (by omega)]
  have hDl : D.length ≤ r.length := by
    rw [hD]; split
    · rw [List.length_take]; omega
    · exact Nat.le_refl _
  have hp2 := peek2_lt b 2
  refine PC.of_bodyW (by simp only [push_cast]) Tryz.func31 rfl (by rw [Tryz.ntmps31]; simp) ?_
  refine AWp.regionW ?_
  refine AWp.seqK fun K1 hK1 => ?_
  refine AWp.regionA fun K2 hK2 => ?_
  refine ARun.segm 4 fun KS hKS => ?_
  refine ARun2.endm (hKS _ ?_); clear hKS KS
  apply ARun.grpM 5 3 false 18 [0, 2, 13]
  · intro g3 KG hKG
    refine ARun2.gom ?_
    refine ARun2.callM (kn) ?_
    exact ARun2.endm (hKG _ Le.grpM)
  refine ARun2.gom ?_
  refine ARun2.endm (hK2 _ ?_)
  refine AWp.condLM (fun c0 => ?_) (fun c0 => ?_)
  · skip
    have hP1 : R = (.zero, .flt 4 0) := by
      rw [hP]; refine if_pos ?_
      rcases Nat.lt_or_ge b.length 4 with h | h
      · exact .inl h
      · right; intro he; rw [he] at c0; simp at c0; omega
    refine AWp.regionW ?_
    refine AWp.ret ?_
    try simp only [thenQ, blockQ, noGo]
    refine bodyQ.m ?_
    clear hK2 K2 hK1 K1
    first | rw [hP3] | rw [hP1] | rw [hP]
    try simp only [GChunk.zero, Er.codeOf, Er.atOf]
    try rw [hw4]
    first | done | exact Hand.go
  · skip
    have hn : ¬ (b.length < 4 ∨ peekN 2 b 2 ≠ b.length) := by
      rintro (h | h)
      · omega
      · apply h; simp at c0; exact c0.2
    rw [if_neg hn] at hP
    refine AWp.skip ?_
    refine hK1 _ ?_
    refine AWp.drS [[(0, none)], [(21, some 0)], [(22, some 1)], [(0, none)], [(24, some 3)], [(25, some 4)], [(0, none)], [(27, some 6)], [(23, some 2), (26, some 5), (28, some 7)], []] fun G hG => ?_
    refine Dr.sim ?_
    try simp only [List.cons_append, List.nil_append]
    refine Dr.idx (0) (u8 ty) ?_ ?_
    · exact a0
    try simp only [List.cons_append, List.nil_append]
    refine Dr.sim ?_
    try simp only [List.cons_append, List.nil_append]
    refine Dr.sim ?_
    try simp only [List.cons_append, List.nil_append]
    refine Dr.idx (1) (u8 fl) ?_ ?_
    · exact a1
    try simp only [List.cons_append, List.nil_append]
    refine Dr.sim ?_
    try simp only [List.cons_append, List.nil_append]
    refine Dr.sim ?_
    try simp only [List.cons_append, List.nil_append]
    refine Dr.sliceLo (4) ?_ ?_
    · rw [bys_len]; omega
    try simp only [List.cons_append, List.nil_append]
    refine Dr.sim ?_
    try simp only [List.cons_append, List.nil_append]
    refine Dr.al ?_
    try simp only [List.cons_append, List.nil_append]
    refine Dr.finA (n := 10) 9 [(29, 8), (5, 9)] [0, 2] hG YtoapdhogghbojaaGreatDoor.Facts.mixed fun KD hKD => ?_
    refine ARun2.endm (hKD _ ?_); clear hKD KD hG G
    rw [← hr]
    refine AWp.regionM fun K3 hK3 => ?_
    refine ARun2.callM (of11_c ty) ?_
    refine ARun2.endm (hK3 _ ?_)
    refine AWp.seqK fun K4 hK4 => ?_
    refine AWp.regionW ?_
    refine AWp.condLM (fun c1 => ?_) (fun c1 => ?_)
    · skip
      have hh : kindHas ty = false := by simpa using c1
      rw [if_pos hh] at hP
      refine AWp.regionW ?_
      refine AWp.ret ?_
      try simp only [thenQ, blockQ, noGo]
      refine bodyQ.m ?_
      clear hK4 K4 hK3 K3 hK2 K2 hK1 K1
      first | rw [hP3] | rw [hP1] | rw [hP]
      try simp only [GChunk.zero, Er.codeOf, Er.atOf]
      try rw [hw4]
      first | done | exact Hand.go
    · skip
      have hh : kindHas ty = true := by simpa using c1
      rw [if_neg (by rw [hh]; simp)] at hP
      obtain ⟨v1, v2⟩ := hbd.2.2.2.2.2.2.1 hh
      refine AWp.skip ?_
      refine hK4 _ ?_
      refine AWp.seqK fun K5 hK5 => ?_
      refine AWp.regionW ?_
      refine AWp.condLM (fun c2 => ?_) (fun c2 => ?_)
      · skip
        rw [e255, hm] at c2
        have hcf : (cutC ⟨ty, fl, r, []⟩).ty = ty ∧ (cutC ⟨ty, fl, r, []⟩).flags = fl := ⟨(cut_ty _).1, (cut_ty _).2.1⟩
        have hP1 : R = (.zero, .flt 6 1) := by
          rw [hP]; unfold restC
          have hd : dataE4 (cutC ⟨ty, fl, r, []⟩) = .flt 6 1 := by rw [dataE4_eq, hcf.1, hcf.2, if_pos c2]
          rw [hd, if_pos (by simp)]
        refine AWp.regionW ?_
        refine AWp.ret ?_
        try simp only [thenQ, blockQ, noGo]
        refine bodyQ.m ?_
        clear hK5 K5 hK4 K4 hK3 K3 hK2 K2 hK1 K1
        first | rw [hP3] | rw [hP1] | rw [hP]
        try simp only [GChunk.zero, Er.codeOf, Er.atOf]
        try rw [hw4]
        first | done | exact Hand.go
      · skip
        rw [e255, hm] at c2
        refine AWp.skip ?_
        refine hK5 _ ?_
        refine AWp.join ({ n := 119, m := 0, fr := [(0, .sl false 1 (bys b)), (2, .ptr 0 0), (5, .ptr 1 0), (6, .ptr 2 0)], ob := [.box 31 [.val (.int .u8 0), .val (.int .u8 0), .val (.slice none 0 0), .val (.slice none 0 0)], .box 31 [u8 ty, u8 fl, .sl false 1 (bys D), .val (.slice none 0 0)], .box 59 [u8 (kindOf ty).ty, .val (.string (kindOf ty).name), u8 (kindOf ty).mask, nat (kindOf ty).least, nat (kindOf ty).most, nat (kindOf ty).unit, nat (kindOf ty).kids]] }) (fun K6 hK6 => ?_) ?_
        · skip
          refine AWp.regionW ?_
          refine AWp.condLM (fun c3 => ?_) (fun c3 => ?_)
          · skip
            have hD3 : D = r.take (min (kindOf ty).least r.length) := by rw [hD, if_pos (by simpa using c3)]
            refine AWp.regionN fun K7 hK7 => ?_
            refine ARun2.iminM ?_
            refine ARun2.sliceHiM (min (kindOf ty).least r.length) ?_ ?_
            · rw [bys_len]; omega
            refine ARun2.endm (hK7 _ ?_)
            refine hK6 _ ?_
            refine Le.m 3 ?_ ?_
            · try simp only [push_cast, ↓reduceIte, Nat.reduceEqDiff, Nat.reduceLT, Nat.reduceAdd, Nat.reduceSub, Nat.reduceMul, Nat.reduceLeDiff, Nat.reducePow, Int.reduceLT, Int.reduceToNat, reduceCtorEq, Int.reduceNeg, Int.reduceEq, Nat.reduceBEq, Nat.reduceBNe, Int.reduceBEq, Int.reduceBNe, String.reduceEq]
              try simp (disch := omega) only [w_nat, w_add, w_addl, w_addr, w_sub, w_subl, w_mul, w_mull, w_mulr, w_u32, w_u16, w_u8, w_u32a, N_zero]
              first | done | skip
              try rw [hD3]
              try rfl
            · exact Go.Abs.evM
          · skip
            have hD3 : D = r := by rw [hD, if_neg (by simpa using c3)]
            refine AWp.skip ?_
            refine hK6 _ ?_
            refine Le.m 3 ?_ ?_
            · try simp only [push_cast, ↓reduceIte, Nat.reduceEqDiff, Nat.reduceLT, Nat.reduceAdd, Nat.reduceSub, Nat.reduceMul, Nat.reduceLeDiff, Nat.reducePow, Int.reduceLT, Int.reduceToNat, reduceCtorEq, Int.reduceNeg, Int.reduceEq, Nat.reduceBEq, Nat.reduceBNe, Int.reduceBEq, Int.reduceBNe, String.reduceEq]
              try simp (disch := omega) only [w_nat, w_add, w_addl, w_addr, w_sub, w_subl, w_mul, w_mull, w_mulr, w_u32, w_u16, w_u8, w_u32a, N_zero]
              first | done | skip
              try rw [hD3]
              try rfl
            · exact Go.Abs.evM
        refine AWp.seqK fun K8 hK8 => ?_
        rw [hcut] at hP
        have hP2 : R = if dataE4 ⟨ty, fl, D, []⟩ ≠ .ok then (.zero, dataE4 ⟨ty, fl, D, []⟩) else insC ⟨ty, fl, D, []⟩ (parseF 4 (classOf ty) (r.drop D.length) 0) := hP
        have hdq : dataE4 ⟨ty, fl, D, []⟩ = if kfitsN (kindOf ty) D.length = false then .flt 7 0 else if sackBad ⟨ty, fl, D, []⟩ = true then .flt 8 12 else valueE ⟨ty, fl, D, []⟩ := by
          rw [dataE4_eq]; exact if_neg (by rw [c2]; simp)
        have kfit := fits11_c (kindOf ty) D.length (by omega) (by omega) (by omega) v1 (by omega)
        refine AWp.regionM fun K9 hK9 => ?_
        refine ARun2.callM (kfit) ?_
        refine ARun2.endm (hK9 _ ?_)
        refine AWp.condLM (fun c4 => ?_) (fun c4 => ?_)
        · skip
          have hf : kfitsN (kindOf ty) D.length = false := by simpa using c4
          rw [if_pos hf] at hdq
          have hP3 : R = (.zero, .flt 7 0) := by rw [hP2, hdq, if_pos (by simp)]
          refine AWp.regionW ?_
          refine AWp.ret ?_
          try simp only [thenQ, blockQ, noGo]
          refine bodyQ.m ?_
          clear hK9 K9 hK8 K8 hK5 K5 hK4 K4 hK3 K3 hK2 K2 hK1 K1
          first | rw [hP3] | rw [hP1] | rw [hP]
          try simp only [GChunk.zero, Er.codeOf, Er.atOf]
          try rw [hw4]
          first | done | exact Hand.go
        · skip
          have hf : kfitsN (kindOf ty) D.length = true := by simpa using c4
          rw [if_neg (by rw [hf]; simp)] at hdq
          obtain ⟨f1, f2, f3⟩ := fits_facts (c := ⟨ty, fl, D, []⟩) hf
          have kc := counted12_c ⟨ty, fl, D, []⟩ (show D.length ≤ _ by omega) f1
          have ko := odd12_c ⟨ty, fl, D, []⟩ (show D.length ≤ _ by omega) f2 f3
          refine AWp.skip ?_
          refine hK8 _ ?_
          refine AWp.seqK fun K10 hK10 => ?_
          refine AWp.regionM fun K11 hK11 => ?_
          refine ARun2.callM (kc) ?_
          refine ARun2.endm (hK11 _ ?_)
          refine AWp.condLM (fun c5 => ?_) (fun c5 => ?_)
          · skip
            have hs : sackBad ⟨ty, fl, D, []⟩ = true := by simpa using c5
            rw [if_pos hs] at hdq
            have hP3 : R = (.zero, .flt 8 12) := by rw [hP2, hdq, if_pos (by simp)]
            refine AWp.regionW ?_
            refine AWp.ret ?_
            try simp only [thenQ, blockQ, noGo]
            refine bodyQ.m ?_
            clear hK11 K11 hK10 K10 hK9 K9 hK8 K8 hK5 K5 hK4 K4 hK3 K3 hK2 K2 hK1 K1
            first | rw [hP3] | rw [hP1] | rw [hP]
            try simp only [GChunk.zero, Er.codeOf, Er.atOf]
            try rw [hw4]
            first | done | exact Hand.go
          · skip
            have hs : sackBad ⟨ty, fl, D, []⟩ = false := by simpa using c5
            rw [if_neg (by rw [hs]; simp)] at hdq
            refine AWp.skip ?_
            refine hK10 _ ?_
            refine AWp.seqK fun K12 hK12 => ?_
            refine AWp.regionM fun K13 hK13 => ?_
            refine ARun2.callM (ko) ?_
            refine ARun2.endm (hK13 _ ?_)
            refine AWp.condLM (fun c6 => ?_) (fun c6 => ?_)
            · skip
              obtain ⟨w, hw⟩ : ∃ w, oddN ⟨ty, fl, D, []⟩ = some w := by
                cases ho : oddN ⟨ty, fl, D, []⟩ with
                | some w => exact ⟨w, rfl⟩
                | none => rw [(value_ok _ ho).2] at c6; simp at c6
              obtain ⟨w1, w2⟩ := value_at _ w hw
              rw [w1] at hdq
              have hwl := oddN_le hw
              have hw4 : IntKind.i64.wrap (4 + N w) = N (4 + w) := by simp only at hwl; rw [IntKind.wrap_i64]; unfold N; omega
              rw [w2] at ko
              have hP3 : R = (.zero, .flt 11 (4 + w)) := by rw [hP2, hdq, if_pos (by simp)]
              refine AWp.regionM fun K14 hK14 => ?_
              refine ARun2.callM (ko) ?_
              refine ARun2.endm (hK14 _ ?_)
              refine AWp.ret ?_
              try simp only [thenQ, blockQ, noGo]
              refine bodyQ.m ?_
              clear hK14 K14 hK13 K13 hK12 K12 hK11 K11 hK10 K10 hK9 K9 hK8 K8 hK5 K5 hK4 K4 hK3 K3 hK2 K2 hK1 K1
              first | rw [hP3] | rw [hP1] | rw [hP]
              try simp only [GChunk.zero, Er.codeOf, Er.atOf]
              try rw [hw4]
              first | done | exact Hand.go
            · skip
              have ho : oddN ⟨ty, fl, D, []⟩ = none := by
                cases ho : oddN ⟨ty, fl, D, []⟩ with
                | none => rfl
                | some w => rw [(value_at _ w ho).2] at c6; unfold N at c6; simp at c6 <;> omega
              rw [(value_ok _ ho).1] at hdq
              rw [hdq, if_neg (by simp)] at hP2
              have kp := parse08_n (classOf ty) (r.drop D.length) (kids_class D r hDk) (4 + D.length) (by rw [List.length_drop]; omega)
              have hsh := parseF_shift 4 (classOf ty) (r.drop D.length) 0 (4 + D.length)
              rw [Nat.zero_add] at hsh
              have hat := parseF_at 4 (classOf ty) (r.drop D.length) 0
              have hpl := parseF_len 4 (classOf ty) (r.drop D.length) 0
              have hnm := parseF_num 4 (classOf ty) (r.drop D.length) 0
              rw [List.length_drop] at hat hpl
              rw [hsh] at kp
              have hdd : b.drop (4 + D.length) = r.drop D.length := by rw [hr, List.drop_drop]
              generalize parseF 4 (classOf ty) (r.drop D.length) 0 = O at kp hat hpl hnm hP2
              rw [← hdd] at kp
              simp only [resP] at kp
              have kw := wanted12_c (kindOf ty) O.1 (by omega) (by omega)
              refine AWp.skip ?_
              refine hK12 _ ?_
              refine AWp.regionW ?_
              refine AWp.drS [[(6, none)], [(93, some 0)], [(94, some 1)], [(0, none)], [(8, none)], [(96, some 3), (97, some 4)], [(8, none)], [(95, some 2), (98, some 5), (99, some 6)], []] fun G hG => ?_
              refine Dr.sim ?_
              try simp only [List.cons_append, List.nil_append]
              refine Dr.sim ?_
              try simp only [List.cons_append, List.nil_append]
              refine Dr.call (hcx) ?_
              try simp only [List.cons_append, List.nil_append]
              refine Dr.sim ?_
              try simp only [List.cons_append, List.nil_append]
              refine Dr.sim ?_
              try simp only [List.cons_append, List.nil_append]
              refine Dr.sliceLo (4 + D.length) ?_ ?_
              · rw [bys_len]; omega
              try simp only [List.cons_append, List.nil_append]
              refine Dr.sim ?_
              try simp only [List.cons_append, List.nil_append]
              refine Dr.call (kp) ?_
              try simp only [List.cons_append, List.nil_append]
              refine Dr.al ?_
              try simp only [List.cons_append, List.nil_append]
              refine Dr.finA (n := 9) 8 [(100, 7), (9, 8)] [2, 5, 6] hG YtoapdhogghbojaaGreatDoor.Facts.mixed fun KD hKD => ?_
              refine ARun2.endm (hKD _ ?_); clear hKD KD hG G
              refine AWp.seqK fun K15 hK15 => ?_
              refine AWp.regionW ?_
              refine AWp.condLM (fun c7 => ?_) (fun c7 => ?_)
              · skip
                have hne : O.2 ≠ .ok := by
                  intro h; rw [h] at c7; simp [Er.shift, Er.codeOf] at c7
                have hP3 : R = (.zero, O.2.shift (4 + D.length)) := by rw [hP2]; exact if_pos hne
                refine AWp.drS [] fun G hG => ?_
                refine Dr.finZM 8 [2, 9] hG YtoapdhogghbojaaGreatDoor.Facts.mixed fun KD hKD => ?_
                clear hG G
                refine AAny.first 1 ?_
                refine ARun.opM ?_
                refine ARun2.endm ?_
                refine AAny.first 3 ?_
                refine ARun.opM ?_
                refine ARun2.endm ?_
                refine AAny.three 0 2 4 ?_ ?_ ?_
                ·
                  refine ARun.opM ?_
                  refine ARun2.endm ?_
                  refine AAny.three 2 4 5 ?_ ?_ ?_
                  ·
                    refine ARun.opM ?_
                    refine ARun2.endm ?_
                    refine AAny.two 4 5 ?_ ?_
                    ·
                      refine ARun.opM ?_
                      refine ARun2.endm ?_
                      refine AAny.one 5 ?_
                      refine ARun.opM ?_
                      refine ARun2.endm ?_
                      refine AAny.one 6 ?_
                      refine ARun.opM ?_
                      refine ARun2.endm ?_
                      refine AAny.one 7 ?_
                      refine ARun.opM ?_
                      refine ARun2.endm ?_
                      refine AAny.fin (hKD _ ?_); clear hKD KD
                      refine AWp.ret ?_
                      try simp only [thenQ, blockQ, noGo]
                      refine bodyQ.m ?_
                      clear hK15 K15 hK13 K13 hK12 K12 hK11 K11 hK10 K10 hK9 K9 hK8 K8 hK5 K5 hK4 K4 hK3 K3 hK2 K2 hK1 K1
                      first | rw [hP3] | rw [hP1] | rw [hP]
                      try simp only [GChunk.zero, Er.codeOf, Er.atOf]
                      try rw [hw4]
                      first | done | exact Hand.go
                    ·
                      refine ARun.opM ?_
                      refine ARun2.endm ?_
                      refine AAny.two 4 6 ?_ ?_
                      ·
                        refine ARun.opM ?_
                        refine ARun2.endm ?_
                        refine AAny.one 6 ?_
                        refine ARun.opM ?_
                        refine ARun2.endm ?_
                        refine AAny.one 7 ?_
                        refine ARun.opM ?_
                        refine ARun2.endm ?_
                        refine AAny.fin (hKD _ ?_); clear hKD KD
                        refine AWp.ret ?_
                        try simp only [thenQ, blockQ, noGo]
                        refine bodyQ.m ?_
                        clear hK15 K15 hK13 K13 hK12 K12 hK11 K11 hK10 K10 hK9 K9 hK8 K8 hK5 K5 hK4 K4 hK3 K3 hK2 K2 hK1 K1
                        first | rw [hP3] | rw [hP1] | rw [hP]
                        try simp only [GChunk.zero, Er.codeOf, Er.atOf]
                        try rw [hw4]
                        first | done | exact Hand.go
                      ·
                        refine ARun.opM ?_
                        refine ARun2.endm ?_
                        refine AAny.one 4 ?_
                        refine ARun.opM ?_
                        refine ARun2.endm ?_
                        refine AAny.one 7 ?_
                        refine ARun.opM ?_
                        refine ARun2.endm ?_
                        refine AAny.fin (hKD _ ?_); clear hKD KD
                        refine AWp.ret ?_
                        try simp only [thenQ, blockQ, noGo]
                        refine bodyQ.m ?_
                        clear hK15 K15 hK13 K13 hK12 K12 hK11 K11 hK10 K10 hK9 K9 hK8 K8 hK5 K5 hK4 K4 hK3 K3 hK2 K2 hK1 K1
                        first | rw [hP3] | rw [hP1] | rw [hP]
                        try simp only [GChunk.zero, Er.codeOf, Er.atOf]
                        try rw [hw4]
                        first | done | exact Hand.go
                  ·
                    refine ARun.opM ?_
                    refine ARun2.endm ?_
                    refine AAny.two 2 5 ?_ ?_
                    ·
                      refine ARun.opM ?_
                      refine ARun2.endm ?_
                      refine AAny.one 5 ?_
                      refine ARun.opM ?_
                      refine ARun2.endm ?_
                      refine AAny.one 6 ?_
                      refine ARun.opM ?_
                      refine ARun2.endm ?_
                      refine AAny.one 7 ?_
                      refine ARun.opM ?_
                      refine ARun2.endm ?_
                      refine AAny.fin (hKD _ ?_); clear hKD KD
                      refine AWp.ret ?_
                      try simp only [thenQ, blockQ, noGo]
                      refine bodyQ.m ?_
                      clear hK15 K15 hK13 K13 hK12 K12 hK11 K11 hK10 K10 hK9 K9 hK8 K8 hK5 K5 hK4 K4 hK3 K3 hK2 K2 hK1 K1
                      first | rw [hP3] | rw [hP1] | rw [hP]
                      try simp only [GChunk.zero, Er.codeOf, Er.atOf]
                      try rw [hw4]
                      first | done | exact Hand.go
                    ·
                      refine ARun.opM ?_
                      refine ARun2.endm ?_
                      refine AAny.one 2 ?_
                      refine ARun.opM ?_
                      refine ARun2.endm ?_
                      refine AAny.one 6 ?_
                      refine ARun.opM ?_
                      refine ARun2.endm ?_
                      refine AAny.one 7 ?_
                      refine ARun.opM ?_
                      refine ARun2.endm ?_
                      refine AAny.fin (hKD _ ?_); clear hKD KD
                      refine AWp.ret ?_
                      try simp only [thenQ, blockQ, noGo]
                      refine bodyQ.m ?_
                      clear hK15 K15 hK13 K13 hK12 K12 hK11 K11 hK10 K10 hK9 K9 hK8 K8 hK5 K5 hK4 K4 hK3 K3 hK2 K2 hK1 K1
                      first | rw [hP3] | rw [hP1] | rw [hP]
                      try simp only [GChunk.zero, Er.codeOf, Er.atOf]
                      try rw [hw4]
                      first | done | exact Hand.go
                  ·
                    refine ARun.opM ?_
                    refine ARun2.endm ?_
                    refine AAny.two 2 4 ?_ ?_
                    ·
                      refine ARun.opM ?_
                      refine ARun2.endm ?_
                      refine AAny.two 4 6 ?_ ?_
                      ·
                        refine ARun.opM ?_
                        refine ARun2.endm ?_
                        refine AAny.one 6 ?_
                        refine ARun.opM ?_
                        refine ARun2.endm ?_
                        refine AAny.one 7 ?_
                        refine ARun.opM ?_
                        refine ARun2.endm ?_
                        refine AAny.fin (hKD _ ?_); clear hKD KD
                        refine AWp.ret ?_
                        try simp only [thenQ, blockQ, noGo]
                        refine bodyQ.m ?_
                        clear hK15 K15 hK13 K13 hK12 K12 hK11 K11 hK10 K10 hK9 K9 hK8 K8 hK5 K5 hK4 K4 hK3 K3 hK2 K2 hK1 K1
                        first | rw [hP3] | rw [hP1] | rw [hP]
                        try simp only [GChunk.zero, Er.codeOf, Er.atOf]
                        try rw [hw4]
                        first | done | exact Hand.go
                      ·
                        refine ARun.opM ?_
                        refine ARun2.endm ?_
                        refine AAny.one 4 ?_
                        refine ARun.opM ?_
                        refine ARun2.endm ?_
                        refine AAny.one 7 ?_
                        refine ARun.opM ?_
                        refine ARun2.endm ?_
                        refine AAny.fin (hKD _ ?_); clear hKD KD
                        refine AWp.ret ?_
                        try simp only [thenQ, blockQ, noGo]
                        refine bodyQ.m ?_
                        clear hK15 K15 hK13 K13 hK12 K12 hK11 K11 hK10 K10 hK9 K9 hK8 K8 hK5 K5 hK4 K4 hK3 K3 hK2 K2 hK1 K1
                        first | rw [hP3] | rw [hP1] | rw [hP]
                        try simp only [GChunk.zero, Er.codeOf, Er.atOf]
                        try rw [hw4]
                        first | done | exact Hand.go
                    ·
                      refine ARun.opM ?_
                      refine ARun2.endm ?_
                      refine AAny.one 2 ?_
                      refine ARun.opM ?_
                      refine ARun2.endm ?_
                      refine AAny.one 6 ?_
                      refine ARun.opM ?_
                      refine ARun2.endm ?_
                      refine AAny.one 7 ?_
                      refine ARun.opM ?_
                      refine ARun2.endm ?_
                      refine AAny.fin (hKD _ ?_); clear hKD KD
                      refine AWp.ret ?_
                      try simp only [thenQ, blockQ, noGo]
                      refine bodyQ.m ?_
                      clear hK15 K15 hK13 K13 hK12 K12 hK11 K11 hK10 K10 hK9 K9 hK8 K8 hK5 K5 hK4 K4 hK3 K3 hK2 K2 hK1 K1
                      first | rw [hP3] | rw [hP1] | rw [hP]
                      try simp only [GChunk.zero, Er.codeOf, Er.atOf]
                      try rw [hw4]
                      first | done | exact Hand.go
                ·
                  refine ARun.opM ?_
                  refine ARun2.endm ?_
                  refine AAny.two 0 4 ?_ ?_
                  ·
                    refine ARun.opM ?_
                    refine ARun2.endm ?_
                    refine AAny.two 4 5 ?_ ?_
                    ·
                      refine ARun.opM ?_
                      refine ARun2.endm ?_
                      refine AAny.one 5 ?_
                      refine ARun.opM ?_
                      refine ARun2.endm ?_
                      refine AAny.one 6 ?_
                      refine ARun.opM ?_
                      refine ARun2.endm ?_
                      refine AAny.one 7 ?_
                      refine ARun.opM ?_
                      refine ARun2.endm ?_
                      refine AAny.fin (hKD _ ?_); clear hKD KD
                      refine AWp.ret ?_
                      try simp only [thenQ, blockQ, noGo]
                      refine bodyQ.m ?_
                      clear hK15 K15 hK13 K13 hK12 K12 hK11 K11 hK10 K10 hK9 K9 hK8 K8 hK5 K5 hK4 K4 hK3 K3 hK2 K2 hK1 K1
                      first | rw [hP3] | rw [hP1] | rw [hP]
                      try simp only [GChunk.zero, Er.codeOf, Er.atOf]
                      try rw [hw4]
                      first | done | exact Hand.go
                    ·
                      refine ARun.opM ?_
                      refine ARun2.endm ?_
                      refine AAny.two 4 6 ?_ ?_
                      ·
                        refine ARun.opM ?_
                        refine ARun2.endm ?_
                        refine AAny.one 6 ?_
                        refine ARun.opM ?_
                        refine ARun2.endm ?_
                        refine AAny.one 7 ?_
                        refine ARun.opM ?_
                        refine ARun2.endm ?_
                        refine AAny.fin (hKD _ ?_); clear hKD KD
                        refine AWp.ret ?_
                        try simp only [thenQ, blockQ, noGo]
                        refine bodyQ.m ?_
                        clear hK15 K15 hK13 K13 hK12 K12 hK11 K11 hK10 K10 hK9 K9 hK8 K8 hK5 K5 hK4 K4 hK3 K3 hK2 K2 hK1 K1
                        first | rw [hP3] | rw [hP1] | rw [hP]
                        try simp only [GChunk.zero, Er.codeOf, Er.atOf]
                        try rw [hw4]
                        first | done | exact Hand.go
                      ·
                        refine ARun.opM ?_
                        refine ARun2.endm ?_
                        refine AAny.one 4 ?_
                        refine ARun.opM ?_
                        refine ARun2.endm ?_
                        refine AAny.one 7 ?_
                        refine ARun.opM ?_
                        refine ARun2.endm ?_
                        refine AAny.fin (hKD _ ?_); clear hKD KD
                        refine AWp.ret ?_
                        try simp only [thenQ, blockQ, noGo]
                        refine bodyQ.m ?_
                        clear hK15 K15 hK13 K13 hK12 K12 hK11 K11 hK10 K10 hK9 K9 hK8 K8 hK5 K5 hK4 K4 hK3 K3 hK2 K2 hK1 K1
                        first | rw [hP3] | rw [hP1] | rw [hP]
                        try simp only [GChunk.zero, Er.codeOf, Er.atOf]
                        try rw [hw4]
                        first | done | exact Hand.go
                  ·
                    refine ARun.opM ?_
                    refine ARun2.endm ?_
                    refine AAny.one 0 ?_
                    refine ARun.opM ?_
                    refine ARun2.endm ?_
                    refine AAny.one 5 ?_
                    refine ARun.opM ?_
                    refine ARun2.endm ?_
                    refine AAny.one 6 ?_
                    refine ARun.opM ?_
                    refine ARun2.endm ?_
                    refine AAny.one 7 ?_
                    refine ARun.opM ?_
                    refine ARun2.endm ?_
                    refine AAny.fin (hKD _ ?_); clear hKD KD
                    refine AWp.ret ?_
                    try simp only [thenQ, blockQ, noGo]
                    refine bodyQ.m ?_
                    clear hK15 K15 hK13 K13 hK12 K12 hK11 K11 hK10 K10 hK9 K9 hK8 K8 hK5 K5 hK4 K4 hK3 K3 hK2 K2 hK1 K1
                    first | rw [hP3] | rw [hP1] | rw [hP]
                    try simp only [GChunk.zero, Er.codeOf, Er.atOf]
                    try rw [hw4]
                    first | done | exact Hand.go
                ·
                  refine ARun.opM ?_
                  refine ARun2.endm ?_
                  refine AAny.two 0 2 ?_ ?_
                  ·
                    refine ARun.opM ?_
                    refine ARun2.endm ?_
                    refine AAny.two 2 5 ?_ ?_
                    ·
                      refine ARun.opM ?_
                      refine ARun2.endm ?_
                      refine AAny.one 5 ?_
                      refine ARun.opM ?_
                      refine ARun2.endm ?_
                      refine AAny.one 6 ?_
                      refine ARun.opM ?_
                      refine ARun2.endm ?_
                      refine AAny.one 7 ?_
                      refine ARun.opM ?_
                      refine ARun2.endm ?_
                      refine AAny.fin (hKD _ ?_); clear hKD KD
                      refine AWp.ret ?_
                      try simp only [thenQ, blockQ, noGo]
                      refine bodyQ.m ?_
                      clear hK15 K15 hK13 K13 hK12 K12 hK11 K11 hK10 K10 hK9 K9 hK8 K8 hK5 K5 hK4 K4 hK3 K3 hK2 K2 hK1 K1
                      first | rw [hP3] | rw [hP1] | rw [hP]
                      try simp only [GChunk.zero, Er.codeOf, Er.atOf]
                      try rw [hw4]
                      first | done | exact Hand.go
                    ·
                      refine ARun.opM ?_
                      refine ARun2.endm ?_
                      refine AAny.one 2 ?_
                      refine ARun.opM ?_
                      refine ARun2.endm ?_
                      refine AAny.one 6 ?_
                      refine ARun.opM ?_
                      refine ARun2.endm ?_
                      refine AAny.one 7 ?_
                      refine ARun.opM ?_
                      refine ARun2.endm ?_
                      refine AAny.fin (hKD _ ?_); clear hKD KD
                      refine AWp.ret ?_
                      try simp only [thenQ, blockQ, noGo]
                      refine bodyQ.m ?_
                      clear hK15 K15 hK13 K13 hK12 K12 hK11 K11 hK10 K10 hK9 K9 hK8 K8 hK5 K5 hK4 K4 hK3 K3 hK2 K2 hK1 K1
                      first | rw [hP3] | rw [hP1] | rw [hP]
                      try simp only [GChunk.zero, Er.codeOf, Er.atOf]
                      try rw [hw4]
                      first | done | exact Hand.go
                  ·
                    refine ARun.opM ?_
                    refine ARun2.endm ?_
                    refine AAny.one 0 ?_
                    refine ARun.opM ?_
                    refine ARun2.endm ?_
                    refine AAny.one 5 ?_
                    refine ARun.opM ?_
                    refine ARun2.endm ?_
                    refine AAny.one 6 ?_
                    refine ARun.opM ?_
                    refine ARun2.endm ?_
                    refine AAny.one 7 ?_
                    refine ARun.opM ?_
                    refine ARun2.endm ?_
                    refine AAny.fin (hKD _ ?_); clear hKD KD
                    refine AWp.ret ?_
                    try simp only [thenQ, blockQ, noGo]
                    refine bodyQ.m ?_
                    clear hK15 K15 hK13 K13 hK12 K12 hK11 K11 hK10 K10 hK9 K9 hK8 K8 hK5 K5 hK4 K4 hK3 K3 hK2 K2 hK1 K1
                    first | rw [hP3] | rw [hP1] | rw [hP]
                    try simp only [GChunk.zero, Er.codeOf, Er.atOf]
                    try rw [hw4]
                    first | done | exact Hand.go
              · skip
                have he : O.2 = .ok := by
                  rw [← num_ok hnm]
                  have h0 : (O.2.shift (4 + D.length)).codeOf.1 = 0 := by simpa using c7
                  cases hx : O.2 with
                  | ok => rfl
                  | code c => rw [hx] at hnm; cases hnm
                  | flt c i => rw [hx] at hnm h0; simp [Er.shift, Er.codeOf, Er.num] at hnm h0; exact absurd h0 hnm
                refine AWp.skip ?_
                refine hK15 _ ?_
                refine AWp.regionW ?_
                refine AWp.seqK fun K16 hK16 => ?_
                refine AWp.regionM fun K17 hK17 => ?_
                refine ARun2.callM (kw) ?_
                refine ARun2.endm (hK17 _ ?_)
                refine AWp.condLM (fun c8 => ?_) (fun c8 => ?_)
                · skip
                  have hkn : kkidsOk (kindOf ty) O.1 = false := by simpa using c8
                  have hP3 : R = (.zero, .flt 7 0) := by rw [hP2]; unfold insC; rw [if_neg (by rw [he]; simp), if_pos hkn]
                  refine AWp.regionW ?_
                  refine AWp.ret ?_
                  try simp only [thenQ, blockQ, noGo]
                  refine bodyQ.m ?_
                  clear hK17 K17 hK16 K16 hK15 K15 hK13 K13 hK12 K12 hK11 K11 hK10 K10 hK9 K9 hK8 K8 hK5 K5 hK4 K4 hK3 K3 hK2 K2 hK1 K1
                  first | rw [hP3] | rw [hP1] | rw [hP]
                  try simp only [GChunk.zero, Er.codeOf, Er.atOf]
                  try rw [hw4]
                  first | done | exact Hand.go
                · skip
                  have hkn : kkidsOk (kindOf ty) O.1 = true := by simpa using c8
                  have hP3 : R = (⟨ty, fl, D, O.1⟩, .ok) := by rw [hP2]; unfold insC; rw [if_neg (by rw [he]; simp), if_neg (by rw [hkn]; simp)]
                  refine AWp.skip ?_
                  refine hK16 _ ?_
                  refine AWp.regionW ?_
                  refine AWp.ret ?_
                  try simp only [thenQ, blockQ, noGo]
                  refine bodyQ.m ?_
                  clear hK17 K17 hK16 K16 hK15 K15 hK13 K13 hK12 K12 hK11 K11 hK10 K10 hK9 K9 hK8 K8 hK5 K5 hK4 K4 hK3 K3 hK2 K2 hK1 K1
                  first | rw [hP3] | rw [hP1] | rw [hP]
                  try simp only [GChunk.zero, Er.codeOf, Er.atOf]
                  try rw [hw4]
                  first | done | exact Hand.go
theorem rparse12_c (b : List UInt8) (hb : b.length ≤ 2 ^ 30) : PC Tryz.prog 31 [.sl false 1 (bys b)] (.tup [chunkA false (parseC b).1, nat (parseC b).2.codeOf.1, nat (parseC b).2.atOf.1]) := by
  rcases Nat.lt_or_ge b.length 4 with h | h
  · have hr : parseC b = (.zero, .flt 4 0) := if_pos (.inl h)
    rw [hr]; exact rparse12_short b hb h
  · exact rparse12_main b hb h
theorem encode2_c (c : Nat) (l : List GNode) (hc : 0 < l.length → c = 1 ∨ c = 2) (hs : nSize l ≤ 2 ^ 30) (ht : tysOk l = true) : PC Tryz.prog 70 [nat c, .sl false 3 (nodesA false l)]
    (.tup [.sl true 1 (bys (if checkL c 1 l = 0 then encN l else [])), errA (checkL c 1 l)]) := by
  have hlen := nSize_len l
  refine PC.of_bodyK (by simp only [push_cast]) Tryz.func70 rfl (by rw [Tryz.ntmps70]; simp) ?_
  refine AWp.regionW ?_
  refine AWp.seqK fun K1 hK1 => ?_
  refine AWp.regionW ?_
  refine AWp.block ?_
  refine AWp.loopK0 [0, 1, 11, 12] (fun (i : Nat) => [(13, nat i)]) (fun i => i ≤ l.length ∧ checkL c 1 (l.take i) = 0) (fun i => l.length - i) (0) ?_ ⟨Nat.zero_le _, rfl⟩ ?_
  · skip
    refine Le.m 0 ?_ ?_
    · exact Go.Abs.evM
    · exact Go.Abs.evN
  · intro i hi K2 hK2
    refine AWp.regionW ?_
    refine AWp.seqK fun K3 hK3 => ?_
    refine AWp.condLM (fun c0 => ?_) (fun c0 => ?_)
    · skip
      have hil : i < l.length := by simpa using c0
      have hm := List.getElem_mem hil
      have hn1 := nSize_one hm
      refine AWp.skip ?_
      refine hK3 _ ?_
      refine AWp.seqK fun K4 hK4 => ?_
      refine AWp.block ?_
      refine AWp.regionM fun K5 hK5 => ?_
      refine ARun2.indexM (i) (nodeA false l[i]) ?_ ?_
      · exact nodesA_at _ _ _ hil
      refine ARun2.endm (hK5 _ ?_)
      refine AWp.regionM fun K6 hK6 => ?_
      refine ARun2.callM (check_c c l[i] (hc (by omega)) (by omega)) ?_
      refine ARun2.endm (hK6 _ ?_)
      refine AWp.regionW ?_
      refine AWp.condLM (fun c1 => ?_) (fun c1 => ?_)
      · skip
        have hne : checkN c 1 l[i] ≠ 0 := by simpa using c1
        have hr := checkL_at c 1 l i hil hi.2 hne
        have hr2 : (if checkL c 1 l = 0 then encN l else []) = [] := by rw [hr, if_neg hne]
        refine AWp.regionW ?_
        refine AWp.ret ?_
        try simp only [thenQ, blockQ, noGo]
        refine bodyQ.m ?_
        clear hK6 K6 hK5 K5 hK4 K4 hK3 K3 hK2 K2 hK1 K1
        rw [hr2, hr]; try rw [encN]
        first | done | exact Wk.go
      · skip
        have heq : checkN c 1 l[i] = 0 := by simpa using c1
        refine AWp.skip ?_
        refine hK4 _ ?_
        refine AWp.regionV ?_
        refine hK2 _ (i + 1) (⟨hil, by rw [List.take_succ_eq_append_getElem hil, checkL_snoc, hi.2]; simpa using heq⟩) (by omega) ?_
        refine Le.m 0 ?_ ?_
        · exact Go.Abs.evM
        · exact Go.Abs.evN
    · skip
      have hil : i = l.length := by have := hi.1; simp at c0; omega
      subst hil
      have hr : checkL c 1 l = 0 := by have := hi.2; rwa [List.take_length] at this
      have hr2 : (if checkL c 1 l = 0 then encN l else []) = encN l := if_pos hr
      refine AWp.exit ?_
      try simp only [thenQ, blockQ, noGo, reduceIte, Nat.reduceEqDiff]
      refine hK1 _ ?_
      refine AWp.regionM fun K7 hK7 => ?_
      refine ARun2.callM (frames_c l hs ht) ?_
      refine ARun2.callM (join_c (framesN l) (by intro f hf; rw [framesN_map] at hf; obtain ⟨n, hn, rfl⟩ := List.mem_map.1 hf; rw [frameN_ty]; exact GNode.tyOk_ty (tysOk_mem ht _ hn)) (by have := framesT_le l; omega) (by rw [framesN_len]; omega)) ?_
      refine ARun2.endm (hK7 _ ?_)
      refine AWp.regionW ?_
      refine AWp.ret ?_
      try simp only [thenQ, blockQ, noGo]
      refine bodyQ.m ?_
      clear hK7 K7 hK3 K3 hK2 K2 hK1 K1
      rw [hr2, hr]; try rw [encN]
      first | done | exact Wk.go
theorem headB_A (c : GChunk) (ht : c.ty < 256) (hf : c.flags < 256) : [u8 c.ty, u8 c.flags] = bys (headB c) := by
  simp only [bys, headB, List.map_cons, List.map_nil, u8_nat ht, u8_nat hf]
theorem check_class {c : GChunk} (h : checkC c = 0) : 0 < c.kids.length → classOf c.ty = 1 ∨ classOf c.ty = 2 := by
  intro hl
  cases hh : kindHas c.ty with
  | false => rw [check_none h hh] at hl; simp at hl
  | true => exact kclass _ _ (pre_kids (check_pre h hh)) (kind_bd c.ty).2.2.2.2.1 hl
theorem encN_check {c : GChunk} (h : checkC c = 0) : encN c.kids = joinF (refFs c.kids) := enc_rt _ 1 _ c.kids (Nat.le_refl _) (check_size h).2
def encC (c : GChunk) : List UInt8 := if checkC c = 0 then bytesC c else []
theorem wjoin4 (a b c d : List UInt8) : [a, b, c, d].flatten = a ++ (b ++ (c ++ d)) := by simp
theorem cenc_yes (c : GChunk) (u1 u2 : Nat) (BB J : List UInt8) (h : Small c) (hck : PC Tryz.prog 18 [chunkA false c] (errA 0))
    (hki : PC Tryz.prog 54 [nat (kindOf c.ty).kids] (.tup [nat (classOf c.ty), nat u1, nat u2])) (hs : 4 + c.data.length + nSize c.kids ≤ 65535)
    (hen : PC Tryz.prog 70 [nat (classOf c.ty), .sl false 3 (nodesA false c.kids)] (.tup [.sl true 1 (bys J), errA 0]))
    (hsz : PC Tryz.prog 26 [chunkA false c] (nat (4 + c.data.length + nSize c.kids)))
    (hp : PC Tryz.prog 45 [nat 2, .sl false 1 [u32 (4 + c.data.length + nSize c.kids)]] (.sl true 1 (bys (putB 2 (4 + c.data.length + nSize c.kids)))))
    (hj : PC Tryz.prog 46 [.sl false 1 [.sl false 1 [u8 c.ty, u8 c.flags], .sl false 1 (bys (putB 2 (4 + c.data.length + nSize c.kids))), .sl false 1 (bys c.data), .sl false 1 (bys J)]] (.sl true 1 (bys BB))) :
    PC Tryz.prog 24 [chunkA false c] (.tup [.sl true 1 (bys BB), errA 0]) := by
  refine PC.of_bodyK (by simp only [push_cast]) Tryz.func24 rfl (by rw [Tryz.ntmps24]; simp) ?_
  refine AWp.regionW ?_
  refine AWp.seqK fun K1 hK1 => ?_
  refine AWp.regionM fun K2 hK2 => ?_
  refine ARun2.callM (hck) ?_
  refine ARun2.endm (hK2 _ ?_)
  refine AWp.regionW ?_
  refine AWp.condF ?_
  refine AWp.skip ?_
  refine hK1 _ ?_
  refine AWp.regionM fun K3 hK3 => ?_
  refine ARun2.callM (kof_c c.ty h.ty) ?_
  refine ARun2.endm (hK3 _ ?_)
  refine AWp.regionM fun K4 hK4 => ?_
  refine ARun2.callM (hki) ?_
  refine ARun2.endm (hK4 _ ?_)
  refine AWp.regionM fun K5 hK5 => ?_
  refine ARun2.callM (hen) ?_
  refine ARun2.endm (hK5 _ ?_)
  refine AWp.drS [[(1, none)], [(37, some 0)], [(1, none)], [(39, some 2)], [(38, some 1), (40, some 3)], [(1, none)], [(42, some 5)], [(43, some 6)], [(44, some 7)], [(45, some 8)], [(1, none)], [(47, some 10)], [(10, none)], [(41, some 4), (46, some 9), (48, some 11), (49, some 12)], [(50, some 13)], [(11, none)], [(51, some 14)], [(52, some 15)]] fun G hG => ?_
  refine Dr.sim ?_
  try simp only [List.cons_append, List.nil_append]
  refine Dr.sim ?_
  try simp only [List.cons_append, List.nil_append]
  refine Dr.sim ?_
  try simp only [List.cons_append, List.nil_append]
  refine Dr.sim ?_
  try simp only [List.cons_append, List.nil_append]
  refine Dr.build ?_
  try simp only [List.cons_append, List.nil_append]
  refine Dr.sim ?_
  try simp only [List.cons_append, List.nil_append]
  refine Dr.call (hsz) ?_
  try simp only [List.cons_append, List.nil_append]
  refine Dr.sim ?_
  try simp only [List.cons_append, List.nil_append]
  refine Dr.build ?_
  try simp only [List.cons_append, List.nil_append]
  refine Dr.call (hp) ?_
  try simp only [List.cons_append, List.nil_append]
  refine Dr.sim ?_
  try simp only [List.cons_append, List.nil_append]
  refine Dr.sim ?_
  try simp only [List.cons_append, List.nil_append]
  refine Dr.sim ?_
  try simp only [List.cons_append, List.nil_append]
  refine Dr.build ?_
  try simp only [List.cons_append, List.nil_append]
  refine Dr.call (hj) ?_
  try simp only [List.cons_append, List.nil_append]
  refine Dr.sim ?_
  try simp only [List.cons_append, List.nil_append]
  refine Dr.sim ?_
  try simp only [List.cons_append, List.nil_append]
  refine Dr.sim ?_
  try simp only [List.cons_append, List.nil_append]
  refine Dr.finM (n := 18) [(2, 16), (3, 17)] [] hG YtoapdhogghbojaaGreatDoor.Facts.mixed fun KD hKD => ?_
  refine ARun2.endm (hKD _ ?_); clear hKD KD hG G
  refine AWp.ret ?_
  try simp only [thenQ, blockQ, noGo]
  refine bodyQ.m ?_
  clear hK5 K5 hK4 K4 hK3 K3 hK2 K2 hK1 K1
  first | done | exact Wk.go
theorem cenc_no (c : GChunk) (h : Small c) (h0 : ¬ checkC c = 0) : PC Tryz.prog 24 [chunkA false c] (.tup [.sl true 1 (bys []), errA (checkC c)]) := by
  have hck := h.check
  refine PC.of_bodyK (by simp only [push_cast]) Tryz.func24 rfl (by rw [Tryz.ntmps24]; simp) ?_
  refine AWp.regionW ?_
  refine AWp.seqK fun K1 hK1 => ?_
  refine AWp.regionM fun K2 hK2 => ?_
  refine ARun2.callM (hck) ?_
  refine ARun2.endm (hK2 _ ?_)
  refine AWp.regionW ?_
  refine AWp.condLM (fun c0 => ?_) (fun c0 => ?_)
  · skip
    refine AWp.regionW ?_
    refine AWp.ret ?_
    try simp only [thenQ, blockQ, noGo]
    refine bodyQ.m ?_
    clear hK2 K2 hK1 K1
    first | done | exact Wk.go
  · skip
    exfalso; apply h0; simpa using c0
theorem cenc_c (c : GChunk) (h : Small c) (htk : tysOk c.kids = true) : PC Tryz.prog 24 [chunkA false c] (.tup [.sl true 1 (bys (encC c)), errA (checkC c)]) := by
  have hb := kind_bd c.ty
  have hck := h.check
  have hki := kinside_c (kindOf c.ty).kids (by omega)
  have hcc : classOf c.ty = (kinsideN (kindOf c.ty).kids).1 := rfl
  rw [← hcc] at hki
  have hns := nSize_szs2 c.kids
  have hkk := h.kids
  have hdd := h.data
  have hsz := csize_c c (by omega) (by omega)
  by_cases h0 : checkC c = 0
  · obtain ⟨hs, hL⟩ := check_size h0
    have hen := encode2_c (classOf c.ty) c.kids (check_class h0) (by omega) htk
    rw [hL, if_pos rfl, encN_check h0] at hen
    have hrl := refB_len c.kids
    have hp : PC Tryz.prog 45 [nat 2, .sl false 1 [u32 (4 + c.data.length + nSize c.kids)]] (.sl true 1 (bys (putB 2 (4 + c.data.length + nSize c.kids)))) := by
      have := wire_put 2 [4 + c.data.length + nSize c.kids] (by omega) (by intro x hx; simp at hx; omega) (by simp)
      simpa [u32s, List.flatMap_cons, List.flatMap_nil] using this
    have hj : PC Tryz.prog 46 [.sl false 1 [.sl false 1 (bys (headB c)), .sl false 1 (bys (putB 2 (4 + c.data.length + nSize c.kids))), .sl false 1 (bys c.data), .sl false 1 (bys (joinF (refFs c.kids)))]] (.sl true 1 (bys (bytesC c))) := by
      have := wjoin_c [headB c, putB 2 (4 + c.data.length + nSize c.kids), c.data, joinF (refFs c.kids)] (by simp only [lens, List.map_cons, List.map_nil, List.sum_cons, List.sum_nil, putB_len, headB, List.length_cons, List.length_nil]; omega) (by simp)
      rw [wjoin4] at this
      exact this
    rw [← headB_A c h.ty h.flags] at hj
    have he : encC c = bytesC c := if_pos h0
    rw [h0] at hck ⊢
    rw [he]
    exact cenc_yes c _ _ _ _ h hck hki hs hen hsz hp hj
  · have he : encC c = [] := if_neg h0
    rw [he]
    exact cenc_no c h h0
theorem coded12_c (e c : Nat) : PC Tryz.prog 25 [errA e, nat c] (bool (e == c)) := by
  refine PC.of_bodyW (by simp only [push_cast]) Tryz.func25 rfl (by rw [Tryz.ntmps25]; simp) ?_
  refine AWp.regionW ?_
  refine AWp.seqK fun K1 hK1 => ?_
  refine AWp.regionW ?_
  refine AWp.condLM (fun c0 => ?_) (fun c0 => ?_)
  · skip
    have hc : c = 0 := by simpa using c0
    subst hc
    refine AWp.regionW ?_
    refine AWp.ret ?_
    try simp only [thenQ, blockQ, noGo]
    refine bodyQ.m ?_
    clear hK1 K1
    first | done | exact Hand.go
  · skip
    have hc : c ≠ 0 := by simpa using c0
    refine AWp.skip ?_
    refine hK1 _ ?_
    refine AWp.regionM fun K2 hK2 => ?_
    refine ARun2.ifcEqM (e == c) (ifcEq_err e c hc) ?_
    refine ARun2.endm (hK2 _ ?_)
    refine AWp.ret ?_
    try simp only [thenQ, blockQ, noGo]
    refine bodyQ.m ?_
    clear hK2 K2 hK1 K1
    first | done | exact Hand.go
theorem told12_c (e : Er) (c i : Nat) : PC Tryz.prog 32 [erA e, nat c, nat i] (bool (toldN e c i)) := by
  have hT : toldN e c i = toldN e c i := rfl
  conv at hT => rhs; unfold toldN
  generalize toldN e c i = T at hT
  have h1 := code_c e
  have h2 := at_c e
  generalize e.codeOf.1 = x at h1 hT
  generalize e.codeOf.2 = y at h1 hT
  generalize e.atOf.1 = u at h2 hT
  generalize e.atOf.2 = v at h2 hT
  refine PC.of_bodyW (by simp only [push_cast]) Tryz.func32 rfl (by rw [Tryz.ntmps32]; simp) ?_
  refine AWp.regionW ?_
  refine AWp.seqK fun K1 hK1 => ?_
  refine AWp.regionW ?_
  refine AWp.condLM (fun c0 => ?_) (fun c0 => ?_)
  · skip
    have hc : (c == 0) = true := by simpa using c0
    rw [hc] at hT
    refine AWp.regionW ?_
    refine AWp.ret ?_
    try simp only [thenQ, blockQ, noGo]
    refine bodyQ.m ?_
    clear hK1 K1
    subst hT; simp only [cond_true, cond_false]
    first | done | exact Hand.go
  · skip
    have hc : (c == 0) = false := by simpa using c0
    rw [hc] at hT
    refine AWp.skip ?_
    refine hK1 _ ?_
    refine AWp.regionM fun K2 hK2 => ?_
    refine ARun2.callM (h1) ?_
    refine ARun2.endm (hK2 _ ?_)
    refine AWp.regionM fun K3 hK3 => ?_
    refine ARun2.callM (h2) ?_
    refine ARun2.endm (hK3 _ ?_)
    refine AWp.regionA fun K4 hK4 => ?_
    refine ARun.segm 2 fun KS hKS => ?_
    refine ARun2.endm (hKS _ ?_); clear hKS KS
    apply ARun.grpM 3 1 true 29 [2, 9, 10, 26]
    · intro g1 KG hKG
      refine ARun2.gom ?_
      exact ARun2.endm (hKG _ Le.grpM)
    refine ARun.segm 2 fun KS hKS => ?_
    refine ARun2.endm (hKS _ ?_); clear hKS KS
    apply ARun.grpM 1 6 true 32 [2, 9, 31]
    · intro g6 KG hKG
      refine ARun2.gom ?_
      exact ARun2.endm (hKG _ Le.grpM)
    refine ARun.segm 2 fun KS hKS => ?_
    refine ARun2.endm (hKS _ ?_); clear hKS KS
    apply ARun.grpM 3 9 true 37 [34]
    · intro g9 KG hKG
      refine ARun2.gom ?_
      exact ARun2.endm (hKG _ Le.grpM)
    refine ARun2.gom ?_
    refine ARun2.endm (hK4 _ ?_)
    refine AWp.ret ?_
    try simp only [thenQ, blockQ, noGo]
    refine bodyQ.m ?_
    clear hK4 K4 hK3 K3 hK2 K2 hK1 K1
    subst hT; simp only [cond_true, cond_false]
    first | done | exact Hand.go
theorem csame_c (a b : GChunk) (h : Small a) : PC Tryz.prog 38 [chunkA false a, chunkA false b] (bool (sameC a b)) := by
  have hd := h.data
  have hk := h.kids
  have hl := szs_len a.kids
  have k1 := equal_c a.data b.data
  have k2 := equalFunc_c a.kids b.kids (by omega) (fun n hn m hm => same_c n m (by have := szs_mem hn; omega))
  refine PC.of_bodyW (by simp only [push_cast]) Tryz.func38 rfl (by rw [Tryz.ntmps38]; simp) ?_
  refine AWp.regionW ?_
  refine AWp.regionA fun K1 hK1 => ?_
  refine ARun.segm 6 fun KS hKS => ?_
  refine ARun2.endm (hKS _ ?_); clear hKS KS
  apply ARun.grpM 5 5 true 15 [2, 3, 10]
  · intro g5 KG hKG
    refine ARun2.gom ?_
    exact ARun2.endm (hKG _ Le.grpM)
  refine ARun.segm 2 fun KS hKS => ?_
  refine ARun2.endm (hKS _ ?_); clear hKS KS
  apply ARun.grpM 5 12 true 22 [2, 3, 17]
  · intro g12 KG hKG
    refine ARun2.gom ?_
    refine ARun2.callM (k1) ?_
    exact ARun2.endm (hKG _ Le.grpM)
  refine ARun.segm 2 fun KS hKS => ?_
  refine ARun2.endm (hKS _ ?_); clear hKS KS
  apply ARun.grpM 5 19 true 29 [24]
  · intro g19 KG hKG
    refine ARun2.gom ?_
    refine ARun2.callM (k2) ?_
    exact ARun2.endm (hKG _ Le.grpM)
  refine ARun2.gom ?_
  refine ARun2.endm (hK1 _ ?_)
  refine AWp.ret ?_
  try simp only [thenQ, blockQ, noGo]
  refine bodyQ.m ?_
  clear hK1 K1
  simp only [sameC]
  first | done | exact Hand.go
theorem Er.shift_numB {e : Er} (h : e.num = true) (n : Nat) : (e.shift n).num = true := by
  cases e <;> simp [Er.shift, Er.num] at * <;> exact h
theorem dataE4_num (c : GChunk) : (dataE4 c).num = true := by
  rw [dataE4_eq]
  split
  · rfl
  split
  · rfl
  split
  · rfl
  cases h : oddN c with
  | none => rw [(value_ok c h).1]; rfl
  | some i => rw [(value_at c i h).1]; rfl
theorem restC_facts (c : GChunk) (d : List UInt8) : (restC c d).2.num = true ∧ ((restC c d).2 ≠ .ok → (restC c d).1 = .zero) := by
  unfold restC
  split
  · exact ⟨dataE4_num c, fun _ => rfl⟩
  · unfold insC
    split
    · exact ⟨Er.shift_numB (parseF_num _ _ _ _) _, fun _ => rfl⟩
    · split
      · exact ⟨rfl, fun _ => rfl⟩
      · exact ⟨rfl, fun h => absurd rfl h⟩
theorem parseC_facts (b : List UInt8) : (parseC b).2.num = true ∧ ((parseC b).2 ≠ .ok → (parseC b).1 = .zero) := by
  unfold parseC
  split
  · exact ⟨rfl, fun _ => rfl⟩
  · split
    · exact ⟨rfl, fun h => absurd rfl h⟩
    · exact restC_facts _ _
def ex12 : GChunk := ⟨7, 0, [0, 0, 0, 9], []⟩
theorem small_ex12 : Small ex12 := ⟨by decide, by decide, by decide, by decide⟩
theorem told12_num (e : Er) (h : e.num = true) : toldN e e.codeOf.1 e.atOf.1 = true := by
  cases e with
  | ok => rfl
  | code c => cases h
  | flt c i => simp [toldN, Er.codeOf, Er.atOf, Er.num] at *; simp [h]
set_option maxRecDepth 100000 in
set_option maxHeartbeats 1000000 in
theorem awake12_c : PC Tryz.prog 23 [] (bool true) := by
  have k1 := cenc_c ex12 small_ex12 rfl
  have w1 : encC ex12 = [7, 0, 0, 8, 0, 0, 0, 9] := by kernel_rfl
  have w2 : checkC ex12 = 0 := by kernel_rfl
  rw [w1, w2] at k1
  have k2 := cparse_c [7, 0, 0, 8, 0, 0, 0, 9] (by decide)
  have w3 : parseC [7, 0, 0, 8, 0, 0, 0, 9] = (ex12, .ok) := by kernel_rfl
  rw [w3] at k2
  have k3 := cparse_c [7, 1, 0, 8, 0, 0, 0, 9] (by decide)
  have w4 : parseC [7, 1, 0, 8, 0, 0, 0, 9] = (.zero, .flt 6 1) := by kernel_rfl
  rw [w4] at k3
  have k4 : PC Tryz.prog 29 [.sl false 1 (bys [7, 0, 0, 8, 0, 0, 0, 9]), .sl false 1 (bys [7, 0, 0, 8, 0, 0, 0, 9])] (bool true) := same01_c [7, 0, 0, 8, 0, 0, 0, 9] [7, 0, 0, 8, 0, 0, 0, 9] (by decide)
  have k5 := csame_c ex12 ex12 small_ex12
  rw [sameC_self] at k5
  have k6 := told12_c (.flt 6 1) 6 1
  have w6 : toldN (.flt 6 1) 6 1 = true := rfl
  rw [w6] at k6
  have k7 := csize_c ex12 (by decide) (by show nSize [] ≤ _; simp [nSize, nLens, tlvSize, sumUp])
  have w7 : 4 + ex12.data.length + nSize ex12.kids = 8 := by kernel_rfl
  rw [w7] at k7
  have k8 := small_ex12.check
  rw [w2] at k8
  have k9 : PC Tryz.prog 18 [chunkA false ⟨7, 0, [], []⟩] (errA 7) := by
    have h : Small ⟨7, 0, [], []⟩ := ⟨by decide, by decide, by decide, by decide⟩
    have w : checkC ⟨7, 0, [], []⟩ = 7 := by kernel_rfl
    exact w ▸ h.check
  have k10 := coded12_c 7 7
  have k11 := small_ex12.clone
  have k12 := cparams_c ex12 (by decide) (by decide) (by decide)
  have w12 : paramsOf ex12 = [] := by kernel_rfl
  rw [w12] at k12
  unfold ex12 at k1 k2 k5 k7 k8 k11 k12
  simp only [GChunk.zero] at k3
  refine PC.of_bodyW (by simp only [push_cast]) Tryz.func23 rfl (by rw [Tryz.ntmps23]; simp) ?_
  refine AWp.regionW ?_
  refine AWp.regionW ?_
  refine AWp.regionM fun K1 hK1 => ?_
  refine ARun2.callM (k1) ?_
  refine ARun2.endm (hK1 _ ?_)
  refine AWp.regionM fun K2 hK2 => ?_
  refine ARun2.callM (k2) ?_
  refine ARun2.endm (hK2 _ ?_)
  refine AWp.regionM fun K3 hK3 => ?_
  refine ARun2.callM (k3) ?_
  refine ARun2.endm (hK3 _ ?_)
  refine AWp.drS [[(2, none)], [], [(25, some 0), (26, some 1)], [(27, some 2)], [(3, none), (28, some 3)], [(29, some 4), (28, some 3)], [(28, some 3), (30, some 5)], [(31, some 6)], [(4, none), (32, some 7)], [(1, none), (32, some 7)], [(33, some 8), (34, some 9), (32, some 7)], [(32, some 7), (35, some 10)], [(36, some 11)], [(5, none), (37, some 12)], [(38, some 13), (37, some 12)], [(37, some 12), (39, some 14)], [(40, some 15)], [(7, none), (41, some 16)], [(42, some 17), (41, some 16)], [(41, some 16), (43, some 18)], [(44, some 19)], [(1, none), (45, some 20)], [(46, some 21), (45, some 20)], [(47, some 22), (45, some 20)], [(45, some 20), (48, some 23)], [(49, some 24)], [(1, none), (50, some 25)], [(51, some 26), (50, some 25)], [(52, some 27), (50, some 25)], [(50, some 25), (53, some 28)], [(54, some 29)], [(55, some 30)], [(56, some 31), (55, some 30)], [(57, some 32), (55, some 30)], [(55, some 30), (58, some 33)], [(59, some 34)], [(1, none), (60, some 35)], [(61, some 36), (60, some 35)], [(1, none), (60, some 35)], [(62, some 37), (63, some 38), (60, some 35)], [(60, some 35), (64, some 39)], [(65, some 40)], [(1, none), (66, some 41)], [(67, some 42), (66, some 41)], [(68, some 43), (66, some 41)], [(69, some 44), (66, some 41)], [(66, some 41), (70, some 45)], [(71, some 46)]] fun G hG => ?_
  refine Dr.sim ?_
  try simp only [List.cons_append, List.nil_append]
  refine Dr.build ?_
  try simp only [List.cons_append, List.nil_append]
  refine Dr.call (k4) ?_
  try simp only [List.cons_append, List.nil_append]
  refine Dr.sim ?_
  try simp only [List.cons_append, List.nil_append]
  refine Dr.simg ?_
  try simp only [List.cons_append, List.nil_append]
  refine Dr.simg ?_
  try simp only [List.cons_append, List.nil_append]
  refine Dr.sim ?_
  try simp only [List.cons_append, List.nil_append]
  refine Dr.sim ?_
  try simp only [List.cons_append, List.nil_append]
  refine Dr.simg ?_
  try simp only [List.cons_append, List.nil_append]
  refine Dr.simg ?_
  try simp only [List.cons_append, List.nil_append]
  refine Dr.callg (fun g7 => k5) ?_
  try simp only [List.cons_append, List.nil_append]
  refine Dr.sim ?_
  try simp only [List.cons_append, List.nil_append]
  refine Dr.sim ?_
  try simp only [List.cons_append, List.nil_append]
  refine Dr.simg ?_
  try simp only [List.cons_append, List.nil_append]
  refine Dr.simg ?_
  try simp only [List.cons_append, List.nil_append]
  refine Dr.sim ?_
  try simp only [List.cons_append, List.nil_append]
  refine Dr.sim ?_
  try simp only [List.cons_append, List.nil_append]
  refine Dr.simg ?_
  try simp only [List.cons_append, List.nil_append]
  refine Dr.callg (fun g16 => k6) ?_
  try simp only [List.cons_append, List.nil_append]
  refine Dr.sim ?_
  try simp only [List.cons_append, List.nil_append]
  refine Dr.sim ?_
  try simp only [List.cons_append, List.nil_append]
  refine Dr.simg ?_
  try simp only [List.cons_append, List.nil_append]
  refine Dr.callg (fun g20 => k7) ?_
  try simp only [List.cons_append, List.nil_append]
  refine Dr.simg ?_
  try simp only [List.cons_append, List.nil_append]
  refine Dr.sim ?_
  try simp only [List.cons_append, List.nil_append]
  refine Dr.sim ?_
  try simp only [List.cons_append, List.nil_append]
  refine Dr.simg ?_
  try simp only [List.cons_append, List.nil_append]
  refine Dr.callg (fun g25 => k8) ?_
  try simp only [List.cons_append, List.nil_append]
  refine Dr.simg ?_
  try simp only [List.cons_append, List.nil_append]
  refine Dr.sim ?_
  try simp only [List.cons_append, List.nil_append]
  refine Dr.sim ?_
  try simp only [List.cons_append, List.nil_append]
  refine Dr.simg ?_
  try simp only [List.cons_append, List.nil_append]
  refine Dr.callg (fun g30 => k9) ?_
  try simp only [List.cons_append, List.nil_append]
  refine Dr.callg (fun g30 => k10) ?_
  try simp only [List.cons_append, List.nil_append]
  refine Dr.sim ?_
  try simp only [List.cons_append, List.nil_append]
  refine Dr.sim ?_
  try simp only [List.cons_append, List.nil_append]
  refine Dr.simg ?_
  try simp only [List.cons_append, List.nil_append]
  refine Dr.callg (fun g35 => k11) ?_
  try simp only [List.cons_append, List.nil_append]
  refine Dr.simg ?_
  try simp only [List.cons_append, List.nil_append]
  refine Dr.callg (fun g35 => k5) ?_
  try simp only [List.cons_append, List.nil_append]
  refine Dr.sim ?_
  try simp only [List.cons_append, List.nil_append]
  refine Dr.sim ?_
  try simp only [List.cons_append, List.nil_append]
  refine Dr.simg ?_
  try simp only [List.cons_append, List.nil_append]
  refine Dr.callg (fun g41 => k12) ?_
  try simp only [List.cons_append, List.nil_append]
  refine Dr.simg ?_
  try simp only [List.cons_append, List.nil_append]
  refine Dr.simg ?_
  try simp only [List.cons_append, List.nil_append]
  refine Dr.sim ?_
  try simp only [List.cons_append, List.nil_append]
  refine Dr.sim ?_
  try simp only [List.cons_append, List.nil_append]
  refine Dr.finM (n := 48) [(0, 47)] [] hG YtoapdhogghbojaaGreatDoor.Facts.mixed fun KD hKD => ?_
  refine ARun2.endm (hKD _ ?_); clear hKD KD hG G
  refine AWp.ret ?_
  try simp only [thenQ, blockQ, noGo]
  refine bodyQ.m ?_
  clear hK3 K3 hK2 K2 hK1 K1
  first | done | exact Hand.go
set_option maxHeartbeats 1000000 in
theorem chunkParses_c (b : List UInt8) : PC Tryz.prog 6 [.sl false 1 (bys b)] (bool true) := by
  refine PC.of_bodyW (by simp only [push_cast]) Tryz.func6 rfl (by rw [Tryz.ntmps6]; simp) ?_
  refine AWp.regionW ?_
  refine AWp.seqK fun K1 hK1 => ?_
  refine AWp.regionM fun K2 hK2 => ?_
  refine ARun2.callM (awake12_c) ?_
  refine ARun2.endm (hK2 _ ?_)
  refine AWp.condLM (fun c0 => ?_) (fun c0 => ?_)
  · skip
    refine AWp.regionM fun K3 hK3 => ?_
    refine ARun2.callM (awake12_c) ?_
    refine ARun2.endm (hK3 _ ?_)
    refine AWp.ret ?_
    try simp only [thenQ, blockQ, noGo]
    refine bodyQ.m ?_
    clear hK3 K3 hK2 K2 hK1 K1
    first | done | exact Hand.go
  · skip
    have hbl : b.length ≤ 2000 := by simpa using c0
    have k1 := cparse_c b (by omega)
    have k2 := rparse12_c b (by omega)
    have k3 := told12_c (parseC b).2 (parseC b).2.codeOf.1 (parseC b).2.atOf.1
    obtain ⟨hn, hz⟩ := parseC_facts b
    rw [told12_num _ hn] at k3
    have hbk : (parseC b).2 = .ok → parseC b = ((parseC b).1, .ok) := fun h => Prod.ext rfl h
    have hbk2 : (parseC b).2 = .ok → _ := fun h => chunk_back (hbk h)
    clear hbk
    generalize parseC b = O at k1 k2 k3 hn hz hbk2
    refine AWp.skip ?_
    refine hK1 _ ?_
    refine AWp.regionM fun K4 hK4 => ?_
    refine ARun2.buildOwnM ?_
    refine ARun2.appendM ?_ ?_ ?_
    · rw [YtoapdhogghbojaaGreatDoor.Facts.eb24, bys_len, List.length_nil]; omega
    · rw [bys_len, List.length_nil]; omega
    refine ARun2.endm (hK4 _ ?_)
    refine AWp.regionM fun K5 hK5 => ?_
    refine ARun2.callLendM 0 k1 ?_
    refine ARun2.endm (hK5 _ ?_)
    refine AWp.regionM fun K6 hK6 => ?_
    refine ARun2.callM (k2) ?_
    refine ARun2.endm (hK6 _ ?_)
    refine AWp.seqK fun K7 hK7 => ?_
    refine AWp.regionM fun K8 hK8 => ?_
    refine ARun2.callM (k3) ?_
    refine ARun2.endm (hK8 _ ?_)
    refine AWp.condF ?_
    refine AWp.skip ?_
    refine hK7 _ ?_
    refine AWp.seqK fun K9 hK9 => ?_
    refine AWp.regionW ?_
    refine AWp.block ?_
    refine AWp.loopK [0, 3, 4, 6, 7] (fun (i : Nat) => [(9, nat i)]) (fun i => [.row 5 1 (bys (incN b i)), .box 31 [u8 O.1.ty, u8 O.1.flags, .sl true 1 (bys O.1.data), .sl true 3 (nodesA true O.1.kids)], .box 31 [u8 O.1.ty, u8 O.1.flags, .sl false 1 (bys O.1.data), .sl false 3 (nodesA false O.1.kids)]]) (fun i => i ≤ b.length) (fun i => b.length - i) (0) ?_ (Nat.zero_le _) ?_
    · skip
      refine Le.m 3 ?_ ?_
      · try simp only [push_cast, ↓reduceIte, Nat.reduceEqDiff, Nat.reduceLT, Nat.reduceAdd, Nat.reduceSub, Nat.reduceMul, Nat.reduceLeDiff, Nat.reducePow, Int.reduceLT, Int.reduceToNat, reduceCtorEq, Int.reduceNeg, Int.reduceEq, Nat.reduceBEq, Nat.reduceBNe, Int.reduceBEq, Int.reduceBNe, String.reduceEq]
        try simp (disch := omega) only [w_nat, w_add, w_addl, w_addr, w_sub, w_subl, w_mul, w_mull, w_mulr, w_u32, w_u16, w_u8, w_u32a, N_zero]
        first | done | skip
        rw [incN_zero]
      · exact Go.Abs.evN
    · intro i hi K10 hK10
      refine AWp.seqK fun K11 hK11 => ?_
      refine AWp.regionW ?_
      refine AWp.condLM (fun c2 => ?_) (fun c2 => ?_)
      · skip
        have hil : i < b.length := by simpa using c2
        refine AWp.skip ?_
        refine hK11 _ ?_
        refine AWp.seqK fun K12 hK12 => ?_
        refine AWp.block ?_
        refine AWp.regionN fun K13 hK13 => ?_
        refine ARun2.indexOwnM (xs := bys (incN b i)) i (by rw [bys_len, incN_len]; exact hil) ?_
        refine ARun2.loadEM (xs := bys (incN b i)) (.val (.int .u8 (N b[i].toNat))) (by rw [bys_at _ _ (by rw [incN_len]; exact hil), incN_at b i hil]) ?_
        refine ARun2.indexOwnM (xs := bys (incN b i)) i (by rw [bys_len, incN_len]; exact hil) ?_
        refine ARun2.storeEM (xs := bys (incN b i)) (by rw [bys_len, incN_len]; exact hil) ?_
        refine ARun2.endm (hK13 _ ?_)
        refine hK12 _ ?_
        refine AWp.regionV ?_
        refine hK10 _ (i + 1) (by omega) (by omega) ?_
        refine Le.m 3 ?_ ?_
        · try simp only [push_cast, ↓reduceIte, Nat.reduceEqDiff, Nat.reduceLT, Nat.reduceAdd, Nat.reduceSub, Nat.reduceMul, Nat.reduceLeDiff, Nat.reducePow, Int.reduceLT, Int.reduceToNat, reduceCtorEq, Int.reduceNeg, Int.reduceEq, Nat.reduceBEq, Nat.reduceBNe, Int.reduceBEq, Int.reduceBNe, String.reduceEq]
          try simp (disch := omega) only [w_nat, w_add, w_addl, w_addr, w_sub, w_subl, w_mul, w_mull, w_mulr, w_u32, w_u16, w_u8, w_u32a, N_zero]
          first | done | skip
          rw [u8_inc, incN_step b i hil]
        · exact Go.Abs.evN
      · skip
        refine AWp.exit ?_
        try simp only [thenQ, blockQ, noGo, reduceIte, Nat.reduceEqDiff]
        refine hK9 _ ?_
        refine AWp.seqK fun K14 hK14 => ?_
        refine AWp.regionW ?_
        refine AWp.condLM (fun c3 => ?_) (fun c3 => ?_)
        · skip
          have he : O.2 ≠ .ok := by intro h; rw [h] at c3; cases c3
          have k9 : PC Tryz.prog 15 [chunkA false O.1, chunkA false .zero] (bool true) := by rw [hz he]; exact sameC_self .zero ▸ small_zero.same
          simp only [GChunk.zero] at k9
          refine AWp.regionM fun K15 hK15 => ?_
          refine ARun2.callM (k9) ?_
          refine ARun2.endm (hK15 _ ?_)
          refine AWp.ret ?_
          try simp only [thenQ, blockQ, noGo]
          refine bodyQ.m ?_
          clear hK15 K15 hK14 K14 hK11 K11 hK10 K10 hK9 K9 hK8 K8 hK7 K7 hK6 K6 hK5 K5 hK4 K4 hK2 K2 hK1 K1
          first | done | exact Hand.go
        · skip
          have he : O.2 = .ok := by rw [← num_ok hn]; simpa using c3
          obtain ⟨b1, b2, b3, b4, b5, b6⟩ := hbk2 he
          have hbc := bytesC_len O.1
          rw [b2] at hbc
          have hss := szs_nSize O.1.kids
          have hsm : Small O.1 := ⟨b4, b5, by omega, by omega⟩
          have k4 := cenc_c O.1 hsm b3
          rw [show encC O.1 = bytesC O.1 from if_pos b1, b2, b1] at k4
          have k5 : PC Tryz.prog 15 [chunkA false O.1, chunkA false O.1] (bool true) := sameC_self O.1 ▸ hsm.same
          have k6 := same01_c b b (by omega)
          rw [decide_eq_true rfl] at k6
          refine AWp.skip ?_
          refine hK14 _ ?_
          refine AWp.regionM fun K16 hK16 => ?_
          refine ARun2.callM (k4) ?_
          refine ARun2.endm (hK16 _ ?_)
          refine AWp.regionM fun K17 hK17 => ?_
          refine ARun2.callM (k5) ?_
          refine ARun2.callM (k6) ?_
          refine ARun2.endm (hK17 _ ?_)
          refine AWp.ret ?_
          try simp only [thenQ, blockQ, noGo]
          refine bodyQ.m ?_
          clear hK17 K17 hK16 K16 hK14 K14 hK11 K11 hK10 K10 hK9 K9 hK8 K8 hK7 K7 hK6 K6 hK5 K5 hK4 K4 hK2 K2 hK1 K1
          first | done | exact Hand.go
end Go.Proofs.YtoapdhogghbojaaGreatDoor.C
namespace Go.Abs
open Go.ChangeShapes Go.WideShapes Go.RowKit
set_option linter.unusedSectionVars false
abbrev Old (W : World) : Nat → Prop := fun b => b < W.heap.size
theorem RW.start (W : World) : RW (E0 W.heap.size W (Old W) []) [] [] (Old W) W :=
  { ep := Nat.le_refl _, os := rfl, tape := rfl, output := rfl, size := Nat.le_refl _, block := fun _ _ _ => rfl, pre := fun k v h => by simp at h, bsub := fun _ h => h, bnew := fun _ h => .inl h,
    blt := fun _ h => h, len := rfl, obs := fun k o h => by simp at h, dis := fun i j o o' u v b _ h => by simp at h, prv := fun k o v b h => by simp at h }
theorem PC.answers {P : Program} {f : FuncId} {ys : List AV} {v : Value} (h : PC P f ys (.val v)) {W : World} (hg : Globs W (Old W) []) {args : Array Value} (ha : RelL W (Old W) W.heap.size [] ys args.toList) :
    Calls P f args W fun e W' => e = .returned v ∧ Below W.heap.size W W' := by
  have := h.2 W.heap.size W [] (Old W) args.toList hg (RW.start W) ha (fun e W' => e = .returned v ∧ Below W.heap.size W W') (by
    rintro r' v' τ' ρ' B' w' ⟨rfl, rfl⟩ hw hr
    cases hr
    exact ⟨rfl, ⟨hw.os, hw.tape, hw.output, hw.size, fun k hk => hw.block k hk ⟨fun ⟨u, hu, _⟩ => by simp at hu, fun h => by cases h⟩⟩⟩)
  simpa using this
section
variable {H : Type} {enc : TypeId × Value → H} {P : Program} {W W' : World}
theorem trodAll_stays (hl : laidOutB P = true) (hb : Below W.heap.size W W') {sp' : Nat → Bool} : ∀ {ts : List TypeId} {vs : List Value} {ds : List (DataW H)} {ps : List MemPlace}, (∀ t ∈ ts, P.readableRec t = true ∧ t < P.types.size) →
    DataW.TrodAll enc P W 0 (fun _ => true) true ts vs ds ps → (∀ p ∈ ps, p.block < W.heap.size) → (∀ p ∈ ps, sp' p.block = true) → DataW.TrodAll enc P W' 0 sp' true ts vs ds ps
  | [], _, _, _, _, h, _, _ => by
    obtain ⟨rfl, rfl, rfl⟩ := trodAll_nil h
    rfl
  | t :: ts, _, _, _, ht, h, hlt, hs => by
    obtain ⟨v, vs1, d, ds1, a, b, rfl, rfl, rfl, h1, h2⟩ := trodAll_cons h
    have := ht t (by simp)
    exact ⟨a, b, WideElems.Trod_stays hl this.1 this.2 h1 (fun x hx => hb.same (hlt x (by simp [hx]))) (fun x hx => hs x (by simp [hx])),
      trodAll_stays hl hb (fun u hu => ht u (by simp [hu])) h2 (fun x hx => hlt x (by simp [hx])) (fun x hx => hs x (by simp [hx])), rfl⟩
theorem post_true {f : Func} {s : ChangeSpec} {fresh : Bool} {args : Array Value} {ds gs : List (DataW H)} {before : List MemPlace} {tb : TypeId}
    (hW : DataW.Whole enc P f.params.toList s.vars false W args.toList ds gs before) (hv : s.vars = []) (hs : s.fn H (ds ++ gs) = { results := [.lit (.bool true)], args := ds }) (hr : f.resultTypes = #[tb]) (hb : P.underlying tb = some .bool)
    (hl : laidOutB P = true) (ht : (f.params.toList.all fun t => P.readableRec t && decide (t < P.types.size)) = true) (hB : Below W.heap.size W W') :
    s.post enc P f false fresh false false W args (.bool true) W' := by
  have hW0 := hW
  obtain ⟨p, q, hA, hV, rfl, hfz, _⟩ := hW
  rw [hv] at hV
  have hg : gs = [] ∧ q = [] := by
    cases gs with
    | nil => exact ⟨rfl, hV⟩
    | cons g gs => exact hV.elim
  obtain ⟨rfl, rfl⟩ := hg
  have hlt : ∀ x ∈ p ++ [], x.block < W.heap.size := fun x hx => by simpa using hW0.lt x hx
  refine ⟨ds, [], p ++ [], [], p, [], hW0, ?_, ?_, ?_, ?_, fun h => by cases h⟩
  · rw [hs, hr]
    exact trodAll_cons_mk (p := []) (p' := []) (shut_bool hb _) trodAll_mk0
  · rw [hs]
    refine trodAll_stays hl hB (fun t h => ?_) hA (fun x hx => hlt x (by simp [hx])) (fun x hx => by simpa using hlt x (by simp [hx]))
    have := List.all_eq_true.1 ht t h
    simpa using this
  · rw [hs, hv]; exact rfl
  · refine ⟨hB.os, hB.output, fun i hi => ?_⟩
    rw [hB.block i hi]
    cases W.heap[i]? with
    | none => rfl
    | some o => cases o <;> simp
theorem addr_of_cell {w : World} {a : Addr} {v : Value} (h : w.cell? a = some v) : a.spot = none := by
  unfold World.cell? at h
  split at h
  · split at h
    · cases h
    · rename_i hs; cases hh : a.spot <;> simp_all
  · cases h
theorem rel_ints0 {t e : TypeId} {k : IntKind} {v : Value} {d : DataW H} {ps : List MemPlace} {fuel : Nat} (ht : P.underlying t = some (.slice e)) (he : P.underlying e = some (.int k)) (hc : P.cellsOf e = 1)
    (hf : DataW.trod enc P W 0 (fun _ => true) true fuel t [v] = some (d, ps)) :
    ∃ (zs : List Int), Rel W (Old W) W.heap.size [] (.sl false 1 (zs.map fun n => .val (.int k n))) v ∧ (∀ n ∈ zs, (Lit.int k n).wf = true) ∧ ((d = .nil ∧ zs = []) ∨ ∃ rest, d = .slice (lits k zs) rest) := by
  rcases open_ints ht he hc hf with ⟨h1, h2⟩ | ⟨a, len, cap, zs, h1, h2, h3, h4, h5, h6, h7, h8⟩
  · simp only [List.cons.injEq, and_true] at h1
    subst h1
    exact ⟨[], .slE _ _ _ _, by simp, .inl ⟨congrArg Prod.fst h2, rfl⟩⟩
  · simp only [List.cons.injEq, and_true] at h1
    subst h1
    simp only [if_true] at h5
    refine ⟨zs.take len, ?_, fun n hn => h8 n (List.mem_of_mem_take hn), .inr ⟨_, congrArg Prod.fst h6⟩⟩
    have hlen : (zs.take len).length = len := by rw [List.length_take]; omega
    cases hq : zs.take len with
    | nil =>
      rw [hq] at hlen
      simp at hlen
      subst hlen
      exact .slE _ _ _ _
    | cons z l =>
      have hpos : 0 < zs.length := by rw [hq] at hlen; simp at hlen; omega
      have h0 := h7 0 hpos
      have hsp : a.spot = none := addr_of_cell (show W.cell? a = _ from h0)
      obtain ⟨b, o, sp⟩ := a
      simp only at hsp
      subst hsp
      have hblk : b < W.heap.size := by
        have := World.block_lt_of_cell? W _ h0
        simpa [Addr.add] using this
      rw [hq] at hlen
      simp only [List.length_cons] at hlen
      subst hlen
      have hrow := RelRow.mk (w := W) (B := Old W) (bs := W.heap.size) (ρ := []) (nw := false) (b := b) (sz := 1) (o := o) (xs := (z :: l).map fun n => AV.val (.int k n)) (vs := (z :: l).map fun n => Value.int k n) hblk (fun h => by cases h) ?_ ?_ ?_
      · have := Rel.sl (cap := cap) (by simpa using hrow) (by simpa using h3)
        simpa using this
      · have : (((z :: l).map fun n => AV.val (.int k n)).flatMap AV.cells) = ((z :: l).map fun n => Value.int k n).map AV.val := by
          generalize z :: l = m
          induction m with
          | nil => rfl
          | cons x m ih => simp only [List.map_cons, List.flatMap_cons, ih]; rfl
        rw [this]
        have key : ∀ l : List Value, RelL W (Old W) W.heap.size [] (l.map AV.val) l := fun l => by induction l with
          | nil => exact .nil
          | cons x l ih => exact .cons (.val x) ih
        exact key _
      · intro x hx
        simp only [List.mem_map] at hx
        obtain ⟨n, _, rfl⟩ := hx
        exact ⟨rfl, fun c hc => by simp [AV.cells] at hc; subst hc; rfl⟩
      · intro j v hj
        rw [← hq, List.getElem?_map, List.getElem?_take] at hj
        split at hj
        · rename_i hjl
          simp only [Option.map_eq_some_iff] at hj
          obtain ⟨n, hn, rfl⟩ := hj
          have hlt : j < zs.length := by have := List.getElem?_eq_some_iff.1 hn; exact this.1
          have := h7 j hlt
          rw [addr_add] at this
          rw [this, List.getD_eq_getElem?_getD, hn]; rfl
        · simp at hj
end
end Go.Abs
namespace Go.Proofs.YtoapdhogghbojaaGreatDoor.C
open Go.Abs Go.ChangeShapes Go.WideShapes Go.ChangeAt Go.RowKit
theorem own : ownKnob Tryz.prog.godebug = none := by kernel_rfl
theorem laidOut : laidOutB Tryz.prog = true := by kernel_rfl
theorem bys_of {zs : List Int} (h : ∀ n ∈ zs, (Lit.int .u8 n).wf = true) : (zs.map fun n => AV.val (.int .u8 n)) = bys (zs.map fun n => UInt8.ofNat n.toNat) := by
  unfold bys
  rw [List.map_map]
  refine List.map_congr_left fun n hn => ?_
  have h2 : 0 ≤ n ∧ n ≤ 255 := by simpa [Lit.wf, IntKind.min, IntKind.max, IntKind.signed, IntKind.bits] using h n hn
  have h3 : N (UInt8.ofNat n.toNat).toNat = n := by
    rw [UInt8.toNat_ofNat']; unfold N; omega
  show AV.val (.int .u8 n) = .val (.int .u8 (N (UInt8.ofNat n.toNat).toNat))
  rw [h3]
theorem bulk_one {H : Type} (d : DataW H) : 1 ≤ Rows.uptoBulk d := by
  cases d with
  | lit l => cases l <;> simp [Rows.uptoBulk]
  | _ => simp [Rows.uptoBulk]
theorem bulk_len {H : Type} : ∀ l : List (DataW H), l.length ≤ Rows.uptoBulkAll l
  | [] => by simp [Rows.uptoBulkAll]
  | x :: r => by
    have h1 := bulk_one x
    have h2 := bulk_len r
    simp only [Rows.uptoBulkAll, List.length_cons]; omega
theorem bulk_lits' {H : Type} (k : IntKind) (zs : List Int) (rest : List (DataW H)) : zs.length + 1 ≤ Rows.uptoBulk (.slice (lits k zs) rest : DataW H) := by
  have := bulk_len (lits k zs : List (DataW H))
  simp only [lits, List.length_map] at this
  simp only [Rows.uptoBulk, lits]
  omega
section
variable {H : Type} {enc : TypeId × Value → H} {W : World}
theorem rel_bytes0 {v : Value} {d : DataW H} {ps : List MemPlace} {fuel : Nat} (hf : DataW.trod enc Tryz.prog W 0 (fun _ => true) true fuel 24 [v] = some (d, ps)) :
    ∃ l : List UInt8, Rel W (Old W) W.heap.size [] (.sl false 1 (bys l)) v ∧ l.length ≤ Rows.uptoBulk d := by
  have hc : Tryz.prog.cellsOf 5 = 1 := by kernel_rfl
  obtain ⟨zs, k0, k1, k2⟩ := rel_ints0 Tryz.underlying24 Tryz.underlying5 hc hf
  rw [bys_of k1] at k0
  refine ⟨_, k0, ?_⟩
  rw [List.length_map]
  rcases k2 with ⟨_, rfl⟩ | ⟨rest, rfl⟩
  · simp
  · have := bulk_lits' .u8 zs rest; omega
set_option maxRecDepth 100000 in
theorem rel_bytes {r : Reach} {b0 : Nat} {v : Value} {d : DataW H} {ps : List MemPlace} (hval : Value.okWide Tryz.prog W r b0 24 v) (hd : DataW.Trod enc Tryz.prog W 0 (fun _ => true) true 24 v d ps) :
    ∃ l : List UInt8, Rel W (Old W) W.heap.size [] (.sl false 1 (bys l)) v ∧ l.length ≤ Rows.uptoBulk d := by
  obtain ⟨A, len0, cap0, rfl⟩ := okWide_slice Tryz.underlying24 hval
  obtain ⟨fuel, hf⟩ := hd
  exact rel_bytes0 hf
end
end Go.Proofs.YtoapdhogghbojaaGreatDoor.C
namespace Go.Proofs.YtoapdhogghbojaaGreatDoor.C
mutual
def flatD : DataW Unit → List Value
  | .lit (.int k n) => [.int k n]
  | .lit (.string s) => [.string ⟨s.toArray⟩]
  | .agg ps => flatDs ps
  | _ => []
def flatDs : List (DataW Unit) → List Value
  | [] => []
  | d :: r => flatD d ++ flatDs r
end
theorem flatDs_flatMap : ∀ l : List (DataW Unit), flatDs l = l.flatMap flatD
  | [] => rfl
  | d :: r => by rw [flatDs, flatDs_flatMap r, List.flatMap_cons]
section
variable {P : Program} {W : World}
def Flat (P : Program) (W : World) (t : TypeId) : Prop := ∀ (fuel : Nat) (cs : List Value) (x : DataW Unit × List MemPlace), DataW.trod (fun _ => ()) P W 0 (fun _ => true) false fuel t cs = some x → cs = flatD x.1
theorem flat_int {t : TypeId} {k : IntKind} (h : P.underlying t = some (.int k)) : Flat P W t := by
  intro fuel cs x hx
  obtain ⟨n, rfl, rfl, _⟩ := DataW.trod_int h hx
  rfl
theorem flat_string {t : TypeId} (h : P.underlying t = some .string) : Flat P W t := by
  intro fuel cs x hx
  obtain ⟨s, rfl, rfl, _⟩ := DataW.trod_string h hx
  simp [flatD]
theorem blocks_flat (f : DataW Unit × List MemPlace → List Value) (m : Nat) : ∀ (xs : List (DataW Unit × List MemPlace)) (cs : List Value), cs.length = xs.length * m → (∀ i x, xs[i]? = some x → (cs.drop (i * m)).take m = f x) → cs = xs.flatMap f
  | [], cs, h, _ => by simpa using h
  | x :: r, cs, h, hk => by
    have h0 := hk 0 x rfl
    rw [Nat.zero_mul, List.drop_zero] at h0
    have ih := blocks_flat f m r (cs.drop m) (by rw [List.length_drop, h, List.length_cons, Nat.succ_mul]; omega) fun i y hy => by
      have := hk (i + 1) y hy
      rwa [Nat.succ_mul, Nat.add_comm, ← List.drop_drop] at this
    rw [List.flatMap_cons, ← h0, ← ih, List.take_append_drop]
theorem flat_of_parts {xs : List (DataW Unit × List MemPlace)} : flatD (.agg (xs.map (·.1))) = xs.flatMap fun x => flatD x.1 := by
  rw [flatD, flatDs_flatMap, List.flatMap_map]
theorem flat_array {t e : TypeId} {n : Nat} (ht : P.underlying t = some (.array n e)) (hc : P.cellsOf t = n * P.cellsOf e) (he : Flat P W e) : Flat P W t := by
  intro fuel cs x hx
  obtain ⟨xs, m, rfl, rfl, hl, hn, hk⟩ := DataW.trod_array ht hx
  show cs = flatD (.agg (xs.map (·.1)))
  rw [flat_of_parts]
  refine blocks_flat _ (P.cellsOf e) xs cs (by rw [hl, hc, hn]) fun i y hy => ?_
  have hi : i < n := by rw [← hn]; exact (List.getElem?_eq_some_iff.1 hy).1
  have := hk i hi
  rw [hy] at this
  exact he _ _ _ this
theorem flat_struct {t : TypeId} {fs : Array Field} (ht : P.underlying t = some (.struct fs)) (hc : P.cellsOf t = fs.size) (hf : ∀ (i : Nat) (f : Field), fs[i]? = some f → f.offset = i ∧ P.cellsOf f.type = 1 ∧ Flat P W f.type) : Flat P W t := by
  intro fuel cs x hx
  obtain ⟨xs, m, rfl, rfl, hl, hn, hk⟩ := DataW.trod_struct ht hx
  show cs = flatD (.agg (xs.map (·.1)))
  rw [flat_of_parts]
  refine blocks_flat _ 1 xs cs (by rw [hl, hc, hn, Nat.mul_one]) fun i y hy => ?_
  have hi : i < fs.size := by rw [← hn]; exact (List.getElem?_eq_some_iff.1 hy).1
  obtain ⟨h1, h2, h3⟩ := hf i fs[i] (Array.getElem?_eq_getElem hi)
  have := hk i fs[i] (Array.getElem?_eq_getElem hi)
  rw [hy, h1, h2] at this
  rw [Nat.mul_one]
  exact h3 _ _ _ this
theorem laid_cells {l : List (String × DataW Unit)} (h : laidMet P l W) {n : String} {d : DataW Unit} {g : Nat} {t : TypeId} {L : List Value} (hm : (n, d) ∈ l) (hg : P.globalNamed n = some g) (ht : (P.globals[g]?).map (·.type) = some t) (hf : Flat P W t) (hd : flatD d = L) :
    ∀ (i : Nat) (v : Value), L[i]? = some v → W.cell? ⟨g, i, none⟩ = some v := by
  obtain ⟨ps, hv, _⟩ := h
  have key : ∀ {l : List (String × DataW Unit)} {ps : List MemPlace}, DataW.LaidVars P W l ps → (n, d) ∈ l → ∃ cs fuel p, W.var? P n = some cs ∧ DataW.trod (fun _ => ()) P W 0 (fun _ => true) false fuel t cs.toList = some (d, p) := by
    intro l
    induction l with
    | nil => intro ps _ hm; cases hm
    | cons y r ih =>
      intro ps hv hm
      obtain ⟨g', t', cs, fuel, p, q, h1, h2, h3, h4, h5, _⟩ := hv
      rcases List.mem_cons.1 hm with e | e
      · cases e
        obtain rfl := Option.some.inj (hg.symm.trans h1)
        obtain rfl := Option.some.inj (ht.symm.trans h2)
        exact ⟨cs, fuel, p, h3, h4⟩
      · exact ih h5 e
  obtain ⟨cs, fuel, p, h1, h2⟩ := key hv hm
  have h3 : cs.toList = L := (hf _ _ _ h2).trans hd
  intro i v hi
  rw [World.var?_cell hg h1 i, ← Array.getElem?_toList, h3]
  exact hi
end
end Go.Proofs.YtoapdhogghbojaaGreatDoor.C
namespace Go.Proofs.YtoapdhogghbojaaGreatDoor.C
open Go.Abs Go.ChangeShapes Go.WideShapes Go.ChangeAt Go.RowKit
def laidL : List (String × DataW Unit) := [("errors.errorType", Rows.laid_errors_errorType), ("wharf/kind.table", Rows.laid_wharf_kind_table), ("wharf/kind.inside", Rows.laid_wharf_kind_inside)]
def etCells : List Value := [.iface 216 (.agg #[.pointer (some ⟨3, 41, none⟩)])]
theorem etG : Tryz.prog.globalNamed "errors.errorType" = some 2 := by kernel_rfl
theorem etRt : (Tryz.prog.cutTypes.find? (·.1 == "internal/reflectlite.rtype")).map (·.2) = some 216 := by kernel_rfl
theorem etRow : ((List.range Tryz.prog.types.size).filter fun t => Tryz.prog.rowNamed t [101, 114, 114, 111, 114]) = [41] := by kernel_rfl
theorem etHandle : typeHandle Tryz.prog 41 = .pointer (some ⟨3, 41, none⟩) := by kernel_rfl
theorem laid_parts {W : World} (h : laidMetH Tryz.prog laidL W) : laidMet Tryz.prog [("wharf/kind.table", Rows.laid_wharf_kind_table), ("wharf/kind.inside", Rows.laid_wharf_kind_inside)] W ∧ handlesMet Tryz.prog [("errors.errorType", Rows.laid_errors_errorType)] W := h
theorem handle_of_laid {W : World} (h : laidMetH Tryz.prog laidL W) : W.cell? ⟨2, 0, none⟩ = some (.iface 216 (.agg #[.pointer (some ⟨3, 41, none⟩)])) := by
  have h' := laid_parts h
  obtain ⟨name, u, ty, e1, e2, e3, e4, e5⟩ := h'.2 _ (List.mem_singleton.2 rfl)
  have en : name = [101, 114, 114, 111, 114] := (Option.some.inj e1).symm
  subst en
  obtain rfl := Option.some.inj (etRt.symm.trans e2)
  have hm : ty ∈ (List.range Tryz.prog.types.size).filter fun t => Tryz.prog.rowNamed t [101, 114, 114, 111, 114] := List.mem_filter.2 ⟨List.mem_range.2 e3, e4⟩
  rw [etRow] at hm
  obtain rfl := List.mem_singleton.1 hm
  rw [etHandle] at e5
  simpa using World.var?_cell etG e5 0
theorem cell_lt {W : World} {b i : Nat} {v : Value} (h : W.cell? ⟨b, i, none⟩ = some v) : b < W.heap.size := by
  rcases Nat.lt_or_ge b W.heap.size with h' | h'
  · exact h'
  · simp [World.cell?, Array.getElem?_eq_none h'] at h
theorem flat_kinds (W : World) : Flat Tryz.prog W 141 := by
  have h1 : Flat Tryz.prog W 5 := flat_int Tryz.underlying5
  have h2 : Flat Tryz.prog W 3 := flat_int Tryz.underlying3
  have h3 : Flat Tryz.prog W 9 := flat_string Tryz.underlying9
  refine flat_array Tryz.underlying141 (by kernel_rfl) (flat_struct Tryz.underlying89 (by kernel_rfl) fun i f hf => ?_)
  match i, hf with
  | 0, hf => simp at hf; subst hf; exact ⟨rfl, by kernel_rfl, h1⟩
  | 1, hf => simp at hf; subst hf; exact ⟨rfl, by kernel_rfl, h3⟩
  | 2, hf => simp at hf; subst hf; exact ⟨rfl, by kernel_rfl, h1⟩
  | 3, hf => simp at hf; subst hf; exact ⟨rfl, by kernel_rfl, h2⟩
  | 4, hf => simp at hf; subst hf; exact ⟨rfl, by kernel_rfl, h2⟩
  | 5, hf => simp at hf; subst hf; exact ⟨rfl, by kernel_rfl, h2⟩
  | 6, hf => simp at hf; subst hf; exact ⟨rfl, by kernel_rfl, h2⟩
  | i + 7, hf => simp at hf
theorem flat_inside (W : World) : Flat Tryz.prog W 144 :=
  flat_array Tryz.underlying144 (by kernel_rfl) (flat_array Tryz.underlying143 (by kernel_rfl) (flat_int Tryz.underlying3))
theorem cells_table {W : World} (h : laidMetH Tryz.prog laidL W) : GlobC W 0 kcells :=
  laid_cells (laid_parts h).1 (.head _) (by kernel_rfl) (by kernel_rfl) (flat_kinds W) (by kernel_rfl)
theorem cells_inside {W : World} (h : laidMetH Tryz.prog laidL W) : GlobC W 1 icells :=
  laid_cells (laid_parts h).1 (.tail _ (.head _)) (by kernel_rfl) (by kernel_rfl) (flat_inside W) (by kernel_rfl)
theorem cells_et {W : World} (h : laidMetH Tryz.prog laidL W) : GlobC W 2 etCells := by
  intro i v hi
  match i with
  | 0 => simp [etCells] at hi; subst hi; exact handle_of_laid h
  | i + 1 => simp [etCells] at hi
theorem glb_eq : glb = [(0, kcells), (1, icells), (2, etCells)] := by kernel_rfl
theorem globs_of_laid {W : World} (h : laidMetH Tryz.prog laidL W) : Globs W (Old W) [] := by
  intro p hp
  rw [glb_eq] at hp
  simp only [List.mem_cons, List.not_mem_nil, or_false] at hp
  rcases hp with rfl | rfl | rfl
  · exact ⟨cell_lt (cells_table h 0 _ rfl), fun v hv => (by cases hv), cells_table h⟩
  · exact ⟨cell_lt (cells_inside h 0 _ rfl), fun v hv => (by cases hv), cells_inside h⟩
  · exact ⟨cell_lt (handle_of_laid h), fun v hv => (by cases hv), cells_et h⟩
def setCells (cs : List Value) : Obj → Obj
  | .cells _ t frozen => .cells cs.toArray t frozen
  | o => o
noncomputable def laidWorld (os : Os) : World :=
  let w0 := World.holding Tryz.prog os ⟨#[], #[], []⟩
  { w0 with heap := ((w0.heap.modify 0 (setCells kcells)).modify 1 (setCells icells)).modify 2 (setCells etCells) }
theorem laid_met (os : Os) (args : Array Value) : laidMetH Tryz.prog laidL ((laidWorld os).forCall (fun _ _ => 0) ⟨#[], args, []⟩).memory :=
  laidMetH_of_parts (laidMet_of_run' 8 (by kernel_rfl) (by kernel_rfl)) (by kernel_rfl)
section
variable {H : Type} {enc : TypeId × Value → H} {W : World}
end
end Go.Proofs.YtoapdhogghbojaaGreatDoor.C
