/- Calls with objects: the rule, and how such a contract is proved. No condition. -/
import Derived.Test.YtmcedkcehcacpaaAbs15
namespace Go.Abs
set_option linter.unusedVariables false
set_option linter.unusedSectionVars false
set_option linter.unusedSimpArgs false
set_option linter.unnecessarySimpa false

section
variable {P : Program} {ops : Array Oper} {E : Env} {s s' : AS} {ρ σ σ' : List Value} {B B' : Nat → Prop} {a : Act} {w w' : World} {o : Oper} {rest : List Oper} {Q : AS → Prop}

def frInvalL (rk : List Nat) (fr : List (Nat × AV)) : List (Nat × AV) := if rk = [] then fr else fr.map fun p => (p.1, p.2.invalL rk)

theorem frInvalL_mem {rk : List Nat} {fr : List (Nat × AV)} {t : Nat} {x : AV} (h : (t, x) ∈ frInvalL rk fr) : ∃ y, (t, y) ∈ fr ∧ x = y.invalL rk := by
  unfold frInvalL at h
  split at h
  · rename_i he
    exact ⟨x, h, by simp [AV.invalL, he]⟩
  · simp only [List.mem_map] at h
    obtain ⟨⟨t', y⟩, h1, h2⟩ := h
    simp only [Prod.mk.injEq] at h2
    obtain ⟨rfl, rfl⟩ := h2
    exact ⟨y, h1, rfl⟩

theorem RS.after {ids : List Nat} {τ τ' : List Ob} (h : RS E s ρ B a w) (hn : ids.Nodup) (hs : SubOL ids s.ob ids τ) (k : RW (E0 w B (pick ρ ids)) τ' σ' B' w') (hm : ids.length ≤ τ'.length) :
    RS E { s with ob := obAfter s.ob ids τ τ', fr := frInvalL (rowIds ids τ) s.fr } (setAll ρ ids σ' ++ σ'.drop ids.length) B' a w' := by
  have hw := RW.after h.rw_ hn hs k hm
  refine ⟨hw, h.m, h.n, h.df, h.jj.chg ⟨k.os, k.tape, k.output, k.size, ?_, ?_, k.bsub, ?_⟩ hw.bd, ?_⟩
  · intro b hb hd
    refine k.block b hb ⟨fun hx => ?_, by simp⟩
    obtain ⟨_, _, j, o', v, _, g2, g3, g4, g5⟩ := after_old h.rw_ hn hs k hm hx
    exact hd ⟨j, o', v, g2, g3, g4, g5⟩
  · rintro b ⟨j, o, v, h1, l1, r1, b1⟩
    rcases obAfter_get h.rw_ hn hs k hm h1 with ⟨i1, p1, g1, rfl, rfl⟩ | ⟨p1, g1, rfl, n1⟩
    · rcases (after_at h.rw_ hn hs k hm g1 (ren_live h.rw_ hn hs k hm l1) (rho_at h.rw_ hn hs k hm (get_lt g1) r1) b1).2.2 with q3 | ⟨o', u', q3, q4, q5, q6, _⟩
      · exact .inr q3
      · exact .inl ⟨_, o', u', q3, q4, q5, q6⟩
    · exact .inl ⟨j, p1, v, g1, invalL_live h.rw_ hn hs k hm l1, rho_not h.rw_ hn hs k hm n1 (get_lt g1) r1, b1⟩
  · intro b hb
    exact (k.bnew b hb).elim .inl fun h => .inr (.inr h)
  · intro t x hmem
    obtain ⟨y, hy, rfl⟩ := frInvalL_mem hmem
    obtain ⟨h1, h2⟩ := h.rf t y hy
    exact ⟨h1, inval_rel h.rw_ hn hs k hm h2⟩

theorem AOp.callO {f : FuncId} {g : Operand} {cap : List AV} {args : Array Operand} {ts : Array TypeId} {ys : List AV} {τ : List Ob} {R : AV → List Ob → Prop} (ids : List Nat)
    (ho : o.op = .call { callee := .value g, args := args, argTypes := ts }) (hg : s.ev g = .fn (.func f) [] cap) (hc : callable P f = true) (hp : ACalls P f ys τ R) (hn : ids.Nodup) (hs : SubOL ids s.ob ids τ)
    (hsub : SubXL ids (args.toList.map s.ev ++ cap) ys) (hm : ∀ r τ', R r τ' → ids.length ≤ τ'.length)
    (k : ∀ r τ', R r τ' → ARun P ops rest ({ s with ob := obAfter s.ob ids τ τ', fr := frInvalL (rowIds ids τ) s.fr }.put o.dst (r.ren (phi ids s.ob.length))) Q) : AOp P ops o rest s Q := by
  intro E hE ρ B a w hrs Q' hQ
  have hfn := hrs.ev g
  rw [hg] at hfn
  obtain ⟨v, hv⟩ : ∃ v, a.eval g = v := ⟨_, rfl⟩
  rw [hv] at hfn
  cases hfn with
  | fn r1 r2 =>
    rename_i cs ds
    cases r1
    have he : (execOp a.eval o).run P w = .ok (.enter f (args.map a.eval ++ ds.toArray)) w := by
      simp only [execOp, ho]; exact run_callV hc (by simpa using hv)
    have hrel : RelL w B E.bs ρ (args.toList.map s.ev ++ cap) (args.toList.map a.eval ++ ds) := (RelL.map_ev hrs _).append r2
    refine owp_enter he ?_
    have hargs : args.map a.eval ++ ds.toArray = (args.toList.map a.eval ++ ds).toArray := by apply Array.ext'; simp
    rw [hargs]
    refine hp w (pick ρ ids) B _ (hrs.rw_.give hn hs) (hsub.rel (fun i k hi => pick_at hrs.rw_ hs hi) hrel) _ ?_
    intro r' v τ' σ' B' w' hR hw hv
    have hml := hm r' τ' hR
    have hs' := hrs.after hn hs hw hml
    refine ⟨v, rfl, k r' τ' hR E hE _ B' _ w' (hs'.put o.dst ?_) Q' hQ⟩
    refine (hv.mono (fun _ h => h) (fun _ _ => rfl) hrs.rw_.size (fun _ _ h => h)).ren ?_
    intro i u hu
    exact rho_phi hrs.rw_ hn hs hw hml hu

/-- a call's contract: this result, these objects -/
def OC (P : Program) (f : FuncId) (ys : List AV) (τ : List Ob) (r : AV) (τ' : List Ob) : Prop := ACalls P f ys τ fun r' t => r' = r ∧ t = τ'

theorem ARun2.callO {f : FuncId} {g : Operand} {cap : List AV} {args : Array Operand} {ts : Array TypeId} {ys : List AV} {τ τ' : List Ob} {r : AV} (ids : List Nat) (hp : OC P f ys τ r τ') (hgd : gd ops s o = some true)
    (ho : o.op = .call { callee := .value g, args := args, argTypes := ts }) (hg : s.ev g = .fn (.func f) [] cap) (hc : callable P f = true) (hn : ids.Nodup) (hs : SubOL ids s.ob ids τ)
    (hsub : SubXL ids (args.toList.map s.ev ++ cap) ys) (hm : ids.length ≤ τ'.length)
    (k : ARun P ops rest ({ s with ob := obAfter s.ob ids τ τ', fr := frInvalL (rowIds ids τ) s.fr }.put o.dst (r.ren (phi ids s.ob.length))) Q) : ARun2 P ops (o :: rest, s) Q :=
  ARun.exec hgd (AOp.callO ids ho hg hc hp hn hs hsub (by rintro _ _ ⟨rfl, rfl⟩; exact hm) (by rintro _ _ ⟨rfl, rfl⟩; exact k))

/-- some objects are kept, in this order -/
theorem RW.sel {ob : List Ob} {ids : List Nat} {τ : List Ob} (h : RW E ob ρ B w) (hn : ids.Nodup) (hs : SubOL ids ob ids τ) (h0 : ∀ k, k < max E.ρ0.length E.pp.length → ids[k]? = some k) : RW E τ (pick ρ ids) B w := by
  have hp := fun {i k : Nat} (hi : ids[i]? = some k) => pick_at h hs hi
  refine { os := h.os, tape := h.tape, output := h.output, size := h.size, block := h.block, pre := ?_, bsub := h.bsub, bnew := h.bnew,
           blt := h.blt, len := by simp [pick, hs.len], obs := ?_, dis := ?_, prv := ?_ }
  · intro k v hk hv
    have hlt : k < max E.ρ0.length E.pp.length := by rcases hk with hk | hk <;> have := get_lt hk <;> omega
    exact (hp (h0 k hlt)).trans (h.pre k v hk hv)
  · intro i o hi
    obtain ⟨j, o', h1, h2, h3, h4⟩ := hs.at hi
    have hj := hp h1
    have ho := h.obs j o' h2
    cases o with
    | gone => trivial
    | box T cs =>
      cases o' with
      | box T' cs' =>
        obtain ⟨rfl, h5, h6⟩ := h4
        obtain ⟨b, vs, fz, r1, r2, r3, r4, r5⟩ := ho
        exact ⟨b, vs, fz, hj.trans r1, r2, r3, h5.rel (fun i k hik => hp hik) r4, fun c hc => List.all_eq_true.1 h6 c hc⟩
      | _ => exact h4.elim
    | row T sz xs =>
      cases o' with
      | row T' sz' xs' =>
        obtain ⟨rfl, rfl, rfl, h5⟩ := h4
        obtain ⟨h0, ho⟩ := ho
        refine ⟨h0, ?_⟩
        rcases ho with ⟨e, ho⟩ | ⟨b, cap, vs, ws, fz, r1, r2, r3, r4, r5, r6⟩
        · exact .inl ⟨e, hj.trans ho⟩
        · exact .inr ⟨b, cap, vs, ws, fz, hj.trans r1, r2, r3, r4, r5, r6.pl (plL_flat h5)⟩
      | _ => exact h4.elim
    | mp es =>
      cases o' with
      | mp es' =>
        obtain rfl := h4
        obtain ⟨b, ms, c, r1, r2, r3⟩ := ho
        exact ⟨b, ms, c, hj.trans r1, r2, r3⟩
      | _ => exact h4.elim
  · intro i j o1 o2 u v b hij h1 _ h2 _ h3 h4 h5
    obtain ⟨k1, o1', g1, g2, g3, _⟩ := hs.at h1
    obtain ⟨k2, o2', g4, g5, g6, _⟩ := hs.at h2
    refine h.dis k1 k2 o1' o2' u v b ?_ g2 g3 g5 g6 ((hp g1).symm.trans h3) ((hp g4).symm.trans h4) h5
    rintro rfl
    exact hij ((List.getElem?_inj (get_lt g1) hn).1 (g1.trans g4.symm))
  · intro i o v b h1 h2 h3 h4
    obtain ⟨k, o', g1, g2, g3, _⟩ := hs.at h1
    obtain ⟨q1, q2, q3⟩ := h.prv k o' v b g2 g3 ((hp g1).symm.trans h3) h4
    refine ⟨q1, q2, q3.imp id ?_⟩
    rintro ⟨v0, e1, e2⟩
    -- an object that was handed keeps its number
    have hk : k < max E.ρ0.length E.pp.length := by have := get_lt e1; omega
    have hki := h0 k hk
    have : i = k := (List.getElem?_inj (get_lt g1) hn).1 (g1.trans hki.symm)
    subst this
    exact ⟨v0, e1, e2⟩

/-- how a body with objects must end: ids are the objects kept, in order -/
def endO (ids : List Nat) (r0 : AV) (τ' : List Ob) (r : AV) (s : AS) : Prop := ids.Nodup ∧ SubOL ids s.ob ids τ' ∧ SubX ids r r0

theorem OC.of_body {f : FuncId} {fn : Func} {c : Code} {args : List AV} {τ τ' : List Ob} {r0 : AV} (ids : List Nat) (h0 : ∀ k, k < τ.length → ids[k]? = some k) (hf : P.funcs[f]? = some fn) (hb : fn.body = some c) (hn : args.length ≤ fn.ntmps)
    (h : AWp P c { n := fn.ntmps, m := τ.length, fr := frOf 0 args, ob := τ } (bodyQ P fn (endO ids r0 τ'))) : OC P f args τ r0 τ' := by
  intro w ρ B vs hw hr R' hR'
  have hs := RS.init (n := fn.ntmps) hw hr (by rw [← hr.length_eq]; exact hn)
  refine calls_body (E0.ok w B ρ P) rfl hf hb (by simpa using hs) h ?_
  rintro r v s' ρ' B' a' w' ⟨e1, e2, e3⟩ hs' hv
  refine hR' r0 v τ' (pick ρ' ids) B' w' ⟨rfl, rfl⟩ (hs'.rw_.sel e1 e2 (fun k hk => h0 k (by simpa [hw.len] using hk))) ?_
  exact e3 _ _ _ _ _ _ _ (fun i k hi => pick_at hs'.rw_ e2 hi) hv
end
end Go.Abs
