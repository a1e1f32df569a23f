/- Function values, yields, iterators' contracts; boxes that are read from now on. No condition. -/
import Derived.Test.YtmcedkcehcacpaaAbs9
namespace Go.Abs
set_option linter.unusedVariables false
set_option linter.unusedSectionVars false
set_option linter.unusedSimpArgs false
set_option linter.unnecessarySimpa false

section
variable {P : Program} {ops : Array Oper} {E : Env} {s s' : AS} {ρ : List Value} {B : Nat → Prop} {a : Act} {w w' : World} {o : Oper} {rest : List Oper} {Q : AS → Prop}

theorem callFunc_run {f : FuncId} (hc : callable P f = true) (args : Array Value) (w : World) : (callFunc f args).run P w = .ok (.enter f args) w := by
  unfold callable at hc
  split at hc <;> (try (simp at hc; done))
  rename_i fn hf
  simp only [Bool.and_eq_true, Bool.not_eq_true'] at hc
  cases hbody : fn.body with
  | none => simp [hbody] at hc
  | some c =>
    have hn' : ¬ fn.name = "runtime.NumGoroutine" := by simpa using hc.2
    simp [callFunc, hf, hn', hbody]

theorem run_callV {f : FuncId} {g : Operand} {cap : Array Value} {args : Array Operand} {ts : Array TypeId} {ty : TypeId} {ρe : Operand → Value} (hc : callable P f = true)
    (hv : ρe g = .func (.func f) #[] cap) : (do let d ← resolve ρe { callee := .value g, args := args, argTypes := ts } ty; invoke d.target d.args : Sem Next).run P w = .ok (.enter f (args.map ρe ++ cap)) w := by
  have := callFunc_run hc (args.map ρe ++ cap) w
  simp [resolve, hv, Deferred.ofValue, invoke, this]

theorem AOp.callV {f : FuncId} {g : Operand} {cap : List AV} {args : Array Operand} {ts : Array TypeId} {ys : List AV} {r : AV} (ho : o.op = .call { callee := .value g, args := args, argTypes := ts }) (hg : s.ev g = .fn (.func f) [] cap) (hc : callable P f = true)
    (hp : PC P f ys r) (hsub : SubL (args.toList.map s.ev ++ cap) ys) (k : ARun P ops rest (s.put o.dst r) Q) : AOp P ops o rest s Q := by
  intro E hE ρ B a w hs Q' hQ
  have hfn := hs.ev g
  rw [hg] at hfn
  obtain ⟨v, hv⟩ : ∃ v, a.eval g = v := ⟨_, rfl⟩
  rw [hv] at hfn
  cases hfn with
  | fn r1 r2 =>
    rename_i cs ds
    cases r1
    have he : (execOp a.eval o).run P w = .ok (.enter f (args.map a.eval ++ ds.toArray)) w := by
      simp only [execOp, ho]; exact run_callV hc (by simpa using hv)
    have hrel : RelL w B E.bs ρ (args.toList.map s.ev ++ cap) (args.toList.map a.eval ++ ds) := (RelL.map_ev hs _).append r2
    refine owp_enter he ?_
    have hargs : args.map a.eval ++ ds.toArray = (args.toList.map a.eval ++ ds).toArray := by apply Array.ext'; simp
    rw [hargs]
    refine hp.2 w [] B _ hs.rw_.callee (hsub.rel hrel) _ ?_
    rintro r' v τ' ρ' B' w' ⟨rfl, rfl⟩ hw hv
    have hρ : ρ' = [] := by have := hw.len; simpa using this
    subst hρ
    have hs' := hs.back hw
    refine ⟨v, rfl, k E hE ρ B' _ w' (hs'.put o.dst ?_) Q' hQ⟩
    refine (hv.mono (fun _ h => h) (fun _ _ => rfl) hs.rw_.size (fun _ _ h => h)).ids (p := fun _ => false) ?_ hp.1
    intro _ _ h; simp at h

theorem ARun2.callV {f : FuncId} {g : Operand} {cap : List AV} {args : Array Operand} {ts : Array TypeId} {ys : List AV} {r : AV} (hp : PC P f ys r) (hgd : gd ops s o = some true) (ho : o.op = .call { callee := .value g, args := args, argTypes := ts })
    (hg : s.ev g = .fn (.func f) [] cap) (hc : callable P f = true) (hsub : SubL (args.toList.map s.ev ++ cap) ys) (k : ARun P ops rest (s.put o.dst r) Q) : ARun2 P ops (o :: rest, s) Q :=
  ARun.exec hgd (AOp.callV ho hg hc hp hsub k)

/-! ### yields -/
theorem RS.kept {b : Bool} {x : List AV} (h : RS E s ρ B a w) (k : Kept (fun b => Dof s.ob ρ b ∨ b ∈ s.df) B w w') (hy : E.yl.isSome = true) (hj : E.J (s.tr ++ [x]) b (fun b => Dof s.ob ρ b ∨ b ∈ s.df) B w') :
    RS E { s with tr := s.tr ++ [x], go := b } ρ B a w' := by
  have hBw : ∀ b, B b → w'.heap[b]? = w.heap[b]? := fun b hb => k.block b (.inl hb)
  refine ⟨?_, h.m, h.n, h.df, ⟨hj, h.jj.stab, h.jj.nodup, fun b hb => ?_⟩, fun t y hm => ⟨(h.rf t y hm).1, (h.rf t y hm).2.mono (fun _ h => h) hBw (Nat.le_refl _) (fun _ _ h => h)⟩⟩
  · have r := h.rw_
    exact { os := k.os.trans r.os, tape := k.tape.trans r.tape, output := k.output.trans r.output, size := Nat.le_trans r.size k.size,
            block := fun j h1 h2 => (hBw j (r.bsub j (h2.2 hy))).trans (r.block j h1 h2), pre := r.pre, bsub := r.bsub, bnew := r.bnew,
            blt := fun b hb => Nat.lt_of_lt_of_le (r.blt b hb) k.size, len := r.len,
            obs := fun j o hj => (r.obs j o hj).mono (fun _ h => h) hBw (fun _ _ h => h) (fun u b l hu hb => k.block b (.inr (.inl ⟨j, o, u, hj, l, hu, hb⟩))), dis := r.dis,
            prv := fun j o v b h1 h2 h3 h4 => by obtain ⟨a1, a2, a3⟩ := r.prv j o v b h1 h2 h3 h4; exact ⟨a1, Nat.lt_of_lt_of_le a2 k.size, a3⟩ }
  · obtain ⟨h1, h2⟩ := h.jj.mks b hb
    exact ⟨(k.block b (.inr (.inr hb))).trans h1, h2⟩

theorem RS.bdj (h : RS E s ρ B a w) : Bd (fun b => Dof s.ob ρ b ∨ b ∈ s.df) B w :=
  ⟨h.rw_.bd.1, fun b hb => hb.elim (h.rw_.bd.2 b) fun hb => by
    obtain ⟨h1, h2, h3, h4⟩ := h.jj.mks b hb
    refine ⟨?_, h3⟩
    rcases Nat.lt_or_ge b w.heap.size with h' | h'
    · exact h'
    · simp [Array.getElem?_eq_none h'] at h1⟩

theorem AOp.yield {g : Operand} {l : Nat} {X : List (List AV)} {x : List AV} {post : List (List AV)} {args : Array Operand} {ts : Array TypeId} (ho : o.op = .call { callee := .value g, args := args, argTypes := ts }) (hg : s.ev g = .val (.func (.yield l) #[] #[]))
    (hy : s.yl = some (l, X)) (hgo : s.go = true) (hx : args.toList.map s.ev = x) (hX : X = s.tr ++ x :: post) (hcl : AV.idsOkL (fun _ => false) x = true)
    (k : ∀ b : Bool, ARun P ops rest ({ s with tr := s.tr ++ [x], go := b }.put o.dst (.val (.bool b))) Q) : AOp P ops o rest s Q := by
  intro E hE ρ B a w hs Q' hQ
  have hgv := hs.ev g
  rw [hg] at hgv
  have hv : a.eval g = .func (.yield l) #[] #[] := by generalize a.eval g = v at hgv; cases hgv; rfl
  have hEy : E.yl = some (l, X) := hs.m.2.2.trans hy
  have hrel : RelL w B E.bs [] x (args.toList.map a.eval) := by
    have := RelL.map_ev hs args.toList
    rw [hx] at this
    exact this.ids (p := fun _ => false) (by intro _ _ h; simp at h) hcl
  have hj := hs.jj.j
  rw [hgo] at hj
  obtain ⟨fn, tmps, assign, body, hrun, hround⟩ := hE.yld l X hEy s.tr x post _ _ B w hX hj hrel hs.bdj.1 hs.bdj.2
  have he : (execOp a.eval o).run P w = .ok (.round l fn tmps assign body) w := by
    have hargs : args.map a.eval = (args.toList.map a.eval).toArray := by apply Array.ext'; simp
    simp only [execOp, ho]
    simp [resolve, hv, Deferred.ofValue, invoke, hargs]
    simpa using hrun
  refine ⟨fun _ _ => trivial, ?_⟩
  rw [Oper.semAt_eq _ _ _ (by rw [ho]; intro c h; cases h), he]
  refine ⟨fun h => by simp [Fence.wide] at h, ?_⟩
  have hround' : RoundIn (FR E.rnd) 0 P l fn tmps assign body w _ := hround
  refine hround'.mono ?_
  rintro e w' ⟨b, rfl, hk, hj'⟩
  exact k b E hE ρ B _ w' ((hs.kept hk (by rw [hEy]; rfl) hj').put o.dst (.val _)) Q' hQ

theorem ARun2.yield {g : Operand} {l : Nat} {X : List (List AV)} {x : List AV} {args : Array Operand} {ts : Array TypeId} (post : List (List AV)) (hgd : gd ops s o = some true) (ho : o.op = .call { callee := .value g, args := args, argTypes := ts }) (hg : s.ev g = .val (.func (.yield l) #[] #[]))
    (hy : s.yl = some (l, X)) (hgo : s.go = true) (hx : args.toList.map s.ev = x) (hX : X = s.tr ++ x :: post) (hcl : AV.idsOkL (fun _ => false) x = true)
    (k : ∀ b : Bool, ARun P ops rest ({ s with tr := s.tr ++ [x], go := b }.put o.dst (.val (.bool b))) Q) : ARun2 P ops (o :: rest, s) Q :=
  ARun.exec hgd (AOp.yield ho hg hy hgo hx hX hcl k)

/-- what has been yielded in the end -/
def Fin (xs tr : List (List AV)) (go : Bool) : Prop := (go = true → tr = xs) ∧ (go = false → ∃ r, xs = tr ++ r)

/-- an iterator's contract: it yields these, one after the other, as long as it is let -/
def IterC (P : Program) (f : FuncId) (cap : List AV) (xs : List (List AV)) : Prop :=
  ∀ (E : Env), E.Ok P → E.Stab → E.rnd = none → E.ρ0 = [] → E.pp = [] → ∀ l, E.yl = some (l, xs) → ∀ vs, RW E [] [] E.B0 E.w0 → E.J [] true (fun _ => False) E.B0 E.w0 → RelL E.w0 E.B0 E.bs [] cap vs →
    Calls P f (.func (.yield l) #[] #[] :: vs).toArray E.w0 fun e w' => (∃ v, e = .returned v) ∧ ∃ B' tr go, RW E [] [] B' w' ∧ E.J tr go (fun _ => False) B' w' ∧ Fin xs tr go

theorem IterC.of_body {f : FuncId} {fn : Func} {c : Code} {cap : List AV} {xs : List (List AV)} (hf : P.funcs[f]? = some fn) (hb : fn.body = some c) (hn : cap.length + 1 ≤ fn.ntmps)
    (h : ∀ l : Nat, AWp P c { n := fn.ntmps, m := 0, fr := frOf 0 (.val (.func (.yield l) #[] #[]) :: cap), ob := [], yl := some (l, xs) } (bodyQ P fn fun _ s => Fin xs s.tr s.go)) : IterC P f cap xs := by
  intro E hE hst hr h0 hp l hy vs hw hj hrel
  have hlen := hrel.length_eq
  have hs : RS E { n := fn.ntmps, m := 0, fr := frOf 0 (.val (.func (.yield l) #[] #[]) :: cap), ob := [], yl := some (l, xs) } [] E.B0
      { tmps := (.func (.yield l) #[] #[] :: vs).toArray ++ Array.replicate (fn.ntmps - (Value.func (.yield l) #[] #[] :: vs).toArray.size) undef, defers := [] } E.w0 := by
    refine ⟨hw, by rw [h0, hp]; exact ⟨Nat.le_refl _, Nat.le_refl _, hy⟩, by simp; omega, rfl, ⟨?_, hst, List.nodup_nil, by simp⟩, ?_⟩
    · refine hst _ _ _ _ _ _ _ _ hj ⟨rfl, rfl, rfl, Nat.le_refl _, fun _ _ _ => rfl, ?_, fun _ h => h, fun _ h => .inl h⟩ ⟨hw.blt, ?_⟩
      · rintro b (⟨k, o, v, h1, _⟩ | h)
        · simp at h1
        · simp at h
      · rintro b (⟨k, o, v, h1, _⟩ | h)
        · simp at h1
        · simp at h
    · intro t x hm
      obtain ⟨j, rfl, hj⟩ := frOf_mem hm
      obtain ⟨v, hv, hx⟩ := (RelL.cons (.val _) hrel : RelL E.w0 E.B0 E.bs [] (.val (.func (.yield l) #[] #[]) :: cap) (.func (.yield l) #[] #[] :: vs)).get hj
      have hlt := get_lt hv
      refine ⟨by simp at hlt ⊢; omega, ?_⟩
      have : ((Value.func (.yield l) #[] #[] :: vs).toArray ++ Array.replicate (fn.ntmps - (Value.func (.yield l) #[] #[] :: vs).toArray.size) undef).getD (0 + j) undef = v := by
        rw [Array.getD_eq_getD_getElem?, Nat.zero_add, Array.getElem?_append_left (by simpa using hlt)]
        simp [hv]
      rw [this]
      exact hx
  refine calls_body hE hr hf hb hs (h l) ?_
  intro r v s' ρ' B' a' w' hfin hs' _
  have hc : RW E (s'.ob.take 0) (ρ'.take 0) B' w' := hs'.rw_.cut (by rw [h0, hp]; exact ⟨Nat.le_refl _, Nat.le_refl _⟩) (by intro k o h; simp at h)
  refine ⟨⟨v, rfl⟩, B', s'.tr, s'.go, by simpa using hc, ?_, hfin⟩
  exact hst _ _ _ _ _ _ _ _ hs'.jj.j ⟨rfl, rfl, rfl, Nat.le_refl _, fun _ _ _ => rfl, fun b h => h.elim, fun _ h => h, fun _ h => .inl h⟩ ⟨hs'.rw_.blt, fun b h => h.elim⟩
end
end Go.Abs
