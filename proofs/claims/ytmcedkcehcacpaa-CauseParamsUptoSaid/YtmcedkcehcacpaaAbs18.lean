/- A box that is only read from now on. No condition. -/
import Derived.Test.YtmcedkcehcacpaaAbs17
namespace Go.Abs
set_option linter.unusedVariables false
set_option linter.unusedSectionVars false
set_option linter.unusedSimpArgs false
set_option linter.unnecessarySimpa false

mutual
/-- pointers to box k read as r -/
def AV.psub (k : Nat) (r : AV) : AV → AV
  | .val v => .val v
  | .any => .any
  | .agg l => .agg (AV.psubL k r l)
  | .tup l => .tup (AV.psubL k r l)
  | .sl nw sz xs => .sl nw sz xs
  | .own j => .own j
  | .ptr j o => if j = k ∧ o = 0 then r else .ptr j o
  | .ept j o => .ept j o
  | .ref nw x => .ref nw x
  | .ifc t x => .ifc t (AV.psub k r x)
  | .fn f l m => .fn f (AV.psubL k r l) (AV.psubL k r m)
def AV.psubL (k : Nat) (r : AV) : List AV → List AV
  | [] => []
  | x :: xs => (AV.psub k r x) :: AV.psubL k r xs
end

section
variable {P : Program} {ops : Array Oper} {E : Env} {s s' : AS} {ρ : List Value} {B : Nat → Prop} {a : Act} {w w' : World} {o : Oper} {rest : List Oper} {Q : AS → Prop}

mutual
theorem Rel.psub {k : Nat} {r : AV} {u : Value} {bs : Nat} (hu : ρ[k]? = some u) (hr : Rel w B bs ρ r u) : ∀ {x : AV} {v : Value}, Rel w B bs ρ x v → Rel w B bs ρ (AV.psub k r x) v
  | _, _, .val v => .val v
  | _, _, .agg h => .agg (RelL.psub hu hr h)
  | _, _, .tup h => .tup (RelL.psub hu hr h)
  | _, _, .slE nw sz A cap => .slE nw sz A cap
  | _, _, .sl h hc => .sl h hc
  | _, _, .own h h1 => .own h h1
  | .ptr j o, _, .ptr (b := b) h => by
    simp only [AV.psub]
    split
    · rename_i e
      obtain ⟨rfl, rfl⟩ := e
      rw [hu] at h
      have := Option.some.inj h
      subst this
      exact hr
    · exact .ptr h
  | _, _, .ept h => .ept h
  | _, _, .ref h hn => .ref h hn
  | _, _, .ifc h => .ifc (Rel.psub hu hr h)
  | _, _, .fn h h2 => .fn (RelL.psub hu hr h) (RelL.psub hu hr h2)
  | _, _, .any v => .any v
theorem RelL.psub {k : Nat} {r : AV} {u : Value} {bs : Nat} (hu : ρ[k]? = some u) (hr : Rel w B bs ρ r u) : ∀ {xs : List AV} {vs : List Value}, RelL w B bs ρ xs vs → RelL w B bs ρ (AV.psubL k r xs) vs
  | _, _, .nil => .nil
  | _, _, .cons h h2 => .cons (Rel.psub hu hr h) (RelL.psub hu hr h2)
end

def frPsub (k : Nat) (r : AV) (fr : List (Nat × AV)) : List (Nat × AV) := fr.map fun p => (p.1, AV.psub k r p.2)

theorem RW.publishBox {ob : List Ob} {k : Nat} {T : TypeId} {cs : List AV} (h : RW E ob ρ B w) (hk : ob[k]? = some (.box T cs)) (hm : E.ρ0.length ≤ k) (h1 : cs.all AV.one = true) (hne : cs ≠ []) :
    ∃ B' v, (∀ b, B b → B' b) ∧ ρ[k]? = some v ∧ RW E (ob.set k .gone) ρ B' w ∧ Rel w B' E.bs ρ (.ref true (.agg cs)) v ∧ ∀ b, B' b → B b ∨ Dof ob ρ b := by
  obtain ⟨b, vs, fz, r1, hh, r3, r4, r5⟩ := h.obs k _ hk
  have hdrop : RW E (ob.set k .gone) ρ B w := h.drop
  obtain ⟨p1, p2, p3⟩ := h.prv k _ _ b hk rfl r1 rfl
  have hbnew : E.w0.heap.size ≤ b := by
    rcases p3 with p3 | ⟨v0, p3, _⟩
    · exact p3
    · have := get_lt p3; omega
  refine ⟨fun x => B x ∨ x = b, _, fun _ h => .inl h, r1, ?_, ?_, fun x hx => hx.elim .inl fun e => .inr ⟨k, _, _, hk, rfl, r1, by rw [e]; rfl⟩⟩
  · refine { os := h.os, tape := h.tape, output := h.output, size := h.size, block := h.block, pre := h.pre, bsub := fun x hx => .inl (h.bsub x hx), bnew := ?_, blt := ?_, len := hdrop.len, obs := ?_, dis := hdrop.dis, prv := ?_ }
    · rintro x (hx | rfl)
      · exact h.bnew x hx
      · exact .inr hbnew
    · rintro x (hx | rfl)
      · exact h.blt x hx
      · exact p2
    · intro i o hi
      exact (hdrop.obs i o hi).mono (fun _ h => .inl h) (fun _ _ => rfl) (fun _ _ h => h) (fun _ _ _ _ _ => rfl)
    · intro i o u c hi hl hu hc
      obtain ⟨q1, q2, q3⟩ := hdrop.prv i o u c hi hl hu hc
      refine ⟨?_, q2, q3⟩
      rintro (hx | rfl)
      · exact q1 hx
      · by_cases hik : i = k
        · subst hik
          rw [List.getElem?_set_self (get_lt hk)] at hi
          simp at hi; subst hi; simp [Ob.live] at hl
        · rw [List.getElem?_set_ne (Ne.symm hik)] at hi
          exact h.dis i k o _ u _ c hik hi hl hk rfl hu r1 hc rfl
  · refine .ref (RelCells.mk (.inr rfl) (fun _ => hbnew) (vs := vs) (r4.mono (fun _ h => .inl h) (fun _ _ => rfl) (Nat.le_refl _) (fun _ _ h => h)) (fun c hc => List.all_eq_true.1 h1 c hc) ?_) (by simpa [AV.cells] using hne)
    intro j v hj
    have := block_cell (w := w) (b := b) (vs := vs) hh 0 j v (by simpa using hj)
    exact this

theorem Le.pubBox {k : Nat} {T : TypeId} {cs : List AV} (hk : s.ob[k]? = some (.box T cs)) (hm : s.m ≤ k) (h1 : cs.all AV.one = true) (hne : cs ≠ []) :
    Le s { s with ob := s.ob.set k .gone, fr := frPsub k (.ref true (.agg cs)) s.fr } := by
  intro E ρ B a w hs
  obtain ⟨B', v, g1, g2, g3, g4, g5⟩ := hs.rw_.publishBox hk (Nat.le_trans hs.m.1 hm) h1 hne
  refine ⟨ρ, B', g3, hs.m, hs.n, hs.df, hs.jj.chg ⟨rfl, rfl, rfl, Nat.le_refl _, fun _ _ _ => rfl, fun b hd => .inl (Dof.set hk rfl b hd), g1, fun b hb => (g5 b hb).elim .inl fun h => .inr (.inl h)⟩ g3.bd, ?_⟩
  intro t x hmem
  simp only [frPsub, List.mem_map] at hmem
  obtain ⟨⟨t', x'⟩, hmem, he⟩ := hmem
  simp only [Prod.mk.injEq] at he
  obtain ⟨rfl, rfl⟩ := he
  obtain ⟨q1, q2⟩ := hs.rf t' x' hmem
  exact ⟨q1, Rel.psub g2 g4 (q2.mono g1 (fun _ _ => rfl) (Nat.le_refl _) (fun _ _ h => h))⟩

theorem AWp.pubBox {c : Code} {Q : Exit → AS → Prop} (k : Nat) {T : TypeId} {cs : List AV} (hk : s.ob[k]? = some (.box T cs)) (hm : s.m ≤ k) (h1 : cs.all AV.one = true) (hne : cs ≠ [])
    (K : AWp P c { s with ob := s.ob.set k .gone, fr := frPsub k (.ref true (.agg cs)) s.fr } Q) : AWp P c s Q := AWp.weak (Le.pubBox hk hm h1 hne) K

theorem ARun2.pubBox {l : List Oper} (k : Nat) {T : TypeId} {cs : List AV} (hk : s.ob[k]? = some (.box T cs)) (hm : s.m ≤ k) (h1 : cs.all AV.one = true) (hne : cs ≠ [])
    (K : ARun2 P ops (Abs.srun P ops l { s with ob := s.ob.set k .gone, fr := frPsub k (.ref true (.agg cs)) s.fr }) Q) : ARun2 P ops (l, s) Q := ARun2.weak (Le.pubBox hk hm h1 hne) (ARun.srun K)
end
attribute [push_cast] AV.psub AV.psubL frPsub AV.renL AV.ren Ob.ren setAll obAfter rowIds AV.invalL Ob.invalL frInvalL phi AV.pl AV.plL SubXL SubOL SubO roundQ setps isBox
end Go.Abs
