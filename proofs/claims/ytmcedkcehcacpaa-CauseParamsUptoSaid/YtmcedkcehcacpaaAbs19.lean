/- nil as a row of the call's own; min; an array's element. No condition. -/
import Derived.Test.YtmcedkcehcacpaaAbs18
namespace Go.Abs
set_option linter.unusedVariables false
set_option linter.unusedSectionVars false
set_option linter.unusedSimpArgs false

section
variable {P : Program} {ops : Array Oper} {E : Env} {s s' : AS} {ρ : List Value} {B : Nat → Prop} {a : Act} {w w' : World} {o : Oper} {rest : List Oper} {Q : AS → Prop}

/-- a nil slice, as an empty row of the call's own -/
theorem Le.nilOwn (t : Nat) (e : TypeId) (sz : Nat) (h : lk s.fr t = .val (.slice none 0 0)) : Le s { s with fr := (t, .own s.ob.length) :: del s.fr t, ob := s.ob ++ [.row e sz []] } := by
  intro E ρ B a w hs
  have hn : RS E { s with ob := s.ob ++ [.row e sz []] } (ρ ++ [.slice none 0 0]) B a w :=
    hs.new (same_refl w) ⟨by simp, .inl ⟨rfl, by rw [← hs.rw_.len, List.getElem?_append_right (Nat.le_refl _), Nat.sub_self]; rfl⟩⟩ (by intro b hb; simp [blk] at hb)
  refine ⟨_, B, hn.rw_, hn.m, hn.n, hn.df, hn.jj, ?_⟩
  intro k x hm
  rcases List.mem_cons.1 hm with hm | hm
  · have hk : k = t := congrArg Prod.fst hm
    have hx : x = .own s.ob.length := congrArg Prod.snd hm
    subst hk; subst hx
    have hv := hs.get k
    rw [h] at hv
    refine ⟨?_, ?_⟩
    · rcases lk_mem h with e | e
      · simp at e
      · exact (hs.rf k _ e).1
    · rw [hv.val_eq]
      exact .own (by rw [← hs.rw_.len, List.getElem?_append_right (Nat.le_refl _), Nat.sub_self]; rfl) rfl
  · exact hn.rf k x (del_mem hm).1

theorem AWp.nilOwn {c : Code} {R : Exit → AS → Prop} (t : Nat) (e : TypeId) (sz : Nat) (h : lk s.fr t = .val (.slice none 0 0)) (k : AWp P c { s with fr := (t, .own s.ob.length) :: del s.fr t, ob := s.ob ++ [.row e sz []] } R) : AWp P c s R :=
  AWp.weak (Le.nilOwn t e sz h) k

theorem AOp.imin {x y : Operand} {ts : Array TypeId} {k k' : IntKind} {m n : Int} (ho : o.op = .call { callee := .builtin .min, args := #[x, y], argTypes := ts }) (hx : s.ev x = .val (.int k m)) (hy : s.ev y = .val (.int k' n))
    (K : ARun P ops rest (s.put o.dst (.val (.int k (Min.min m n)))) Q) : AOp P ops o rest s Q := by
  refine AOp.pure1 (fun E ρ B a w hs => ⟨.int k (Min.min m n), ?_, .val _⟩) K
  have hxv := (hx ▸ hs.ev x : Rel w B E.bs ρ (.val (.int k m)) (a.eval x)).val_eq
  have hyv := (hy ▸ hs.ev y : Rel w B E.bs ρ (.val (.int k' n)) (a.eval y)).val_eq
  have hm : (if n < m then n else m) = Min.min m n := by split <;> omega
  simp [execOp, ho, resolve, invoke, builtin, hxv, hyv, Builtin.min_, Builtin.min2, hm]

theorem ARun2.imin {x y : Operand} {ts : Array TypeId} {k k' : IntKind} {m n : Int} (hgd : gd ops s o = some true) (ho : o.op = .call { callee := .builtin .min, args := #[x, y], argTypes := ts }) (hx : s.ev x = .val (.int k m)) (hy : s.ev y = .val (.int k' n))
    (K : ARun P ops rest (s.put o.dst (.val (.int k (Min.min m n)))) Q) : ARun2 P ops (o :: rest, s) Q := ARun.exec hgd (AOp.imin ho hx hy K)
end
end Go.Abs
