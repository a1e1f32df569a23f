/- Drawn regions: more operations; forms for proofs. No condition. -/
import Derived.Test.YtmcedkcehcacpaaAbs19
namespace Go.Abs
set_option linter.unusedVariables false
set_option linter.unusedSectionVars false
set_option linter.unusedSimpArgs false

section
variable {P : Program} {ops : Array Oper} {E : Env} {s s' : AS} {ρ : List Value} {B : Nat → Prop} {a : Act} {w w' : World} {o : Oper} {rest : List Oper} {Q : AS → Prop}

theorem ev_ob (ob : List Ob) : AS.ev { s with ob := s.ob ++ ob } = s.ev := funext fun y => by cases y <;> rfl

theorem NSpec.slice {T : TypeId} {x : Operand} {lo hi : Option Operand} {nw : Bool} {sz : Nat} {xs : List AV} {l h : Int} (hg : gd ops s o = some true) (ho : o.op = .slice T x lo hi none) (hx : s.ev x = .sl nw sz xs)
    (hl : intLit (lo.map s.ev) = some (if lo.isSome then some l else none)) (hl0 : lo = none → l = 0) (hh : intLit (hi.map s.ev) = some (if hi.isSome then some h else none)) (hh0 : hi = none → h = xs.length)
    (hz : elSz P T = some sz) (h0 : 0 ≤ l) (h1 : l ≤ h) (h2 : h ≤ xs.length) : NSpec P ops o s (.sl nw sz ((xs.take h.toNat).drop l.toNat)) :=
  NSpec.pure1 hg fun E ρ B a w ob hs => slice_run (s := { s with ob := s.ob ++ ob }) hs ho (by rw [ev_ob]; exact hx) (by rw [ev_ob]; exact hl) hl0 (by rw [ev_ob]; exact hh) hh0 hz h0 h1 h2

theorem NSpec.imin {x y : Operand} {ts : Array TypeId} {k k' : IntKind} {m n : Int} (hg : gd ops s o = some true) (ho : o.op = .call { callee := .builtin .min, args := #[x, y], argTypes := ts }) (hx : s.ev x = .val (.int k m)) (hy : s.ev y = .val (.int k' n)) :
    NSpec P ops o s (.val (.int k (Min.min m n))) := by
  refine NSpec.pure1 hg fun E ρ B a w ob hs => ⟨.int k (Min.min m n), ?_, .val _⟩
  have hev := ev_ob (s := s) ob
  have hxv := ((hev ▸ hx : AS.ev { s with ob := s.ob ++ ob } x = _) ▸ hs.ev x : Rel w B E.bs ρ (.val (.int k m)) (a.eval x)).val_eq
  have hyv := ((hev ▸ hy : AS.ev { s with ob := s.ob ++ ob } y = _) ▸ hs.ev y : Rel w B E.bs ρ (.val (.int k' n)) (a.eval y)).val_eq
  have hm : (if n < m then n else m) = Min.min m n := by split <;> omega
  simp [execOp, ho, resolve, invoke, builtin, hxv, hyv, Builtin.min_, Builtin.min2, hm]

theorem ARun2.slice {T : TypeId} {x : Operand} {lo hi : Option Operand} {nw : Bool} {sz : Nat} {xs : List AV} {l h : Int} (hg : gd ops s o = some true) (ho : o.op = .slice T x lo hi none) (hx : s.ev x = .sl nw sz xs)
    (hl : intLit (lo.map s.ev) = some (if lo.isSome then some l else none)) (hl0 : lo = none → l = 0) (hh : intLit (hi.map s.ev) = some (if hi.isSome then some h else none)) (hh0 : hi = none → h = xs.length)
    (hz : elSz P T = some sz) (h0 : 0 ≤ l) (h1 : l ≤ h) (h2 : h ≤ xs.length) (K : ARun P ops rest (s.put o.dst (.sl nw sz ((xs.take h.toNat).drop l.toNat))) Q) : ARun2 P ops (o :: rest, s) Q :=
  ARun.exec hg (AOp.slice ho hx hl hl0 hh hh0 hz h0 h1 h2 K)

theorem ARun2.slice3 {T : TypeId} {x lo hi mx : Operand} {nw : Bool} {sz : Nat} {xs : List AV} {l h m : Int} {k1 k2 k3 : IntKind} (hg : gd ops s o = some true) (ho : o.op = .slice T x (some lo) (some hi) (some mx)) (hx : s.ev x = .sl nw sz xs)
    (hl : s.ev lo = .val (.int k1 l)) (hh : s.ev hi = .val (.int k2 h)) (hm : s.ev mx = .val (.int k3 m))
    (hz : elSz P T = some sz) (h0 : 0 ≤ l) (h1 : l ≤ h) (h2 : h ≤ m) (h3 : m ≤ xs.length) (K : ARun P ops rest (s.put o.dst (.sl nw sz ((xs.take h.toNat).drop l.toNat))) Q) : ARun2 P ops (o :: rest, s) Q :=
  ARun.exec hg (AOp.slice3 ho hx hl hh hm hz h0 h1 h2 h3 K)

/-- what each operation of a drawn region comes to -/
def DSpecs (P : Program) (ops : Array Oper) (s : AS) (nds : List (List (Nat × Option Nat))) (vals : List AV) : Nat → List Oper → Prop
  | _, [] => True
  | i, o :: l => NSpec P ops o { s with fr := needFr s.fr vals (nds.getD i []) } (vals.getD i .any) ∧ DSpecs P ops s nds vals (i + 1) l

theorem DSpecs.get {nds : List (List (Nat × Option Nat))} {vals : List AV} : ∀ {l : List Oper} {k j : Nat}, DSpecs P ops s nds vals k l → l[j]? = some o → NSpec P ops o { s with fr := needFr s.fr vals (nds.getD (k + j) []) } (vals.getD (k + j) .any)
  | [], _, _, _, e => by simp at e
  | p :: l, k, 0, h, e => by simp only [List.getElem?_cons_zero, Option.some.injEq] at e; subst e; exact h.1
  | p :: l, k, j + 1, h, e => by
    have := DSpecs.get h.2 (j := j) (by simpa using e)
    rwa [show k + 1 + j = k + (j + 1) by omega] at this

/-- each slot that is known behind a drawn region: written in it, or as it was -/
def DFr (ops : Array Oper) (n : Nat) (fr : List (Nat × AV)) (vals : List AV) : List (Nat × AV) → Prop
  | [] => True
  | (t, x) :: r => (t < n ∧ ((∃ i, i < ops.size ∧ dstOf ops i = some t ∧ x = vals.getD i .any) ∨ ((∀ i, i < ops.size → dstOf ops i ≠ some t) ∧ x = lk fr t))) ∧ DFr ops n fr vals r

theorem DFr.get {n : Nat} {fr : List (Nat × AV)} {vals : List AV} : ∀ {fr1 : List (Nat × AV)}, DFr ops n fr vals fr1 → ∀ t x, (t, x) ∈ fr1 → t < n ∧ ((∃ i, i < ops.size ∧ dstOf ops i = some t ∧ x = vals.getD i .any) ∨ ((∀ i, i < ops.size → dstOf ops i ≠ some t) ∧ x = lk fr t))
  | [], _, t, x, hm => by simp at hm
  | (t', x') :: r, h, t, x, hm => by
    rcases List.mem_cons.1 hm with e | hm
    · have e1 : t = t' := congrArg Prod.fst e
      have e2 : x = x' := congrArg Prod.snd e
      subst e1; subst e2; exact h.1
    · exact DFr.get h.2 t x hm

/-- a slot that the region does not write -/
def notDst (ops : Array Oper) (t : Nat) : Bool := (List.range ops.size).all fun i => decide (dstOf ops i ≠ some t)

theorem DFr.old {n : Nat} {fr : List (Nat × AV)} {vals : List AV} {t : Nat} {x : AV} {r : List (Nat × AV)} (h1 : decide (t < n) = true) (h2 : notDst ops t = true) (h3 : x = lk fr t) (k : DFr ops n fr vals r) : DFr ops n fr vals ((t, x) :: r) :=
  ⟨⟨by simpa using h1, .inr ⟨fun i hi => by simpa using List.all_eq_true.1 h2 i (List.mem_range.2 hi), h3⟩⟩, k⟩

theorem DFr.new {n : Nat} {fr : List (Nat × AV)} {vals : List AV} {t : Nat} {x : AV} {r : List (Nat × AV)} (i : Nat) (h1 : (decide (t < n) && decide (i < ops.size) && decide (dstOf ops i = some t)) = true) (h3 : x = vals.getD i .any) (k : DFr ops n fr vals r) : DFr ops n fr vals ((t, x) :: r) := by
  simp only [Bool.and_eq_true, decide_eq_true_eq] at h1
  exact ⟨⟨h1.1.1, .inl ⟨i, h1.1.2, h1.2, h3⟩⟩, k⟩

theorem NSpec.cast {x y : AV} (h : x = y) (hn : NSpec P ops o s x) : NSpec P ops o s y := h ▸ hn

/-- a drawn region, all of it in any order, nothing made; the next code -/
theorem AWp.drawnS {id : Nat} {y : Code} {R : Exit → AS → Prop} (nds : List (List (Nat × Option Nat))) (vals : List AV) (fr1 : List (Nat × AV)) (hm : P.follows .mixedOrders = true) (hB : drawnB ops ops.size s.n nds = true)
    (specs : DSpecs P ops s nds vals 0 ops.toList)
    (hfr : DFr ops s.n s.fr vals fr1)
    (k : AWp P y { s with fr := fr1 } R) : AWp P (.seq (.region id ops true) y) s R := by
  refine AWp.seq (AWp.drawn ops.size nds vals none fr1 hm hB (fun i o h => by cases h) (fun i o h1 h2 _ => by have := specs.get (j := i) (o := o) (by simpa using h2); rwa [Nat.zero_add] at this) (fun i o ob h => by cases h) hfr.get ?_)
  rw [show ops.toList.drop ops.size = [] by simp]
  refine ARun.nil ?_
  simpa [oball, thenQ] using k
/-- a nil slice in a box, as an empty row of the call's own -/
theorem Le.nilBox (k i : Nat) (e : TypeId) (sz : Nat) {T : TypeId} {cs : List AV} (hk : s.ob[k]? = some (.box T cs)) (h : cs[i]? = some (.val (.slice none 0 0))) : Le s { s with ob := s.ob.set k (.box T (cs.set i (.own s.ob.length))) ++ [.row e sz []] } := by
  intro E ρ B a w hs
  have hn : RS E { s with ob := s.ob ++ [.row e sz []] } (ρ ++ [.slice none 0 0]) B a w :=
    hs.new (same_refl w) ⟨by simp, .inl ⟨rfl, by rw [← hs.rw_.len, List.getElem?_append_right (Nat.le_refl _), Nat.sub_self]; rfl⟩⟩ (by intro b hb; simp [blk] at hb)
  have hk' : (s.ob ++ [Ob.row e sz []])[k]? = some (.box T cs) := get_append_some hk
  obtain ⟨b, vs, fz, r1, r2, r3, r4, r5⟩ := hn.rw_.obs k _ hk'
  obtain ⟨v, hv, hr⟩ := r4.get h
  have hve := hr.val_eq
  subst hve
  have hset : vs.set i (.slice none 0 0) = vs := by
    apply List.ext_getElem?
    intro j
    by_cases hj : i = j
    · subst hj; rw [List.getElem?_set_self (get_lt hv)]; exact hv.symm
    · rw [List.getElem?_set_ne hj]
  have hown : Rel w B E.bs (ρ ++ [.slice none 0 0]) (.own s.ob.length) (.slice none 0 0) := .own (by rw [← hs.rw_.len, List.getElem?_append_right (Nat.le_refl _), Nat.sub_self]; rfl) rfl
  have hro : RO w B E.bs (ρ ++ [.slice none 0 0]) k (.box T (cs.set i (.own s.ob.length))) := by
    refine ⟨b, vs, fz, r1, r2, r3, ?_, ?_⟩
    · have := r4.set i hown
      rwa [hset] at this
    · intro c hc
      rcases List.mem_or_eq_of_mem_set hc with hc | rfl
      · exact r5 c hc
      · rfl
  have hkl : k < s.ob.length := get_lt hk
  have hobe : s.ob.set k (.box T (cs.set i (.own s.ob.length))) ++ [Ob.row e sz []] = (s.ob ++ [Ob.row e sz []]).set k (.box T (cs.set i (.own s.ob.length))) := by
    rw [List.set_append_left _ _ hkl]
  have r := hn.rw_
  have get : ∀ {i' : Nat} {o1 : Ob}, ((s.ob ++ [Ob.row e sz []]).set k (.box T (cs.set i (.own s.ob.length))))[i']? = some o1 → ∃ o2, (s.ob ++ [Ob.row e sz []])[i']? = some o2 ∧ (o1.live = true → o2.live = true) := by
    intro i' o1 h1
    by_cases hik : k = i'
    · subst hik; exact ⟨_, hk', fun _ => rfl⟩
    · rw [List.getElem?_set_ne hik] at h1; exact ⟨o1, h1, fun h => h⟩
  have hrw : RW E ((s.ob ++ [Ob.row e sz []]).set k (.box T (cs.set i (.own s.ob.length)))) (ρ ++ [.slice none 0 0]) B w := by
    refine { os := r.os, tape := r.tape, output := r.output, size := r.size, block := r.block, pre := r.pre, bsub := r.bsub, bnew := r.bnew, blt := r.blt, len := by simpa using r.len, obs := ?_, dis := ?_, prv := ?_ }
    · intro j o hj
      by_cases hjk : k = j
      · subst hjk
        rw [List.getElem?_set_self (get_lt hk')] at hj
        have := Option.some.inj hj
        subst this
        exact hro
      · rw [List.getElem?_set_ne hjk] at hj; exact r.obs j o hj
    · intro i' j o o' u v b hij h1 l1 h2 l2
      obtain ⟨x1, y1, z1⟩ := get h1
      obtain ⟨x2, y2, z2⟩ := get h2
      exact r.dis i' j x1 x2 u v b hij y1 (z1 l1) y2 (z2 l2)
    · intro j o v b h1 l1
      obtain ⟨x1, y1, z1⟩ := get h1
      exact r.prv j x1 v b y1 (z1 l1)
  refine ⟨_, B, by rw [hobe]; exact hrw, hn.m, hn.n, hn.df, ?_, hn.rf⟩
  have hj := hn.jj.chg ⟨rfl, rfl, rfl, Nat.le_refl _, fun _ _ _ => rfl, fun b hd => .inl (Dof.set hk' rfl b hd), fun _ h => h, fun _ h => .inl h⟩ hrw.bd
  rw [hobe]; exact hj

theorem AWp.nilBox {c : Code} {R : Exit → AS → Prop} (k i : Nat) (e : TypeId) (sz : Nat) {T : TypeId} {cs : List AV} (hk : s.ob[k]? = some (.box T cs)) (h : cs[i]? = some (.val (.slice none 0 0)))
    (K : AWp P c { s with ob := s.ob.set k (.box T (cs.set i (.own s.ob.length))) ++ [.row e sz []] } R) : AWp P c s R := AWp.weak (Le.nilBox k i e sz hk h) K
end
attribute [push_cast] needFr List.getD_cons_zero List.getD_cons_succ List.getD_nil
end Go.Abs
