/- What grows: append to a slice of the call's own. No condition. -/
import Derived.Test.YtmcedkcehcacpaaDoorM4
import Derived.Test.YtmcedkcehcacpaaDoorRows
import Derived.Deep.Strs
namespace Go.Abs
set_option linter.unusedVariables false
set_option linter.unusedSectionVars false
set_option linter.unusedSimpArgs false
set_option linter.unnecessarySimpa false
section
variable {P : Program} {ops : Array Oper} {E : Env} {s s' : AS} {ρ : List Value} {B : Nat → Prop} {a : Act} {w w' : World} {o : Oper} {rest : List Oper} {Q : AS → Prop} {bs : Nat}
/-! ### what is appended -/
theorem srcOf_new {sz : Nat} {y : AV} {ys : List AV} {o' : Ob} (h : srcOf s sz y = some ys) : srcOf { s with ob := s.ob ++ [o'] } sz y = some ys := by
  cases y with
  | own j =>
    simp only [srcOf] at h ⊢
    cases hj : s.ob[j]? with
    | none => simp [hj] at h
    | some q => rw [hj] at h; rw [get_append_some hj]; exact h
  | val v => unfold srcOf at h ⊢; split at h <;> simp_all
  | _ => exact h
/-! ### a row of the call's own, from here on only read -/
/-! ### make -/
end
end Go.Abs
/- Rows of the call's own inside boxes; variables made in drawn regions; guards in drawn regions; literals that grow. No condition. -/
namespace Go.Abs
set_option linter.unusedVariables false
set_option linter.unusedSectionVars false
set_option linter.unusedSimpArgs false
set_option linter.unnecessarySimpa false
section
variable {P : Program} {ops : Array Oper} {E : Env} {s s' : AS} {ρ : List Value} {B : Nat → Prop} {a : Act} {w w' : World} {o : Oper} {rest : List Oper} {Q : AS → Prop} {R : Exit → AS → Prop}
/-- a literal that is kept as a row of the call's own -/
theorem ARun.ownM {l : List Oper} {T e : TypeId} {len sz : Nat} {parts : Array (Nat × Operand)} {s' : AS} (K : ARun P ops rest s' Q) (hlr : l = o :: rest := by rfl)
    (ho : o.op = .buildSlice T len parts := by rfl) (hg : gd ops s o = some true := by first | with_reducible rfl | (simp only [push_cast, reduceIte, Nat.reduceEqDiff, Nat.reduceLT, Nat.reduceAdd, Nat.reduceSub, Nat.reduceMul, Nat.reduceLeDiff, Nat.reducePow, Int.reduceLT, Int.reduceToNat, reduceCtorEq, Int.reduceNeg, Int.reduceEq, Nat.reduceBEq, Nat.reduceBNe, Int.reduceBEq, Int.reduceBNe, String.reduceEq]; first | done | rfl | (simp (disch := omega) only [w_nat, w_add, w_addl, w_addr, w_sub, w_subl, w_mul, w_mull, w_mulr, w_u32, w_u16, w_u8, w_u32a, N_zero]; first | done | rfl | (simp only [push_cast, reduceIte, Nat.reduceEqDiff, Nat.reduceLT, Nat.reduceAdd, Nat.reduceSub, Nat.reduceMul, Nat.reduceLeDiff, Nat.reducePow, Int.reduceLT, Int.reduceToNat, reduceCtorEq, Int.reduceNeg, Int.reduceEq, Nat.reduceBEq, Nat.reduceBNe, Int.reduceBEq, Int.reduceBNe, String.reduceEq]; first | done | rfl)))) (hz : elSz P T = some sz := by first | with_reducible rfl | (simp only [push_cast, reduceIte, Nat.reduceEqDiff, Nat.reduceLT, Nat.reduceAdd, Nat.reduceSub, Nat.reduceMul, Nat.reduceLeDiff, Nat.reducePow, Int.reduceLT, Int.reduceToNat, reduceCtorEq, Int.reduceNeg, Int.reduceEq, Nat.reduceBEq, Nat.reduceBNe, Int.reduceBEq, Int.reduceBNe, String.reduceEq]; first | done | rfl | (simp (disch := omega) only [w_nat, w_add, w_addl, w_addr, w_sub, w_subl, w_mul, w_mull, w_mulr, w_u32, w_u16, w_u8, w_u32a, N_zero]; first | done | rfl | (simp only [push_cast, reduceIte, Nat.reduceEqDiff, Nat.reduceLT, Nat.reduceAdd, Nat.reduceSub, Nat.reduceMul, Nat.reduceLeDiff, Nat.reducePow, Int.reduceLT, Int.reduceToNat, reduceCtorEq, Int.reduceNeg, Int.reduceEq, Nat.reduceBEq, Nat.reduceBNe, Int.reduceBEq, Int.reduceBNe, String.reduceEq]; first | done | rfl)))) (he : elT P T = some e := by first | with_reducible rfl | (simp only [push_cast, reduceIte, Nat.reduceEqDiff, Nat.reduceLT, Nat.reduceAdd, Nat.reduceSub, Nat.reduceMul, Nat.reduceLeDiff, Nat.reducePow, Int.reduceLT, Int.reduceToNat, reduceCtorEq, Int.reduceNeg, Int.reduceEq, Nat.reduceBEq, Nat.reduceBNe, Int.reduceBEq, Int.reduceBNe, String.reduceEq]; first | done | rfl | (simp (disch := omega) only [w_nat, w_add, w_addl, w_addr, w_sub, w_subl, w_mul, w_mull, w_mulr, w_u32, w_u16, w_u8, w_u32a, N_zero]; first | done | rfl | (simp only [push_cast, reduceIte, Nat.reduceEqDiff, Nat.reduceLT, Nat.reduceAdd, Nat.reduceSub, Nat.reduceMul, Nat.reduceLeDiff, Nat.reducePow, Int.reduceLT, Int.reduceToNat, reduceCtorEq, Int.reduceNeg, Int.reduceEq, Nat.reduceBEq, Nat.reduceBNe, Int.reduceBEq, Int.reduceBNe, String.reduceEq]; first | done | rfl))))
    (hp : parts.toList.map (·.1) = List.range len := by rfl) (hx : ∀ p ∈ parts.toList, (s.ev p.2).flat = true ∧ (s.ev p.2).cells.length = sz := by first | with_reducible rfl | (simp only [push_cast, reduceIte, Nat.reduceEqDiff, Nat.reduceLT, Nat.reduceAdd, Nat.reduceSub, Nat.reduceMul, Nat.reduceLeDiff, Nat.reducePow, Int.reduceLT, Int.reduceToNat, reduceCtorEq, Int.reduceNeg, Int.reduceEq, Nat.reduceBEq, Nat.reduceBNe, Int.reduceBEq, Int.reduceBNe, String.reduceEq]; first | done | rfl | (simp (disch := omega) only [w_nat, w_add, w_addl, w_addr, w_sub, w_subl, w_mul, w_mull, w_mulr, w_u32, w_u16, w_u8, w_u32a, N_zero]; first | done | rfl | (simp only [push_cast, reduceIte, Nat.reduceEqDiff, Nat.reduceLT, Nat.reduceAdd, Nat.reduceSub, Nat.reduceMul, Nat.reduceLeDiff, Nat.reducePow, Int.reduceLT, Int.reduceToNat, reduceCtorEq, Int.reduceNeg, Int.reduceEq, Nat.reduceBEq, Nat.reduceBNe, Int.reduceBEq, Int.reduceBNe, String.reduceEq]; first | done | rfl)))) (hle : decide (len * sz ≤ 2 ^ 24) = true := by first | rfl | decide)
    (h : (({ s with ob := s.ob ++ [Ob.row e sz (parts.toList.map fun p => s.ev p.2)] } : AS).put o.dst (.own s.ob.length)) = s' := by
        try simp only [push_cast, reduceIte, Nat.reduceEqDiff, Nat.reduceLT, Nat.reduceAdd, Nat.reduceSub, Nat.reduceMul, Nat.reduceLeDiff, Nat.reducePow, Int.reduceLT, Int.reduceToNat, reduceCtorEq, Int.reduceNeg, Int.reduceEq, Nat.reduceBEq, Nat.reduceBNe, Int.reduceBEq, Int.reduceBNe, String.reduceEq]
        try simp (disch := omega) only [w_nat, w_add, w_addl, w_addr, w_sub, w_subl, w_mul, w_mull, w_mulr, w_u32, w_u16, w_u8, w_u32a, N_zero]
        try simp only [push_cast, reduceIte, Nat.reduceEqDiff, Nat.reduceLT, Nat.reduceAdd, Nat.reduceSub, Nat.reduceMul, Nat.reduceLeDiff, Nat.reducePow, Int.reduceLT, Int.reduceToNat, reduceCtorEq, Int.reduceNeg, Int.reduceEq, Nat.reduceBEq, Nat.reduceBNe, Int.reduceBEq, Int.reduceBNe, String.reduceEq]
        rfl) : ARun P ops l s Q := by
  subst hlr
  exact ARun2.buildOwn hg ho hz he hp hx (of_decide_eq_true hle) (h ▸ K)
section dr
variable {nds : List (List (Nat × Option Nat))} {vals : List AV} {G : Prop}
end dr
end
end Go.Abs
/- Regions that draw their order and whose tail is free too: every order is walked. No condition. -/
namespace Go.Abs
set_option linter.unusedVariables false
set_option linter.unusedSectionVars false
set_option linter.unusedSimpArgs false
section
variable {P : Program} {ops : Array Oper} {E : Env} {s s' : AS} {o : Oper} {rest : List Oper} {Q : AS → Prop} {R : Exit → AS → Prop} {nds : List (List (Nat × Option Nat))} {vals : List AV} {G : Prop}
/-! ### the tail as a graph: a node for each set of operations that have come up -/
section node
variable {f0 : Nat} {L0 : Array Bool} {Q0 : AS → Prop} {x0 x1 s0 s1 xr : AS}
end node
/-! ### an empty literal that is a row of the call's own, made in the head -/
/-- the literal's place in the walk of a head: what it needs is told so that nothing is asked of it there -/
theorem Dr.ownS (k : Dr P ops s nds (vals ++ [.own s.ob.length]) G) (hn : ndsB nds = true := by first | rfl | decide) (hv : (nds.getD vals.length [] == [(s.n, none)]) = true := by first | rfl | decide) (hol : ops[vals.length]? = some o := by first | with_reducible rfl | (simp only [push_cast, reduceIte, Nat.reduceEqDiff, Nat.reduceLT, Nat.reduceAdd, Nat.reduceSub, Nat.reduceMul, Nat.reduceLeDiff, Nat.reducePow, Int.reduceLT, Int.reduceToNat, reduceCtorEq, Int.reduceNeg, Int.reduceEq, Nat.reduceBEq, Nat.reduceBNe, Int.reduceBEq, Int.reduceBNe, String.reduceEq]; first | done | rfl | (simp (disch := omega) only [w_nat, w_add, w_addl, w_addr, w_sub, w_subl, w_mul, w_mull, w_mulr, w_u32, w_u16, w_u8, w_u32a, N_zero]; first | done | rfl | (simp only [push_cast, reduceIte, Nat.reduceEqDiff, Nat.reduceLT, Nat.reduceAdd, Nat.reduceSub, Nat.reduceMul, Nat.reduceLeDiff, Nat.reducePow, Int.reduceLT, Int.reduceToNat, reduceCtorEq, Int.reduceNeg, Int.reduceEq, Nat.reduceBEq, Nat.reduceBNe, Int.reduceBEq, Int.reduceBNe, String.reduceEq]; first | done | rfl)))) : Dr P ops s nds vals G := by
  refine Dr.step' hn hol (fun _ => ?_) k
  intro E hE ρ B a w ob hs K Q' hK
  have hv' : nds.getD vals.length [] = [(s.n, none)] := by simpa using hv
  exfalso
  have h := (hs.rf s.n (lk s.fr s.n) (by simp only [hv', needFr]; exact List.mem_singleton.2 rfl)).1
  rw [hs.n] at h
  exact Nat.lt_irrefl _ h
end
end Go.Abs
/- Regions that draw their order, in whose head a row of the call's own is made and grown. No condition. -/
namespace Go.Abs
set_option linter.unusedVariables false
set_option linter.unusedSectionVars false
set_option linter.unusedSimpArgs false
set_option linter.unnecessarySimpa false
theorem Chg.rfl' (D B : Nat → Prop) (w : World) : Chg D B w D B w :=
  ⟨rfl, rfl, rfl, Nat.le_refl _, fun _ _ _ => rfl, fun _ h => .inl h, fun _ h => h, fun _ h => .inl h⟩
theorem Chg.trans' {D B D1 B1 D2 B2 : Nat → Prop} {w w1 w2 : World} (h : Chg D B w D1 B1 w1) (k : Chg D1 B1 w1 D2 B2 w2) : Chg D B w D2 B2 w2 := by
  refine ⟨k.os.trans h.os, k.tape.trans h.tape, k.output.trans h.output, Nat.le_trans h.size k.size, fun b hb hd => ?_, fun b hb => ?_, fun b hb => k.bsub b (h.bsub b hb), fun b hb => ?_⟩
  · refine (k.block b (Nat.lt_of_lt_of_le hb h.size) fun hd1 => ?_).trans (h.block b hb hd)
    rcases h.dsub b hd1 with h' | h'
    · exact hd h'
    · omega
  · rcases k.dsub b hb with h' | h'
    · exact h.dsub b h'
    · exact .inr (Nat.le_trans h.size h')
  · rcases k.bnew b hb with h' | h' | h'
    · exact h.bnew b h'
    · exact .inr (h.dsub b h')
    · exact .inr (.inr (Nat.le_trans h.size h'))
/-- who looks on sees besides what was changed since -/
def Env.spy (E : Env) (D0 B0 : Nat → Prop) (w : World) : Env := { E with J := fun tr go D B w' => E.J tr go D B w' ∧ Chg D0 B0 w D B w' }
section
variable {P : Program} {ops : Array Oper} {E : Env} {s s' : AS} {ρ ρ' : List Value} {B B' : Nat → Prop} {a a' : Act} {w w' : World} {o : Oper} {rest : List Oper} {Q : AS → Prop} {R : Exit → AS → Prop} {nds : List (List (Nat × Option Nat))} {vals : List AV} {G : Prop}
theorem RW.spied {D0 B0 : Nat → Prop} {w0 : World} {ob : List Ob} (h : RW E ob ρ B w) : RW (E.spy D0 B0 w0) ob ρ B w :=
  ⟨h.os, h.tape, h.output, h.size, h.block, h.pre, h.bsub, h.bnew, h.blt, h.len, h.obs, h.dis, h.prv⟩
theorem RW.unspied {D0 B0 : Nat → Prop} {w0 : World} {ob : List Ob} (h : RW (E.spy D0 B0 w0) ob ρ B w) : RW E ob ρ B w :=
  ⟨h.os, h.tape, h.output, h.size, h.block, h.pre, h.bsub, h.bnew, h.blt, h.len, h.obs, h.dis, h.prv⟩
theorem RS.spied (h : RS E s ρ B a w) : RS (E.spy (fun b => Dof s.ob ρ b ∨ b ∈ s.df) B w) s ρ B a w := by
  refine ⟨h.rw_.spied, h.m, h.n, h.df, ⟨⟨h.jj.j, Chg.rfl' _ _ _⟩, ?_, h.jj.nodup, h.jj.mks⟩, h.rf⟩
  intro tr go D B w D' B' w' hj hc hb
  exact ⟨h.jj.stab tr go D B w D' B' w' hj.1 hc hb, hj.2.trans' hc⟩
theorem RS.unspied {D0 B0 : Nat → Prop} {w0 : World} (hst : E.Stab) (h : RS (E.spy D0 B0 w0) s ρ B a w) : RS E s ρ B a w ∧ Chg D0 B0 w0 (fun b => Dof s.ob ρ b ∨ b ∈ s.df) B w :=
  ⟨⟨h.rw_.unspied, h.m, h.n, h.df, ⟨h.jj.j.1, hst, h.jj.nodup, h.jj.mks⟩, h.rf⟩, h.jj.j.2⟩
/-- an operation of a chain: the call's new object stands at X, then at X' -/
def CSpec (P : Program) (ops : Array Oper) (o : Oper) (s : AS) (X X' : List Ob) (x : AV) : Prop :=
  ∀ (E : Env), E.Ok P → ∀ (ρ : List Value) (B : Nat → Prop) (a : Act) (w : World), RS E { s with ob := s.ob ++ X } ρ B a w → ∀ (K : Act → World → Prop) (Q' : Exit → Act → World → Prop),
    (∀ v w' ρ' B', RJ E s (s.ob ++ X') ρ' B' w' → (∀ b, B b → B' b) → (∀ b, B b → w'.heap[b]? = w.heap[b]?) → (∀ (j : Nat) (u : Value), j < s.ob.length → ρ[j]? = some u → ρ'[j]? = some u) → Rel w' B' E.bs ρ' x v → K (a.put o.dst v) w') →
    if Region.wanted o (yielded ops a.tmps) then owp E.rnd P o a w K Q' else K (a.put o.dst undef) w
theorem CSpec.own {T e : TypeId} {sz : Nat} (hg : gd ops s o = some true) (ho : o.op = .buildSlice T 0 #[]) (hz : elSz P T = some sz) (he : elT P T = some e) : CSpec P ops o s [] [.row e sz []] (.own s.ob.length) := by
  intro E hE ρ B a w hs K Q' hK
  have hs' : RS E s ρ B a w := by simpa using hs
  refine ASpec.own hg ho hz he E ρ B a w hs' K Q' fun v w' u h1 h2 h3 => ?_
  exact hK v w' _ B h1 (fun _ h => h) h2 (fun j u _ h => get_append_some h) h3
theorem inval_ids {k : Nat} {x : AV} (h : x.idsOk (fun j => decide (j < k)) = true) : AV.inval k x = x := by
  unfold AV.inval
  rw [if_pos (idsOk_mono (fun j hj => by simp only [decide_eq_true_eq] at hj; simp only [bne_iff_ne, ne_eq]; omega) _ h)]
theorem ob_inval_ids {k : Nat} {o : Ob} (h : obIds (fun j => decide (j < k)) o = true) : Ob.inval k o = o := by
  cases o with
  | box T cs =>
    simp only [Ob.inval, Ob.box.injEq, true_and]
    simp only [obIds] at h
    refine (List.map_congr_left (g := id) fun x hx => inval_ids ?_).trans (List.map_id _)
    exact (AV.idsOkL_iff _ _).1 h x hx
  | row T sz xs =>
    simp only [obIds] at h
    simp only [Ob.inval]
    rw [if_pos (idsOkL_mono (fun j hj => by simp only [decide_eq_true_eq] at hj; simp only [bne_iff_ne, ne_eq]; omega) _ h)]
  | mp es => rfl
  | gone => rfl
/-- the row is grown -/
theorem CSpec.append {T T2 : TypeId} {x y : Operand} {sz : Nat} {e : TypeId} {xs ys : List AV} (hg : gd ops s o = some true) (ho : o.op = .call { callee := .builtin .append, args := #[x, y], argTypes := #[T, T2] }) (hx : s.ev x = .own s.ob.length)
    (hz : elSz P T = some sz) (hT : elT P T = some e) (h2 : isSlc P T2 = true ∨ isStr P T2 = true) (hsrc : srcOf s sz (s.ev y) = some ys) (hb : 2 * (xs.length + ys.length) * elB P T ≤ 2 ^ 48) (hsm : xs.length + ys.length ≤ 2 ^ 60)
    (hid : AV.idsOkL (· != s.ob.length) xs = true) (hid2 : AV.idsOkL (· != s.ob.length) ys = true) (hob : s.ob.all (obIds (fun j => decide (j < s.ob.length))) = true) : CSpec P ops o s [.row e sz xs] [.row e sz (xs ++ ys)] (.own s.ob.length) := by
  intro E hE ρ B a w hs K Q' hK
  rw [if_pos (gd_wanted (s := { s with ob := s.ob ++ [.row e sz xs] }) hg hs)]
  have hs1 := hs.spied
  have hev : AS.ev { s with ob := s.ob ++ [.row e sz xs] } = s.ev := funext fun y => by cases y <;> rfl
  have hxr := hs.ev x
  rw [hev, hx] at hxr
  have hyr := hs1.ev y
  rw [hev] at hyr
  generalize hu : a.eval x = u at hxr
  cases hxr with
  | own hp h1c =>
    have hk : (s.ob ++ [Ob.row e sz xs])[s.ob.length]? = some (.row e sz xs) := by simp
    obtain ⟨v', w', h1, h3, h4⟩ := append_core (P := P) (ty := o.type) (T := T) (T2 := T2) (k := s.ob.length) hs1 hz (elT_spec hT) h2 hk hp (srcOf_new hsrc) hyr hb hsm hid hid2
    obtain ⟨h3', hc⟩ := h3.unspied hs.jj.stab
    have hmap : s.ob.map (Ob.inval s.ob.length) = s.ob := by
      refine (List.map_congr_left (g := id) fun q hq => ob_inval_ids ?_).trans (List.map_id _)
      exact List.all_eq_true.1 hob q hq
    have hrow : Ob.inval s.ob.length (.row e sz xs) = .row e sz xs := by simp only [Ob.inval]; rw [if_pos hid]
    have e1 : ((s.ob ++ [Ob.row e sz xs]).map (Ob.inval s.ob.length)).set s.ob.length (.row e sz (xs ++ ys)) = s.ob ++ [.row e sz (xs ++ ys)] := by
      rw [List.map_append, hmap, List.map_cons, List.map_nil, hrow, List.set_append_right _ _ (Nat.le_refl _), Nat.sub_self, List.set_cons_zero]
    have hj : RJ E s (s.ob ++ [.row e sz (xs ++ ys)]) (ρ.set s.ob.length v') B w' := by
      have := h3'.rj
      rw [← e1]; exact this
    have hrun : (execOp a.eval o).run P w = .ok (.value v') w' := by simp [execOp, ho, resolve, invoke, builtin, hu, h1]
    have hkρ := get_lt hp
    refine owp_value hrun (hK v' w' _ B hj (fun _ h => h) (fun b hb => hc.block b (hs.rw_.blt b hb) fun hd => ?_) (fun j u hj' hu' => ?_) (.own ?_ h4))
    · rcases hd with ⟨k, o2, v2, a1, a2, a3, a4⟩ | hd
      · exact (hs.rw_.prv k o2 v2 b a1 a2 a3 a4).1 hb
      · exact (hs.jj.mks b hd).2.2.1 hb
    · rw [List.getElem?_set_ne (by omega)]; exact hu'
    · rw [List.getElem?_set_self hkρ]
/-! ### the head -/
/-- the checks: ci: the chain's operations; nds: what each operation needs -/
def drawnCB (ops : Array Oper) (n sn : Nat) (ci : List Nat) (nds : List (List (Nat × Option Nat))) : Bool :=
  drawnH ops n sn nds && decide ci.Nodup && (ci.all fun i => decide (i < n)) &&
  ((List.range ci.length).all fun l => decide (l = 0) || Region.waitsFor .any ops (ci.getD l 0) (ci.getD (l - 1) 0)) &&
  ((List.range n).all fun i => (nds.getD i []).all fun p => match p.2 with
    | some j => !ci.contains j || (List.range ci.length).any fun l => decide (0 < l) && decide (ci.getD (l - 1) 0 = j) && decide (ci.getD l 0 = i)
    | none => true)
structure CInv (E : Env) (s : AS) (ops : Array Oper) (n : Nat) (vals : List AV) (ci : List Nat) (obs : Nat → List Ob) (ρ0 ρ : List Value) (B : Nat → Prop) (listed : Array Bool) (k : Nat) (a : Act) (w : World) : Prop where
  rj : RJ E s (s.ob ++ obs k) ρ B w
  pre : ∀ (j : Nat) (u : Value), ρ0[j]? = some u → ρ[j]? = some u
  m : E.ρ0.length ≤ s.m ∧ E.pp.length ≤ s.m ∧ E.yl = s.yl
  sz : a.tmps.size = s.n
  df : a.defers = s.df.map mark
  kle : k ≤ ci.length
  pos : ∀ l, l < ci.length → (listed.getD (ci.getD l 0) false = true ↔ l < k)
  new1 : ∀ (i d : Nat), i < n → i ∉ ci → listed.getD i false = true → dstOf ops i = some d → Rel w B E.bs ρ0 (vals.getD i .any) (a.tmps.getD d undef)
  new2 : ∀ (d : Nat), 0 < k → dstOf ops (ci.getD (k - 1) 0) = some d → Rel w B E.bs ρ (vals.getD (ci.getD (k - 1) 0) .any) (a.tmps.getD d undef)
  old : ∀ t, (∀ i, i < n → listed.getD i false = true → dstOf ops i ≠ some t) → Rel w B E.bs ρ0 (lk s.fr t) (a.tmps.getD t undef)
theorem getD_mem {l : List Nat} {i : Nat} (h : i < l.length) : l.getD i 0 ∈ l := by
  rw [List.getD_eq_getElem?_getD, List.getElem?_eq_getElem h]; exact List.getElem_mem h
theorem getD_inj {l : List Nat} (hn : l.Nodup) {i j : Nat} (hi : i < l.length) (hj : j < l.length) (h : l.getD i 0 = l.getD j 0) : i = j := by
  rw [List.getD_eq_getElem?_getD, List.getElem?_eq_getElem hi, List.getD_eq_getElem?_getD, List.getElem?_eq_getElem hj] at h
  have hp := List.pairwise_iff_getElem.1 hn
  rcases Nat.lt_trichotomy i j with hlt | heq | hgt
  · exact absurd h (hp i j hi hj hlt)
  · exact heq
  · exact absurd h.symm (hp j i hj hi hgt)
theorem mem_getD {l : List Nat} {x : Nat} (h : x ∈ l) : ∃ i, i < l.length ∧ l.getD i 0 = x := by
  obtain ⟨i, hi, e⟩ := List.mem_iff_getElem.1 h
  exact ⟨i, hi, by rw [List.getD_eq_getElem?_getD, List.getElem?_eq_getElem hi]; exact e⟩
theorem AWp.drawnC {id : Nat} {R : Exit → AS → Prop} (n : Nat) (nds : List (List (Nat × Option Nat))) (vals : List AV) (ci : List Nat) (obs : Nat → List Ob) (fr1 : List (Nat × AV)) (hm : P.follows .mixedOrders = true) (hn : n ≤ ops.size) (h0 : obs 0 = []) (hB : drawnCB ops n s.n ci nds = true)
    (hT : ∀ listed, HeadInv .any ops n listed → (∃ i, i < n ∧ listed.getD i true = false) → ∀ j, n ≤ j → j ∉ Region.ready .any ops listed)
    (specs : ∀ i o, i < n → ops[i]? = some o → i ∉ ci → NSpec P ops o { s with fr := needFr s.fr vals (nds.getD i []) } (vals.getD i .any))
    (hid : ∀ i, i < n → i ∉ ci → (vals.getD i .any).idsOk (fun j => decide (j < s.ob.length)) = true)
    (cspec : ∀ l o, l < ci.length → ops[ci.getD l 0]? = some o → CSpec P ops o { s with fr := needFr s.fr vals (nds.getD (ci.getD l 0) []) } (obs l) (obs (l + 1)) (vals.getD (ci.getD l 0) .any))
    (hfr : ∀ t x, (t, x) ∈ fr1 → t < s.n ∧ ((∃ i, i < n ∧ dstOf ops i = some t ∧ x = vals.getD i .any ∧ (i ∉ ci ∨ (0 < ci.length ∧ ci.getD (ci.length - 1) 0 = i))) ∨ ((∀ i, i < n → dstOf ops i ≠ some t) ∧ x = lk s.fr t)))
    (K : AAny P ops (ops.size - n) (listed0 n ops.size) (R .normal) { s with fr := fr1, ob := s.ob ++ obs ci.length }) : AWp P (.region id ops true) s R := by
  intro E hE ρ0 B0 a0 w0 hs0 Q' hQ
  refine wpIn_region_any hm ?_
  simp only [drawnCB, Bool.and_eq_true, decide_eq_true_eq] at hB
  obtain ⟨⟨⟨⟨hhead, hnd⟩, hcn⟩, hcw⟩, hcneed⟩ := hB
  simp only [drawnH] at hhead
  have head : ∀ i, i < n → ∃ o, ops[i]? = some o ∧ (∀ e ∈ o.after, Region.binds .any e = true → e.on < i) ∧ (∀ d, o.dst = some d → d < s.n ∧ ∀ j, j < n → dstOf ops j = some d → j = i) ∧
      (∀ p ∈ nds.getD i [], match p.2 with
        | some j => j < n ∧ dstOf ops j = some p.1 ∧ Region.waitsFor .any ops i j = true
        | none => p.1 < s.n ∧ ∀ j, j < n → dstOf ops j = some p.1 → (j ≠ i ∧ Region.waitsFor .any ops j i = true) ∨ j = i) := by
    intro i hi
    have h := List.all_eq_true.1 hhead i (List.mem_range.2 hi)
    cases ho : ops[i]? with
    | none => simp [ho] at h
    | some o =>
      simp only [ho, Bool.and_eq_true] at h
      obtain ⟨⟨h1, h2⟩, h3⟩ := h
      refine ⟨o, rfl, ?_, ?_, ?_⟩
      · intro e he hb
        have := Array.all_eq_true_iff_forall_mem.1 h1 e he
        simpa [hb] using this
      · intro d hd
        simp only [hd, Bool.and_eq_true, decide_eq_true_eq] at h2
        refine ⟨h2.1, fun j hj hdj => ?_⟩
        have := List.all_eq_true.1 h2.2 j (List.mem_range.2 hj)
        simp only [Bool.or_eq_true, decide_eq_true_eq] at this
        rcases this with this | this
        · exact this
        · exact absurd hdj this
      · intro p hp
        have := List.all_eq_true.1 h3 p hp
        cases hp2 : p.2 with
        | some j =>
          simp only [hp2, Bool.and_eq_true, decide_eq_true_eq] at this
          exact ⟨this.1.1, this.1.2, this.2⟩
        | none =>
          simp only [hp2, Bool.and_eq_true, decide_eq_true_eq] at this
          refine ⟨this.1, ?_⟩
          intro j hj hdj
          have := List.all_eq_true.1 this.2 j (List.mem_range.2 hj)
          simp only [Bool.or_eq_true, decide_eq_true_eq, Bool.and_eq_true] at this
          rcases this with (this | this) | this
          · exact absurd hdj this
          · exact .inl this
          · exact .inr this
  have hlen0 : ρ0.length = s.ob.length := hs0.rw_.len
  have hs0' : RS E s ρ0 B0 a0 { w0 with drawn := w0.drawn + 1 } := hs0.same ⟨rfl, rfl, rfl, Nat.le_refl _, fun _ _ => rfl⟩
  have main : ∀ (u : Nat) (listed : Array Bool) (ρ : List Value) (B : Nat → Prop) (k : Nat) (a : Act) (w : World), left n listed = u → HeadInv .any ops n listed → CInv E s ops n vals ci obs ρ0 ρ B listed k a w → wpAnyIn (FR E.rnd) 0 P .any ops Q' (u + (ops.size - n)) listed a w := by
    intro u
    induction u with
    | zero =>
      intro listed ρ B k a w hu inv hi
      have hall := left_zero hu
      have hlisted : listed = listed0 n ops.size := by
        apply Array.ext
        · simp [inv.size, listed0]
        · intro i h1 h2
          have hi' : i < ops.size := by rw [← inv.size]; exact h1
          have hg : listed.getD i false = listed[i] := by simp [h1]
          have : listed[i] = decide (i < n) := by
            by_cases hin : i < n
            · rw [← hg, hall i hin]; simp [hin]
            · have h3 := getD_both (inv.tail i (by omega) hi')
              rw [← hg, h3]; simp [hin]
          rw [this]; simp [listed0]
      have hk : k = ci.length := by
        rcases Nat.lt_or_ge k ci.length with h | h
        · have := (hi.pos k h).1 (hall _ (by have := List.all_eq_true.1 hcn _ (getD_mem h); simpa using this))
          omega
        · exact Nat.le_antisymm hi.kle h
      subst hk
      rw [Nat.zero_add, hlisted]
      refine K E hE ρ B a w ⟨hi.rj.1, hi.m, hi.sz, hi.df, hi.rj.2, ?_⟩ Q' (fun s' ρ' B' a' w' q hs' => hQ _ _ _ _ _ _ q hs')
      intro t x hmem
      obtain ⟨hlt, h⟩ := hfr t x hmem
      refine ⟨by rw [hi.sz]; exact hlt, ?_⟩
      rcases h with ⟨i, h1, h2, rfl, h3⟩ | ⟨h1, rfl⟩
      · rcases h3 with h3 | ⟨h3, rfl⟩
        · exact (hi.new1 i t h1 h3 (hall i h1) h2).mono (fun _ h => h) (fun _ _ => rfl) (Nat.le_refl _) hi.pre
        · exact hi.new2 t h3 h2
      · exact (hi.old t (fun i hi' _ => h1 i hi')).mono (fun _ h => h) (fun _ _ => rfl) (Nat.le_refl _) hi.pre
    | succ u ih =>
      intro listed ρ B k a w hu inv hi
      have hex : ∃ i, i < n ∧ listed.getD i false = false := by
        apply Classical.byContradiction
        intro hne
        have hz : left n listed = 0 := by
          unfold left
          rw [List.countP_eq_zero]
          intro i hi'
          have := List.mem_range.1 hi'
          have h2 : ¬ listed.getD i false = false := fun e => hne ⟨i, this, e⟩
          simpa using h2
        omega
      have hnr : ∀ j ∈ Region.ready .any ops listed, j < n := by
        intro j hj
        rcases Nat.lt_or_ge j n with h | h
        · exact h
        · exfalso
          obtain ⟨i, hin, hil⟩ := hex
          exact hT listed inv ⟨i, hin, getD_in (by rw [inv.size]; omega) hil⟩ j h hj
      rw [show u + 1 + (ops.size - n) = (u + (ops.size - n)) + 1 by omega]
      refine ⟨?_, ?_⟩
      · intro hempty
        exfalso
        obtain ⟨i, ⟨hin, hil⟩, hmin⟩ := exists_least (p := fun i => i < n ∧ listed.getD i false = false) hex
        obtain ⟨o, ho, hedge, _, _⟩ := head i hin
        have hready : i ∈ Region.ready .any ops listed := by
          rw [mem_ready]
          refine ⟨getD_in (by rw [inv.size]; omega) hil, o, ho, ?_⟩
          intro e he hb
          have hlt := hedge e he hb
          cases hl : listed.getD e.on false with
          | true => rfl
          | false =>
            have := hmin e.on ⟨by omega, hl⟩
            omega
        rw [hempty] at hready
        cases hready
      · intro i hr
        have hin := hnr i hr
        obtain ⟨hun, o', ho', hwait⟩ := mem_ready.1 hr
        obtain ⟨o, ho, hedge, hdst, hneed⟩ := head i hin
        have : o' = o := Option.some.inj (ho'.symm.trans ho)
        subst this
        have hil : listed.getD i false = false := getD_both hun
        have hsz : i < listed.size := by rw [inv.size]; omega
        have hleft := left_set hin hsz hil
        have inv' := inv.set hr hin
        have waits : ∀ j, Region.waitsFor .any ops i j = true → listed.getD j false = true := by
          intro j hj
          obtain ⟨o2, h2, e, he, hb, rfl⟩ := Region.waitsFor_spec hj
          have : o2 = o' := Option.some.inj (h2.symm.trans ho)
          subst this
          exact hwait e he hb
        have notyet : ∀ j, Region.waitsFor .any ops j i = true → listed.getD j false = false := by
          intro j hj
          obtain ⟨o2, h2, e, he, hb, hon⟩ := Region.waitsFor_spec hj
          cases hl : listed.getD j false with
          | false => rfl
          | true =>
            have := inv.closed j o2 h2 hl e he hb
            rw [hon, hil] at this
            cases this
        -- where a chain's operation comes up, the chain stands in front of it
        have stage : ∀ l, l < ci.length → ci.getD l 0 = i → l = k := by
          intro l hl hli
          have h1 : ¬ l < k := fun h => by
            have := (hi.pos l hl).2 h
            rw [hli, hil] at this
            cases this
          rcases Nat.lt_or_ge k l with h2 | h2
          · exfalso
            have hw := List.all_eq_true.1 hcw l (List.mem_range.2 hl)
            simp only [Bool.or_eq_true, decide_eq_true_eq] at hw
            rcases hw with hw | hw
            · omega
            · rw [hli] at hw
              have := (hi.pos (l - 1) (by omega)).1 (waits _ hw)
              omega
          · omega
        have hneedv : ∀ (t j : Nat), (t, some j) ∈ nds.getD i [] → Rel w B E.bs ρ (vals.getD j .any) (a.tmps.getD t undef) := by
          intro t j hmem
          have h := hneed _ hmem
          simp only at h
          obtain ⟨hj, hdj, hw⟩ := h
          have hcc := List.all_eq_true.1 (List.all_eq_true.1 hcneed i (List.mem_range.2 hin)) _ hmem
          simp only [Bool.or_eq_true, Bool.not_eq_true', List.contains_eq_mem, decide_eq_false_iff_not] at hcc
          rcases hcc with hcc | hcc
          · exact (hi.new1 j t hj hcc (waits j hw) hdj).mono (fun _ h => h) (fun _ _ => rfl) (Nat.le_refl _) hi.pre
          · obtain ⟨l, hl, hcc⟩ := List.any_eq_true.1 hcc
            simp only [Bool.and_eq_true, decide_eq_true_eq] at hcc
            obtain ⟨⟨q1, q2⟩, q3⟩ := hcc
            have hlk := stage l (List.mem_range.1 hl) q3
            subst hlk
            subst q2
            exact hi.new2 t q1 hdj
        have hrs : ∀ ob, ob = s.ob ++ obs k → RS E { s with fr := needFr s.fr vals (nds.getD i []), ob := ob } ρ B a w := by
          rintro ob rfl
          refine ⟨hi.rj.1, hi.m, hi.sz, hi.df, hi.rj.2, ?_⟩
          intro t x hmem
          rcases needFr_mem hmem with ⟨j, h1, rfl⟩ | ⟨h1, rfl⟩
          · have h := hneed _ h1
            simp only at h
            obtain ⟨hj, hdj, hw⟩ := h
            refine ⟨?_, hneedv t j h1⟩
            obtain ⟨oj, hoj, _, hdj', _⟩ := head j hj
            have : oj.dst = some t := by simpa [dstOf, hoj] using hdj
            rw [hi.sz]; exact (hdj' t this).1
          · have h := hneed _ h1
            simp only at h
            refine ⟨by rw [hi.sz]; exact h.1, (hi.old t ?_).mono (fun _ h => h) (fun _ _ => rfl) (Nat.le_refl _) hi.pre⟩
            intro j hj hl hdj
            rcases h.2 j hj hdj with ⟨_, h⟩ | h
            · rw [notyet j h] at hl; cases hl
            · subst h; rw [hil] at hl; cases hl
        -- what stays when operation i has come up
        have tmpsEq : ∀ (v : Value) (d : Nat), o'.dst ≠ some d → (a.put o'.dst v).tmps.getD d undef = a.tmps.getD d undef := by
          intro v d hd
          cases hd' : o'.dst with
          | none => rfl
          | some d' =>
            have hne : d' ≠ d := by rintro rfl; exact hd hd'
            simp [Act.put, Array.getD_eq_getD_getElem?, Array.getElem?_setIfInBounds_ne hne]
        have tmpsNew : ∀ (v : Value) (d : Nat), o'.dst = some d → (a.put o'.dst v).tmps.getD d undef = v := by
          intro v d hd
          have := (hdst d hd).1
          rw [hd]; simp [Act.put, Array.getD_eq_getD_getElem?, hi.sz, this]
        have step : ∀ (v : Value) (w' : World) (ρ' : List Value) (B' : Nat → Prop) (k' : Nat), RJ E s (s.ob ++ obs k') ρ' B' w' → (∀ b, B b → B' b) → (∀ b, B b → w'.heap[b]? = w.heap[b]?) → (∀ (j : Nat) (u : Value), ρ0[j]? = some u → ρ'[j]? = some u) →
            k' ≤ ci.length → (∀ l, l < ci.length → ((listed.setIfInBounds i true).getD (ci.getD l 0) false = true ↔ l < k')) → (i ∉ ci → Rel w' B' E.bs ρ0 (vals.getD i .any) v) →
            (∀ d, 0 < k' → dstOf ops (ci.getD (k' - 1) 0) = some d → Rel w' B' E.bs ρ' (vals.getD (ci.getD (k' - 1) 0) .any) ((a.put o'.dst v).tmps.getD d undef)) →
            wpAnyIn (FR E.rnd) 0 P .any ops Q' (u + (ops.size - n)) (listed.setIfInBounds i true) (a.put o'.dst v) w' := by
          intro v w' ρ' B' k' h1 h2 h3 h4 h5 h6 h7 h8
          refine ih _ ρ' B' k' _ _ (by omega) inv' ⟨h1, h4, hi.m, ?_, ?_, h5, h6, ?_, h8, ?_⟩
          · cases o'.dst <;> simp [Act.put, hi.sz]
          · cases o'.dst <;> simp [Act.put, hi.df]
          · intro j d hj hjc hl hdj
            by_cases hji : j = i
            · subst hji
              have hd : o'.dst = some d := by simpa [dstOf, ho] using hdj
              rw [tmpsNew v d hd]; exact h7 hjc
            · rw [getD_set_ne false (Ne.symm hji)] at hl
              have hold := (hi.new1 j d hj hjc hl hdj).mono h2 h3 (Nat.le_refl _) (fun _ _ h => h)
              rw [tmpsEq v d (fun hd => hji ((hdst d hd).2 j hj hdj))]; exact hold
          · intro t ht
            have hold := (hi.old t (fun j hj hl => ht j hj (by
              by_cases hji : j = i
              · subst hji; rw [hil] at hl; cases hl
              · rw [getD_set_ne false (Ne.symm hji)]; exact hl))).mono h2 h3 (Nat.le_refl _) (fun _ _ h => h)
            rw [tmpsEq v t (fun hd => ht i hin (by simp [hsz]) (by simp [dstOf, ho, hd]))]; exact hold
        unfold wpOpIn
        simp only [ho]
        have fin : ∀ {K' : Act → World → Prop}, (if Region.wanted o' (yielded ops a.tmps) then owp E.rnd P o' a w K' Q' else K' (a.put o'.dst undef) w) → (if Region.wanted o' (yielded ops a.tmps) then o'.wpIn (FR E.rnd) 0 P a w K' Q' else (∀ f, o'.about P w a.eval = some f → (FR E.rnd).fn f) ∧ K' (a.put o'.dst undef) w) := by
          intro K' h
          split at h
          · rename_i hw; rw [if_pos hw]; exact h
          · rename_i hw; rw [if_neg hw]; exact ⟨fun _ _ => trivial, h⟩
        refine fin ?_
        by_cases hic : i ∈ ci
        · obtain ⟨l, hl, hli⟩ := mem_getD hic
          have hlk := stage l hl hli
          subst hlk
          have hcs := cspec l o' hl (by rw [hli]; exact ho)
          rw [hli] at hcs
          refine hcs E hE ρ B a w (hrs _ rfl) _ Q' ?_
          intro v w' ρ' B' h1 h2 h3 h4 h5
          have hpre : ∀ (j : Nat) (u : Value), ρ0[j]? = some u → ρ'[j]? = some u := fun j u hj => h4 j u (by have := get_lt hj; show j < s.ob.length; omega) (hi.pre j u hj)
          refine step v w' ρ' B' (l + 1) h1 h2 h3 hpre hl ?_ (fun h => absurd hic h) ?_
          · intro l' hl'
            by_cases hll : l' = l
            · subst hll; rw [hli]; simp [hsz]
            · have hne : i ≠ ci.getD l' 0 := by rw [← hli]; exact fun e => hll (getD_inj hnd hl' hl e.symm)
              rw [getD_set_ne false hne, hi.pos l' hl']; omega
          · intro d _ hd
            rw [Nat.add_sub_cancel, hli] at hd ⊢
            rw [tmpsNew v d (by simpa [dstOf, ho] using hd)]; exact h5
        · refine specs i o' hin ho hic E hE ρ B a w (obs k) (hrs _ rfl) _ Q' ?_
          intro v w' B' h1 h2 h3 h4
          refine step v w' ρ B' k h1 h2 h3 hi.pre hi.kle ?_ (fun _ => ?_) ?_
          · intro l hl
            have hne : i ≠ ci.getD l 0 := fun e => hic (e ▸ getD_mem hl)
            rw [getD_set_ne false hne]; exact hi.pos l hl
          · refine h4.ids (p := fun j => decide (j < s.ob.length)) ?_ (hid i hin hic)
            intro j u hj hu
            simp only [decide_eq_true_eq] at hj
            have hlt : j < ρ0.length := by omega
            have := hi.pre j _ (List.getElem?_eq_getElem hlt)
            rw [hu] at this
            rw [List.getElem?_eq_getElem hlt, ← this]
          · intro d hk hd
            have hold := (hi.new2 d hk hd).mono h2 h3 (Nat.le_refl _) (fun _ _ h => h)
            have hne : ci.getD (k - 1) 0 ≠ i := fun e => hic (e ▸ getD_mem (by have := hi.kle; omega))
            have hcl : ci.getD (k - 1) 0 < n := by have := List.all_eq_true.1 hcn _ (getD_mem (l := ci) (i := k - 1) (by have := hi.kle; omega)); simpa using this
            rw [tmpsEq v d (fun hd' => hne ((hdst d hd').2 _ hcl hd))]; exact hold
  have inv0 : HeadInv .any ops n (Array.replicate ops.size false) :=
    ⟨by simp, fun j oj _ hl => (by rw [getD_replicate_false] at hl; cases hl), fun t _ ht => getD_in (by simpa using ht) (getD_replicate_false _ _)⟩
  have hc0 : CInv E s ops n vals ci obs ρ0 ρ0 B0 (Array.replicate ops.size false) 0 a0 { w0 with drawn := w0.drawn + 1 } := by
    refine ⟨?_, fun _ _ h => h, hs0'.m, hs0'.n, hs0'.df, Nat.zero_le _, fun l _ => (by rw [getD_replicate_false]; simp), fun i d _ _ hl => (by rw [getD_replicate_false] at hl; cases hl), fun d h => absurd h (Nat.lt_irrefl _), fun t _ => hs0'.get t⟩
    rw [h0, List.append_nil]; exact hs0'.rj
  have hl0 : left n (Array.replicate ops.size false) = n := by
    unfold left
    rw [List.countP_eq_length.2 (by intro i _; rw [getD_replicate_false]; rfl)]
    simp
  have := main n _ ρ0 B0 0 a0 _ hl0 inv0 hc0
  rwa [show n + (ops.size - n) = ops.size by omega] at this
/-! ### in the walk -/
/-- the chain's operations, one after the other: the object stands at X, at last at XL -/
def CL (P : Program) (ops : Array Oper) (s : AS) (nds1 : List (List (Nat × Option Nat))) (vals : List AV) : List Nat → List Ob → List Ob → Prop
  | [], X, XL => X = XL
  | i :: r, X, XL => ∃ X', (∀ o, ops[i]? = some o → CSpec P ops o { s with fr := needFr s.fr vals (nds1.getD i []) } X X' (vals.getD i .any)) ∧ CL P ops s nds1 vals r X' XL
theorem CL.obs {nds1 : List (List (Nat × Option Nat))} : ∀ {ci : List Nat} {X XL : List Ob}, CL P ops s nds1 vals ci X XL → ∃ obs : Nat → List Ob, obs 0 = X ∧ obs ci.length = XL ∧
    ∀ l o, l < ci.length → ops[ci.getD l 0]? = some o → CSpec P ops o { s with fr := needFr s.fr vals (nds1.getD (ci.getD l 0) []) } (obs l) (obs (l + 1)) (vals.getD (ci.getD l 0) .any)
  | [], X, XL, h => ⟨fun _ => X, rfl, h, fun l o hl => by simp at hl⟩
  | i :: r, X, XL, ⟨X', h1, h2⟩ => by
    obtain ⟨obs, a1, a2, a3⟩ := CL.obs h2
    refine ⟨fun l => match l with | 0 => X | l + 1 => obs l, rfl, a2, fun l o hl ho => ?_⟩
    cases l with
    | zero =>
      have := h1 o (by simpa using ho)
      simp only [List.getD_cons_zero]
      rw [a1]; exact this
    | succ l =>
      simp only [List.getD_cons_succ] at ho ⊢
      exact a3 l o (by simpa using hl) ho
section cl
variable {nds1 : List (List (Nat × Option Nat))} {X XL : List Ob} {i : Nat} {r : List Nat}
theorem CL.nil : CL P ops s nds1 vals [] X X := rfl
theorem CL.own {T e : TypeId} {sz : Nat} (k : CL P ops s nds1 vals r [.row e sz []] XL) (hol : ops[i]? = some o := by first | with_reducible rfl | (simp only [push_cast, reduceIte, Nat.reduceEqDiff, Nat.reduceLT, Nat.reduceAdd, Nat.reduceSub, Nat.reduceMul, Nat.reduceLeDiff, Nat.reducePow, Int.reduceLT, Int.reduceToNat, reduceCtorEq, Int.reduceNeg, Int.reduceEq, Nat.reduceBEq, Nat.reduceBNe, Int.reduceBEq, Int.reduceBNe, String.reduceEq]; first | done | rfl | (simp (disch := omega) only [w_nat, w_add, w_addl, w_addr, w_sub, w_subl, w_mul, w_mull, w_mulr, w_u32, w_u16, w_u8, w_u32a, N_zero]; first | done | rfl | (simp only [push_cast, reduceIte, Nat.reduceEqDiff, Nat.reduceLT, Nat.reduceAdd, Nat.reduceSub, Nat.reduceMul, Nat.reduceLeDiff, Nat.reducePow, Int.reduceLT, Int.reduceToNat, reduceCtorEq, Int.reduceNeg, Int.reduceEq, Nat.reduceBEq, Nat.reduceBNe, Int.reduceBEq, Int.reduceBNe, String.reduceEq]; first | done | rfl)))) (ho : o.op = .buildSlice T 0 #[] := by rfl) (hg : gd ops { s with fr := needFr s.fr vals (nds1.getD i []) } o = some true := by first | with_reducible rfl | (simp only [push_cast, reduceIte, Nat.reduceEqDiff, Nat.reduceLT, Nat.reduceAdd, Nat.reduceSub, Nat.reduceMul, Nat.reduceLeDiff, Nat.reducePow, Int.reduceLT, Int.reduceToNat, reduceCtorEq, Int.reduceNeg, Int.reduceEq, Nat.reduceBEq, Nat.reduceBNe, Int.reduceBEq, Int.reduceBNe, String.reduceEq]; first | done | rfl | (simp (disch := omega) only [w_nat, w_add, w_addl, w_addr, w_sub, w_subl, w_mul, w_mull, w_mulr, w_u32, w_u16, w_u8, w_u32a, N_zero]; first | done | rfl | (simp only [push_cast, reduceIte, Nat.reduceEqDiff, Nat.reduceLT, Nat.reduceAdd, Nat.reduceSub, Nat.reduceMul, Nat.reduceLeDiff, Nat.reducePow, Int.reduceLT, Int.reduceToNat, reduceCtorEq, Int.reduceNeg, Int.reduceEq, Nat.reduceBEq, Nat.reduceBNe, Int.reduceBEq, Int.reduceBNe, String.reduceEq]; first | done | rfl))))
    (hz : elSz P T = some sz := by first | with_reducible rfl | (simp only [push_cast, reduceIte, Nat.reduceEqDiff, Nat.reduceLT, Nat.reduceAdd, Nat.reduceSub, Nat.reduceMul, Nat.reduceLeDiff, Nat.reducePow, Int.reduceLT, Int.reduceToNat, reduceCtorEq, Int.reduceNeg, Int.reduceEq, Nat.reduceBEq, Nat.reduceBNe, Int.reduceBEq, Int.reduceBNe, String.reduceEq]; first | done | rfl | (simp (disch := omega) only [w_nat, w_add, w_addl, w_addr, w_sub, w_subl, w_mul, w_mull, w_mulr, w_u32, w_u16, w_u8, w_u32a, N_zero]; first | done | rfl | (simp only [push_cast, reduceIte, Nat.reduceEqDiff, Nat.reduceLT, Nat.reduceAdd, Nat.reduceSub, Nat.reduceMul, Nat.reduceLeDiff, Nat.reducePow, Int.reduceLT, Int.reduceToNat, reduceCtorEq, Int.reduceNeg, Int.reduceEq, Nat.reduceBEq, Nat.reduceBNe, Int.reduceBEq, Int.reduceBNe, String.reduceEq]; first | done | rfl)))) (he : elT P T = some e := by first | with_reducible rfl | (simp only [push_cast, reduceIte, Nat.reduceEqDiff, Nat.reduceLT, Nat.reduceAdd, Nat.reduceSub, Nat.reduceMul, Nat.reduceLeDiff, Nat.reducePow, Int.reduceLT, Int.reduceToNat, reduceCtorEq, Int.reduceNeg, Int.reduceEq, Nat.reduceBEq, Nat.reduceBNe, Int.reduceBEq, Int.reduceBNe, String.reduceEq]; first | done | rfl | (simp (disch := omega) only [w_nat, w_add, w_addl, w_addr, w_sub, w_subl, w_mul, w_mull, w_mulr, w_u32, w_u16, w_u8, w_u32a, N_zero]; first | done | rfl | (simp only [push_cast, reduceIte, Nat.reduceEqDiff, Nat.reduceLT, Nat.reduceAdd, Nat.reduceSub, Nat.reduceMul, Nat.reduceLeDiff, Nat.reducePow, Int.reduceLT, Int.reduceToNat, reduceCtorEq, Int.reduceNeg, Int.reduceEq, Nat.reduceBEq, Nat.reduceBNe, Int.reduceBEq, Int.reduceBNe, String.reduceEq]; first | done | rfl)))) (hv : vals.getD i .any = .own s.ob.length := by rfl) : CL P ops s nds1 vals (i :: r) [] XL :=
  ⟨_, fun o' ho' => by
    have : o' = o := Option.some.inj (ho'.symm.trans hol)
    subst this
    rw [hv]
    exact CSpec.own hg ho hz he, k⟩
theorem CL.app {T T2 e : TypeId} {x y : Operand} {sz : Nat} {xs ys zs : List AV} (k : CL P ops s nds1 vals r [.row e sz zs] XL) (hol : ops[i]? = some o := by first | with_reducible rfl | (simp only [push_cast, reduceIte, Nat.reduceEqDiff, Nat.reduceLT, Nat.reduceAdd, Nat.reduceSub, Nat.reduceMul, Nat.reduceLeDiff, Nat.reducePow, Int.reduceLT, Int.reduceToNat, reduceCtorEq, Int.reduceNeg, Int.reduceEq, Nat.reduceBEq, Nat.reduceBNe, Int.reduceBEq, Int.reduceBNe, String.reduceEq]; first | done | rfl | (simp (disch := omega) only [w_nat, w_add, w_addl, w_addr, w_sub, w_subl, w_mul, w_mull, w_mulr, w_u32, w_u16, w_u8, w_u32a, N_zero]; first | done | rfl | (simp only [push_cast, reduceIte, Nat.reduceEqDiff, Nat.reduceLT, Nat.reduceAdd, Nat.reduceSub, Nat.reduceMul, Nat.reduceLeDiff, Nat.reducePow, Int.reduceLT, Int.reduceToNat, reduceCtorEq, Int.reduceNeg, Int.reduceEq, Nat.reduceBEq, Nat.reduceBNe, Int.reduceBEq, Int.reduceBNe, String.reduceEq]; first | done | rfl)))) (ho : o.op = .call { callee := .builtin .append, args := #[x, y], argTypes := #[T, T2] } := by rfl)
    (hg : gd ops { s with fr := needFr s.fr vals (nds1.getD i []) } o = some true := by first | with_reducible rfl | (simp only [push_cast, reduceIte, Nat.reduceEqDiff, Nat.reduceLT, Nat.reduceAdd, Nat.reduceSub, Nat.reduceMul, Nat.reduceLeDiff, Nat.reducePow, Int.reduceLT, Int.reduceToNat, reduceCtorEq, Int.reduceNeg, Int.reduceEq, Nat.reduceBEq, Nat.reduceBNe, Int.reduceBEq, Int.reduceBNe, String.reduceEq]; first | done | rfl | (simp (disch := omega) only [w_nat, w_add, w_addl, w_addr, w_sub, w_subl, w_mul, w_mull, w_mulr, w_u32, w_u16, w_u8, w_u32a, N_zero]; first | done | rfl | (simp only [push_cast, reduceIte, Nat.reduceEqDiff, Nat.reduceLT, Nat.reduceAdd, Nat.reduceSub, Nat.reduceMul, Nat.reduceLeDiff, Nat.reducePow, Int.reduceLT, Int.reduceToNat, reduceCtorEq, Int.reduceNeg, Int.reduceEq, Nat.reduceBEq, Nat.reduceBNe, Int.reduceBEq, Int.reduceBNe, String.reduceEq]; first | done | rfl)))) (hx : AS.ev { s with fr := needFr s.fr vals (nds1.getD i []) } x = .own s.ob.length := by first | with_reducible rfl | (simp only [push_cast, reduceIte, Nat.reduceEqDiff, Nat.reduceLT, Nat.reduceAdd, Nat.reduceSub, Nat.reduceMul, Nat.reduceLeDiff, Nat.reducePow, Int.reduceLT, Int.reduceToNat, reduceCtorEq, Int.reduceNeg, Int.reduceEq, Nat.reduceBEq, Nat.reduceBNe, Int.reduceBEq, Int.reduceBNe, String.reduceEq]; first | done | rfl | (simp (disch := omega) only [w_nat, w_add, w_addl, w_addr, w_sub, w_subl, w_mul, w_mull, w_mulr, w_u32, w_u16, w_u8, w_u32a, N_zero]; first | done | rfl | (simp only [push_cast, reduceIte, Nat.reduceEqDiff, Nat.reduceLT, Nat.reduceAdd, Nat.reduceSub, Nat.reduceMul, Nat.reduceLeDiff, Nat.reducePow, Int.reduceLT, Int.reduceToNat, reduceCtorEq, Int.reduceNeg, Int.reduceEq, Nat.reduceBEq, Nat.reduceBNe, Int.reduceBEq, Int.reduceBNe, String.reduceEq]; first | done | rfl)))) (hz : elSz P T = some sz := by first | with_reducible rfl | (simp only [push_cast, reduceIte, Nat.reduceEqDiff, Nat.reduceLT, Nat.reduceAdd, Nat.reduceSub, Nat.reduceMul, Nat.reduceLeDiff, Nat.reducePow, Int.reduceLT, Int.reduceToNat, reduceCtorEq, Int.reduceNeg, Int.reduceEq, Nat.reduceBEq, Nat.reduceBNe, Int.reduceBEq, Int.reduceBNe, String.reduceEq]; first | done | rfl | (simp (disch := omega) only [w_nat, w_add, w_addl, w_addr, w_sub, w_subl, w_mul, w_mull, w_mulr, w_u32, w_u16, w_u8, w_u32a, N_zero]; first | done | rfl | (simp only [push_cast, reduceIte, Nat.reduceEqDiff, Nat.reduceLT, Nat.reduceAdd, Nat.reduceSub, Nat.reduceMul, Nat.reduceLeDiff, Nat.reducePow, Int.reduceLT, Int.reduceToNat, reduceCtorEq, Int.reduceNeg, Int.reduceEq, Nat.reduceBEq, Nat.reduceBNe, Int.reduceBEq, Int.reduceBNe, String.reduceEq]; first | done | rfl)))) (he : elT P T = some e := by first | with_reducible rfl | (simp only [push_cast, reduceIte, Nat.reduceEqDiff, Nat.reduceLT, Nat.reduceAdd, Nat.reduceSub, Nat.reduceMul, Nat.reduceLeDiff, Nat.reducePow, Int.reduceLT, Int.reduceToNat, reduceCtorEq, Int.reduceNeg, Int.reduceEq, Nat.reduceBEq, Nat.reduceBNe, Int.reduceBEq, Int.reduceBNe, String.reduceEq]; first | done | rfl | (simp (disch := omega) only [w_nat, w_add, w_addl, w_addr, w_sub, w_subl, w_mul, w_mull, w_mulr, w_u32, w_u16, w_u8, w_u32a, N_zero]; first | done | rfl | (simp only [push_cast, reduceIte, Nat.reduceEqDiff, Nat.reduceLT, Nat.reduceAdd, Nat.reduceSub, Nat.reduceMul, Nat.reduceLeDiff, Nat.reducePow, Int.reduceLT, Int.reduceToNat, reduceCtorEq, Int.reduceNeg, Int.reduceEq, Nat.reduceBEq, Nat.reduceBNe, Int.reduceBEq, Int.reduceBNe, String.reduceEq]; first | done | rfl)))) (h2 : (isSlc P T2 || isStr P T2) = true := by first | with_reducible rfl | (simp only [push_cast, reduceIte, Nat.reduceEqDiff, Nat.reduceLT, Nat.reduceAdd, Nat.reduceSub, Nat.reduceMul, Nat.reduceLeDiff, Nat.reducePow, Int.reduceLT, Int.reduceToNat, reduceCtorEq, Int.reduceNeg, Int.reduceEq, Nat.reduceBEq, Nat.reduceBNe, Int.reduceBEq, Int.reduceBNe, String.reduceEq]; first | done | rfl | (simp (disch := omega) only [w_nat, w_add, w_addl, w_addr, w_sub, w_subl, w_mul, w_mull, w_mulr, w_u32, w_u16, w_u8, w_u32a, N_zero]; first | done | rfl | (simp only [push_cast, reduceIte, Nat.reduceEqDiff, Nat.reduceLT, Nat.reduceAdd, Nat.reduceSub, Nat.reduceMul, Nat.reduceLeDiff, Nat.reducePow, Int.reduceLT, Int.reduceToNat, reduceCtorEq, Int.reduceNeg, Int.reduceEq, Nat.reduceBEq, Nat.reduceBNe, Int.reduceBEq, Int.reduceBNe, String.reduceEq]; first | done | rfl))))
    (hsrc : srcOf { s with fr := needFr s.fr vals (nds1.getD i []) } sz (AS.ev { s with fr := needFr s.fr vals (nds1.getD i []) } y) = some ys := by first | with_reducible rfl | (simp only [push_cast, reduceIte, Nat.reduceEqDiff, Nat.reduceLT, Nat.reduceAdd, Nat.reduceSub, Nat.reduceMul, Nat.reduceLeDiff, Nat.reducePow, Int.reduceLT, Int.reduceToNat, reduceCtorEq, Int.reduceNeg, Int.reduceEq, Nat.reduceBEq, Nat.reduceBNe, Int.reduceBEq, Int.reduceBNe, String.reduceEq]; first | done | rfl | (simp (disch := omega) only [w_nat, w_add, w_addl, w_addr, w_sub, w_subl, w_mul, w_mull, w_mulr, w_u32, w_u16, w_u8, w_u32a, N_zero]; first | done | rfl | (simp only [push_cast, reduceIte, Nat.reduceEqDiff, Nat.reduceLT, Nat.reduceAdd, Nat.reduceSub, Nat.reduceMul, Nat.reduceLeDiff, Nat.reducePow, Int.reduceLT, Int.reduceToNat, reduceCtorEq, Int.reduceNeg, Int.reduceEq, Nat.reduceBEq, Nat.reduceBNe, Int.reduceBEq, Int.reduceBNe, String.reduceEq]; first | done | rfl)))) (hzs : xs ++ ys = zs := by
        try simp only [push_cast, reduceIte, Nat.reduceEqDiff, Nat.reduceLT, Nat.reduceAdd, Nat.reduceSub, Nat.reduceMul, Nat.reduceLeDiff, Nat.reducePow, Int.reduceLT, Int.reduceToNat, reduceCtorEq, Int.reduceNeg, Int.reduceEq, Nat.reduceBEq, Nat.reduceBNe, Int.reduceBEq, Int.reduceBNe, String.reduceEq]
        try simp (disch := omega) only [w_nat, w_add, w_addl, w_addr, w_sub, w_subl, w_mul, w_mull, w_mulr, w_u32, w_u16, w_u8, w_u32a, N_zero]
        try simp only [push_cast, reduceIte, Nat.reduceEqDiff, Nat.reduceLT, Nat.reduceAdd, Nat.reduceSub, Nat.reduceMul, Nat.reduceLeDiff, Nat.reducePow, Int.reduceLT, Int.reduceToNat, reduceCtorEq, Int.reduceNeg, Int.reduceEq, Nat.reduceBEq, Nat.reduceBNe, Int.reduceBEq, Int.reduceBNe, String.reduceEq]
        rfl)
    (hid : AV.idsOkL (· != s.ob.length) xs = true := by first | with_reducible rfl | (simp only [push_cast, reduceIte, Nat.reduceEqDiff, Nat.reduceLT, Nat.reduceAdd, Nat.reduceSub, Nat.reduceMul, Nat.reduceLeDiff, Nat.reducePow, Int.reduceLT, Int.reduceToNat, reduceCtorEq, Int.reduceNeg, Int.reduceEq, Nat.reduceBEq, Nat.reduceBNe, Int.reduceBEq, Int.reduceBNe, String.reduceEq]; first | done | rfl | (simp (disch := omega) only [w_nat, w_add, w_addl, w_addr, w_sub, w_subl, w_mul, w_mull, w_mulr, w_u32, w_u16, w_u8, w_u32a, N_zero]; first | done | rfl | (simp only [push_cast, reduceIte, Nat.reduceEqDiff, Nat.reduceLT, Nat.reduceAdd, Nat.reduceSub, Nat.reduceMul, Nat.reduceLeDiff, Nat.reducePow, Int.reduceLT, Int.reduceToNat, reduceCtorEq, Int.reduceNeg, Int.reduceEq, Nat.reduceBEq, Nat.reduceBNe, Int.reduceBEq, Int.reduceBNe, String.reduceEq]; first | done | rfl)))) (hid2 : AV.idsOkL (· != s.ob.length) ys = true := by first | with_reducible rfl | (simp only [push_cast, reduceIte, Nat.reduceEqDiff, Nat.reduceLT, Nat.reduceAdd, Nat.reduceSub, Nat.reduceMul, Nat.reduceLeDiff, Nat.reducePow, Int.reduceLT, Int.reduceToNat, reduceCtorEq, Int.reduceNeg, Int.reduceEq, Nat.reduceBEq, Nat.reduceBNe, Int.reduceBEq, Int.reduceBNe, String.reduceEq]; first | done | rfl | (simp (disch := omega) only [w_nat, w_add, w_addl, w_addr, w_sub, w_subl, w_mul, w_mull, w_mulr, w_u32, w_u16, w_u8, w_u32a, N_zero]; first | done | rfl | (simp only [push_cast, reduceIte, Nat.reduceEqDiff, Nat.reduceLT, Nat.reduceAdd, Nat.reduceSub, Nat.reduceMul, Nat.reduceLeDiff, Nat.reducePow, Int.reduceLT, Int.reduceToNat, reduceCtorEq, Int.reduceNeg, Int.reduceEq, Nat.reduceBEq, Nat.reduceBNe, Int.reduceBEq, Int.reduceBNe, String.reduceEq]; first | done | rfl)))) (hob : s.ob.all (obIds (fun j => decide (j < s.ob.length))) = true := by first | with_reducible rfl | (simp only [push_cast, reduceIte, Nat.reduceEqDiff, Nat.reduceLT, Nat.reduceAdd, Nat.reduceSub, Nat.reduceMul, Nat.reduceLeDiff, Nat.reducePow, Int.reduceLT, Int.reduceToNat, reduceCtorEq, Int.reduceNeg, Int.reduceEq, Nat.reduceBEq, Nat.reduceBNe, Int.reduceBEq, Int.reduceBNe, String.reduceEq]; first | done | rfl | (simp (disch := omega) only [w_nat, w_add, w_addl, w_addr, w_sub, w_subl, w_mul, w_mull, w_mulr, w_u32, w_u16, w_u8, w_u32a, N_zero]; first | done | rfl | (simp only [push_cast, reduceIte, Nat.reduceEqDiff, Nat.reduceLT, Nat.reduceAdd, Nat.reduceSub, Nat.reduceMul, Nat.reduceLeDiff, Nat.reducePow, Int.reduceLT, Int.reduceToNat, reduceCtorEq, Int.reduceNeg, Int.reduceEq, Nat.reduceBEq, Nat.reduceBNe, Int.reduceBEq, Int.reduceBNe, String.reduceEq]; first | done | rfl)))) (hv : vals.getD i .any = .own s.ob.length := by rfl)
    (hb : 2 * (xs.length + ys.length) * elB P T ≤ 2 ^ 48) (hsm : xs.length + ys.length ≤ 2 ^ 60) : CL P ops s nds1 vals (i :: r) [.row e sz xs] XL :=
  ⟨_, fun o' ho' => by
    have : o' = o := Option.some.inj (ho'.symm.trans hol)
    subst this
    rw [hv]
    have := CSpec.append (s := { s with fr := needFr s.fr vals (nds1.getD i []) }) hg ho hx hz he (by simpa using h2) hsrc hb hsm hid hid2 hob
    rw [hzs] at this
    exact this, k⟩
end cl
/-- the tail's checks -/
def tailB (ops : Array Oper) (n : Nat) : Bool := decide (n ≤ ops.size) && (decide (n = ops.size) || (((List.range n).all fun i => Region.waitsFor .any ops n i || (List.range n).any fun j => decide (i < j) && Region.waitsFor .any ops j i) &&
  ((List.range ops.size).all fun j => decide (j ≤ n) || (List.range j).any fun i => decide (n ≤ i) && Region.waitsFor .any ops j i)))
theorem tailB.tail {n : Nat} (h : tailB ops n = true) {listed : Array Bool} (inv : HeadInv .any ops n listed) (hex : ∃ i, i < n ∧ listed.getD i true = false) : ∀ t, n ≤ t → t ∉ Region.ready .any ops listed := by
  simp only [tailB, Bool.and_eq_true, decide_eq_true_eq, Bool.or_eq_true] at h
  obtain ⟨hn, h⟩ := h
  rcases h with h | ⟨hs, hc⟩
  · intro t ht hr
    obtain ⟨_, ot, hot, _⟩ := mem_ready.1 hr
    have := (Array.getElem?_eq_some_iff.1 hot).1
    omega
  · have key : ∀ (d i : Nat), n - i = d → i < n → listed.getD i true = false → ∀ t, n ≤ t → t ∉ Region.ready .any ops listed := by
      intro d
      induction d using Nat.strongRecOn with
      | _ d ih =>
        intro i hd hi hun t ht hr
        obtain ⟨_, ot, hot, hall⟩ := mem_ready.1 hr
        have htlt : t < ops.size := (Array.getElem?_eq_some_iff.1 hot).1
        by_cases htn : t = n
        · subst htn
          have h1 := List.all_eq_true.1 hs i (List.mem_range.2 hi)
          simp only [Bool.or_eq_true] at h1
          rcases h1 with h1 | h1
          · obtain ⟨oj, hoj, e, he, hb, hon⟩ := Region.waitsFor_spec h1
            have : oj = ot := Option.some.inj (hoj.symm.trans hot)
            subst this
            have h2 := hall e he hb
            rw [hon, getD_both hun] at h2
            cases h2
          · obtain ⟨j, hj, hj2⟩ := List.any_eq_true.1 h1
            simp only [Bool.and_eq_true, decide_eq_true_eq] at hj2
            obtain ⟨oj, hoj, e, he, hb, hon⟩ := Region.waitsFor_spec hj2.2
            have hjlt := List.mem_range.1 hj
            cases hl : listed.getD j false with
            | true =>
              have h2 := inv.closed j oj hoj hl e he hb
              rw [hon, getD_both hun] at h2
              cases h2
            | false =>
              have hjs : j < listed.size := by rw [inv.size]; omega
              exact ih (t - j) (by omega) j rfl (by omega) (getD_in hjs hl) t (Nat.le_refl _) hr
        · have h1 := List.all_eq_true.1 hc t (List.mem_range.2 htlt)
          simp only [Bool.or_eq_true, decide_eq_true_eq] at h1
          rcases h1 with h1 | h1
          · omega
          · obtain ⟨i', hi', h1⟩ := List.any_eq_true.1 h1
            simp only [Bool.and_eq_true, decide_eq_true_eq] at h1
            obtain ⟨o', ho', e, he, hb, hon⟩ := Region.waitsFor_spec h1.2
            have : o' = ot := Option.some.inj (ho'.symm.trans hot)
            subst this
            have h2 := hall e he hb
            have := List.mem_range.1 hi'
            rw [hon, getD_both (inv.tail i' h1.1 (by omega))] at h2
            cases h2
    obtain ⟨i, hin, hil⟩ := hex
    exact key _ i rfl hin hil
def ciB : List Nat → Nat → Bool
  | [], _ => false
  | j :: r, i => (j == i) || ciB r i
theorem ciB_iff {i : Nat} : ∀ {ci : List Nat}, ciB ci i = true ↔ i ∈ ci
  | [] => by simp [ciB]
  | j :: r => by
    simp only [ciB, Bool.or_eq_true, beq_iff_eq, ciB_iff (ci := r), List.mem_cons]
    constructor
    · rintro (h | h)
      · exact .inl h.symm
      · exact .inr h
    · rintro (h | h)
      · exact .inl h.symm
      · exact .inr h
def valIds (p : Nat → Bool) (ci : List Nat) : Nat → List AV → Bool
  | _, [] => true
  | i, x :: r => (ciB ci i || x.idsOk p) && valIds p ci (i + 1) r
theorem valIds_get {p : Nat → Bool} {ci : List Nat} : ∀ {l : List AV} {k : Nat}, valIds p ci k l = true → ∀ i, k + i ∉ ci → (l.getD i .any).idsOk p = true
  | [], k, h, i, hi => by simp [AV.idsOk]
  | x :: r, k, h, i, hi => by
    simp only [valIds, Bool.and_eq_true, Bool.or_eq_true] at h
    cases i with
    | zero =>
      rcases h.1 with h1 | h1
      · exact absurd (ciB_iff.1 h1) hi
      · simpa using h1
    | succ i =>
      simp only [List.getD_cons_succ]
      exact valIds_get h.2 i (by rw [show k + 1 + i = k + (i + 1) by omega]; exact hi)
attribute [push_cast] ciB valIds Bool.true_or Bool.false_or
def drCB (ops : Array Oper) (n sn : Nat) (ci : List Nat) (nds nds1 : List (List (Nat × Option Nat))) (new : List (Nat × Nat)) : Bool :=
  tailB ops n && drawnCB ops n sn ci nds1 && noAl ops n none && ((List.range n).all fun i => ci.contains i || decide (nds.getD i [] = nds1.getD i [])) &&
  (new.all fun p => !ci.contains p.2 || (decide (0 < ci.length) && decide (ci.getD (ci.length - 1) 0 = p.2)))
theorem AWp.drC {id : Nat} {n : Nat} (ci : List Nat) {XL : List Ob} (nds nds1 : List (List (Nat × Option Nat))) (new : List (Nat × Nat)) (old : List Nat) (vals : List AV) (hc : CL P ops s nds1 vals ci [] XL) (hm : P.follows .mixedOrders = true) (hB : drCB ops n s.n ci nds nds1 new = true)
    (hk : drB ops n s.n s.fr new old = true) (hl : vals.length = n) (hp : PSpec P ops s nds vals) (hid : valIds (fun j => decide (j < s.ob.length)) ci 0 vals = true)
    (k : AAny P ops (ops.size - n) (listed0 n ops.size) (R .normal) { s with fr := (new.map fun p => (p.1, vals.getD p.2 .any)) ++ keepFr s.fr old, ob := s.ob ++ XL }) : AWp P (.region id ops true) s R := by
  subst hl
  obtain ⟨obs, o1, o2, o3⟩ := hc.obs
  simp only [drCB, Bool.and_eq_true] at hB
  obtain ⟨⟨⟨⟨ht, hd⟩, hna⟩, hnn⟩, hnew⟩ := hB
  have hle : vals.length ≤ ops.size := by simp only [tailB, Bool.and_eq_true, decide_eq_true_eq] at ht; exact ht.1
  refine AWp.drawnC vals.length nds1 vals ci obs _ hm hle o1 hd (fun listed inv hex => tailB.tail ht inv hex) (fun i o h1 h2 h3 => ?_) (fun i _ h3 => valIds_get hid i (by rw [Nat.zero_add]; exact h3)) o3 (fun t x hmem => ?_) (by rw [o2]; exact k)
  · have h := List.all_eq_true.1 hnn i (List.mem_range.2 h1)
    simp only [Bool.or_eq_true, decide_eq_true_eq, List.contains_eq_mem] at h
    rcases h with h | h
    · exact absurd h h3
    · rw [← h]
      refine hp i o h1 h2 ?_
      have := List.all_eq_true.1 hna i (List.mem_range.2 h1)
      simp only [h2, Bool.or_eq_true, decide_eq_true_eq, Bool.not_eq_true'] at this
      rcases this with h | h
      · cases h
      · exact h
  · simp only [drB, Bool.and_eq_true] at hk
    rcases List.mem_append.1 hmem with h | h
    · simp only [List.mem_map] at h
      obtain ⟨p, hp', e⟩ := h
      have e1 : p.1 = t := congrArg Prod.fst e
      have e2 : vals.getD p.2 .any = x := congrArg Prod.snd e
      have := List.all_eq_true.1 hk.1 p hp'
      simp only [Bool.and_eq_true, decide_eq_true_eq] at this
      have h2 := List.all_eq_true.1 hnew p hp'
      simp only [Bool.or_eq_true, Bool.not_eq_true', Bool.and_eq_true, decide_eq_true_eq, List.contains_eq_mem, decide_eq_false_iff_not] at h2
      subst e1; subst e2
      exact ⟨this.1.1, .inl ⟨p.2, this.1.2, this.2, rfl, h2⟩⟩
    · obtain ⟨h1, rfl⟩ := keepFr_mem h
      have := List.all_eq_true.1 hk.2 t h1
      simp only [Bool.and_eq_true, decide_eq_true_eq] at this
      exact ⟨this.1, .inr ⟨fun i hi => by simpa using List.all_eq_true.1 this.2 i (List.mem_range.2 hi), rfl⟩⟩
theorem Dr.finCM {id : Nat} {n : Nat} {y : Code} (ci : List Nat) {XL : List Ob} (f : Nat) (nds1 : List (List (Nat × Option Nat))) (new : List (Nat × Nat)) (old : List Nat) (hc : CL P ops s nds1 vals ci [] XL) (hG : ∀ vals, PSpec P ops s nds vals → AWp P (.region id ops true) s (thenQ (fun s' => AWp P y s' R) R) → G) (hm : P.follows .mixedOrders = true)
    (k : ∀ K : AS → Prop, (∀ s', AWp P y s' R → K s') → AAny P ops f (listed0 n (n + f)) K { s with fr := (new.map fun p => (p.1, vals.getD p.2 .any)) ++ keepFr s.fr old, ob := s.ob ++ XL })
    (hl : vals.length = n := by rfl) (hf : ops.size = n + f := by kernel_rfl) (hB : drCB ops n s.n ci nds nds1 new = true := by kernel_rfl) (hk : drB ops n s.n s.fr new old = true := by kernel_rfl) (hid : valIds (fun j => decide (j < s.ob.length)) ci 0 vals = true := by first | with_reducible rfl | (simp only [push_cast, reduceIte, Nat.reduceEqDiff, Nat.reduceLT, Nat.reduceAdd, Nat.reduceSub, Nat.reduceMul, Nat.reduceLeDiff, Nat.reducePow, Int.reduceLT, Int.reduceToNat, reduceCtorEq, Int.reduceNeg, Int.reduceEq, Nat.reduceBEq, Nat.reduceBNe, Int.reduceBEq, Int.reduceBNe, String.reduceEq]; first | done | rfl | (simp (disch := omega) only [w_nat, w_add, w_addl, w_addr, w_sub, w_subl, w_mul, w_mull, w_mulr, w_u32, w_u16, w_u8, w_u32a, N_zero]; first | done | rfl | (simp only [push_cast, reduceIte, Nat.reduceEqDiff, Nat.reduceLT, Nat.reduceAdd, Nat.reduceSub, Nat.reduceMul, Nat.reduceLeDiff, Nat.reducePow, Int.reduceLT, Int.reduceToNat, reduceCtorEq, Int.reduceNeg, Int.reduceEq, Nat.reduceBEq, Nat.reduceBNe, Int.reduceBEq, Int.reduceBNe, String.reduceEq]; first | done | rfl)))) : Dr P ops s nds vals G := by
  intro hp
  refine hG vals hp (AWp.drC ci nds nds1 new old vals hc hm hB hk hl hp hid ?_)
  rw [hf, Nat.add_sub_cancel_left]
  exact k _ fun _ h => h
end
end Go.Abs
/- The reference's bytes of nodes: wharfref03.Bytes, wharfref08.Bytes. -/
set_option linter.unusedVariables false
set_option linter.unusedSimpArgs false
namespace Go.Proofs.YtmcedkcehcacpaaDoor.C
open Go.Abs
theorem ref03_o (l : List UInt8) (hl : l.length ≤ 2 ^ 39) : OC Tryd.prog 27 [.sl false 1 (bys l)] [] (.own 0) [.row 5 1 (bys (padB l))] := by
  refine OC.of_body [0] (by intro k hk; simp at hk) Tryd.func27 rfl (by rw [Tryd.ntmps27]; simp) ?_
  refine AWp.regionW ?_
  refine AWp.regionA fun K1 hK1 => ?_
  refine ARun.ownM ?_
  refine ARun2.gom ?_
  refine ARun2.appendM ?_ ?_ ?_
  · rw [YtmcedkcehcacpaaDoor.Facts.eb24, bys_len, List.length_nil]; omega
  · rw [bys_len, List.length_nil]; omega
  refine ARun2.endm (hK1 _ ?_)
  refine AWp.seqK fun K2 hK2 => ?_
  refine AWp.block ?_
  -- SLOTS THAT TURN AND ARE NOT TOLD: [3]
  refine AWp.loopK [3] (fun (i : Nat) => []) (fun i => [.row 5 1 (bys (l ++ List.replicate i 0))]) (fun i => i ≤ gapN l.length) (fun i => gapN l.length - i) (0) ?_ (Nat.zero_le _) ?_
  · skip
    refine Le.m 1 ?_ ?_
    · try simp only [push_cast, reduceIte, Nat.reduceEqDiff, Nat.reduceLT, Nat.reduceAdd, Nat.reduceSub, Nat.reduceMul, Nat.reduceLeDiff, Nat.reducePow, Int.reduceLT, Int.reduceToNat, reduceCtorEq, Int.reduceNeg, Int.reduceEq, Nat.reduceBEq, Nat.reduceBNe, Int.reduceBEq, Int.reduceBNe, String.reduceEq]
      try simp (disch := omega) only [w_nat, w_add, w_addl, w_addr, w_sub, w_subl, w_mul, w_mull, w_mulr, w_u32, w_u16, w_u8, w_u32a, N_zero]
      first | done | skip
      simp
    · first | (simp only [push_cast, reduceIte, Nat.reduceEqDiff, Nat.reduceLT, Nat.reduceAdd, Nat.reduceSub, Nat.reduceMul, Nat.reduceLeDiff, Nat.reducePow, Int.reduceLT, Int.reduceToNat, reduceCtorEq, Int.reduceNeg, Int.reduceEq, Nat.reduceBEq, Nat.reduceBNe, Int.reduceBEq, Int.reduceBNe, String.reduceEq]; first | done | rfl | (simp (disch := omega) only [w_nat, w_add, w_addl, w_addr, w_sub, w_subl, w_mul, w_mull, w_mulr, w_u32, w_u16, w_u8, w_u32a, N_zero]; first | done | rfl))
  · intro i hi K3 hK3
    refine AWp.seqK fun K4 hK4 => ?_
    refine AWp.regionW ?_
    refine AWp.condLM (fun c0 => ?_) (fun c0 => ?_)
    · skip
      have hil : i < gapN l.length := by have := hi; unfold gapN at *; simp at c0; omega
      have hg4 := gapN_le l.length
      refine AWp.skip ?_
      refine hK4 _ ?_
      refine AWp.block ?_
      refine AWp.regionN fun K5 hK5 => ?_
      refine ARun2.appendM ?_ ?_ ?_
      · rw [YtmcedkcehcacpaaDoor.Facts.eb24, bys_len, List.length_append, List.length_replicate, List.length_cons, List.length_nil]; omega
      · rw [bys_len, List.length_append, List.length_replicate, List.length_cons, List.length_nil]; omega
      refine ARun2.endm (hK5 _ ?_)
      refine hK3 _ (i + 1) (by omega) (by omega) ?_
      refine Le.m 1 ?_ ?_
      · try simp only [push_cast, reduceIte, Nat.reduceEqDiff, Nat.reduceLT, Nat.reduceAdd, Nat.reduceSub, Nat.reduceMul, Nat.reduceLeDiff, Nat.reducePow, Int.reduceLT, Int.reduceToNat, reduceCtorEq, Int.reduceNeg, Int.reduceEq, Nat.reduceBEq, Nat.reduceBNe, Int.reduceBEq, Int.reduceBNe, String.reduceEq]
        try simp (disch := omega) only [w_nat, w_add, w_addl, w_addr, w_sub, w_subl, w_mul, w_mull, w_mulr, w_u32, w_u16, w_u8, w_u32a, N_zero]
        first | done | skip
        rw [List.replicate_succ', ← List.append_assoc, ← bys_snoc]; rfl
      · first | (simp only [push_cast, reduceIte, Nat.reduceEqDiff, Nat.reduceLT, Nat.reduceAdd, Nat.reduceSub, Nat.reduceMul, Nat.reduceLeDiff, Nat.reducePow, Int.reduceLT, Int.reduceToNat, reduceCtorEq, Int.reduceNeg, Int.reduceEq, Nat.reduceBEq, Nat.reduceBNe, Int.reduceBEq, Int.reduceBNe, String.reduceEq]; first | done | rfl | (simp (disch := omega) only [w_nat, w_add, w_addl, w_addr, w_sub, w_subl, w_mul, w_mull, w_mulr, w_u32, w_u16, w_u8, w_u32a, N_zero]; first | done | rfl))
    · skip
      have hil : i = gapN l.length := by have := hi; unfold gapN at *; simp at c0; omega
      subst hil
      refine AWp.exit ?_
      try simp only [thenQ, blockQ, noGo, reduceIte, Nat.reduceEqDiff]
      refine hK2 _ ?_
      refine AWp.regionW ?_
      refine AWp.ret ?_
      try simp only [thenQ, blockQ, noGo]
      refine bodyQ.m ?_
      clear hK4 K4 hK3 K3 hK2 K2 hK1 K1
      refine endO.m ?_ ?_
      · rfl
      · skip
        first | done | exact Hand.go
mutual
/-- a node's value in the reference -/
def refV : GNode → List UInt8
  | .mk _ d k => d ++ joinF (refFs k)
def refFs : List GNode → List Frm
  | [] => []
  | n :: l => ⟨n.ty, refV n⟩ :: refFs l
end
theorem refV_eq (n : GNode) : refV n = n.data ++ joinF (refFs n.kids) := by cases n; simp [refV, GNode.data, GNode.kids]
theorem refFs_map : ∀ l : List GNode, refFs l = l.map fun n => ⟨n.ty, refV n⟩
  | [] => by simp [refFs]
  | n :: l => by simp [refFs, refFs_map l]
theorem refFs_snoc (l : List GNode) (n : GNode) : refFs (l ++ [n]) = refFs l ++ [⟨n.ty, refV n⟩] := by simp [refFs_map]
mutual
theorem refV_len : ∀ n : GNode, (refV n).length = vlen n
  | .mk t d k => by rw [refV, List.length_append, joinF_len, vlen, refFs_len k]
theorem refFs_len : ∀ l : List GNode, ((refFs l).map fun f => f.val.length) = nLens l
  | [] => by simp [refFs, nLens]
  | n :: l => by simp [refFs, nLens, refV_len n, refFs_len l]
end
theorem refB_len (l : List GNode) : (joinF (refFs l)).length = nSize l := by rw [joinF_len, refFs_len]; rfl
theorem nSize_take (l : List GNode) (i : Nat) : nSize (l.take i) ≤ nSize l := by
  unfold nSize; rw [nLens_map, nLens_map, List.map_take]; exact tlvSize_take _ _
theorem u8_wrap (x : Nat) : AV.val (.int .u8 (IntKind.u8.wrap (N x))) = .val (.int .u8 (N (UInt8.ofNat x).toNat)) := by
  rw [UInt8.toNat_ofNat', IntKind.wrap_u8]
  unfold N; congr 2
theorem four_bytes (t n : Nat) : [AV.val (.int .u8 (IntKind.u8.wrap ((N t).fdiv (2 ^ min 8 IntKind.u16.bits)))), .val (.int .u8 (IntKind.u8.wrap (N t))), .val (.int .u8 (IntKind.u8.wrap (N (n / 256)))), .val (.int .u8 (N (n % 256)))] = bys (putB 2 t ++ putB 2 n) := by
  have h1 : (N t).fdiv (2 ^ min 8 IntKind.u16.bits) = N (t / 256) := by
    rw [show min 8 IntKind.u16.bits = 8 from rfl]
    unfold N
    rw [Int.fdiv_eq_ediv_of_nonneg _ (by decide)]
    omega
  have h2 : N (n % 256) = N (UInt8.ofNat n).toNat := by rw [UInt8.toNat_ofNat']
  rw [h1, u8_wrap, u8_wrap, u8_wrap, h2]
  simp [putB, bys, List.range_succ]
theorem refBytes_step (w : Nat) (ih : ∀ l : List GNode, wts l < w → nSize l ≤ 2 ^ 30 → tysOk l = true → PC Tryd.prog 10 [.sl false 3 (nodesA false l)] (.sl true 1 (bys (joinF (refFs l))))) (l : List GNode) (hw : wts l ≤ w) (hs : nSize l ≤ 2 ^ 30) (ht : tysOk l = true) :
    PC Tryd.prog 10 [.sl false 3 (nodesA false l)] (.sl true 1 (bys (joinF (refFs l)))) := by
  have hlen := nSize_len l
  refine PC.of_bodyK (by simp only [push_cast]) Tryd.func10 rfl (by rw [Tryd.ntmps10]; simp) ?_
  refine AWp.regionW ?_
  refine AWp.regionW ?_
  refine AWp.seqK fun K1 hK1 => ?_
  refine AWp.regionW ?_
  refine AWp.block ?_
  refine AWp.nilSl 3 true 1 ?_
  refine AWp.loopK0 [0] (fun (i : Nat) => [(3, .sl true 1 (bys (joinF (refFs (l.take i))))), (4, nat i)]) (fun i => i ≤ l.length) (fun i => l.length - i) (0) ?_ (Nat.zero_le _) ?_
  · skip
    refine Le.m 0 ?_ ?_
    · first | with_reducible rfl | (simp only [push_cast, reduceIte, Nat.reduceEqDiff, Nat.reduceLT, Nat.reduceAdd, Nat.reduceSub, Nat.reduceMul, Nat.reduceLeDiff, Nat.reducePow, Int.reduceLT, Int.reduceToNat, reduceCtorEq, Int.reduceNeg, Int.reduceEq, Nat.reduceBEq, Nat.reduceBNe, Int.reduceBEq, Int.reduceBNe, String.reduceEq]; first | done | rfl | (simp (disch := omega) only [w_nat, w_add, w_addl, w_addr, w_sub, w_subl, w_mul, w_mull, w_mulr, w_u32, w_u16, w_u8, w_u32a, N_zero]; first | done | rfl))
    · first | (simp only [push_cast, reduceIte, Nat.reduceEqDiff, Nat.reduceLT, Nat.reduceAdd, Nat.reduceSub, Nat.reduceMul, Nat.reduceLeDiff, Nat.reducePow, Int.reduceLT, Int.reduceToNat, reduceCtorEq, Int.reduceNeg, Int.reduceEq, Nat.reduceBEq, Nat.reduceBNe, Int.reduceBEq, Int.reduceBNe, String.reduceEq]; first | done | rfl | (simp (disch := omega) only [w_nat, w_add, w_addl, w_addr, w_sub, w_subl, w_mul, w_mull, w_mulr, w_u32, w_u16, w_u8, w_u32a, N_zero]; first | done | rfl))
  · intro i hi K2 hK2
    refine AWp.seqK fun K3 hK3 => ?_
    refine AWp.regionW ?_
    refine AWp.condLM (fun c0 => ?_) (fun c0 => ?_)
    · skip
      have hil : i < l.length := by simpa using c0
      have hm := List.getElem_mem hil
      have hk := nSize_kids hm
      have hv := vlen_mem hm
      have he := vlen_eq l[i]
      have hkt := GNode.tyOk_kids (tysOk_mem ht _ hm)
      have hty := GNode.tyOk_ty (tysOk_mem ht _ hm)
      have hr := refB_len l[i].kids
      have ht1 := refB_len (l.take i)
      have ht2 := nSize_take l i
      have hu := padB_len (joinF (refFs (l.take i)))
      have hg := gapN_le (joinF (refFs (l.take i))).length
      have hu2 : upN (joinF (refFs (l.take i))).length ≤ (joinF (refFs (l.take i))).length + 3 := by unfold upN; omega
      refine AWp.skip ?_
      refine hK3 _ ?_
      refine AWp.seqK fun K4 hK4 => ?_
      refine AWp.block ?_
      refine AWp.drS [[(58, none)], [(0, none)], [(4, none)], [(14, some 1), (15, some 2)], [(16, some 3)], [(17, some 4)], [(58, none)], [(0, none)], [(4, none)], [(20, some 7), (21, some 8)], [(22, some 9)], [(23, some 10)], [(24, some 11)]] fun G hG => ?_
      refine Dr.ownS ?_
      try simp only [List.cons_append, List.nil_append]
      refine Dr.sim ?_
      try simp only [List.cons_append, List.nil_append]
      refine Dr.sim ?_
      try simp only [List.cons_append, List.nil_append]
      refine Dr.idx (i) (nodeA false l[i]) ?_ ?_
      · exact nodesA_at _ _ _ hil
      try simp only [List.cons_append, List.nil_append]
      refine Dr.sim ?_
      try simp only [List.cons_append, List.nil_append]
      refine Dr.sim ?_
      try simp only [List.cons_append, List.nil_append]
      refine Dr.ownS ?_
      try simp only [List.cons_append, List.nil_append]
      refine Dr.sim ?_
      try simp only [List.cons_append, List.nil_append]
      refine Dr.sim ?_
      try simp only [List.cons_append, List.nil_append]
      refine Dr.idx (i) (nodeA false l[i]) ?_ ?_
      · exact nodesA_at _ _ _ hil
      try simp only [List.cons_append, List.nil_append]
      refine Dr.sim ?_
      try simp only [List.cons_append, List.nil_append]
      refine Dr.sim ?_
      try simp only [List.cons_append, List.nil_append]
      refine Dr.call (ih l[i].kids (by have := kids_lt hm; omega) (by omega) hkt) ?_
      try simp only [List.cons_append, List.nil_append]
      refine Dr.finCM (n := 13) [0, 6] 2 [[], [(0, none)], [(4, none)], [(14, some 1), (15, some 2)], [(16, some 3)], [(17, some 4)], [(13, some 0), (18, some 5)], [(0, none)], [(4, none)], [(20, some 7), (21, some 8)], [(22, some 9)], [(23, some 10)], [(24, some 11)]] [(19, 6), (25, 12)] [0, 3, 4] (CL.own (CL.app (hb := by rw [YtmcedkcehcacpaaDoor.Facts.eb24, bys_len, List.length_nil]; omega) (hsm := by rw [bys_len, List.length_nil]; omega) CL.nil)) hG YtmcedkcehcacpaaDoor.Facts.mixed fun KD hKD => ?_
      clear hG G
      refine AAny.one 13 ?_
      refine ARun.opM ?_
      refine ARun2.appendM ?_ ?_ ?_
      · rw [YtmcedkcehcacpaaDoor.Facts.eb24, bys_len, bys_len]; omega
      · rw [bys_len, bys_len]; omega
      refine ARun2.endm ?_
      refine AAny.one 14 ?_
      refine ARun.opM ?_
      refine ARun2.endm ?_
      refine AAny.fin (hKD _ ?_); clear hKD KD
      refine AWp.regionW ?_
      refine AWp.regionM fun K5 hK5 => ?_
      refine ARun2.callOM [] (ref03_o (joinF (refFs (l.take i))) (by omega)) ?_
      refine ARun2.endm (hK5 _ ?_)
      refine AWp.drS [[(3, none)], [(0, none)], [(4, none)], [(33, some 1), (34, some 2)], [(35, some 3)], [(36, some 4)], [(37, some 5)], [(38, some 6)], [(0, none)], [(4, none)], [(40, some 8), (41, some 9)], [(42, some 10)], [(43, some 11)], [(44, some 12)], [(6, none)], [(46, some 14)], [(47, some 15)], [(6, none)], [(49, some 17)], [(50, some 18)], [(39, some 7), (45, some 13), (48, some 16), (51, some 19)]] fun G hG => ?_
      refine Dr.sim ?_
      try simp only [List.cons_append, List.nil_append]
      refine Dr.sim ?_
      try simp only [List.cons_append, List.nil_append]
      refine Dr.sim ?_
      try simp only [List.cons_append, List.nil_append]
      refine Dr.idx (i) (nodeA false l[i]) ?_ ?_
      · exact nodesA_at _ _ _ hil
      try simp only [List.cons_append, List.nil_append]
      refine Dr.sim ?_
      try simp only [List.cons_append, List.nil_append]
      refine Dr.sim ?_
      try simp only [List.cons_append, List.nil_append]
      refine Dr.sim ?_
      try simp only [List.cons_append, List.nil_append]
      refine Dr.sim ?_
      try simp only [List.cons_append, List.nil_append]
      refine Dr.sim ?_
      try simp only [List.cons_append, List.nil_append]
      refine Dr.sim ?_
      try simp only [List.cons_append, List.nil_append]
      refine Dr.idx (i) (nodeA false l[i]) ?_ ?_
      · exact nodesA_at _ _ _ hil
      try simp only [List.cons_append, List.nil_append]
      refine Dr.sim ?_
      try simp only [List.cons_append, List.nil_append]
      refine Dr.sim ?_
      try simp only [List.cons_append, List.nil_append]
      refine Dr.sim ?_
      try simp only [List.cons_append, List.nil_append]
      refine Dr.sim ?_
      try simp only [List.cons_append, List.nil_append]
      refine Dr.sim ?_
      try simp only [List.cons_append, List.nil_append]
      refine Dr.sim ?_
      try simp only [List.cons_append, List.nil_append]
      refine Dr.sim ?_
      try simp only [List.cons_append, List.nil_append]
      refine Dr.sim ?_
      try simp only [List.cons_append, List.nil_append]
      refine Dr.sim ?_
      try simp only [List.cons_append, List.nil_append]
      refine Dr.build ?_
      try simp only [List.cons_append, List.nil_append]
      refine Dr.finM (n := 21) [(32, 0), (52, 20)] [0, 4, 5] hG YtmcedkcehcacpaaDoor.Facts.mixed fun KD hKD => ?_
      refine ARun2.appendM ?_ ?_ ?_
      · rw [YtmcedkcehcacpaaDoor.Facts.eb24, bys_len]; simp; omega
      · rw [bys_len]; simp; omega
      refine ARun2.endm (hKD _ ?_); clear hKD KD hG G
      rw [four_bytes]
      refine AWp.regionN fun K6 hK6 => ?_
      refine ARun2.appendM ?_ ?_ ?_
      · rw [YtmcedkcehcacpaaDoor.Facts.eb24]; simp only [List.length_append, bys_len, putB_len, padB_len]; omega
      · simp only [List.length_append, bys_len, putB_len, padB_len]; omega
      refine ARun2.endm (hK6 _ ?_)
      refine hK4 _ ?_
      refine AWp.pubD 1 ?_
      refine AWp.regionV ?_
      refine hK2 _ (i + 1) (by omega) (by omega) ?_
      refine Le.m 0 ?_ ?_
      · first | with_reducible rfl | (simp only [push_cast, reduceIte, Nat.reduceEqDiff, Nat.reduceLT, Nat.reduceAdd, Nat.reduceSub, Nat.reduceMul, Nat.reduceLeDiff, Nat.reducePow, Int.reduceLT, Int.reduceToNat, reduceCtorEq, Int.reduceNeg, Int.reduceEq, Nat.reduceBEq, Nat.reduceBNe, Int.reduceBEq, Int.reduceBNe, String.reduceEq]; first | done | rfl | (simp (disch := omega) only [w_nat, w_add, w_addl, w_addr, w_sub, w_subl, w_mul, w_mull, w_mulr, w_u32, w_u16, w_u8, w_u32a, N_zero]; first | done | rfl))
      · simp only [push_cast, reduceIte, Nat.reduceEqDiff, Nat.reduceLT, Nat.reduceAdd, Nat.reduceSub, Nat.reduceMul, Nat.reduceLeDiff, Nat.reducePow, Int.reduceLT, Int.reduceToNat, reduceCtorEq, Int.reduceNeg, Int.reduceEq, Nat.reduceBEq, Nat.reduceBNe, Int.reduceBEq, Int.reduceBNe, String.reduceEq]
        try simp (disch := omega) only [w_nat, w_add, w_addl, w_addr, w_sub, w_subl, w_mul, w_mull, w_mulr, w_u32, w_u16, w_u8, w_u32a, N_zero]
        simp only [bys_append]
        rw [List.take_succ_eq_append_getElem hil, refFs_snoc, joinF_snoc]
        simp only [putF, refV_eq, List.length_append, List.append_assoc]
    · skip
      have hil : i = l.length := by have := hi; simp at c0; omega
      subst hil
      rw [List.take_length]
      refine AWp.exit ?_
      try simp only [thenQ, blockQ, noGo, reduceIte, Nat.reduceEqDiff]
      refine hK1 _ ?_
      refine AWp.regionW ?_
      refine AWp.ret ?_
      try simp only [thenQ, blockQ, noGo]
      refine bodyQ.m ?_
      clear hK3 K3 hK2 K2 hK1 K1
      first | done | exact Wk.go
theorem refBytes_w : ∀ (w : Nat) (l : List GNode), wts l ≤ w → nSize l ≤ 2 ^ 30 → tysOk l = true → PC Tryd.prog 10 [.sl false 3 (nodesA false l)] (.sl true 1 (bys (joinF (refFs l)))) := by
  intro w
  induction w with
  | zero => exact refBytes_step 0 (fun l h => by omega)
  | succ w ih => exact refBytes_step (w + 1) (fun l h => ih l (by omega))
theorem refBytes_c (l : List GNode) (hs : nSize l ≤ 2 ^ 30) (ht : tysOk l = true) : PC Tryd.prog 10 [.sl false 3 (nodesA false l)] (.sl true 1 (bys (joinF (refFs l)))) := refBytes_w _ l (Nat.le_refl _) hs ht
end Go.Proofs.YtmcedkcehcacpaaDoor.C
/- What a box holds, told more weakly. No condition. -/
namespace Go.Abs
set_option linter.unusedVariables false
set_option linter.unusedSectionVars false
set_option linter.unusedSimpArgs false
section
variable {P : Program} {ops : Array Oper} {E : Env} {s s' : AS} {o : Oper} {rest : List Oper} {Q : AS → Prop} {R : Exit → AS → Prop}
theorem Le.subBox (k : Nat) {T : TypeId} {cs cs' : List AV} (hk : s.ob[k]? = some (.box T cs)) (h : HandL [] cs cs') (ho : cs'.all AV.oc = true) : Le s { s with ob := s.ob.set k (.box T cs') } := by
  intro E ρ B a w hs
  have r := hs.rw_
  obtain ⟨b, vs, fz, r1, r2, r3, r4, r5⟩ := r.obs k _ hk
  have h' : SubXL [] cs cs' := h
  have hro : RO w B E.bs ρ k (.box T cs') := ⟨b, vs, fz, r1, r2, r3, h'.rel (by intro i k hik; simp at hik) r4, fun c hc => List.all_eq_true.1 ho c hc⟩
  have get : ∀ {i' : Nat} {o1 : Ob}, (s.ob.set k (.box T cs'))[i']? = some o1 → ∃ o2, s.ob[i']? = some o2 ∧ (o1.live = true → o2.live = true) := by
    intro i' o1 h1
    by_cases hik : k = i'
    · subst hik; exact ⟨_, hk, fun _ => rfl⟩
    · rw [List.getElem?_set_ne hik] at h1; exact ⟨o1, h1, fun h => h⟩
  have hrw : RW E (s.ob.set k (.box T cs')) ρ B w := by
    refine { os := r.os, tape := r.tape, output := r.output, size := r.size, block := r.block, pre := r.pre, bsub := r.bsub, bnew := r.bnew, blt := r.blt, len := by simpa using r.len, obs := ?_, dis := ?_, prv := ?_ }
    · intro j o hj
      by_cases hjk : k = j
      · subst hjk
        rw [List.getElem?_set_self (get_lt hk)] at hj
        have := Option.some.inj hj
        subst this
        exact hro
      · rw [List.getElem?_set_ne hjk] at hj; exact r.obs j o hj
    · intro i' j o o' u v b hij h1 l1 h2 l2
      obtain ⟨x1, y1, z1⟩ := get h1
      obtain ⟨x2, y2, z2⟩ := get h2
      exact r.dis i' j x1 x2 u v b hij y1 (z1 l1) y2 (z2 l2)
    · intro j o v b h1 l1
      obtain ⟨x1, y1, z1⟩ := get h1
      exact r.prv j x1 v b y1 (z1 l1)
  refine ⟨ρ, B, hrw, hs.m, hs.n, hs.df, ?_, hs.rf⟩
  exact hs.jj.chg ⟨rfl, rfl, rfl, Nat.le_refl _, fun _ _ _ => rfl, fun b hd => .inl (Dof.set hk rfl b hd), fun _ h => h, fun _ h => .inl h⟩ hrw.bd
/-- the box's content cs' is told; cs: what it is now -/
theorem AWp.subBox {c : Code} (k : Nat) (cs' : List AV) {T : TypeId} {cs : List AV} {ob' : List Ob} (h : HandL [] cs cs') (K : AWp P c { s with ob := ob' } R) (hk : s.ob[k]? = some (.box T cs) := by rfl) (ho : cs'.all AV.oc = true := by first | with_reducible rfl | (simp only [push_cast, reduceIte, Nat.reduceEqDiff, Nat.reduceLT, Nat.reduceAdd, Nat.reduceSub, Nat.reduceMul, Nat.reduceLeDiff, Nat.reducePow, Int.reduceLT, Int.reduceToNat, reduceCtorEq, Int.reduceNeg, Int.reduceEq, Nat.reduceBEq, Nat.reduceBNe, Int.reduceBEq, Int.reduceBNe, String.reduceEq]; first | done | rfl | (simp (disch := omega) only [w_nat, w_add, w_addl, w_addr, w_sub, w_subl, w_mul, w_mull, w_mulr, w_u32, w_u16, w_u8, w_u32a, N_zero]; first | done | rfl | (simp only [push_cast, reduceIte, Nat.reduceEqDiff, Nat.reduceLT, Nat.reduceAdd, Nat.reduceSub, Nat.reduceMul, Nat.reduceLeDiff, Nat.reducePow, Int.reduceLT, Int.reduceToNat, reduceCtorEq, Int.reduceNeg, Int.reduceEq, Nat.reduceBEq, Nat.reduceBNe, Int.reduceBEq, Int.reduceBNe, String.reduceEq]; first | done | rfl)))) (he : s.ob.set k (.box T cs') = ob' := by rfl) : AWp P c s R :=
  AWp.weak (Le.subBox k hk h ho) (he ▸ K)
end
end Go.Abs
/- wharflaw08: NodeDepths. -/
set_option linter.unusedVariables false
set_option linter.unusedSimpArgs false
namespace Go.Proofs.YtmcedkcehcacpaaDoor.C
open Go.Abs
theorem beN_put2 (n : Nat) (h : n < 65536) : beN (putB 2 n) = n := by
  simp [putB, beN, List.range_succ]
  omega
theorem read_one (f : Frm) (ht : f.ty < 65536) (hl : f.val.length ≤ 65531) : readN (putF f) 0 = (f, (putF f).length, .ok) := by
  have hlen := putF_len f
  have h2 : (putB 2 f.ty).length = 2 := putB_len 2 f.ty
  have h3 : (putB 2 (4 + f.val.length)).length = 2 := putB_len 2 _
  have e2 : peekN 2 (putF f) 2 = 4 + f.val.length := by
    unfold peekN
    rw [if_pos (by omega)]
    have : ((putF f).drop 2).take 2 = putB 2 (4 + f.val.length) := by
      unfold putF
      rw [List.append_assoc, List.drop_append_of_le_length (by omega), List.drop_of_length_le (by omega), List.nil_append, List.take_append_of_le_length (by omega), List.take_of_length_le (by omega)]
    rw [this, beN_put2 _ (by omega)]
  have e0 : peekN 2 (putF f) 0 = f.ty := by
    unfold peekN
    rw [if_pos (by omega), List.drop_zero]
    have : (putF f).take 2 = putB 2 f.ty := by
      unfold putF
      rw [List.append_assoc, List.take_append_of_le_length (by omega), List.take_of_length_le (by omega)]
    rw [this, beN_put2 _ ht]
  have e4 : (putF f).drop 4 = f.val := by
    unfold putF
    rw [List.drop_append_of_le_length (by rw [List.length_append]; omega), List.drop_of_length_le (by rw [List.length_append]; omega), List.nil_append]
  unfold readN
  rw [List.drop_zero, e2, e0, e4, if_pos (by omega), if_pos (by omega), List.take_of_length_le (by omega), hlen]
  simp
theorem scan_one (f : Frm) (ht : f.ty < 65536) (hl : f.val.length ≤ 65531) : scan (putF f) (putF f).length 0 = ([(0, f)], .ok) := by
  have hlen := putF_len f
  rw [hlen, show 4 + f.val.length = (3 + f.val.length) + 1 by omega, scan, if_pos (by omega), read_one f ht hl]
  simp only
  have : scan (putF f) (3 + f.val.length) (putF f).length = ([], .ok) := by
    cases h : 3 + f.val.length with
    | zero => rfl
    | succ k => rw [scan, if_neg (by omega)]
  rw [this]
/-- parameters inside each other -/
def depN (t : Nat) : Nat → GNode
  | 0 => .mk t [] []
  | k + 1 => .mk 8 [] [depN t k]
theorem dep_refs (t k : Nat) : joinF (refFs [depN t (k + 1)]) = putF ⟨8, joinF (refFs [depN t k])⟩ := by
  simp [refFs, joinF, depN, refV, padB, gapN, GNode.ty]
theorem dep_refs0 (t : Nat) : joinF (refFs [depN t 0]) = putF ⟨t, []⟩ := by
  simp [refFs, joinF, depN, refV, padB, gapN, GNode.ty]
theorem dep_len (t : Nat) : ∀ k, (joinF (refFs [depN t k])).length = 4 * k + 4
  | 0 => by rw [dep_refs0, putF_len]; rfl
  | k + 1 => by rw [dep_refs, putF_len]; simp only; rw [dep_len t k]; omega
theorem dep_size (t k : Nat) : nSize [depN t k] = 4 * k + 4 := by rw [← refB_len, dep_len]
theorem dep_ty (t : Nat) (h : t < 65536) : ∀ k, tysOk [depN t k] = true
  | 0 => by simp [tysOk, depN, GNode.tyOk, h]
  | k + 1 => by
    have := dep_ty t h k
    simp only [tysOk, Bool.and_true] at this ⊢
    simp [depN, GNode.tyOk, tysOk, this]
theorem no_shape (t : Nat) (h1 : 16384 ≤ t) (h2 : t < 32768) : shapeHas 1 t = false ∧ shapeOf 1 t = zeroForm := by
  have key : ∀ f ∈ formsN 1, f.ty < 16384 ∨ 32768 ≤ f.ty := by decide
  have hf : (formsN 1).find? (fun f => f.ty == t) = none := by
    rw [List.find?_eq_none]
    intro f hf
    have := key f hf
    simp; omega
  exact ⟨by unfold shapeHas; rw [hf]; rfl, by unfold shapeOf; rw [hf]; rfl⟩
theorem dep_check (t : Nat) (h1 : 16384 ≤ t) (h2 : t < 32768) : ∀ (k dp : Nat), k < 8 → checkN 1 dp (depN t k) = if dp + k ≤ 4 then 0 else 9
  | 0, dp, hk => by
    obtain ⟨a1, a2⟩ := no_shape t h1 h2
    have hs := dep_size t 0
    rw [checkN_eq]
    have e1 : (depN t 0).ty = t := rfl
    have e2 : (depN t 0).data = [] := rfl
    have e3 : (depN t 0).kids = [] := rfl
    have hb : badN 1 t 0 [] = false := by simp [badN, a1]
    have hc : countedN 1 t [] = false := by simp [countedN]
    rw [e1, e2, e3, List.length_nil, hb, hc, hs, checkL]
    by_cases h : dp ≤ 4
    · have n1 : ¬ 4 < dp := by omega
      simp [n1, h]
    · have n1 : 4 < dp := by omega
      simp [n1, h]
  | k + 1, dp, hk => by
    have hs := dep_size t (k + 1)
    have ih := dep_check t h1 h2 k (dp + 1) (by omega)
    rw [checkN_eq]
    have e1 : (depN t (k + 1)).ty = 8 := rfl
    have e2 : (depN t (k + 1)).data = [] := rfl
    have e3 : (depN t (k + 1)).kids = [depN t k] := rfl
    have q1 : shapeHas 1 8 = true := by decide
    have q2 : fitsN (shapeOf 1 8) 0 = true := by decide
    have q4 : (shapeOf 1 8).kids = 1 := by decide
    have hb : badN 1 8 0 [depN t k] = false := by simp [badN, q1, q2, kidsOk, q4, insideN]
    have hc : countedN 1 8 [] = false := by simp [countedN]
    have hi : (insideN (shapeOf 1 8).kids).1 = 1 := by decide
    rw [e1, e2, e3, List.length_nil, hb, hc, hs, checkL, checkL, hi, ih]
    by_cases h : dp ≤ 4
    · have n1 : ¬ 4 < dp := by omega
      have n2 : ¬ 65535 < 4 * (k + 1) + 4 := by omega
      rw [if_neg n1, if_neg (by simp), if_neg (by simp), if_neg n2]
      by_cases h' : dp + 1 + k ≤ 4
      · have h'' : dp + (k + 1) ≤ 4 := by omega
        rw [if_pos h', if_pos h'']; simp
      · have h'' : ¬ dp + (k + 1) ≤ 4 := by omega
        rw [if_neg h', if_neg h'']; simp
    · have n1 : 4 < dp := by omega
      have h'' : ¬ dp + (k + 1) ≤ 4 := by omega
      rw [if_pos n1, if_neg h'']
theorem dep_fit (t k : Nat) (hk : k < 8) : fitF (frameN (depN t k)) = true ∧ joinX (framesN [depN t k]) = joinF (refFs [depN t k]) := by
  induction k with
  | zero =>
    have e : frameN (depN t 0) = ⟨t, []⟩ := by simp [depN, frameN_eq, framesN, joinX, joinF, GNode.ty, GNode.data, GNode.kids]
    refine ⟨by rw [e]; rfl, ?_⟩
    rw [dep_refs0]
    simp [framesN, e, joinX, fitF, joinF, padB, gapN]
  | succ k ih =>
    obtain ⟨i1, i2⟩ := ih (by omega)
    have hl := dep_len t k
    have e : frameN (depN t (k + 1)) = ⟨8, joinF (refFs [depN t k])⟩ := by
      rw [frameN_eq, show (depN t (k + 1)).kids = [depN t k] from rfl, i2]; rfl
    have hf : fitF (frameN (depN t (k + 1))) = true := by rw [e]; simp [fitF, hl]; omega
    refine ⟨hf, ?_⟩
    rw [dep_refs]
    have : framesN [depN t (k + 1)] = [frameN (depN t (k + 1))] := by simp [framesN]
    rw [this, joinX, if_pos (by simp [hf]), e]
    simp [joinF, padB, gapN]
theorem dep_parse (t : Nat) (h1 : 16384 ≤ t) (h2 : t < 32768) : ∀ (m k i : Nat), k < 8 → parseF m 1 (joinF (refFs [depN t k])) i = if k < m then ([depN t k], .ok) else ([], .flt 9 (i + 4 * m))
  | 0, k, i, hk => by
    have hs : ∃ f, joinF (refFs [depN t k]) = putF f ∧ f.ty < 65536 ∧ f.val.length ≤ 65531 := by
      cases k with
      | zero => exact ⟨_, dep_refs0 t, by show t < 65536; omega, by simp⟩
      | succ k => exact ⟨_, dep_refs t k, by simp, by simp only; rw [dep_len]; omega⟩
    obtain ⟨f, e, q1, q2⟩ := hs
    rw [parseF_eq, e, scan_one f q1 q2]
    simp [goF, oneD]
  | m + 1, 0, i, hk => by
    obtain ⟨a1, a2⟩ := no_shape t h1 h2
    rw [parseF_eq, dep_refs0, scan_one _ (by show t < 65536; omega) (by simp)]
    simp [goF, oneD, oneF, a1, depN]
  | m + 1, k + 1, i, hk => by
    have q1 : shapeHas 1 8 = true := by decide
    have q2 : fitsN (shapeOf 1 8) 0 = true := by decide
    have q3 : (shapeOf 1 8).least = 0 := by decide
    have q4 : (shapeOf 1 8).kids = 1 := by decide
    have q5 : countedN 1 8 [] = false := by decide
    have q6 : kidsOk (shapeOf 1 8) [depN t k] = true := by simp [kidsOk, q4, insideN]
    have hl := dep_len t k
    have ih := dep_parse t h1 h2 m k (i + 4) (by omega)
    have hd : dataOf 1 ⟨8, joinF (refFs [depN t k])⟩ = [] := by simp [dataOf, q3, q4]
    have ho : oneF (parseF m) 1 ⟨8, joinF (refFs [depN t k])⟩ i = if k < m then (depN t (k + 1), .ok) else (.zero, .flt 9 (i + 4 * (m + 1))) := by
      unfold oneF
      rw [hd]
      have q7 : (insideN 1).1 = 1 := by decide
      simp only [q1, List.length_nil, q2, q5, q4, q3, List.drop_zero, q7, Nat.add_zero]
      simp only [reduceIte, Nat.reduceEqDiff, Bool.true_eq_false, Bool.false_eq_true]
      by_cases h : k < m
      · rw [if_pos h] at ih ⊢
        rw [ih]; simp [q6, depN]
      · rw [if_neg h] at ih ⊢
        rw [ih]; simp; omega
    rw [parseF_eq, dep_refs, scan_one _ (by simp) (by simp only; rw [hl]; omega)]
    by_cases h : k < m
    · have h' : k + 1 < m + 1 := by omega
      rw [if_pos h] at ho
      rw [if_pos h']
      simp [goF, oneD, ho]
    · have h' : ¬ k + 1 < m + 1 := by omega
      rw [if_neg h] at ho
      rw [if_neg h']
      simp [goF, oneD, ho]
theorem dep_all (t k : Nat) (h1 : 16384 ≤ t) (h2 : t < 32768) (hk : k < 8) :
    tysOk [depN t k] = true ∧ nSize [depN t k] = 4 * k + 4 ∧ checkL 1 1 [depN t k] = (if k ≤ 3 then 0 else 9) ∧ (encN [depN t k]).length = 4 * k + 4 ∧
    (parseF 4 1 (joinF (refFs [depN t k])) 0).2 = (if k ≤ 3 then .ok else .flt 9 16) := by
  refine ⟨dep_ty t (by omega) k, dep_size t k, ?_, ?_, ?_⟩
  · have := dep_check t h1 h2 k 1 hk
    simp only [checkL, this]
    by_cases h : k ≤ 3
    · rw [if_pos (show 1 + k ≤ 4 by omega), if_pos h]; simp
    · rw [if_neg (show ¬ 1 + k ≤ 4 by omega), if_neg h]; simp
  · unfold encN; rw [(dep_fit t k hk).2, dep_len]
  · rw [dep_parse t h1 h2 4 k 0 hk]
    by_cases h : k ≤ 3
    · rw [if_pos (show k < 4 by omega), if_pos h]
    · rw [if_neg (show ¬ k < 4 by omega), if_neg h]
theorem nodeDepths_c (n t : Nat) (hn : n < 256) (ht : t < 65536) : PC Tryd.prog 3 [.val (.int .u8 (N n)), u16 t] (bool true) := by
  obtain ⟨d1, d2, d3, d4, d5⟩ := dep_all (16384 + t % 16384) (n % 8) (by omega) (by omega) (by omega)
  have e1 := encode_c 1 [depN (16384 + t % 16384) (n % 8)] (.inl rfl) (by omega) d1
  have e2 := refBytes_c [depN (16384 + t % 16384) (n % 8)] (by omega) d1
  have hl := refB_len [depN (16384 + t % 16384) (n % 8)]
  have e3 := parse_c 1 (joinF (refFs [depN (16384 + t % 16384) (n % 8)])) (.inl rfl) (by omega)
  rw [d3] at e1
  rw [d5] at e3
  generalize (parseF 4 1 (joinF (refFs [depN (16384 + t % 16384) (n % 8)])) 0).1 = pl at e3
  generalize joinF (refFs [depN (16384 + t % 16384) (n % 8)]) = pb at e2 e3
  generalize encN [depN (16384 + t % 16384) (n % 8)] = eb at e1 d4
  have hw0 : IntKind.u16.wrap (16384 + N (t % 16384)) = N (16384 + t % 16384) := by rw [show (16384 : Int) + N (t % 16384) = N (16384 + t % 16384) by unfold N; omega]; exact w_u16 _ (by omega)
  refine PC.of_bodyW (by simp only [push_cast]) Tryd.func3 rfl (by rw [Tryd.ntmps3]; simp) ?_
  refine AWp.regionW ?_
  refine AWp.seqK fun K1 hK1 => ?_
  refine AWp.regionM fun K2 hK2 => ?_
  refine ARun2.callM (awake08_c) ?_
  refine ARun2.endm (hK2 _ ?_)
  refine AWp.condF ?_
  refine AWp.skip ?_
  refine hK1 _ ?_
  refine AWp.regionW ?_
  refine AWp.regionW ?_
  refine AWp.seqK fun K3 hK3 => ?_
  refine AWp.regionW ?_
  refine AWp.block ?_
  refine AWp.subBox 0 [u16 (depN (16384 + t % 16384) 0).ty, .sl false 1 (bys (depN (16384 + t % 16384) 0).data), .sl false 3 (nodesA false (depN (16384 + t % 16384) 0).kids)] ?_ ?_
  · show HandL [] _ [u16 (16384 + t % 16384), .sl false 1 [], .sl false 3 []]
    rw [hw0]
    repeat' (first | exact HandL.nil | exact Hand.nil | exact Hand.eq (by first | with_reducible rfl | (simp only [push_cast]; done) | rfl) (by first | with_reducible rfl | (simp only [push_cast]; done) | rfl) | refine HandL.cons ?_ ?_ | refine Hand.agg ?_ | exact HandR.nil | exact HandC.nil | refine HandC.cons ?_ ?_ | refine HandR.cons ?_ ?_ | refine Hand.sl ?_)
  refine AWp.loopK [5, 6] (fun (i : Nat) => [(7, nat i)]) (fun i => [.box 27 [u16 (depN (16384 + t % 16384) i).ty, .sl false 1 (bys (depN (16384 + t % 16384) i).data), .sl false 3 (nodesA false (depN (16384 + t % 16384) i).kids)]]) (fun i => i ≤ n % 8) (fun i => n % 8 - i) (0) ?_ (Nat.zero_le _) ?_
  · skip
    refine Le.m 1 ?_ ?_
    · first | with_reducible rfl | (simp only [push_cast, reduceIte, Nat.reduceEqDiff, Nat.reduceLT, Nat.reduceAdd, Nat.reduceSub, Nat.reduceMul, Nat.reduceLeDiff, Nat.reducePow, Int.reduceLT, Int.reduceToNat, reduceCtorEq, Int.reduceNeg, Int.reduceEq, Nat.reduceBEq, Nat.reduceBNe, Int.reduceBEq, Int.reduceBNe, String.reduceEq]; first | done | rfl | (simp (disch := omega) only [w_nat, w_add, w_addl, w_addr, w_sub, w_subl, w_mul, w_mull, w_mulr, w_u32, w_u16, w_u8, w_u32a, N_zero]; first | done | rfl))
    · first | (simp only [push_cast, reduceIte, Nat.reduceEqDiff, Nat.reduceLT, Nat.reduceAdd, Nat.reduceSub, Nat.reduceMul, Nat.reduceLeDiff, Nat.reducePow, Int.reduceLT, Int.reduceToNat, reduceCtorEq, Int.reduceNeg, Int.reduceEq, Nat.reduceBEq, Nat.reduceBNe, Int.reduceBEq, Int.reduceBNe, String.reduceEq]; first | done | rfl | (simp (disch := omega) only [w_nat, w_add, w_addl, w_addr, w_sub, w_subl, w_mul, w_mull, w_mulr, w_u32, w_u16, w_u8, w_u32a, N_zero]; first | done | rfl))
  · intro i hi K4 hK4
    refine AWp.seqK fun K5 hK5 => ?_
    refine AWp.regionW ?_
    refine AWp.condLM (fun c1 => ?_) (fun c1 => ?_)
    · skip
      have hil : i < n % 8 := by simpa using c1
      refine AWp.skip ?_
      refine hK5 _ ?_
      refine AWp.seqK fun K6 hK6 => ?_
      refine AWp.block ?_
      refine AWp.regionV ?_
      refine hK6 _ ?_
      refine AWp.subBox 0 [u16 (depN (16384 + t % 16384) (i + 1)).ty, .sl false 1 (bys (depN (16384 + t % 16384) (i + 1)).data), .sl false 3 (nodesA false (depN (16384 + t % 16384) (i + 1)).kids)] ?_ ?_
      · show HandL [] _ [u16 8, .sl false 1 [], .sl false 3 [nodeA false (depN (16384 + t % 16384) i)]]
        rw [nodeA_eq]
        repeat' (first | exact HandL.nil | exact Hand.nil | exact Hand.eq (by first | with_reducible rfl | (simp only [push_cast]; done) | rfl) (by first | with_reducible rfl | (simp only [push_cast]; done) | rfl) | refine HandL.cons ?_ ?_ | refine Hand.agg ?_ | exact HandR.nil | exact HandC.nil | refine HandC.cons ?_ ?_ | refine HandR.cons ?_ ?_ | refine Hand.sl ?_)
      refine AWp.regionV ?_
      refine hK4 _ (i + 1) (by omega) (by omega) ?_
      refine Le.m 1 ?_ ?_
      · first | with_reducible rfl | (simp only [push_cast, reduceIte, Nat.reduceEqDiff, Nat.reduceLT, Nat.reduceAdd, Nat.reduceSub, Nat.reduceMul, Nat.reduceLeDiff, Nat.reducePow, Int.reduceLT, Int.reduceToNat, reduceCtorEq, Int.reduceNeg, Int.reduceEq, Nat.reduceBEq, Nat.reduceBNe, Int.reduceBEq, Int.reduceBNe, String.reduceEq]; first | done | rfl | (simp (disch := omega) only [w_nat, w_add, w_addl, w_addr, w_sub, w_subl, w_mul, w_mull, w_mulr, w_u32, w_u16, w_u8, w_u32a, N_zero]; first | done | rfl))
      · first | (simp only [push_cast, reduceIte, Nat.reduceEqDiff, Nat.reduceLT, Nat.reduceAdd, Nat.reduceSub, Nat.reduceMul, Nat.reduceLeDiff, Nat.reducePow, Int.reduceLT, Int.reduceToNat, reduceCtorEq, Int.reduceNeg, Int.reduceEq, Nat.reduceBEq, Nat.reduceBNe, Int.reduceBEq, Int.reduceBNe, String.reduceEq]; first | done | rfl | (simp (disch := omega) only [w_nat, w_add, w_addl, w_addr, w_sub, w_subl, w_mul, w_mull, w_mulr, w_u32, w_u16, w_u8, w_u32a, N_zero]; first | done | rfl))
    · skip
      have hil : i = n % 8 := by have := hi; simp at c1; omega
      subst hil
      refine AWp.exit ?_
      try simp only [thenQ, blockQ, noGo, reduceIte, Nat.reduceEqDiff]
      refine hK3 _ ?_
      refine AWp.regionM fun K7 hK7 => ?_
      refine ARun2.callM (e1) ?_
      refine ARun2.endm (hK7 _ ?_)
      refine AWp.regionM fun K8 hK8 => ?_
      refine ARun2.callM (e2) ?_
      refine ARun2.callM (e3) ?_
      refine ARun2.endm (hK8 _ ?_)
      refine AWp.seqK fun K9 hK9 => ?_
      refine AWp.regionW ?_
      refine AWp.condLM (fun c2 => ?_) (fun c2 => ?_)
      · skip
        have q : n % 8 ≤ 3 := by simpa using c2
        simp only [if_pos q] at *
        refine AWp.regionA fun K10 hK10 => ?_
        refine ARun.segm 3 fun KS hKS => ?_
        refine ARun2.endm (hKS _ ?_); clear hKS KS
        apply ARun.grpM 2 2 true 48 [5, 8, 46]
        · intro g2 KG hKG
          refine ARun2.gom ?_
          exact ARun2.endm (hKG _ Le.grpM)
        refine ARun.segm 2 fun KS hKS => ?_
        refine ARun2.endm (hKS _ ?_); clear hKS KS
        apply ARun.grpM 6 6 true 56 [50]
        · intro g6 KG hKG
          refine ARun2.gom ?_
          exact ARun2.endm (hKG _ Le.grpM)
        refine ARun2.gom ?_
        refine ARun2.endm (hK10 _ ?_)
        refine AWp.ret ?_
        try simp only [thenQ, blockQ, noGo]
        refine bodyQ.m ?_
        clear hK10 K10 hK9 K9 hK8 K8 hK7 K7 hK5 K5 hK4 K4 hK3 K3 hK2 K2 hK1 K1
        rw [d4, beq_self_eq_true]
        first | done | exact Hand.go
      · skip
        have q : ¬ n % 8 ≤ 3 := by simpa using c2
        simp only [if_neg q]
        refine AWp.skip ?_
        refine hK9 _ ?_
        refine AWp.regionA fun K11 hK11 => ?_
        refine ARun.segm 3 fun KS hKS => ?_
        refine ARun2.callM (coded_c 9 9) ?_
        refine ARun2.endm (hKS _ ?_); clear hKS KS
        apply ARun.grpM 3 2 true 63 [11, 60]
        · intro g2 KG hKG
          refine ARun2.gom ?_
          exact ARun2.endm (hKG _ Le.grpM)
        refine ARun.segm 2 fun KS hKS => ?_
        refine ARun2.endm (hKS _ ?_); clear hKS KS
        apply ARun.grpM 2 7 true 67 [65]
        · intro g7 KG hKG
          refine ARun2.gom ?_
          refine ARun2.callM (told_c (.flt 9 16) 9 16) ?_
          exact ARun2.endm (hKG _ Le.grpM)
        refine ARun2.gom ?_
        refine ARun2.endm (hK11 _ ?_)
        refine AWp.ret ?_
        try simp only [thenQ, blockQ, noGo]
        refine bodyQ.m ?_
        clear hK11 K11 hK9 K9 hK8 K8 hK7 K7 hK5 K5 hK4 K4 hK3 K3 hK2 K2 hK1 K1
        first | done | exact Hand.go
end Go.Proofs.YtmcedkcehcacpaaDoor.C
/- Nodes, read. -/
set_option linter.unusedVariables false
set_option linter.unusedSimpArgs false
namespace Go.Proofs.YtmcedkcehcacpaaDoor.C
open Go.Abs Go.ChangeShapes Go.WideShapes Go.ChangeAt Go.RowKit
theorem u16_of {n : Int} (h : (Lit.int .u16 n).wf = true) : ∃ m : Nat, n = N m ∧ m < 2 ^ 16 := nat_of (m := 65535) (by simpa [Lit.wf, IntKind.min, IntKind.max, IntKind.signed, IntKind.bits] using h)
section
variable {H : Type} {enc : TypeId × Value → H} {W : World}
end
end Go.Proofs.YtmcedkcehcacpaaDoor.C
