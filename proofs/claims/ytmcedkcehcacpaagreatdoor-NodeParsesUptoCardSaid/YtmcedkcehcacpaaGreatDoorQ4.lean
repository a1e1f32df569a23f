/- Rows of the call's own that a callee reads, and that change later; a string's bytes. No condition. -/
import Derived.Test.YtmcedkcehcacpaaGreatDoorQ3
import Derived.Lib.ConvBytes
import Derived.Lib.AppendZerosOnto
import Derived.Laws.Append
import Derived.Laws.Externs
import GoSem.Extern.ReflectliteValue
import Derived.KernelRfl
import Derived.Stop.Asserts
namespace Go.Abs
set_option linter.unusedVariables false
set_option linter.unusedSectionVars false
set_option linter.unusedSimpArgs false
set_option linter.unnecessarySimpa false
mutual
/-- all that it leads to was made since the call began -/
def AV.fresh : AV → Bool
  | .val _ => true
  | .any => false
  | .agg l | .tup l => AV.freshL l
  | .sl nw _ xs => nw && AV.freshL xs
  | .own _ | .ptr _ _ | .ept _ _ => false
  | .ref nw x => nw && x.fresh
  | .ifc _ x => x.fresh
  | .fn _ l m => AV.freshL l && AV.freshL m
def AV.freshL : List AV → Bool
  | [] => true
  | x :: xs => x.fresh && AV.freshL xs
end
theorem AV.freshL_cells (x : AV) : AV.freshL x.cells = x.fresh := by
  cases x <;> simp [AV.cells, AV.fresh, AV.freshL]
section fresh
variable {w : World} {B : Nat → Prop} {bs : Nat} {ρ : List Value}
mutual
theorem Rel.fresh : ∀ {x : AV} {v : Value}, Rel w B bs ρ x v → x.fresh = true → Rel w (fun b => B b ∧ bs ≤ b) bs ρ x v
  | _, _, .val v, _ => .val v
  | _, _, .agg h, e => .agg (h.fresh (by simpa [AV.fresh] using e))
  | _, _, .tup h, e => .tup (h.fresh (by simpa [AV.fresh] using e))
  | _, _, .slE nw sz A cap, _ => .slE nw sz A cap
  | _, _, .sl h hc, e => by
    simp only [AV.fresh, Bool.and_eq_true] at e
    exact .sl (RelRow.fresh' h e.1 e.2) hc
  | _, _, .own h h1, e => by simp [AV.fresh] at e
  | _, _, .ptr h, e => by simp [AV.fresh] at e
  | _, _, .ept h, e => by simp [AV.fresh] at e
  | _, _, .ref (x := x) h hn, e => by
    simp only [AV.fresh, Bool.and_eq_true] at e
    exact .ref (RelCells.fresh h e.1 (by rw [AV.freshL_cells]; exact e.2)) hn
  | _, _, .ifc h, e => .ifc (h.fresh (by simpa [AV.fresh] using e))
  | _, _, .fn h h2, e => .fn (h.fresh (by simp only [AV.fresh, Bool.and_eq_true] at e; exact e.1)) (h2.fresh (by simp only [AV.fresh, Bool.and_eq_true] at e; exact e.2))
  | _, _, .any v, e => by simp [AV.fresh] at e
theorem RelL.fresh : ∀ {xs : List AV} {vs : List Value}, RelL w B bs ρ xs vs → AV.freshL xs = true → RelL w (fun b => B b ∧ bs ≤ b) bs ρ xs vs
  | _, _, .nil, _ => .nil
  | _, _, .cons h h2, e => .cons (h.fresh (by simp only [AV.freshL, Bool.and_eq_true] at e; exact e.1)) (h2.fresh (by simp only [AV.freshL, Bool.and_eq_true] at e; exact e.2))
theorem RelCells.fresh : ∀ {nw : Bool} {b o : Nat} {xs : List AV}, RelCells w B bs ρ nw b o xs → nw = true → AV.freshL xs = true → RelCells w (fun b => B b ∧ bs ≤ b) bs ρ nw b o xs
  | _, _, _, _, .nil, _, _ => .nil
  | _, _, _, _, .cons h1 h2 h3 h4 h5 h6, g, e => .cons ⟨h1, h2 g⟩ h2 h3 h4 (h5.fresh (by simp only [AV.freshL, Bool.and_eq_true] at e; exact e.1)) (RelCells.fresh h6 g (by simp only [AV.freshL, Bool.and_eq_true] at e; exact e.2))
theorem RelRow.fresh' : ∀ {nw : Bool} {b sz o : Nat} {xs : List AV}, RelRow w B bs ρ nw b sz o xs → nw = true → AV.freshL xs = true → RelRow w (fun b => B b ∧ bs ≤ b) bs ρ nw b sz o xs
  | _, _, _, _, _, .nil, _, _ => .nil
  | _, _, _, _, _, .cons (x := x) h1 h2 h3, g, e => .cons (RelCells.fresh h1 g (by rw [AV.freshL_cells]; simp only [AV.freshL, Bool.and_eq_true] at e; exact e.1)) h2 (RelRow.fresh' h3 g (by simp only [AV.freshL, Bool.and_eq_true] at e; exact e.2))
end
end fresh
section
variable {P : Program} {ops : Array Oper} {E : Env} {s s' : AS} {ρ σ : List Value} {B : Nat → Prop} {a : Act} {w w' : World} {o : Oper} {rest : List Oper} {Q : AS → Prop} {R : Exit → AS → Prop}
theorem osubL_map {k : Nat} {r : AV} {u : Value} {bs : Nat} (hu : ρ[k]? = some u) (hr : Rel w B bs ρ r u) {xs : List AV} {vs : List Value} (h : RelL w B bs ρ xs vs) : RelL w B bs ρ (xs.map (AV.osub1 k r)) vs := by
  induction xs generalizing vs with
  | nil => cases h; exact .nil
  | cons x xs ih => cases h with | cons h1 h2 => exact .cons (Rel.osub1 hu hr h1) (ih h2)
/-- a row of the call's own, as a callee reads it: its block is read, while the call lasts -/
theorem RW.lend {ob : List Ob} {k : Nat} {e : TypeId} {sz : Nat} {xs : List AV} (h : RW E ob ρ B w) (hk : ob[k]? = some (.row e sz xs)) :
    ∃ (B1 : Nat → Prop) (v : Value), ρ[k]? = some v ∧ (∀ b, B b → B1 b) ∧ (∀ b, B1 b → b < w.heap.size) ∧ (∀ b, B1 b → B b ∨ blk v = some b) ∧ Rel w B1 E.bs ρ (.sl false sz xs) v := by
  obtain ⟨h0, hr⟩ := h.obs k _ hk
  rcases hr with ⟨rfl, hr⟩ | ⟨b, cap, vs, ws, fz, h1, hh, h3, h4, h5, h6⟩
  · exact ⟨B, _, hr, fun _ h => h, h.blt, fun _ h => .inl h, .slE _ _ _ _⟩
  · obtain ⟨p1, p2, p3⟩ := h.prv k _ _ b hk rfl h1 rfl
    refine ⟨fun x => B x ∨ x = b, _, h1, fun _ h => .inl h, fun x hx => hx.elim (h.blt x) (fun e => e ▸ p2), fun x hx => hx.elim .inl (fun e => .inr (by rw [e]; rfl)), ?_⟩
    cases xs with
    | nil => exact .slE _ _ _ _
    | cons x xs =>
      refine .sl (RelRow.mk (.inr rfl) (fun h => by cases h) (vs := vs) (h6.mono (fun _ h => .inl h) (fun _ _ => rfl) (Nat.le_refl _) (fun _ _ h => h)) h0 ?_) h4
      intro j v hj
      exact block_cell hh 0 j v (by simpa using get_append_some hj)
/-- a call of a pure function that reads a row of the call's own; what it answers shares nothing with it -/
theorem AOp.callLend {f : FuncId} {args : Array Operand} {ts : Array TypeId} {ys : List AV} {r : AV} {k : Nat} {e : TypeId} {sz : Nat} {xs : List AV} (ho : o.op = .call { callee := .value (.func f), args := args, argTypes := ts }) (hc : callable P f = true)
    (hp : PC P f ys r) (hk : s.ob[k]? = some (.row e sz xs)) (hf : r.fresh = true) (hsub : SubL ((args.toList.map s.ev).map (AV.osub1 k (.sl false sz xs))) ys) (hpl : AV.plL ys = true) (K : ARun P ops rest (s.put o.dst r) Q) : AOp P ops o rest s Q := by
  intro E hE ρ B a w hs Q' hQ
  unfold callable at hc
  split at hc <;> (try (simp at hc; done))
  rename_i fn hfn
  simp only [Bool.and_eq_true, Bool.not_eq_true'] at hc
  have hr := run_call_func (P := P) (w := w) (args := args) (ts := ts) (ty := o.type) (ρe := a.eval) hfn hc.1 hc.2 rfl
  have he : (execOp a.eval o).run P w = .ok (.enter f (args.map a.eval)) w := by
    simp only [execOp, ho]; exact hr
  have hrel : RelL w B E.bs ρ (args.toList.map s.ev) (args.toList.map a.eval) := RelL.map_ev hs _
  obtain ⟨B1, v, l1, l2, l3, l4, l5⟩ := hs.rw_.lend hk
  have hrel1 := osubL_map l1 l5 (hrel.mono l2 (fun _ _ => rfl) (Nat.le_refl _) (fun _ _ h => h))
  refine owp_enter he ?_
  have hargs : args.map a.eval = (args.toList.map a.eval).toArray := by apply Array.ext'; simp
  rw [hargs]
  have hrw1 : RW (E0 w.heap.size w B1 []) [] [] B1 w :=
    { ep := Nat.le_refl _, os := rfl, tape := rfl, output := rfl, size := Nat.le_refl _, block := fun _ _ _ => rfl, pre := fun k v h => by simp at h, bsub := fun _ h => h, bnew := fun _ h => .inl h,
      blt := l3, len := rfl, obs := fun k o h => by simp at h, dis := fun i j o o' u v b _ h => by simp at h, prv := fun k o v b h => by simp at h }
  refine hp.2 w.heap.size w [] B1 _ (hE.glb.call hs.rw_ l2 (by intro v hv; simp at hv)) hrw1 ((hsub.rel (Nat.le_refl _) hrel1).pl hpl) _ ?_
  rintro r' v' τ' ρ' B' w' ⟨rfl, rfl⟩ hw hv
  have hρ : ρ' = [] := by have := hw.len; simpa using this
  subst hρ
  have hw2 : RW (E0 w.heap.size w B []) [] [] (fun b => B' b ∧ (B1 b → B b)) w' :=
    { ep := hw.ep, os := hw.os, tape := hw.tape, output := hw.output, size := hw.size, block := fun k h1 h2 => hw.block k h1 ⟨h2.1, fun h => by cases h⟩, pre := fun k v h => by simp at h, bsub := fun b h => ⟨hw.bsub b (l2 b h), fun _ => h⟩,
      bnew := fun b h => (hw.bnew b h.1).elim (fun h1 => .inl (h.2 h1)) .inr, blt := fun b h => hw.blt b h.1, len := rfl, obs := fun k o h => by simp at h, dis := fun i j o o' u v b _ h => by simp at h, prv := fun k o v b h => by simp at h }
  have hs' := hs.back hw2
  refine ⟨v', rfl, K E hE ρ _ _ w' (hs'.put o.dst ?_) Q' hQ⟩
  have hfr := (hv.fresh hf).mono (B' := fun b => B' b ∧ (B1 b → B b)) (w' := w') (bs' := E.bs) (ρ' := ([] : List Value)) (fun b hb => ⟨hb.1, fun h1 => by have h3 := l3 b h1; have h2 : w.heap.size ≤ b := hb.2; omega⟩) (fun _ _ => rfl) hs.rw_.le (fun _ _ h => h)
  refine hfr.ids (p := fun _ => false) ?_ hp.1
  intro _ _ h; simp at h
theorem ARun2.callLendM {f : FuncId} {args : Array Operand} {ts : Array TypeId} {ys : List AV} {r : AV} {e : TypeId} {sz : Nat} {xs : List AV} {p : List Oper × AS} (k : Nat) (hp : PC P f ys r) (K : ARun2 P ops p Q)
    (ho : o.op = .call { callee := .value (.func f), args := args, argTypes := ts } := by rfl) (hg : gd ops s o = some true := by first | with_reducible rfl | (simp only [push_cast, reduceIte, Nat.reduceEqDiff, Nat.reduceLT, Nat.reduceAdd, Nat.reduceSub, Nat.reduceMul, Nat.reduceLeDiff, Nat.reducePow, Int.reduceLT, Int.reduceToNat, reduceCtorEq, Int.reduceNeg, Int.reduceEq, Nat.reduceBEq, Nat.reduceBNe, Int.reduceBEq, Int.reduceBNe, String.reduceEq]; first | done | rfl | (simp (disch := omega) only [w_nat, w_add, w_addl, w_addr, w_sub, w_subl, w_mul, w_mull, w_mulr, w_u32, w_u16, w_u8, w_u32a, N_zero]; first | done | rfl | (simp only [push_cast, reduceIte, Nat.reduceEqDiff, Nat.reduceLT, Nat.reduceAdd, Nat.reduceSub, Nat.reduceMul, Nat.reduceLeDiff, Nat.reducePow, Int.reduceLT, Int.reduceToNat, reduceCtorEq, Int.reduceNeg, Int.reduceEq, Nat.reduceBEq, Nat.reduceBNe, Int.reduceBEq, Int.reduceBNe, String.reduceEq]; first | done | rfl)))) (hc : callable P f = true := by first | first | with_reducible rfl | (simp only [push_cast, reduceIte, Nat.reduceEqDiff, Nat.reduceLT, Nat.reduceAdd, Nat.reduceSub, Nat.reduceMul, Nat.reduceLeDiff, Nat.reducePow, Int.reduceLT, Int.reduceToNat, reduceCtorEq, Int.reduceNeg, Int.reduceEq, Nat.reduceBEq, Nat.reduceBNe, Int.reduceBEq, Int.reduceBNe, String.reduceEq]; first | done | rfl | (simp (disch := omega) only [w_nat, w_add, w_addl, w_addr, w_sub, w_subl, w_mul, w_mull, w_mulr, w_u32, w_u16, w_u8, w_u32a, N_zero]; first | done | rfl | (simp only [push_cast, reduceIte, Nat.reduceEqDiff, Nat.reduceLT, Nat.reduceAdd, Nat.reduceSub, Nat.reduceMul, Nat.reduceLeDiff, Nat.reducePow, Int.reduceLT, Int.reduceToNat, reduceCtorEq, Int.reduceNeg, Int.reduceEq, Nat.reduceBEq, Nat.reduceBNe, Int.reduceBEq, Int.reduceBNe, String.reduceEq]; first | done | rfl))) | assumption) (hk : s.ob[k]? = some (.row e sz xs) := by rfl) (hf : r.fresh = true := by first | with_reducible rfl | (simp only [push_cast, reduceIte, Nat.reduceEqDiff, Nat.reduceLT, Nat.reduceAdd, Nat.reduceSub, Nat.reduceMul, Nat.reduceLeDiff, Nat.reducePow, Int.reduceLT, Int.reduceToNat, reduceCtorEq, Int.reduceNeg, Int.reduceEq, Nat.reduceBEq, Nat.reduceBNe, Int.reduceBEq, Int.reduceBNe, String.reduceEq]; first | done | rfl | (simp (disch := omega) only [w_nat, w_add, w_addl, w_addr, w_sub, w_subl, w_mul, w_mull, w_mulr, w_u32, w_u16, w_u8, w_u32a, N_zero]; first | done | rfl | (simp only [push_cast, reduceIte, Nat.reduceEqDiff, Nat.reduceLT, Nat.reduceAdd, Nat.reduceSub, Nat.reduceMul, Nat.reduceLeDiff, Nat.reducePow, Int.reduceLT, Int.reduceToNat, reduceCtorEq, Int.reduceNeg, Int.reduceEq, Nat.reduceBEq, Nat.reduceBNe, Int.reduceBEq, Int.reduceBNe, String.reduceEq]; first | done | rfl))))
    (hsub : HandL [] ((args.toList.map s.ev).map (AV.osub1 k (.sl false sz xs))) ys := by
      try simp only [push_cast, reduceIte, Nat.reduceEqDiff, Nat.reduceLT, Nat.reduceAdd, Nat.reduceSub, Nat.reduceMul, Nat.reduceLeDiff, Nat.reducePow, Int.reduceLT, Int.reduceToNat, reduceCtorEq, Int.reduceNeg, Int.reduceEq, Nat.reduceBEq, Nat.reduceBNe, Int.reduceBEq, Int.reduceBNe, String.reduceEq]
      try simp (disch := omega) only [w_nat, w_add, w_addl, w_addr, w_sub, w_subl, w_mul, w_mull, w_mulr, w_u32, w_u16, w_u8, w_u32a, N_zero]
      repeat' (first | assumption | exact HandL.nil | exact Hand.nil | exact Hand.any | exact Hand.eq (by first | with_reducible rfl | (simp only [push_cast, reduceIte, Nat.reduceEqDiff, Nat.reduceLT, Nat.reduceAdd, Nat.reduceSub, Nat.reduceMul, Nat.reduceLeDiff, Nat.reducePow, Int.reduceLT, Int.reduceToNat, reduceCtorEq, Int.reduceNeg, Int.reduceEq, Nat.reduceBEq, Nat.reduceBNe, Int.reduceBEq, Int.reduceBNe, String.reduceEq]; first | done | rfl | (simp (disch := omega) only [w_nat, w_add, w_addl, w_addr, w_sub, w_subl, w_mul, w_mull, w_mulr, w_u32, w_u16, w_u8, w_u32a, N_zero]; first | done | rfl | (simp only [push_cast, reduceIte, Nat.reduceEqDiff, Nat.reduceLT, Nat.reduceAdd, Nat.reduceSub, Nat.reduceMul, Nat.reduceLeDiff, Nat.reducePow, Int.reduceLT, Int.reduceToNat, reduceCtorEq, Int.reduceNeg, Int.reduceEq, Nat.reduceBEq, Nat.reduceBNe, Int.reduceBEq, Int.reduceBNe, String.reduceEq]; first | done | rfl)))) (by first | with_reducible rfl | (simp only [push_cast, reduceIte, Nat.reduceEqDiff, Nat.reduceLT, Nat.reduceAdd, Nat.reduceSub, Nat.reduceMul, Nat.reduceLeDiff, Nat.reducePow, Int.reduceLT, Int.reduceToNat, reduceCtorEq, Int.reduceNeg, Int.reduceEq, Nat.reduceBEq, Nat.reduceBNe, Int.reduceBEq, Int.reduceBNe, String.reduceEq]; first | done | rfl | (simp (disch := omega) only [w_nat, w_add, w_addl, w_addr, w_sub, w_subl, w_mul, w_mull, w_mulr, w_u32, w_u16, w_u8, w_u32a, N_zero]; first | done | rfl | (simp only [push_cast, reduceIte, Nat.reduceEqDiff, Nat.reduceLT, Nat.reduceAdd, Nat.reduceSub, Nat.reduceMul, Nat.reduceLeDiff, Nat.reducePow, Int.reduceLT, Int.reduceToNat, reduceCtorEq, Int.reduceNeg, Int.reduceEq, Nat.reduceBEq, Nat.reduceBNe, Int.reduceBEq, Int.reduceBNe, String.reduceEq]; first | done | rfl)))) | exact Hand.keep (by first | with_reducible rfl | (simp only [push_cast, reduceIte, Nat.reduceEqDiff, Nat.reduceLT, Nat.reduceAdd, Nat.reduceSub, Nat.reduceMul, Nat.reduceLeDiff, Nat.reducePow, Int.reduceLT, Int.reduceToNat, reduceCtorEq, Int.reduceNeg, Int.reduceEq, Nat.reduceBEq, Nat.reduceBNe, Int.reduceBEq, Int.reduceBNe, String.reduceEq]; first | done | rfl | (simp (disch := omega) only [w_nat, w_add, w_addl, w_addr, w_sub, w_subl, w_mul, w_mull, w_mulr, w_u32, w_u16, w_u8, w_u32a, N_zero]; first | done | rfl | (simp only [push_cast, reduceIte, Nat.reduceEqDiff, Nat.reduceLT, Nat.reduceAdd, Nat.reduceSub, Nat.reduceMul, Nat.reduceLeDiff, Nat.reducePow, Int.reduceLT, Int.reduceToNat, reduceCtorEq, Int.reduceNeg, Int.reduceEq, Nat.reduceBEq, Nat.reduceBNe, Int.reduceBEq, Int.reduceBNe, String.reduceEq]; first | done | rfl)))) (by with_reducible rfl) | refine HandL.cons ?_ ?_ | refine Hand.agg ?_ | refine Hand.tup ?_ | refine Hand.fn ?_ ?_ | exact HandR.nil | exact HandC.nil | refine HandC.cons ?_ ?_ | refine HandR.cons ?_ ?_ | refine Hand.sl ?_)) (hpl : AV.plL ys = true := by first | with_reducible rfl | (simp only [push_cast, reduceIte, Nat.reduceEqDiff, Nat.reduceLT, Nat.reduceAdd, Nat.reduceSub, Nat.reduceMul, Nat.reduceLeDiff, Nat.reducePow, Int.reduceLT, Int.reduceToNat, reduceCtorEq, Int.reduceNeg, Int.reduceEq, Nat.reduceBEq, Nat.reduceBNe, Int.reduceBEq, Int.reduceBNe, String.reduceEq]; first | done | rfl | (simp (disch := omega) only [w_nat, w_add, w_addl, w_addr, w_sub, w_subl, w_mul, w_mull, w_mulr, w_u32, w_u16, w_u8, w_u32a, N_zero]; first | done | rfl | (simp only [push_cast, reduceIte, Nat.reduceEqDiff, Nat.reduceLT, Nat.reduceAdd, Nat.reduceSub, Nat.reduceMul, Nat.reduceLeDiff, Nat.reducePow, Int.reduceLT, Int.reduceToNat, reduceCtorEq, Int.reduceNeg, Int.reduceEq, Nat.reduceBEq, Nat.reduceBNe, Int.reduceBEq, Int.reduceBNe, String.reduceEq]; first | done | rfl))))
    (h : srun P ops rest (s.put o.dst r) = p := by
        try simp only [push_cast, reduceIte, Nat.reduceEqDiff, Nat.reduceLT, Nat.reduceAdd, Nat.reduceSub, Nat.reduceMul, Nat.reduceLeDiff, Nat.reducePow, Int.reduceLT, Int.reduceToNat, reduceCtorEq, Int.reduceNeg, Int.reduceEq, Nat.reduceBEq, Nat.reduceBNe, Int.reduceBEq, Int.reduceBNe, String.reduceEq]
        try simp (disch := omega) only [w_nat, w_add, w_addl, w_addr, w_sub, w_subl, w_mul, w_mull, w_mulr, w_u32, w_u16, w_u8, w_u32a, N_zero]
        try simp only [push_cast, reduceIte, Nat.reduceEqDiff, Nat.reduceLT, Nat.reduceAdd, Nat.reduceSub, Nat.reduceMul, Nat.reduceLeDiff, Nat.reducePow, Int.reduceLT, Int.reduceToNat, reduceCtorEq, Int.reduceNeg, Int.reduceEq, Nat.reduceBEq, Nat.reduceBNe, Int.reduceBEq, Int.reduceBNe, String.reduceEq]
        rfl) : ARun2 P ops (o :: rest, s) Q :=
  ARun.exec hg (AOp.callLend ho hc hp hk hf (SubL.of hsub) hpl (ARun.srun (h ▸ K)))
/-! ### an element of a row of the call's own (elements of one cell) -/
theorem flat_ones : ∀ {xs : List AV}, xs.all AV.one = true → xs.flatMap AV.cells = xs
  | [], _ => rfl
  | x :: xs, h => by
    simp only [List.all_cons, Bool.and_eq_true] at h
    rw [List.flatMap_cons, one_cells h.1, flat_ones h.2]; rfl
theorem row1 {bs : Nat} {e : TypeId} {xs : List AV} {k : Nat} (h : RO w B bs ρ k (.row e 1 xs)) (hne : xs ≠ []) (h1 : xs.all AV.one = true) : ∃ b cap vs ws fz, ρ[k]? = some (.slice (some ⟨b, 0, none⟩) xs.length cap) ∧ w.heap[b]? = some (.cells (List.toArray (vs ++ ws)) e fz) ∧
    (vs ++ ws).length = cap ∧ xs.length ≤ cap ∧ thaw fz (vs ++ ws).length ∧ RelL w B bs ρ xs vs := by
  obtain ⟨h0, h⟩ := h
  rcases h with h | ⟨b, cap, vs, ws, fz, h1', h2, h3, h4, h5, h6⟩
  · exact absurd h.1 hne
  · rw [flat_ones h1] at h6
    exact ⟨b, cap, vs, ws, fz, h1', h2, by simpa using h3, h4, h5, h6⟩
theorem AOp.indexOwn {T : TypeId} {x i : Operand} {k j : Nat} {e : TypeId} {xs : List AV} {kk : IntKind} (ho : o.op = .indexAddr T x i) (hx : s.ev x = .own k) (hk : s.ob[k]? = some (.row e 1 xs)) (hi : s.ev i = .val (.int kk (N j)))
    (hz : elSz P T = some 1) (hj : j < xs.length) (h1 : xs.all AV.one = true) (K : ARun P ops rest (s.put o.dst (.ept k j)) Q) : AOp P ops o rest s Q := by
  refine AOp.pure1 (fun E ρ B a w hs => ?_) K
  obtain ⟨e', ti, zv, hu, hti, hsz, _⟩ := elSz_spec hz
  obtain ⟨b, cap, vs, ws, fz, r1, r2, r3, r4, r5, r6⟩ := row1 (hs.rw_.obs k _ hk) (by rintro rfl; simp at hj) h1
  have hxr := hs.ev x
  have hir := hs.ev i
  rw [hx] at hxr
  rw [hi] at hir
  have hv := hir.val_eq
  simp only [execOp, ho, hv]
  generalize a.eval x = u at hxr
  cases hxr with
  | own hp _ =>
    rw [r1] at hp
    have := Option.some.inj hp
    subst this
    refine ⟨_, val_run (v := .pointer (some ⟨b, j, none⟩)) ?_, .ept r1⟩
    have hjj : 0 ≤ N j ∧ N j < (xs.length : Int) := ⟨Int.natCast_nonneg j, by unfold N; omega⟩
    simp only [Instr.indexAt, asIntOf, Sem.run_bind, Sem.run_pure, Result.andThen_ok, run_underlying hu]
    simp only [if_pos hjj, Sem.run_bind, run_sizeOf hti, hsz, Result.andThen_ok, addr_add, Sem.run_pure, N_toNat, Nat.mul_one, Nat.zero_add]
theorem AOp.loadE {T : TypeId} {x : Operand} {k j : Nat} {e : TypeId} {xs : List AV} {y : AV} (ho : o.op = .load T x) (hx : s.ev x = .ept k j) (hk : s.ob[k]? = some (.row e 1 xs)) (ht : tk P T = .scal) (hy : xs[j]? = some y) (h1 : xs.all AV.one = true)
    (K : ARun P ops rest (s.put o.dst y) Q) : AOp P ops o rest s Q := by
  refine AOp.pure1 (fun E ρ B a w hs => ?_) K
  obtain ⟨b, cap, vs, ws, fz, r1, r2, r3, r4, r5, r6⟩ := row1 (hs.rw_.obs k _ hk) (by rintro rfl; simp at hy) h1
  have hxr := hs.ev x
  rw [hx] at hxr
  obtain ⟨v, hv, hr⟩ := r6.get hy
  have hc : w.cell? ⟨b, j, none⟩ = some v := by
    have := block_cell r2 0 j v (by simpa using get_append_some hv)
    simpa using this
  simp only [execOp, ho]
  generalize a.eval x = u at hxr
  cases hxr with
  | ept hp =>
    rw [r1] at hp
    simp only [Option.some.injEq, Value.slice.injEq, Addr.mk.injEq, and_true] at hp
    obtain ⟨rfl, _, _⟩ := hp
    refine ⟨v, val_run ?_, hr⟩
    have := run_loadVar_scal (P := P) (w := w) ht hc
    simpa [Instr.loadAt, Instr.sureAddr] using this
theorem AOp.storeE {T : TypeId} {x y : Operand} {k j : Nat} {e : TypeId} {xs : List AV} (ho : o.op = .store T x y) (hx : s.ev x = .ept k j) (hk : s.ob[k]? = some (.row e 1 xs)) (ht : tk P T = .scal) (hj : j < xs.length) (h1 : xs.all AV.one = true) (hy : (s.ev y).one = true)
    (K : ARun P ops rest ({ s with ob := s.ob.set k (.row e 1 (xs.set j (s.ev y))) }.put o.dst .any) Q) : AOp P ops o rest s Q := by
  refine AOp.unit (s' := { s with ob := s.ob.set k (.row e 1 (xs.set j (s.ev y))) }) (fun E ρ B a w hs => ?_) (by rw [ho]; intro c h; cases h) K
  have hro := hs.rw_.obs k _ hk
  obtain ⟨b, cap, vs, ws, fz, r1, r2, r3, r4, r5, r6⟩ := row1 hro (by rintro rfl; simp at hj) h1
  have hxr := hs.ev x
  rw [hx] at hxr
  have hyr := hs.ev y
  obtain ⟨d, i, _, hi, hsz, _⟩ := tk_scal ht
  have hlv : vs.length = xs.length := r6.length_eq.symm
  have h1y := hyr.one hy
  have hst := run_storeVar (P := P) (w := w) (t := T) (b := b) (o := j) (T := e) hi (v := a.eval y) (us := [a.eval y]) (by rw [oneCell_iff _ h1y]) (by simp [hsz]) r2 r5 (by simp; omega) (by simpa using h1y)
  have hset : (vs ++ ws).take j ++ [a.eval y] ++ (vs ++ ws).drop (j + [a.eval y].length) = vs.set j (a.eval y) ++ ws := by
    have hjv : j < vs.length := by omega
    rw [List.take_append_of_le_length (by omega), List.length_singleton, List.drop_append_of_le_length (by omega)]
    rw [List.set_eq_take_append_cons_drop, if_pos hjv]
    simp
  rw [hset] at hst
  have h1s : (xs.set j (s.ev y)).all AV.one = true := by
    rw [List.all_eq_true] at h1 ⊢
    intro c hc
    rcases List.mem_or_eq_of_mem_set hc with hc | rfl
    · exact h1 c hc
    · exact hy
  have hw : RS E { s with ob := s.ob.set k (.row e 1 (xs.set j (s.ev y))) } ρ B a (setBlk w b (.cells (vs.set j (a.eval y) ++ ws).toArray e fz)) := by
    obtain ⟨p1, p2, p3⟩ := hs.rw_.prv k _ _ b hk rfl r1 rfl
    have hB : ∀ b', B b' → (setBlk w b (.cells (vs.set j (a.eval y) ++ ws).toArray e fz)).heap[b']? = w.heap[b']? := fun b' hb' => by
      rw [setBlk_get _ _ _ _ p2, if_neg (by rintro rfl; exact p1 hb')]
    refine hs.write (b := b) hk rfl r1 rfl ⟨?_, .inr ⟨b, cap, vs.set j (a.eval y), ws, fz, by rw [List.length_set]; exact r1, by rw [setBlk_get _ _ _ _ p2, if_pos rfl], by simpa using r3, by rw [List.length_set]; exact r4, by simpa using r5, ?_⟩⟩
    · intro c hc
      have := List.all_eq_true.1 h1s c hc
      rw [one_cells this]
      exact ⟨rfl, fun z hz => by simp at hz; subst hz; exact this⟩
    · rw [flat_ones h1s]
      exact (r6.set j hyr).mono (fun _ h => h) hB (Nat.le_refl _) (fun _ _ h => h)
  refine ⟨_, ρ, B, ?_, hw⟩
  simp only [execOp, ho]
  generalize a.eval x = u at hxr
  cases hxr with
  | ept hp =>
    rw [r1] at hp
    simp only [Option.some.injEq, Value.slice.injEq, Addr.mk.injEq, and_true] at hp
    obtain ⟨rfl, _, _⟩ := hp
    simp [Instr.storeAt, Instr.sureAddr, hst]
theorem ARun2.indexOwnM {T : TypeId} {x i : Operand} {k : Nat} {e : TypeId} {xs : List AV} {kk : IntKind} {p : List Oper × AS} (j : Nat) (hj : j < xs.length) (K : ARun2 P ops p Q) (ho : o.op = .indexAddr T x i := by rfl) (hg : gd ops s o = some true := by first | with_reducible rfl | (simp only [push_cast, reduceIte, Nat.reduceEqDiff, Nat.reduceLT, Nat.reduceAdd, Nat.reduceSub, Nat.reduceMul, Nat.reduceLeDiff, Nat.reducePow, Int.reduceLT, Int.reduceToNat, reduceCtorEq, Int.reduceNeg, Int.reduceEq, Nat.reduceBEq, Nat.reduceBNe, Int.reduceBEq, Int.reduceBNe, String.reduceEq]; first | done | rfl | (simp (disch := omega) only [w_nat, w_add, w_addl, w_addr, w_sub, w_subl, w_mul, w_mull, w_mulr, w_u32, w_u16, w_u8, w_u32a, N_zero]; first | done | rfl | (simp only [push_cast, reduceIte, Nat.reduceEqDiff, Nat.reduceLT, Nat.reduceAdd, Nat.reduceSub, Nat.reduceMul, Nat.reduceLeDiff, Nat.reducePow, Int.reduceLT, Int.reduceToNat, reduceCtorEq, Int.reduceNeg, Int.reduceEq, Nat.reduceBEq, Nat.reduceBNe, Int.reduceBEq, Int.reduceBNe, String.reduceEq]; first | done | rfl)))) (hx : s.ev x = .own k := by first | with_reducible rfl | (simp only [push_cast, reduceIte, Nat.reduceEqDiff, Nat.reduceLT, Nat.reduceAdd, Nat.reduceSub, Nat.reduceMul, Nat.reduceLeDiff, Nat.reducePow, Int.reduceLT, Int.reduceToNat, reduceCtorEq, Int.reduceNeg, Int.reduceEq, Nat.reduceBEq, Nat.reduceBNe, Int.reduceBEq, Int.reduceBNe, String.reduceEq]; first | done | rfl | (simp (disch := omega) only [w_nat, w_add, w_addl, w_addr, w_sub, w_subl, w_mul, w_mull, w_mulr, w_u32, w_u16, w_u8, w_u32a, N_zero]; first | done | rfl | (simp only [push_cast, reduceIte, Nat.reduceEqDiff, Nat.reduceLT, Nat.reduceAdd, Nat.reduceSub, Nat.reduceMul, Nat.reduceLeDiff, Nat.reducePow, Int.reduceLT, Int.reduceToNat, reduceCtorEq, Int.reduceNeg, Int.reduceEq, Nat.reduceBEq, Nat.reduceBNe, Int.reduceBEq, Int.reduceBNe, String.reduceEq]; first | done | rfl)))) (hk : s.ob[k]? = some (.row e 1 xs) := by rfl)
    (hi : s.ev i = .val (.int kk (N j)) := by first | with_reducible rfl | (simp only [push_cast, reduceIte, Nat.reduceEqDiff, Nat.reduceLT, Nat.reduceAdd, Nat.reduceSub, Nat.reduceMul, Nat.reduceLeDiff, Nat.reducePow, Int.reduceLT, Int.reduceToNat, reduceCtorEq, Int.reduceNeg, Int.reduceEq, Nat.reduceBEq, Nat.reduceBNe, Int.reduceBEq, Int.reduceBNe, String.reduceEq]; first | done | rfl | (simp (disch := omega) only [w_nat, w_add, w_addl, w_addr, w_sub, w_subl, w_mul, w_mull, w_mulr, w_u32, w_u16, w_u8, w_u32a, N_zero]; first | done | rfl | (simp only [push_cast, reduceIte, Nat.reduceEqDiff, Nat.reduceLT, Nat.reduceAdd, Nat.reduceSub, Nat.reduceMul, Nat.reduceLeDiff, Nat.reducePow, Int.reduceLT, Int.reduceToNat, reduceCtorEq, Int.reduceNeg, Int.reduceEq, Nat.reduceBEq, Nat.reduceBNe, Int.reduceBEq, Int.reduceBNe, String.reduceEq]; first | done | rfl)))) (hz : elSz P T = some 1 := by first | with_reducible rfl | (simp only [push_cast, reduceIte, Nat.reduceEqDiff, Nat.reduceLT, Nat.reduceAdd, Nat.reduceSub, Nat.reduceMul, Nat.reduceLeDiff, Nat.reducePow, Int.reduceLT, Int.reduceToNat, reduceCtorEq, Int.reduceNeg, Int.reduceEq, Nat.reduceBEq, Nat.reduceBNe, Int.reduceBEq, Int.reduceBNe, String.reduceEq]; first | done | rfl | (simp (disch := omega) only [w_nat, w_add, w_addl, w_addr, w_sub, w_subl, w_mul, w_mull, w_mulr, w_u32, w_u16, w_u8, w_u32a, N_zero]; first | done | rfl | (simp only [push_cast, reduceIte, Nat.reduceEqDiff, Nat.reduceLT, Nat.reduceAdd, Nat.reduceSub, Nat.reduceMul, Nat.reduceLeDiff, Nat.reducePow, Int.reduceLT, Int.reduceToNat, reduceCtorEq, Int.reduceNeg, Int.reduceEq, Nat.reduceBEq, Nat.reduceBNe, Int.reduceBEq, Int.reduceBNe, String.reduceEq]; first | done | rfl)))) (h1 : xs.all AV.one = true := by first | with_reducible rfl | (simp only [push_cast, reduceIte, Nat.reduceEqDiff, Nat.reduceLT, Nat.reduceAdd, Nat.reduceSub, Nat.reduceMul, Nat.reduceLeDiff, Nat.reducePow, Int.reduceLT, Int.reduceToNat, reduceCtorEq, Int.reduceNeg, Int.reduceEq, Nat.reduceBEq, Nat.reduceBNe, Int.reduceBEq, Int.reduceBNe, String.reduceEq]; first | done | rfl | (simp (disch := omega) only [w_nat, w_add, w_addl, w_addr, w_sub, w_subl, w_mul, w_mull, w_mulr, w_u32, w_u16, w_u8, w_u32a, N_zero]; first | done | rfl | (simp only [push_cast, reduceIte, Nat.reduceEqDiff, Nat.reduceLT, Nat.reduceAdd, Nat.reduceSub, Nat.reduceMul, Nat.reduceLeDiff, Nat.reducePow, Int.reduceLT, Int.reduceToNat, reduceCtorEq, Int.reduceNeg, Int.reduceEq, Nat.reduceBEq, Nat.reduceBNe, Int.reduceBEq, Int.reduceBNe, String.reduceEq]; first | done | rfl)))) (h : srun P ops rest (s.put o.dst (.ept k j)) = p := by
        try simp only [push_cast, reduceIte, Nat.reduceEqDiff, Nat.reduceLT, Nat.reduceAdd, Nat.reduceSub, Nat.reduceMul, Nat.reduceLeDiff, Nat.reducePow, Int.reduceLT, Int.reduceToNat, reduceCtorEq, Int.reduceNeg, Int.reduceEq, Nat.reduceBEq, Nat.reduceBNe, Int.reduceBEq, Int.reduceBNe, String.reduceEq]
        try simp (disch := omega) only [w_nat, w_add, w_addl, w_addr, w_sub, w_subl, w_mul, w_mull, w_mulr, w_u32, w_u16, w_u8, w_u32a, N_zero]
        try simp only [push_cast, reduceIte, Nat.reduceEqDiff, Nat.reduceLT, Nat.reduceAdd, Nat.reduceSub, Nat.reduceMul, Nat.reduceLeDiff, Nat.reducePow, Int.reduceLT, Int.reduceToNat, reduceCtorEq, Int.reduceNeg, Int.reduceEq, Nat.reduceBEq, Nat.reduceBNe, Int.reduceBEq, Int.reduceBNe, String.reduceEq]
        rfl) : ARun2 P ops (o :: rest, s) Q :=
  ARun.exec hg (AOp.indexOwn ho hx hk hi hz hj h1 (ARun.srun (h ▸ K)))
theorem ARun2.loadEM {T : TypeId} {x : Operand} {k j : Nat} {e : TypeId} {xs : List AV} {p : List Oper × AS} (y : AV) (hy : xs[j]? = some y) (K : ARun2 P ops p Q) (ho : o.op = .load T x := by rfl) (hg : gd ops s o = some true := by first | with_reducible rfl | (simp only [push_cast, reduceIte, Nat.reduceEqDiff, Nat.reduceLT, Nat.reduceAdd, Nat.reduceSub, Nat.reduceMul, Nat.reduceLeDiff, Nat.reducePow, Int.reduceLT, Int.reduceToNat, reduceCtorEq, Int.reduceNeg, Int.reduceEq, Nat.reduceBEq, Nat.reduceBNe, Int.reduceBEq, Int.reduceBNe, String.reduceEq]; first | done | rfl | (simp (disch := omega) only [w_nat, w_add, w_addl, w_addr, w_sub, w_subl, w_mul, w_mull, w_mulr, w_u32, w_u16, w_u8, w_u32a, N_zero]; first | done | rfl | (simp only [push_cast, reduceIte, Nat.reduceEqDiff, Nat.reduceLT, Nat.reduceAdd, Nat.reduceSub, Nat.reduceMul, Nat.reduceLeDiff, Nat.reducePow, Int.reduceLT, Int.reduceToNat, reduceCtorEq, Int.reduceNeg, Int.reduceEq, Nat.reduceBEq, Nat.reduceBNe, Int.reduceBEq, Int.reduceBNe, String.reduceEq]; first | done | rfl)))) (hx : s.ev x = .ept k j := by first | with_reducible rfl | (simp only [push_cast, reduceIte, Nat.reduceEqDiff, Nat.reduceLT, Nat.reduceAdd, Nat.reduceSub, Nat.reduceMul, Nat.reduceLeDiff, Nat.reducePow, Int.reduceLT, Int.reduceToNat, reduceCtorEq, Int.reduceNeg, Int.reduceEq, Nat.reduceBEq, Nat.reduceBNe, Int.reduceBEq, Int.reduceBNe, String.reduceEq]; first | done | rfl | (simp (disch := omega) only [w_nat, w_add, w_addl, w_addr, w_sub, w_subl, w_mul, w_mull, w_mulr, w_u32, w_u16, w_u8, w_u32a, N_zero]; first | done | rfl | (simp only [push_cast, reduceIte, Nat.reduceEqDiff, Nat.reduceLT, Nat.reduceAdd, Nat.reduceSub, Nat.reduceMul, Nat.reduceLeDiff, Nat.reducePow, Int.reduceLT, Int.reduceToNat, reduceCtorEq, Int.reduceNeg, Int.reduceEq, Nat.reduceBEq, Nat.reduceBNe, Int.reduceBEq, Int.reduceBNe, String.reduceEq]; first | done | rfl)))) (hk : s.ob[k]? = some (.row e 1 xs) := by rfl)
    (ht : tk P T = .scal := by first | with_reducible rfl | (simp only [push_cast, reduceIte, Nat.reduceEqDiff, Nat.reduceLT, Nat.reduceAdd, Nat.reduceSub, Nat.reduceMul, Nat.reduceLeDiff, Nat.reducePow, Int.reduceLT, Int.reduceToNat, reduceCtorEq, Int.reduceNeg, Int.reduceEq, Nat.reduceBEq, Nat.reduceBNe, Int.reduceBEq, Int.reduceBNe, String.reduceEq]; first | done | rfl | (simp (disch := omega) only [w_nat, w_add, w_addl, w_addr, w_sub, w_subl, w_mul, w_mull, w_mulr, w_u32, w_u16, w_u8, w_u32a, N_zero]; first | done | rfl | (simp only [push_cast, reduceIte, Nat.reduceEqDiff, Nat.reduceLT, Nat.reduceAdd, Nat.reduceSub, Nat.reduceMul, Nat.reduceLeDiff, Nat.reducePow, Int.reduceLT, Int.reduceToNat, reduceCtorEq, Int.reduceNeg, Int.reduceEq, Nat.reduceBEq, Nat.reduceBNe, Int.reduceBEq, Int.reduceBNe, String.reduceEq]; first | done | rfl)))) (h1 : xs.all AV.one = true := by first | with_reducible rfl | (simp only [push_cast, reduceIte, Nat.reduceEqDiff, Nat.reduceLT, Nat.reduceAdd, Nat.reduceSub, Nat.reduceMul, Nat.reduceLeDiff, Nat.reducePow, Int.reduceLT, Int.reduceToNat, reduceCtorEq, Int.reduceNeg, Int.reduceEq, Nat.reduceBEq, Nat.reduceBNe, Int.reduceBEq, Int.reduceBNe, String.reduceEq]; first | done | rfl | (simp (disch := omega) only [w_nat, w_add, w_addl, w_addr, w_sub, w_subl, w_mul, w_mull, w_mulr, w_u32, w_u16, w_u8, w_u32a, N_zero]; first | done | rfl | (simp only [push_cast, reduceIte, Nat.reduceEqDiff, Nat.reduceLT, Nat.reduceAdd, Nat.reduceSub, Nat.reduceMul, Nat.reduceLeDiff, Nat.reducePow, Int.reduceLT, Int.reduceToNat, reduceCtorEq, Int.reduceNeg, Int.reduceEq, Nat.reduceBEq, Nat.reduceBNe, Int.reduceBEq, Int.reduceBNe, String.reduceEq]; first | done | rfl)))) (h : srun P ops rest (s.put o.dst y) = p := by
        try simp only [push_cast, reduceIte, Nat.reduceEqDiff, Nat.reduceLT, Nat.reduceAdd, Nat.reduceSub, Nat.reduceMul, Nat.reduceLeDiff, Nat.reducePow, Int.reduceLT, Int.reduceToNat, reduceCtorEq, Int.reduceNeg, Int.reduceEq, Nat.reduceBEq, Nat.reduceBNe, Int.reduceBEq, Int.reduceBNe, String.reduceEq]
        try simp (disch := omega) only [w_nat, w_add, w_addl, w_addr, w_sub, w_subl, w_mul, w_mull, w_mulr, w_u32, w_u16, w_u8, w_u32a, N_zero]
        try simp only [push_cast, reduceIte, Nat.reduceEqDiff, Nat.reduceLT, Nat.reduceAdd, Nat.reduceSub, Nat.reduceMul, Nat.reduceLeDiff, Nat.reducePow, Int.reduceLT, Int.reduceToNat, reduceCtorEq, Int.reduceNeg, Int.reduceEq, Nat.reduceBEq, Nat.reduceBNe, Int.reduceBEq, Int.reduceBNe, String.reduceEq]
        rfl) : ARun2 P ops (o :: rest, s) Q :=
  ARun.exec hg (AOp.loadE ho hx hk ht hy h1 (ARun.srun (h ▸ K)))
theorem ARun2.storeEM {T : TypeId} {x y : Operand} {k j : Nat} {e : TypeId} {xs : List AV} {p : List Oper × AS} (hj : j < xs.length) (K : ARun2 P ops p Q) (ho : o.op = .store T x y := by rfl) (hg : gd ops s o = some true := by first | with_reducible rfl | (simp only [push_cast, reduceIte, Nat.reduceEqDiff, Nat.reduceLT, Nat.reduceAdd, Nat.reduceSub, Nat.reduceMul, Nat.reduceLeDiff, Nat.reducePow, Int.reduceLT, Int.reduceToNat, reduceCtorEq, Int.reduceNeg, Int.reduceEq, Nat.reduceBEq, Nat.reduceBNe, Int.reduceBEq, Int.reduceBNe, String.reduceEq]; first | done | rfl | (simp (disch := omega) only [w_nat, w_add, w_addl, w_addr, w_sub, w_subl, w_mul, w_mull, w_mulr, w_u32, w_u16, w_u8, w_u32a, N_zero]; first | done | rfl | (simp only [push_cast, reduceIte, Nat.reduceEqDiff, Nat.reduceLT, Nat.reduceAdd, Nat.reduceSub, Nat.reduceMul, Nat.reduceLeDiff, Nat.reducePow, Int.reduceLT, Int.reduceToNat, reduceCtorEq, Int.reduceNeg, Int.reduceEq, Nat.reduceBEq, Nat.reduceBNe, Int.reduceBEq, Int.reduceBNe, String.reduceEq]; first | done | rfl)))) (hx : s.ev x = .ept k j := by first | with_reducible rfl | (simp only [push_cast, reduceIte, Nat.reduceEqDiff, Nat.reduceLT, Nat.reduceAdd, Nat.reduceSub, Nat.reduceMul, Nat.reduceLeDiff, Nat.reducePow, Int.reduceLT, Int.reduceToNat, reduceCtorEq, Int.reduceNeg, Int.reduceEq, Nat.reduceBEq, Nat.reduceBNe, Int.reduceBEq, Int.reduceBNe, String.reduceEq]; first | done | rfl | (simp (disch := omega) only [w_nat, w_add, w_addl, w_addr, w_sub, w_subl, w_mul, w_mull, w_mulr, w_u32, w_u16, w_u8, w_u32a, N_zero]; first | done | rfl | (simp only [push_cast, reduceIte, Nat.reduceEqDiff, Nat.reduceLT, Nat.reduceAdd, Nat.reduceSub, Nat.reduceMul, Nat.reduceLeDiff, Nat.reducePow, Int.reduceLT, Int.reduceToNat, reduceCtorEq, Int.reduceNeg, Int.reduceEq, Nat.reduceBEq, Nat.reduceBNe, Int.reduceBEq, Int.reduceBNe, String.reduceEq]; first | done | rfl)))) (hk : s.ob[k]? = some (.row e 1 xs) := by rfl)
    (ht : tk P T = .scal := by first | with_reducible rfl | (simp only [push_cast, reduceIte, Nat.reduceEqDiff, Nat.reduceLT, Nat.reduceAdd, Nat.reduceSub, Nat.reduceMul, Nat.reduceLeDiff, Nat.reducePow, Int.reduceLT, Int.reduceToNat, reduceCtorEq, Int.reduceNeg, Int.reduceEq, Nat.reduceBEq, Nat.reduceBNe, Int.reduceBEq, Int.reduceBNe, String.reduceEq]; first | done | rfl | (simp (disch := omega) only [w_nat, w_add, w_addl, w_addr, w_sub, w_subl, w_mul, w_mull, w_mulr, w_u32, w_u16, w_u8, w_u32a, N_zero]; first | done | rfl | (simp only [push_cast, reduceIte, Nat.reduceEqDiff, Nat.reduceLT, Nat.reduceAdd, Nat.reduceSub, Nat.reduceMul, Nat.reduceLeDiff, Nat.reducePow, Int.reduceLT, Int.reduceToNat, reduceCtorEq, Int.reduceNeg, Int.reduceEq, Nat.reduceBEq, Nat.reduceBNe, Int.reduceBEq, Int.reduceBNe, String.reduceEq]; first | done | rfl)))) (h1 : xs.all AV.one = true := by first | with_reducible rfl | (simp only [push_cast, reduceIte, Nat.reduceEqDiff, Nat.reduceLT, Nat.reduceAdd, Nat.reduceSub, Nat.reduceMul, Nat.reduceLeDiff, Nat.reducePow, Int.reduceLT, Int.reduceToNat, reduceCtorEq, Int.reduceNeg, Int.reduceEq, Nat.reduceBEq, Nat.reduceBNe, Int.reduceBEq, Int.reduceBNe, String.reduceEq]; first | done | rfl | (simp (disch := omega) only [w_nat, w_add, w_addl, w_addr, w_sub, w_subl, w_mul, w_mull, w_mulr, w_u32, w_u16, w_u8, w_u32a, N_zero]; first | done | rfl | (simp only [push_cast, reduceIte, Nat.reduceEqDiff, Nat.reduceLT, Nat.reduceAdd, Nat.reduceSub, Nat.reduceMul, Nat.reduceLeDiff, Nat.reducePow, Int.reduceLT, Int.reduceToNat, reduceCtorEq, Int.reduceNeg, Int.reduceEq, Nat.reduceBEq, Nat.reduceBNe, Int.reduceBEq, Int.reduceBNe, String.reduceEq]; first | done | rfl)))) (hy : (s.ev y).one = true := by first | with_reducible rfl | (simp only [push_cast, reduceIte, Nat.reduceEqDiff, Nat.reduceLT, Nat.reduceAdd, Nat.reduceSub, Nat.reduceMul, Nat.reduceLeDiff, Nat.reducePow, Int.reduceLT, Int.reduceToNat, reduceCtorEq, Int.reduceNeg, Int.reduceEq, Nat.reduceBEq, Nat.reduceBNe, Int.reduceBEq, Int.reduceBNe, String.reduceEq]; first | done | rfl | (simp (disch := omega) only [w_nat, w_add, w_addl, w_addr, w_sub, w_subl, w_mul, w_mull, w_mulr, w_u32, w_u16, w_u8, w_u32a, N_zero]; first | done | rfl | (simp only [push_cast, reduceIte, Nat.reduceEqDiff, Nat.reduceLT, Nat.reduceAdd, Nat.reduceSub, Nat.reduceMul, Nat.reduceLeDiff, Nat.reducePow, Int.reduceLT, Int.reduceToNat, reduceCtorEq, Int.reduceNeg, Int.reduceEq, Nat.reduceBEq, Nat.reduceBNe, Int.reduceBEq, Int.reduceBNe, String.reduceEq]; first | done | rfl)))) (h : srun P ops rest ({ s with ob := s.ob.set k (.row e 1 (xs.set j (s.ev y))) }.put o.dst .any) = p := by
        try simp only [push_cast, reduceIte, Nat.reduceEqDiff, Nat.reduceLT, Nat.reduceAdd, Nat.reduceSub, Nat.reduceMul, Nat.reduceLeDiff, Nat.reducePow, Int.reduceLT, Int.reduceToNat, reduceCtorEq, Int.reduceNeg, Int.reduceEq, Nat.reduceBEq, Nat.reduceBNe, Int.reduceBEq, Int.reduceBNe, String.reduceEq]
        try simp (disch := omega) only [w_nat, w_add, w_addl, w_addr, w_sub, w_subl, w_mul, w_mull, w_mulr, w_u32, w_u16, w_u8, w_u32a, N_zero]
        try simp only [push_cast, reduceIte, Nat.reduceEqDiff, Nat.reduceLT, Nat.reduceAdd, Nat.reduceSub, Nat.reduceMul, Nat.reduceLeDiff, Nat.reducePow, Int.reduceLT, Int.reduceToNat, reduceCtorEq, Int.reduceNeg, Int.reduceEq, Nat.reduceBEq, Nat.reduceBNe, Int.reduceBEq, Int.reduceBNe, String.reduceEq]
        rfl) : ARun2 P ops (o :: rest, s) Q :=
  ARun.exec hg (AOp.storeE ho hx hk ht hj h1 hy (ARun.srun (h ▸ K)))
/-! ### make, as a row of the call's own -/
/-! ### a string's bytes -/
/-! ### a result told with less, but with what is new in it -/
def Wk (x y : AV) : Prop := ∀ (w : World) (B : Nat → Prop) (bs : Nat) (ρ : List Value) (v : Value), Rel w B bs ρ x v → Rel w B bs ρ y v
def WkL (xs ys : List AV) : Prop := ∀ (w : World) (B : Nat → Prop) (bs : Nat) (ρ : List Value) (vs : List Value), RelL w B bs ρ xs vs → RelL w B bs ρ ys vs
theorem Wk.eq {x y : AV} (h : x = y) : Wk x y := by subst h; exact fun _ _ _ _ _ h => h
theorem Wk.nil {nw : Bool} {sz : Nat} : Wk (.val (.slice none 0 0)) (.sl nw sz []) := by
  intro w B bs ρ v h; cases h; exact .slE _ _ _ _
theorem WkL.nil : WkL [] [] := fun _ _ _ _ _ h => h
theorem WkL.cons {x y : AV} {xs ys : List AV} (h : Wk x y) (h2 : WkL xs ys) : WkL (x :: xs) (y :: ys) := by
  intro w B bs ρ v hr; cases hr with | cons a b => exact .cons (h _ _ _ _ _ a) (h2 _ _ _ _ _ b)
theorem Wk.agg {xs ys : List AV} (h : WkL xs ys) : Wk (.agg xs) (.agg ys) := by
  intro w B bs ρ v hr; cases hr with | agg a => exact .agg (h _ _ _ _ _ a)
theorem Wk.tup {xs ys : List AV} (h : WkL xs ys) : Wk (.tup xs) (.tup ys) := by
  intro w B bs ρ v hr; cases hr with | tup a => exact .tup (h _ _ _ _ _ a)
theorem Wk.go {x y : AV} (h : Wk x y := by
      try simp only [push_cast, reduceIte, Nat.reduceEqDiff, Nat.reduceLT, Nat.reduceAdd, Nat.reduceSub, Nat.reduceMul, Nat.reduceLeDiff, Nat.reducePow, Int.reduceLT, Int.reduceToNat, reduceCtorEq, Int.reduceNeg, Int.reduceEq, Nat.reduceBEq, Nat.reduceBNe, Int.reduceBEq, Int.reduceBNe, String.reduceEq]
      try simp (disch := omega) only [w_nat, w_add, w_addl, w_addr, w_sub, w_subl, w_mul, w_mull, w_mulr, w_u32, w_u16, w_u8, w_u32a, N_zero]
      repeat' (first | assumption | exact WkL.nil | exact Wk.nil | exact Wk.eq (by first | with_reducible rfl | (simp only [push_cast, reduceIte, Nat.reduceEqDiff, Nat.reduceLT, Nat.reduceAdd, Nat.reduceSub, Nat.reduceMul, Nat.reduceLeDiff, Nat.reducePow, Int.reduceLT, Int.reduceToNat, reduceCtorEq, Int.reduceNeg, Int.reduceEq, Nat.reduceBEq, Nat.reduceBNe, Int.reduceBEq, Int.reduceBNe, String.reduceEq]; first | done | rfl | (simp (disch := omega) only [w_nat, w_add, w_addl, w_addr, w_sub, w_subl, w_mul, w_mull, w_mulr, w_u32, w_u16, w_u8, w_u32a, N_zero]; first | done | rfl | (simp only [push_cast, reduceIte, Nat.reduceEqDiff, Nat.reduceLT, Nat.reduceAdd, Nat.reduceSub, Nat.reduceMul, Nat.reduceLeDiff, Nat.reducePow, Int.reduceLT, Int.reduceToNat, reduceCtorEq, Int.reduceNeg, Int.reduceEq, Nat.reduceBEq, Nat.reduceBNe, Int.reduceBEq, Int.reduceBNe, String.reduceEq]; first | done | rfl)))) | refine WkL.cons ?_ ?_ | refine Wk.agg ?_ | refine Wk.tup ?_)) : Wk x y := h
theorem PC.of_bodyK {f : FuncId} {fn : Func} {c : Code} {args : List AV} {r : AV} (hr : r.idsOk (fun _ => false) = true) (hf : P.funcs[f]? = some fn) (hb : fn.body = some c) (hn : args.length ≤ fn.ntmps)
    (h : AWp P c { n := fn.ntmps, m := 0, fr := frOf 0 args, ob := [] } (bodyQ P fn fun r' _ => Wk r' r)) : PC P f args r := by
  refine ⟨hr, ?_⟩
  intro ep w ρ B vs hg hw hrel R' hR'
  refine ACalls.of_body (τ := []) (R := fun r' _ => Wk r' r) hf hb hn h ep w ρ B vs hg hw hrel R' ?_
  rintro r' v τ' ρ' B' w' hh hw' hv
  have hρ : ρ = [] := by have := hw.len; simpa using this
  subst hρ
  refine hR' _ v [] [] B' w' ⟨rfl, rfl⟩ ?_ ((hh _ _ _ _ _ hv).ids (p := fun _ => false) (by intro _ _ h; simp at h) hr)
  have := hw'.cut (n := 0) (by simp) (by intro k o h; simp at h)
  simpa using this
end
attribute [push_cast] AV.fresh AV.freshL
end Go.Abs
/- Rows of the call's own: zeros behind nil; the front of a row. No condition. -/
namespace Go.Abs
set_option linter.unusedVariables false
set_option linter.unusedSectionVars false
set_option linter.unusedSimpArgs false
set_option linter.unnecessarySimpa false
section
variable {P : Program} {ops : Array Oper} {E : Env} {s s' : AS} {ρ σ : List Value} {B : Nat → Prop} {a : Act} {w w' : World} {o : Oper} {rest : List Oper} {Q : AS → Prop} {R : Exit → AS → Prop}
theorem zeros_one {z : Value} {zv : Value} (h : zv.cells = #[z]) (n : Nat) : Builtin.zeroCells zv.cells n = (List.replicate n z).toArray := by
  apply Array.ext'
  simp only [Builtin.zeroCells, h]
  apply List.ext_getElem
  · simp
  · intro j h1 h2
    simp [Nat.mod_one]
/-- n zeros behind nil -/
theorem AOp.appendZeros {T T2 e : TypeId} {x y : Operand} {k1 kn : IntKind} {n : Nat} {z : Value} (ho : o.op = .call { callee := .builtin .append, args := #[x, y], argTypes := #[T, T2] }) (hx : s.ev x = .val (.slice none 0 0)) (hy : s.ev y = .val (.int k1 (N n)))
    (hz : elSz P T = some 1) (he : elT P T = some e) (hzc : zc P e = some [z]) (hT2 : ikd P T2 = some kn) (h0 : 0 < n) (hn : n ≤ 2 ^ 40) (hb : elB P T ≤ 2 ^ 6)
    (K : ARun P ops rest (({ s with ob := s.ob ++ [Ob.row e 1 (List.replicate n (.val z))] } : AS).put o.dst (.own s.ob.length)) Q) : AOp P ops o rest s Q := by
  refine AOp.value (s' := { s with ob := s.ob ++ [.row e 1 (List.replicate n (.val z))] }) (fun E ρ B a w hs => ?_) K
  obtain ⟨e', i, zv, hu, hi, hsz, hzz, hzl, hz1⟩ := elSz_spec hz
  have hee : e' = e := by have := elT_spec he; rw [hu] at this; simpa using this
  subst hee
  have hzv : zv.cells = #[z] := by
    simp only [zc, hi, hzz, Option.bind_some] at hzc
    split at hzc <;> simp only [Option.some.injEq, reduceCtorEq] at hzc
    apply Array.ext'; simpa using hzc
  have h4 : (AV.val z).one = true := by
    have := hz1 z (by rw [hzv]; simp)
    exact this
  have hbe : elB P T = i.bytes := elB_spec hu hi
  have hxv := (hx ▸ hs.ev x : Rel w B E.bs ρ (.val (.slice none 0 0)) (a.eval x)).val_eq
  have hyv := (hy ▸ hs.ev y : Rel w B E.bs ρ (.val (.int k1 (N n))) (a.eval y)).val_eq
  have hmul : n * i.bytes ≤ 2 ^ 40 * 2 ^ 6 := Nat.mul_le_mul hn (hbe ▸ hb)
  have hrun := Go.Lib.run_append_grow_zeros (P := P) w T T2 o.type e' i zv k1 kn hu (ikd_spec hT2) hi hzz none 0 0 [] (by simp [Builtin.firstCells]) n h0 (by omega) (by omega) (by omega) (by omega) (growslice_fits (by omega) (by rw [Nat.zero_add]; omega))
  rw [Nat.zero_add, zeros_one hzv, zeros_one hzv] at hrun
  have hcap : n ≤ grownCap w n 0 e' := by simp [grownCap, Question.cut]
  generalize hc : grownCap w n 0 e' = cap at hrun hcap
  have hsame : Same w (w.drew.alloc (.cells (List.toArray [] ++ (List.replicate n z).toArray ++ (List.replicate (cap - n) z).toArray) e')) := by
    have h1 := same_alloc w.drew (.cells (List.toArray [] ++ (List.replicate n z).toArray ++ (List.replicate (cap - n) z).toArray) e')
    exact ⟨h1.os, h1.tape, h1.output, h1.size, h1.block⟩
  have hnew : (w.drew.alloc (.cells (List.toArray [] ++ (List.replicate n z).toArray ++ (List.replicate (cap - n) z).toArray) e')).heap[w.heap.size]? = some (.cells (List.toArray (List.replicate n z ++ List.replicate (cap - n) z)) e') := by
    have := alloc_get w.drew (.cells (List.toArray [] ++ (List.replicate n z).toArray ++ (List.replicate (cap - n) z).toArray) e')
    have hs0 : w.drew.heap.size = w.heap.size := rfl
    rw [hs0] at this
    rw [this]
    simp
  have hall : (List.replicate n (AV.val z)).all AV.one = true := by
    rw [List.all_eq_true]; intro c hc; rw [(List.mem_replicate.1 hc).2]; exact h4
  have hrl : ∀ (m : Nat) (W : World) (B1 : Nat → Prop) (ρ1 : List Value), RelL W B1 E.bs ρ1 (List.replicate m (AV.val z)) (List.replicate m z) := by
    intro m W B1 ρ1
    induction m with
    | zero => exact .nil
    | succ m ih => exact .cons (.val _) ih
  refine ⟨.slice (some ⟨w.heap.size, 0, none⟩) n cap, _, ρ ++ [.slice (some ⟨w.heap.size, 0, none⟩) n cap], B, ?_, hs.new hsame ⟨?_, .inr ⟨w.heap.size, cap, List.replicate n z, List.replicate (cap - n) z, (0, 0), ?_, hnew, ?_, ?_, .inl (Nat.le_refl _), ?_⟩⟩ ?_, .own ?_ rfl⟩
  · have hrun' : (Builtin.append_ #[T, T2] o.type #[.slice none 0 0, .int k1 (N n)]).run P w = _ := hrun
    simp [execOp, ho, resolve, invoke, builtin, hxv, hyv, hrun']
  · intro c hc
    have := List.all_eq_true.1 hall c hc
    rw [one_cells this]
    exact ⟨rfl, fun u hu => by simp at hu; subst hu; exact this⟩
  · rw [List.length_replicate, ← hs.rw_.len, List.getElem?_append_right (Nat.le_refl _), Nat.sub_self]; rfl
  · simp; omega
  · simpa using hcap
  · rw [flat_ones hall]; exact hrl n _ _ _
  · intro b hb
    simp only [blk, Option.some.injEq] at hb
    subst hb
    refine ⟨Nat.le_refl _, ?_⟩
    simp [World.alloc]
  · rw [← hs.rw_.len, List.getElem?_append_right (Nat.le_refl _), Nat.sub_self]; rfl
theorem ARun2.appendZerosM {T T2 e : TypeId} {x y : Operand} {k1 kn : IntKind} {z : Value} {p : List Oper × AS} (n : Nat) (h0 : 0 < n) (hn : n ≤ 2 ^ 40) (K : ARun2 P ops p Q)
    (ho : o.op = .call { callee := .builtin .append, args := #[x, y], argTypes := #[T, T2] } := by rfl) (hg : gd ops s o = some true := by first | with_reducible rfl | (simp only [push_cast, reduceIte, Nat.reduceEqDiff, Nat.reduceLT, Nat.reduceAdd, Nat.reduceSub, Nat.reduceMul, Nat.reduceLeDiff, Nat.reducePow, Int.reduceLT, Int.reduceToNat, reduceCtorEq, Int.reduceNeg, Int.reduceEq, Nat.reduceBEq, Nat.reduceBNe, Int.reduceBEq, Int.reduceBNe, String.reduceEq]; first | done | rfl | (simp (disch := omega) only [w_nat, w_add, w_addl, w_addr, w_sub, w_subl, w_mul, w_mull, w_mulr, w_u32, w_u16, w_u8, w_u32a, N_zero]; first | done | rfl | (simp only [push_cast, reduceIte, Nat.reduceEqDiff, Nat.reduceLT, Nat.reduceAdd, Nat.reduceSub, Nat.reduceMul, Nat.reduceLeDiff, Nat.reducePow, Int.reduceLT, Int.reduceToNat, reduceCtorEq, Int.reduceNeg, Int.reduceEq, Nat.reduceBEq, Nat.reduceBNe, Int.reduceBEq, Int.reduceBNe, String.reduceEq]; first | done | rfl)))) (hx : s.ev x = .val (.slice none 0 0) := by first | with_reducible rfl | (simp only [push_cast, reduceIte, Nat.reduceEqDiff, Nat.reduceLT, Nat.reduceAdd, Nat.reduceSub, Nat.reduceMul, Nat.reduceLeDiff, Nat.reducePow, Int.reduceLT, Int.reduceToNat, reduceCtorEq, Int.reduceNeg, Int.reduceEq, Nat.reduceBEq, Nat.reduceBNe, Int.reduceBEq, Int.reduceBNe, String.reduceEq]; first | done | rfl | (simp (disch := omega) only [w_nat, w_add, w_addl, w_addr, w_sub, w_subl, w_mul, w_mull, w_mulr, w_u32, w_u16, w_u8, w_u32a, N_zero]; first | done | rfl | (simp only [push_cast, reduceIte, Nat.reduceEqDiff, Nat.reduceLT, Nat.reduceAdd, Nat.reduceSub, Nat.reduceMul, Nat.reduceLeDiff, Nat.reducePow, Int.reduceLT, Int.reduceToNat, reduceCtorEq, Int.reduceNeg, Int.reduceEq, Nat.reduceBEq, Nat.reduceBNe, Int.reduceBEq, Int.reduceBNe, String.reduceEq]; first | done | rfl)))) (hy : s.ev y = .val (.int k1 (N n)) := by first | with_reducible rfl | (simp only [push_cast, reduceIte, Nat.reduceEqDiff, Nat.reduceLT, Nat.reduceAdd, Nat.reduceSub, Nat.reduceMul, Nat.reduceLeDiff, Nat.reducePow, Int.reduceLT, Int.reduceToNat, reduceCtorEq, Int.reduceNeg, Int.reduceEq, Nat.reduceBEq, Nat.reduceBNe, Int.reduceBEq, Int.reduceBNe, String.reduceEq]; first | done | rfl | (simp (disch := omega) only [w_nat, w_add, w_addl, w_addr, w_sub, w_subl, w_mul, w_mull, w_mulr, w_u32, w_u16, w_u8, w_u32a, N_zero]; first | done | rfl | (simp only [push_cast, reduceIte, Nat.reduceEqDiff, Nat.reduceLT, Nat.reduceAdd, Nat.reduceSub, Nat.reduceMul, Nat.reduceLeDiff, Nat.reducePow, Int.reduceLT, Int.reduceToNat, reduceCtorEq, Int.reduceNeg, Int.reduceEq, Nat.reduceBEq, Nat.reduceBNe, Int.reduceBEq, Int.reduceBNe, String.reduceEq]; first | done | rfl))))
    (hz : elSz P T = some 1 := by first | with_reducible rfl | (simp only [push_cast, reduceIte, Nat.reduceEqDiff, Nat.reduceLT, Nat.reduceAdd, Nat.reduceSub, Nat.reduceMul, Nat.reduceLeDiff, Nat.reducePow, Int.reduceLT, Int.reduceToNat, reduceCtorEq, Int.reduceNeg, Int.reduceEq, Nat.reduceBEq, Nat.reduceBNe, Int.reduceBEq, Int.reduceBNe, String.reduceEq]; first | done | rfl | (simp (disch := omega) only [w_nat, w_add, w_addl, w_addr, w_sub, w_subl, w_mul, w_mull, w_mulr, w_u32, w_u16, w_u8, w_u32a, N_zero]; first | done | rfl | (simp only [push_cast, reduceIte, Nat.reduceEqDiff, Nat.reduceLT, Nat.reduceAdd, Nat.reduceSub, Nat.reduceMul, Nat.reduceLeDiff, Nat.reducePow, Int.reduceLT, Int.reduceToNat, reduceCtorEq, Int.reduceNeg, Int.reduceEq, Nat.reduceBEq, Nat.reduceBNe, Int.reduceBEq, Int.reduceBNe, String.reduceEq]; first | done | rfl)))) (he : elT P T = some e := by first | with_reducible rfl | (simp only [push_cast, reduceIte, Nat.reduceEqDiff, Nat.reduceLT, Nat.reduceAdd, Nat.reduceSub, Nat.reduceMul, Nat.reduceLeDiff, Nat.reducePow, Int.reduceLT, Int.reduceToNat, reduceCtorEq, Int.reduceNeg, Int.reduceEq, Nat.reduceBEq, Nat.reduceBNe, Int.reduceBEq, Int.reduceBNe, String.reduceEq]; first | done | rfl | (simp (disch := omega) only [w_nat, w_add, w_addl, w_addr, w_sub, w_subl, w_mul, w_mull, w_mulr, w_u32, w_u16, w_u8, w_u32a, N_zero]; first | done | rfl | (simp only [push_cast, reduceIte, Nat.reduceEqDiff, Nat.reduceLT, Nat.reduceAdd, Nat.reduceSub, Nat.reduceMul, Nat.reduceLeDiff, Nat.reducePow, Int.reduceLT, Int.reduceToNat, reduceCtorEq, Int.reduceNeg, Int.reduceEq, Nat.reduceBEq, Nat.reduceBNe, Int.reduceBEq, Int.reduceBNe, String.reduceEq]; first | done | rfl)))) (hzc : zc P e = some [z] := by first | with_reducible rfl | (simp only [push_cast, reduceIte, Nat.reduceEqDiff, Nat.reduceLT, Nat.reduceAdd, Nat.reduceSub, Nat.reduceMul, Nat.reduceLeDiff, Nat.reducePow, Int.reduceLT, Int.reduceToNat, reduceCtorEq, Int.reduceNeg, Int.reduceEq, Nat.reduceBEq, Nat.reduceBNe, Int.reduceBEq, Int.reduceBNe, String.reduceEq]; first | done | rfl | (simp (disch := omega) only [w_nat, w_add, w_addl, w_addr, w_sub, w_subl, w_mul, w_mull, w_mulr, w_u32, w_u16, w_u8, w_u32a, N_zero]; first | done | rfl | (simp only [push_cast, reduceIte, Nat.reduceEqDiff, Nat.reduceLT, Nat.reduceAdd, Nat.reduceSub, Nat.reduceMul, Nat.reduceLeDiff, Nat.reducePow, Int.reduceLT, Int.reduceToNat, reduceCtorEq, Int.reduceNeg, Int.reduceEq, Nat.reduceBEq, Nat.reduceBNe, Int.reduceBEq, Int.reduceBNe, String.reduceEq]; first | done | rfl)))) (hT2 : ikd P T2 = some kn := by first | with_reducible rfl | (simp only [push_cast, reduceIte, Nat.reduceEqDiff, Nat.reduceLT, Nat.reduceAdd, Nat.reduceSub, Nat.reduceMul, Nat.reduceLeDiff, Nat.reducePow, Int.reduceLT, Int.reduceToNat, reduceCtorEq, Int.reduceNeg, Int.reduceEq, Nat.reduceBEq, Nat.reduceBNe, Int.reduceBEq, Int.reduceBNe, String.reduceEq]; first | done | rfl | (simp (disch := omega) only [w_nat, w_add, w_addl, w_addr, w_sub, w_subl, w_mul, w_mull, w_mulr, w_u32, w_u16, w_u8, w_u32a, N_zero]; first | done | rfl | (simp only [push_cast, reduceIte, Nat.reduceEqDiff, Nat.reduceLT, Nat.reduceAdd, Nat.reduceSub, Nat.reduceMul, Nat.reduceLeDiff, Nat.reducePow, Int.reduceLT, Int.reduceToNat, reduceCtorEq, Int.reduceNeg, Int.reduceEq, Nat.reduceBEq, Nat.reduceBNe, Int.reduceBEq, Int.reduceBNe, String.reduceEq]; first | done | rfl)))) (hb : decide (elB P T ≤ 2 ^ 6) = true := by first | with_reducible rfl | (simp only [push_cast, reduceIte, Nat.reduceEqDiff, Nat.reduceLT, Nat.reduceAdd, Nat.reduceSub, Nat.reduceMul, Nat.reduceLeDiff, Nat.reducePow, Int.reduceLT, Int.reduceToNat, reduceCtorEq, Int.reduceNeg, Int.reduceEq, Nat.reduceBEq, Nat.reduceBNe, Int.reduceBEq, Int.reduceBNe, String.reduceEq]; first | done | rfl | (simp (disch := omega) only [w_nat, w_add, w_addl, w_addr, w_sub, w_subl, w_mul, w_mull, w_mulr, w_u32, w_u16, w_u8, w_u32a, N_zero]; first | done | rfl | (simp only [push_cast, reduceIte, Nat.reduceEqDiff, Nat.reduceLT, Nat.reduceAdd, Nat.reduceSub, Nat.reduceMul, Nat.reduceLeDiff, Nat.reducePow, Int.reduceLT, Int.reduceToNat, reduceCtorEq, Int.reduceNeg, Int.reduceEq, Nat.reduceBEq, Nat.reduceBNe, Int.reduceBEq, Int.reduceBNe, String.reduceEq]; first | done | rfl))))
    (h : srun P ops rest (({ s with ob := s.ob ++ [Ob.row e 1 (List.replicate n (.val z))] } : AS).put o.dst (.own s.ob.length)) = p := by
        try simp only [push_cast, reduceIte, Nat.reduceEqDiff, Nat.reduceLT, Nat.reduceAdd, Nat.reduceSub, Nat.reduceMul, Nat.reduceLeDiff, Nat.reducePow, Int.reduceLT, Int.reduceToNat, reduceCtorEq, Int.reduceNeg, Int.reduceEq, Nat.reduceBEq, Nat.reduceBNe, Int.reduceBEq, Int.reduceBNe, String.reduceEq]
        try simp (disch := omega) only [w_nat, w_add, w_addl, w_addr, w_sub, w_subl, w_mul, w_mull, w_mulr, w_u32, w_u16, w_u8, w_u32a, N_zero]
        try simp only [push_cast, reduceIte, Nat.reduceEqDiff, Nat.reduceLT, Nat.reduceAdd, Nat.reduceSub, Nat.reduceMul, Nat.reduceLeDiff, Nat.reducePow, Int.reduceLT, Int.reduceToNat, reduceCtorEq, Int.reduceNeg, Int.reduceEq, Nat.reduceBEq, Nat.reduceBNe, Int.reduceBEq, Int.reduceBNe, String.reduceEq]
        rfl) : ARun2 P ops (o :: rest, s) Q :=
  ARun.exec hg (AOp.appendZeros ho hx hy hz he hzc hT2 h0 hn (of_decide_eq_true hb) (ARun.srun (h ▸ K)))
/-- the front of a row of the call's own -/
theorem AOp.frontOwn {T e : TypeId} {x hi : Operand} {k sz m : Nat} {xs : List AV} {kk : IntKind} (ho : o.op = .slice T x none (some hi) none) (hx : s.ev x = .own k) (hk : s.ob[k]? = some (.row e sz xs)) (hh : s.ev hi = .val (.int kk (N m)))
    (hz : elSz P T = some sz) (hm : m ≤ xs.length) (hid : AV.idsOkL (· != k) xs = true)
    (K : ARun P ops rest (({ s with ob := (s.ob.map (Ob.inval k)).set k (.row e sz (xs.take m)), fr := frInval k s.fr } : AS).put o.dst (.own k)) Q) : AOp P ops o rest s Q := by
  refine AOp.value (s' := { s with ob := (s.ob.map (Ob.inval k)).set k (.row e sz (xs.take m)), fr := frInval k s.fr }) (fun E ρ B a w hs => ?_) K
  obtain ⟨e', ti, zv, hu, hti, hsz, _⟩ := elSz_spec hz
  have hxr := hs.ev x
  rw [hx] at hxr
  have hhv := (hh ▸ hs.ev hi : Rel w B E.bs ρ (.val (.int kk (N m))) (a.eval hi)).val_eq
  generalize hq : a.eval x = u at hxr
  have hob := hs.rw_.obs k _ hk
  obtain ⟨h0, hob⟩ := hob
  have hkl := get_lt hk
  have hkr : k < ρ.length := by rw [hs.rw_.len]; exact hkl
  have hids : ∀ (i : Nat) (u' v' : Value), (i != k) = true → ρ[i]? = some u' → (ρ.set k v')[i]? = some u' := by
    intro i u' v' hi' hu'
    have hne : k ≠ i := by have : i ≠ k := by simpa using hi'
                           exact this.symm
    rw [List.getElem?_set_ne hne]; exact hu'
  have hidc : AV.idsOkL (· != k) ((xs.take m).flatMap AV.cells) = true := by
    rw [AV.idsOkL_iff] at hid ⊢
    intro c hc
    simp only [List.mem_flatMap] at hc
    obtain ⟨x', hx', hc⟩ := hc
    have := hid x' (List.mem_of_mem_take hx')
    rw [← AV.idsOkL_cells, AV.idsOkL_iff] at this
    exact this c hc
  have h0' : ∀ y ∈ xs.take m, y.cells.length = sz ∧ ∀ c ∈ y.cells, c.one = true := fun y hy => h0 y (List.mem_of_mem_take hy)
  cases hxr with
  | own hp h1 =>
    rcases hob with ⟨rfl, hr⟩ | ⟨b, cap, vs, ws, fz, r1, r2, r3, r4, r5, r6⟩
    · have hv : u = .slice none 0 0 := by rw [hr] at hp; exact (Option.some.inj hp).symm
      subst hv
      obtain rfl : m = 0 := by simpa using hm
      have hb := run_bounds (P := P) (w := w) (lo := none) (hi := some (.int kk (N 0))) (l := 0) (h := 0) (n := 0) (c := 0) true rfl rfl (Int.le_refl _) (Int.le_refl _) (Int.le_refl _) (Nat.le_refl _)
      refine ⟨.slice none 0 0, w, ρ.set k (.slice none 0 0), B, ?_, hs.regrow hk hp rfl rfl rfl rfl (Nat.le_refl _) (fun _ _ _ => rfl) (fun b hb => by simp [blk] at hb) ⟨by simp, .inl ⟨by simp, by rw [List.getElem?_set_self hkr]⟩⟩, .own (by rw [List.getElem?_set_self hkr]) rfl⟩
      simp only [execOp, ho]
      refine val_run ?_
      simp only [Instr.sliceAt, Sem.run_bind, run_underlying hu, Result.andThen_ok, Instr.slice, hq, hhv, Option.map_some, Option.map_none, hb, run_sizeOf hti, hsz, Sem.run_pure]
      simp
    · have hv : u = .slice (some ⟨b, 0, none⟩) xs.length cap := by rw [r1] at hp; exact (Option.some.inj hp).symm
      subst hv
      have hb := run_bounds (P := P) (w := w) (lo := none) (hi := some (.int kk (N m))) (l := 0) (h := N m) (n := xs.length) (c := cap) true rfl rfl (Int.le_refl _) (Int.natCast_nonneg m) (Int.ofNat_le.2 hm) r4
      have hvl : vs.length = xs.length * sz := by
        have := r6.length_eq
        rw [← this]
        exact flat_len fun y hy => (h0 y hy).1
      have htl : ((xs.take m).flatMap AV.cells).length = m * sz := by
        rw [flat_len (fun y hy => (h0' y hy).1), List.length_take, Nat.min_eq_left hm]
      have hle : m * sz ≤ xs.length * sz := Nat.mul_le_mul_right _ hm
      have hsplit : xs.flatMap AV.cells = (xs.take m).flatMap AV.cells ++ (xs.drop m).flatMap AV.cells := by
        rw [← List.flatMap_append, List.take_append_drop]
      have hrel := r6.take (m * sz)
      rw [hsplit, List.take_left' htl] at hrel
      refine ⟨.slice (some ⟨b, 0, none⟩) m cap, w, ρ.set k (.slice (some ⟨b, 0, none⟩) m cap), B, ?_, hs.regrow hk hp rfl rfl rfl rfl (Nat.le_refl _) (fun _ _ _ => rfl) (fun b' hb' => .inl hb')
        ⟨h0', .inr ⟨b, cap, vs.take (m * sz), vs.drop (m * sz) ++ ws, fz, ?_, ?_, ?_, ?_, ?_, hrel.ids (fun i u' hi' hu' => hids i u' _ hi' hu') hidc⟩⟩, .own (by rw [List.getElem?_set_self hkr]) rfl⟩
      · simp only [execOp, ho]
        refine val_run ?_
        simp only [Instr.sliceAt, Sem.run_bind, run_underlying hu, Result.andThen_ok, Instr.slice, hq, hhv, Option.map_some, Option.map_none, hb, run_sizeOf hti, hsz, Sem.run_pure]
        simp [N]
        intro _; rfl
      · rw [List.getElem?_set_self hkr, List.length_take, Nat.min_eq_left hm]
      · rw [← List.append_assoc, List.take_append_drop]; exact r2
      · rw [← List.append_assoc, List.take_append_drop]; exact r3
      · rw [List.length_take]; omega
      · rw [← List.append_assoc, List.take_append_drop]; exact r5
theorem ARun2.frontOwnM {T e : TypeId} {x hi : Operand} {k sz : Nat} {xs : List AV} {kk : IntKind} {p : List Oper × AS} (m : Nat) (hm : m ≤ xs.length) (K : ARun2 P ops p Q) (ho : o.op = .slice T x none (some hi) none := by rfl) (hg : gd ops s o = some true := by first | with_reducible rfl | (simp only [push_cast, reduceIte, Nat.reduceEqDiff, Nat.reduceLT, Nat.reduceAdd, Nat.reduceSub, Nat.reduceMul, Nat.reduceLeDiff, Nat.reducePow, Int.reduceLT, Int.reduceToNat, reduceCtorEq, Int.reduceNeg, Int.reduceEq, Nat.reduceBEq, Nat.reduceBNe, Int.reduceBEq, Int.reduceBNe, String.reduceEq]; first | done | rfl | (simp (disch := omega) only [w_nat, w_add, w_addl, w_addr, w_sub, w_subl, w_mul, w_mull, w_mulr, w_u32, w_u16, w_u8, w_u32a, N_zero]; first | done | rfl | (simp only [push_cast, reduceIte, Nat.reduceEqDiff, Nat.reduceLT, Nat.reduceAdd, Nat.reduceSub, Nat.reduceMul, Nat.reduceLeDiff, Nat.reducePow, Int.reduceLT, Int.reduceToNat, reduceCtorEq, Int.reduceNeg, Int.reduceEq, Nat.reduceBEq, Nat.reduceBNe, Int.reduceBEq, Int.reduceBNe, String.reduceEq]; first | done | rfl))))
    (hx : s.ev x = .own k := by first | with_reducible rfl | (simp only [push_cast, reduceIte, Nat.reduceEqDiff, Nat.reduceLT, Nat.reduceAdd, Nat.reduceSub, Nat.reduceMul, Nat.reduceLeDiff, Nat.reducePow, Int.reduceLT, Int.reduceToNat, reduceCtorEq, Int.reduceNeg, Int.reduceEq, Nat.reduceBEq, Nat.reduceBNe, Int.reduceBEq, Int.reduceBNe, String.reduceEq]; first | done | rfl | (simp (disch := omega) only [w_nat, w_add, w_addl, w_addr, w_sub, w_subl, w_mul, w_mull, w_mulr, w_u32, w_u16, w_u8, w_u32a, N_zero]; first | done | rfl | (simp only [push_cast, reduceIte, Nat.reduceEqDiff, Nat.reduceLT, Nat.reduceAdd, Nat.reduceSub, Nat.reduceMul, Nat.reduceLeDiff, Nat.reducePow, Int.reduceLT, Int.reduceToNat, reduceCtorEq, Int.reduceNeg, Int.reduceEq, Nat.reduceBEq, Nat.reduceBNe, Int.reduceBEq, Int.reduceBNe, String.reduceEq]; first | done | rfl)))) (hk : s.ob[k]? = some (.row e sz xs) := by first | with_reducible rfl | (simp only [push_cast, reduceIte, Nat.reduceEqDiff, Nat.reduceLT, Nat.reduceAdd, Nat.reduceSub, Nat.reduceMul, Nat.reduceLeDiff, Nat.reducePow, Int.reduceLT, Int.reduceToNat, reduceCtorEq, Int.reduceNeg, Int.reduceEq, Nat.reduceBEq, Nat.reduceBNe, Int.reduceBEq, Int.reduceBNe, String.reduceEq]; first | done | rfl | (simp (disch := omega) only [w_nat, w_add, w_addl, w_addr, w_sub, w_subl, w_mul, w_mull, w_mulr, w_u32, w_u16, w_u8, w_u32a, N_zero]; first | done | rfl | (simp only [push_cast, reduceIte, Nat.reduceEqDiff, Nat.reduceLT, Nat.reduceAdd, Nat.reduceSub, Nat.reduceMul, Nat.reduceLeDiff, Nat.reducePow, Int.reduceLT, Int.reduceToNat, reduceCtorEq, Int.reduceNeg, Int.reduceEq, Nat.reduceBEq, Nat.reduceBNe, Int.reduceBEq, Int.reduceBNe, String.reduceEq]; first | done | rfl)))) (hh : s.ev hi = .val (.int kk (N m)) := by first | with_reducible rfl | (simp only [push_cast, reduceIte, Nat.reduceEqDiff, Nat.reduceLT, Nat.reduceAdd, Nat.reduceSub, Nat.reduceMul, Nat.reduceLeDiff, Nat.reducePow, Int.reduceLT, Int.reduceToNat, reduceCtorEq, Int.reduceNeg, Int.reduceEq, Nat.reduceBEq, Nat.reduceBNe, Int.reduceBEq, Int.reduceBNe, String.reduceEq]; first | done | rfl | (simp (disch := omega) only [w_nat, w_add, w_addl, w_addr, w_sub, w_subl, w_mul, w_mull, w_mulr, w_u32, w_u16, w_u8, w_u32a, N_zero]; first | done | rfl | (simp only [push_cast, reduceIte, Nat.reduceEqDiff, Nat.reduceLT, Nat.reduceAdd, Nat.reduceSub, Nat.reduceMul, Nat.reduceLeDiff, Nat.reducePow, Int.reduceLT, Int.reduceToNat, reduceCtorEq, Int.reduceNeg, Int.reduceEq, Nat.reduceBEq, Nat.reduceBNe, Int.reduceBEq, Int.reduceBNe, String.reduceEq]; first | done | rfl)))) (hz : elSz P T = some sz := by first | with_reducible rfl | (simp only [push_cast, reduceIte, Nat.reduceEqDiff, Nat.reduceLT, Nat.reduceAdd, Nat.reduceSub, Nat.reduceMul, Nat.reduceLeDiff, Nat.reducePow, Int.reduceLT, Int.reduceToNat, reduceCtorEq, Int.reduceNeg, Int.reduceEq, Nat.reduceBEq, Nat.reduceBNe, Int.reduceBEq, Int.reduceBNe, String.reduceEq]; first | done | rfl | (simp (disch := omega) only [w_nat, w_add, w_addl, w_addr, w_sub, w_subl, w_mul, w_mull, w_mulr, w_u32, w_u16, w_u8, w_u32a, N_zero]; first | done | rfl | (simp only [push_cast, reduceIte, Nat.reduceEqDiff, Nat.reduceLT, Nat.reduceAdd, Nat.reduceSub, Nat.reduceMul, Nat.reduceLeDiff, Nat.reducePow, Int.reduceLT, Int.reduceToNat, reduceCtorEq, Int.reduceNeg, Int.reduceEq, Nat.reduceBEq, Nat.reduceBNe, Int.reduceBEq, Int.reduceBNe, String.reduceEq]; first | done | rfl)))) (hid : AV.idsOkL (· != k) xs = true := by first | with_reducible rfl | (simp only [push_cast, reduceIte, Nat.reduceEqDiff, Nat.reduceLT, Nat.reduceAdd, Nat.reduceSub, Nat.reduceMul, Nat.reduceLeDiff, Nat.reducePow, Int.reduceLT, Int.reduceToNat, reduceCtorEq, Int.reduceNeg, Int.reduceEq, Nat.reduceBEq, Nat.reduceBNe, Int.reduceBEq, Int.reduceBNe, String.reduceEq]; first | done | rfl | (simp (disch := omega) only [w_nat, w_add, w_addl, w_addr, w_sub, w_subl, w_mul, w_mull, w_mulr, w_u32, w_u16, w_u8, w_u32a, N_zero]; first | done | rfl | (simp only [push_cast, reduceIte, Nat.reduceEqDiff, Nat.reduceLT, Nat.reduceAdd, Nat.reduceSub, Nat.reduceMul, Nat.reduceLeDiff, Nat.reducePow, Int.reduceLT, Int.reduceToNat, reduceCtorEq, Int.reduceNeg, Int.reduceEq, Nat.reduceBEq, Nat.reduceBNe, Int.reduceBEq, Int.reduceBNe, String.reduceEq]; first | done | rfl))))
    (h : srun P ops rest (({ s with ob := (s.ob.map (Ob.inval k)).set k (.row e sz (xs.take m)), fr := frInval k s.fr } : AS).put o.dst (.own k)) = p := by
        try simp only [push_cast, reduceIte, Nat.reduceEqDiff, Nat.reduceLT, Nat.reduceAdd, Nat.reduceSub, Nat.reduceMul, Nat.reduceLeDiff, Nat.reducePow, Int.reduceLT, Int.reduceToNat, reduceCtorEq, Int.reduceNeg, Int.reduceEq, Nat.reduceBEq, Nat.reduceBNe, Int.reduceBEq, Int.reduceBNe, String.reduceEq]
        try simp (disch := omega) only [w_nat, w_add, w_addl, w_addr, w_sub, w_subl, w_mul, w_mull, w_mulr, w_u32, w_u16, w_u8, w_u32a, N_zero]
        try simp only [push_cast, reduceIte, Nat.reduceEqDiff, Nat.reduceLT, Nat.reduceAdd, Nat.reduceSub, Nat.reduceMul, Nat.reduceLeDiff, Nat.reducePow, Int.reduceLT, Int.reduceToNat, reduceCtorEq, Int.reduceNeg, Int.reduceEq, Nat.reduceBEq, Nat.reduceBNe, Int.reduceBEq, Int.reduceBNe, String.reduceEq]
        rfl) : ARun2 P ops (o :: rest, s) Q :=
  ARun.exec hg (AOp.frontOwn ho hx hk hh hz hm hid (ARun.srun (h ▸ K)))
/-- the front of nil -/
theorem ARun2.frontNilM {T : TypeId} {x hi : Operand} {kk : IntKind} {p : List Oper × AS} (K : ARun2 P ops p Q) (ho : o.op = .slice T x none (some hi) none := by rfl) (hg : gd ops s o = some true := by first | with_reducible rfl | (simp only [push_cast, reduceIte, Nat.reduceEqDiff, Nat.reduceLT, Nat.reduceAdd, Nat.reduceSub, Nat.reduceMul, Nat.reduceLeDiff, Nat.reducePow, Int.reduceLT, Int.reduceToNat, reduceCtorEq, Int.reduceNeg, Int.reduceEq, Nat.reduceBEq, Nat.reduceBNe, Int.reduceBEq, Int.reduceBNe, String.reduceEq]; first | done | rfl | (simp (disch := omega) only [w_nat, w_add, w_addl, w_addr, w_sub, w_subl, w_mul, w_mull, w_mulr, w_u32, w_u16, w_u8, w_u32a, N_zero]; first | done | rfl | (simp only [push_cast, reduceIte, Nat.reduceEqDiff, Nat.reduceLT, Nat.reduceAdd, Nat.reduceSub, Nat.reduceMul, Nat.reduceLeDiff, Nat.reducePow, Int.reduceLT, Int.reduceToNat, reduceCtorEq, Int.reduceNeg, Int.reduceEq, Nat.reduceBEq, Nat.reduceBNe, Int.reduceBEq, Int.reduceBNe, String.reduceEq]; first | done | rfl))))
    (hx : s.ev x = .val (.slice none 0 0) := by first | with_reducible rfl | (simp only [push_cast, reduceIte, Nat.reduceEqDiff, Nat.reduceLT, Nat.reduceAdd, Nat.reduceSub, Nat.reduceMul, Nat.reduceLeDiff, Nat.reducePow, Int.reduceLT, Int.reduceToNat, reduceCtorEq, Int.reduceNeg, Int.reduceEq, Nat.reduceBEq, Nat.reduceBNe, Int.reduceBEq, Int.reduceBNe, String.reduceEq]; first | done | rfl | (simp (disch := omega) only [w_nat, w_add, w_addl, w_addr, w_sub, w_subl, w_mul, w_mull, w_mulr, w_u32, w_u16, w_u8, w_u32a, N_zero]; first | done | rfl | (simp only [push_cast, reduceIte, Nat.reduceEqDiff, Nat.reduceLT, Nat.reduceAdd, Nat.reduceSub, Nat.reduceMul, Nat.reduceLeDiff, Nat.reducePow, Int.reduceLT, Int.reduceToNat, reduceCtorEq, Int.reduceNeg, Int.reduceEq, Nat.reduceBEq, Nat.reduceBNe, Int.reduceBEq, Int.reduceBNe, String.reduceEq]; first | done | rfl)))) (hh : s.ev hi = .val (.int kk 0) := by first | with_reducible rfl | (simp only [push_cast, reduceIte, Nat.reduceEqDiff, Nat.reduceLT, Nat.reduceAdd, Nat.reduceSub, Nat.reduceMul, Nat.reduceLeDiff, Nat.reducePow, Int.reduceLT, Int.reduceToNat, reduceCtorEq, Int.reduceNeg, Int.reduceEq, Nat.reduceBEq, Nat.reduceBNe, Int.reduceBEq, Int.reduceBNe, String.reduceEq]; first | done | rfl | (simp (disch := omega) only [w_nat, w_add, w_addl, w_addr, w_sub, w_subl, w_mul, w_mull, w_mulr, w_u32, w_u16, w_u8, w_u32a, N_zero]; first | done | rfl | (simp only [push_cast, reduceIte, Nat.reduceEqDiff, Nat.reduceLT, Nat.reduceAdd, Nat.reduceSub, Nat.reduceMul, Nat.reduceLeDiff, Nat.reducePow, Int.reduceLT, Int.reduceToNat, reduceCtorEq, Int.reduceNeg, Int.reduceEq, Nat.reduceBEq, Nat.reduceBNe, Int.reduceBEq, Int.reduceBNe, String.reduceEq]; first | done | rfl)))) (hz : (elSz P T).isSome = true := by first | with_reducible rfl | (simp only [push_cast, reduceIte, Nat.reduceEqDiff, Nat.reduceLT, Nat.reduceAdd, Nat.reduceSub, Nat.reduceMul, Nat.reduceLeDiff, Nat.reducePow, Int.reduceLT, Int.reduceToNat, reduceCtorEq, Int.reduceNeg, Int.reduceEq, Nat.reduceBEq, Nat.reduceBNe, Int.reduceBEq, Int.reduceBNe, String.reduceEq]; first | done | rfl | (simp (disch := omega) only [w_nat, w_add, w_addl, w_addr, w_sub, w_subl, w_mul, w_mull, w_mulr, w_u32, w_u16, w_u8, w_u32a, N_zero]; first | done | rfl | (simp only [push_cast, reduceIte, Nat.reduceEqDiff, Nat.reduceLT, Nat.reduceAdd, Nat.reduceSub, Nat.reduceMul, Nat.reduceLeDiff, Nat.reducePow, Int.reduceLT, Int.reduceToNat, reduceCtorEq, Int.reduceNeg, Int.reduceEq, Nat.reduceBEq, Nat.reduceBNe, Int.reduceBEq, Int.reduceBNe, String.reduceEq]; first | done | rfl))))
    (h : srun P ops rest (s.put o.dst (.val (.slice none 0 0))) = p := by
        try simp only [push_cast, reduceIte, Nat.reduceEqDiff, Nat.reduceLT, Nat.reduceAdd, Nat.reduceSub, Nat.reduceMul, Nat.reduceLeDiff, Nat.reducePow, Int.reduceLT, Int.reduceToNat, reduceCtorEq, Int.reduceNeg, Int.reduceEq, Nat.reduceBEq, Nat.reduceBNe, Int.reduceBEq, Int.reduceBNe, String.reduceEq]
        try simp (disch := omega) only [w_nat, w_add, w_addl, w_addr, w_sub, w_subl, w_mul, w_mull, w_mulr, w_u32, w_u16, w_u8, w_u32a, N_zero]
        try simp only [push_cast, reduceIte, Nat.reduceEqDiff, Nat.reduceLT, Nat.reduceAdd, Nat.reduceSub, Nat.reduceMul, Nat.reduceLeDiff, Nat.reducePow, Int.reduceLT, Int.reduceToNat, reduceCtorEq, Int.reduceNeg, Int.reduceEq, Nat.reduceBEq, Nat.reduceBNe, Int.reduceBEq, Int.reduceBNe, String.reduceEq]
        rfl) : ARun2 P ops (o :: rest, s) Q := by
  refine ARun.exec hg (AOp.pure1 (fun E ρ B a w hs => ?_) (ARun.srun (h ▸ K)))
  obtain ⟨sz, hz⟩ := Option.isSome_iff_exists.1 hz
  obtain ⟨e', ti, zv, hu, hti, hsz, _⟩ := elSz_spec hz
  have hxv := (hx ▸ hs.ev x : Rel w B E.bs ρ (.val (.slice none 0 0)) (a.eval x)).val_eq
  have hhv := (hh ▸ hs.ev hi : Rel w B E.bs ρ (.val (.int kk 0)) (a.eval hi)).val_eq
  have hb := run_bounds (P := P) (w := w) (lo := none) (hi := some (.int kk 0)) (l := 0) (h := 0) (n := 0) (c := 0) true rfl rfl (Int.le_refl _) (Int.le_refl _) (Int.le_refl _) (Nat.le_refl _)
  refine ⟨.slice none 0 0, ?_, .val _⟩
  simp only [execOp, ho]
  refine val_run ?_
  simp only [Instr.sliceAt, Sem.run_bind, run_underlying hu, Result.andThen_ok, Instr.slice, hxv, hhv, Option.map_some, Option.map_none, hb, run_sizeOf hti, hsz, Sem.run_pure]
  simp
/-- the capacity of nil -/
theorem ARun2.capNilM {T : TypeId} {x : Operand} {p : List Oper × AS} (K : ARun2 P ops p Q) (ho : o.op = .call { callee := .builtin .cap, args := #[x], argTypes := #[T] } := by rfl) (hg : gd ops s o = some true := by first | with_reducible rfl | (simp only [push_cast, reduceIte, Nat.reduceEqDiff, Nat.reduceLT, Nat.reduceAdd, Nat.reduceSub, Nat.reduceMul, Nat.reduceLeDiff, Nat.reducePow, Int.reduceLT, Int.reduceToNat, reduceCtorEq, Int.reduceNeg, Int.reduceEq, Nat.reduceBEq, Nat.reduceBNe, Int.reduceBEq, Int.reduceBNe, String.reduceEq]; first | done | rfl | (simp (disch := omega) only [w_nat, w_add, w_addl, w_addr, w_sub, w_subl, w_mul, w_mull, w_mulr, w_u32, w_u16, w_u8, w_u32a, N_zero]; first | done | rfl | (simp only [push_cast, reduceIte, Nat.reduceEqDiff, Nat.reduceLT, Nat.reduceAdd, Nat.reduceSub, Nat.reduceMul, Nat.reduceLeDiff, Nat.reducePow, Int.reduceLT, Int.reduceToNat, reduceCtorEq, Int.reduceNeg, Int.reduceEq, Nat.reduceBEq, Nat.reduceBNe, Int.reduceBEq, Int.reduceBNe, String.reduceEq]; first | done | rfl))))
    (hx : s.ev x = .val (.slice none 0 0) := by first | with_reducible rfl | (simp only [push_cast, reduceIte, Nat.reduceEqDiff, Nat.reduceLT, Nat.reduceAdd, Nat.reduceSub, Nat.reduceMul, Nat.reduceLeDiff, Nat.reducePow, Int.reduceLT, Int.reduceToNat, reduceCtorEq, Int.reduceNeg, Int.reduceEq, Nat.reduceBEq, Nat.reduceBNe, Int.reduceBEq, Int.reduceBNe, String.reduceEq]; first | done | rfl | (simp (disch := omega) only [w_nat, w_add, w_addl, w_addr, w_sub, w_subl, w_mul, w_mull, w_mulr, w_u32, w_u16, w_u8, w_u32a, N_zero]; first | done | rfl | (simp only [push_cast, reduceIte, Nat.reduceEqDiff, Nat.reduceLT, Nat.reduceAdd, Nat.reduceSub, Nat.reduceMul, Nat.reduceLeDiff, Nat.reducePow, Int.reduceLT, Int.reduceToNat, reduceCtorEq, Int.reduceNeg, Int.reduceEq, Nat.reduceBEq, Nat.reduceBNe, Int.reduceBEq, Int.reduceBNe, String.reduceEq]; first | done | rfl)))) (hz : (elSz P T).isSome = true := by first | with_reducible rfl | (simp only [push_cast, reduceIte, Nat.reduceEqDiff, Nat.reduceLT, Nat.reduceAdd, Nat.reduceSub, Nat.reduceMul, Nat.reduceLeDiff, Nat.reducePow, Int.reduceLT, Int.reduceToNat, reduceCtorEq, Int.reduceNeg, Int.reduceEq, Nat.reduceBEq, Nat.reduceBNe, Int.reduceBEq, Int.reduceBNe, String.reduceEq]; first | done | rfl | (simp (disch := omega) only [w_nat, w_add, w_addl, w_addr, w_sub, w_subl, w_mul, w_mull, w_mulr, w_u32, w_u16, w_u8, w_u32a, N_zero]; first | done | rfl | (simp only [push_cast, reduceIte, Nat.reduceEqDiff, Nat.reduceLT, Nat.reduceAdd, Nat.reduceSub, Nat.reduceMul, Nat.reduceLeDiff, Nat.reducePow, Int.reduceLT, Int.reduceToNat, reduceCtorEq, Int.reduceNeg, Int.reduceEq, Nat.reduceBEq, Nat.reduceBNe, Int.reduceBEq, Int.reduceBNe, String.reduceEq]; first | done | rfl))))
    (h : srun P ops rest (s.put o.dst (.val (.int .i64 0))) = p := by
        try simp only [push_cast, reduceIte, Nat.reduceEqDiff, Nat.reduceLT, Nat.reduceAdd, Nat.reduceSub, Nat.reduceMul, Nat.reduceLeDiff, Nat.reducePow, Int.reduceLT, Int.reduceToNat, reduceCtorEq, Int.reduceNeg, Int.reduceEq, Nat.reduceBEq, Nat.reduceBNe, Int.reduceBEq, Int.reduceBNe, String.reduceEq]
        try simp (disch := omega) only [w_nat, w_add, w_addl, w_addr, w_sub, w_subl, w_mul, w_mull, w_mulr, w_u32, w_u16, w_u8, w_u32a, N_zero]
        try simp only [push_cast, reduceIte, Nat.reduceEqDiff, Nat.reduceLT, Nat.reduceAdd, Nat.reduceSub, Nat.reduceMul, Nat.reduceLeDiff, Nat.reducePow, Int.reduceLT, Int.reduceToNat, reduceCtorEq, Int.reduceNeg, Int.reduceEq, Nat.reduceBEq, Nat.reduceBNe, Int.reduceBEq, Int.reduceBNe, String.reduceEq]
        rfl) : ARun2 P ops (o :: rest, s) Q := by
  refine ARun.exec hg (AOp.pure1 (fun E ρ B a w hs => ?_) (ARun.srun (h ▸ K)))
  obtain ⟨sz, hz⟩ := Option.isSome_iff_exists.1 hz
  obtain ⟨e', ti, zv, hu, hti, hsz, _⟩ := elSz_spec hz
  have hxv := (hx ▸ hs.ev x : Rel w B E.bs ρ (.val (.slice none 0 0)) (a.eval x)).val_eq
  refine ⟨.int .i64 0, ?_, .val _⟩
  simp [execOp, ho, resolve, invoke, builtin, hxv, Builtin.cap_, run_underlying hu, goInt]
/-! ### a body with objects whose result keeps what is new in it -/
def Ho (ids : List Nat) (x y : AV) : Prop := ∀ (w : World) (B : Nat → Prop) (bs : Nat) (ρ σ : List Value) (v : Value), (∀ i k : Nat, ids[i]? = some k → σ[i]? = ρ[k]?) → Rel w B bs ρ x v → Rel w B bs σ y v
def HoL (ids : List Nat) (xs ys : List AV) : Prop := ∀ (w : World) (B : Nat → Prop) (bs : Nat) (ρ σ : List Value) (vs : List Value), (∀ i k : Nat, ids[i]? = some k → σ[i]? = ρ[k]?) → RelL w B bs ρ xs vs → RelL w B bs σ ys vs
theorem Ho.hand {ids : List Nat} {x y : AV} (h : Hand ids x y) : Ho ids x y := fun w B bs ρ σ v hi hr => h w B bs bs ρ σ v (Nat.le_refl _) hi hr
theorem Ho.eq {ids : List Nat} {x y : AV} (h : x = y) (hp : x.idsOk (fun _ => false) = true) : Ho ids x y := by
  subst h
  exact fun w B bs ρ σ v hi hr => hr.ids (p := fun _ => false) (by intro _ _ h; simp at h) hp
theorem HoL.nil {ids : List Nat} : HoL ids [] [] := fun _ _ _ _ _ _ _ h => by cases h; exact .nil
theorem HoL.cons {ids : List Nat} {x y : AV} {xs ys : List AV} (h : Ho ids x y) (h2 : HoL ids xs ys) : HoL ids (x :: xs) (y :: ys) := by
  intro w B bs ρ σ v hi hr; cases hr with | cons a b => exact .cons (h _ _ _ _ _ _ hi a) (h2 _ _ _ _ _ _ hi b)
theorem Ho.agg {ids : List Nat} {xs ys : List AV} (h : HoL ids xs ys) : Ho ids (.agg xs) (.agg ys) := by
  intro w B bs ρ σ v hi hr; cases hr with | agg a => exact .agg (h _ _ _ _ _ _ hi a)
theorem Ho.tup {ids : List Nat} {xs ys : List AV} (h : HoL ids xs ys) : Ho ids (.tup xs) (.tup ys) := by
  intro w B bs ρ σ v hi hr; cases hr with | tup a => exact .tup (h _ _ _ _ _ _ hi a)
theorem Ho.nilS {ids : List Nat} {nw : Bool} {sz : Nat} : Ho ids (.val (.slice none 0 0)) (.sl nw sz []) := by
  intro w B bs ρ σ v _ h; cases h; exact .slE _ _ _ _
theorem Ho.go {ids : List Nat} {x y : AV} (h : Ho ids x y := by
      try simp only [push_cast, reduceIte, Nat.reduceEqDiff, Nat.reduceLT, Nat.reduceAdd, Nat.reduceSub, Nat.reduceMul, Nat.reduceLeDiff, Nat.reducePow, Int.reduceLT, Int.reduceToNat, reduceCtorEq, Int.reduceNeg, Int.reduceEq, Nat.reduceBEq, Nat.reduceBNe, Int.reduceBEq, Int.reduceBNe, String.reduceEq]
      try simp (disch := omega) only [w_nat, w_add, w_addl, w_addr, w_sub, w_subl, w_mul, w_mull, w_mulr, w_u32, w_u16, w_u8, w_u32a, N_zero]
      repeat' (first | assumption | exact HoL.nil | exact Ho.nilS | exact Ho.eq (by first | with_reducible rfl | (simp only [push_cast, reduceIte, Nat.reduceEqDiff, Nat.reduceLT, Nat.reduceAdd, Nat.reduceSub, Nat.reduceMul, Nat.reduceLeDiff, Nat.reducePow, Int.reduceLT, Int.reduceToNat, reduceCtorEq, Int.reduceNeg, Int.reduceEq, Nat.reduceBEq, Nat.reduceBNe, Int.reduceBEq, Int.reduceBNe, String.reduceEq]; first | done | rfl | (simp (disch := omega) only [w_nat, w_add, w_addl, w_addr, w_sub, w_subl, w_mul, w_mull, w_mulr, w_u32, w_u16, w_u8, w_u32a, N_zero]; first | done | rfl | (simp only [push_cast, reduceIte, Nat.reduceEqDiff, Nat.reduceLT, Nat.reduceAdd, Nat.reduceSub, Nat.reduceMul, Nat.reduceLeDiff, Nat.reducePow, Int.reduceLT, Int.reduceToNat, reduceCtorEq, Int.reduceNeg, Int.reduceEq, Nat.reduceBEq, Nat.reduceBNe, Int.reduceBEq, Int.reduceBNe, String.reduceEq]; first | done | rfl)))) (by first | with_reducible rfl | (simp only [push_cast, reduceIte, Nat.reduceEqDiff, Nat.reduceLT, Nat.reduceAdd, Nat.reduceSub, Nat.reduceMul, Nat.reduceLeDiff, Nat.reducePow, Int.reduceLT, Int.reduceToNat, reduceCtorEq, Int.reduceNeg, Int.reduceEq, Nat.reduceBEq, Nat.reduceBNe, Int.reduceBEq, Int.reduceBNe, String.reduceEq]; first | done | rfl | (simp (disch := omega) only [w_nat, w_add, w_addl, w_addr, w_sub, w_subl, w_mul, w_mull, w_mulr, w_u32, w_u16, w_u8, w_u32a, N_zero]; first | done | rfl | (simp only [push_cast, reduceIte, Nat.reduceEqDiff, Nat.reduceLT, Nat.reduceAdd, Nat.reduceSub, Nat.reduceMul, Nat.reduceLeDiff, Nat.reducePow, Int.reduceLT, Int.reduceToNat, reduceCtorEq, Int.reduceNeg, Int.reduceEq, Nat.reduceBEq, Nat.reduceBNe, Int.reduceBEq, Int.reduceBNe, String.reduceEq]; first | done | rfl)))) | exact Ho.hand (Hand.eq (by first | with_reducible rfl | (simp only [push_cast, reduceIte, Nat.reduceEqDiff, Nat.reduceLT, Nat.reduceAdd, Nat.reduceSub, Nat.reduceMul, Nat.reduceLeDiff, Nat.reducePow, Int.reduceLT, Int.reduceToNat, reduceCtorEq, Int.reduceNeg, Int.reduceEq, Nat.reduceBEq, Nat.reduceBNe, Int.reduceBEq, Int.reduceBNe, String.reduceEq]; first | done | rfl | (simp (disch := omega) only [w_nat, w_add, w_addl, w_addr, w_sub, w_subl, w_mul, w_mull, w_mulr, w_u32, w_u16, w_u8, w_u32a, N_zero]; first | done | rfl | (simp only [push_cast, reduceIte, Nat.reduceEqDiff, Nat.reduceLT, Nat.reduceAdd, Nat.reduceSub, Nat.reduceMul, Nat.reduceLeDiff, Nat.reducePow, Int.reduceLT, Int.reduceToNat, reduceCtorEq, Int.reduceNeg, Int.reduceEq, Nat.reduceBEq, Nat.reduceBNe, Int.reduceBEq, Int.reduceBNe, String.reduceEq]; first | done | rfl)))) (by first | with_reducible rfl | (simp only [push_cast, reduceIte, Nat.reduceEqDiff, Nat.reduceLT, Nat.reduceAdd, Nat.reduceSub, Nat.reduceMul, Nat.reduceLeDiff, Nat.reducePow, Int.reduceLT, Int.reduceToNat, reduceCtorEq, Int.reduceNeg, Int.reduceEq, Nat.reduceBEq, Nat.reduceBNe, Int.reduceBEq, Int.reduceBNe, String.reduceEq]; first | done | rfl | (simp (disch := omega) only [w_nat, w_add, w_addl, w_addr, w_sub, w_subl, w_mul, w_mull, w_mulr, w_u32, w_u16, w_u8, w_u32a, N_zero]; first | done | rfl | (simp only [push_cast, reduceIte, Nat.reduceEqDiff, Nat.reduceLT, Nat.reduceAdd, Nat.reduceSub, Nat.reduceMul, Nat.reduceLeDiff, Nat.reducePow, Int.reduceLT, Int.reduceToNat, reduceCtorEq, Int.reduceNeg, Int.reduceEq, Nat.reduceBEq, Nat.reduceBNe, Int.reduceBEq, Int.reduceBNe, String.reduceEq]; first | done | rfl))))) | refine HoL.cons ?_ ?_ | refine Ho.agg ?_ | refine Ho.tup ?_)) : Ho ids x y := h
def endK (ids : List Nat) (r0 : AV) (τ' : List Ob) (r : AV) (s : AS) : Prop := ids.Nodup ∧ SubOL ids s.ob ids τ' ∧ Ho ids r r0
theorem endK.m {ids : List Nat} {r0 r : AV} {τ' τ : List Ob} (hτ : τ = τ') (hr : Ho ids r r0) (hn : ids.Nodup := by first | rfl | decide) (hok : handObsOk ids s.ob ids = true := by first | with_reducible rfl | (simp only [push_cast, reduceIte, Nat.reduceEqDiff, Nat.reduceLT, Nat.reduceAdd, Nat.reduceSub, Nat.reduceMul, Nat.reduceLeDiff, Nat.reducePow, Int.reduceLT, Int.reduceToNat, reduceCtorEq, Int.reduceNeg, Int.reduceEq, Nat.reduceBEq, Nat.reduceBNe, Int.reduceBEq, Int.reduceBNe, String.reduceEq]; first | done | rfl | (simp (disch := omega) only [w_nat, w_add, w_addl, w_addr, w_sub, w_subl, w_mul, w_mull, w_mulr, w_u32, w_u16, w_u8, w_u32a, N_zero]; first | done | rfl | (simp only [push_cast, reduceIte, Nat.reduceEqDiff, Nat.reduceLT, Nat.reduceAdd, Nat.reduceSub, Nat.reduceMul, Nat.reduceLeDiff, Nat.reducePow, Int.reduceLT, Int.reduceToNat, reduceCtorEq, Int.reduceNeg, Int.reduceEq, Nat.reduceBEq, Nat.reduceBNe, Int.reduceBEq, Int.reduceBNe, String.reduceEq]; first | done | rfl)))) (hh : handObs ids s.ob ids = τ := by
        try simp only [push_cast, reduceIte, Nat.reduceEqDiff, Nat.reduceLT, Nat.reduceAdd, Nat.reduceSub, Nat.reduceMul, Nat.reduceLeDiff, Nat.reducePow, Int.reduceLT, Int.reduceToNat, reduceCtorEq, Int.reduceNeg, Int.reduceEq, Nat.reduceBEq, Nat.reduceBNe, Int.reduceBEq, Int.reduceBNe, String.reduceEq]
        try simp (disch := omega) only [w_nat, w_add, w_addl, w_addr, w_sub, w_subl, w_mul, w_mull, w_mulr, w_u32, w_u16, w_u8, w_u32a, N_zero]
        try simp only [push_cast, reduceIte, Nat.reduceEqDiff, Nat.reduceLT, Nat.reduceAdd, Nat.reduceSub, Nat.reduceMul, Nat.reduceLeDiff, Nat.reducePow, Int.reduceLT, Int.reduceToNat, reduceCtorEq, Int.reduceNeg, Int.reduceEq, Nat.reduceBEq, Nat.reduceBNe, Int.reduceBEq, Int.reduceBNe, String.reduceEq]
        rfl) : endK ids r0 τ' r s :=
  ⟨hn, (hh.trans hτ) ▸ SubOL.hand hok, hr⟩
theorem OC.of_bodyK {f : FuncId} {fn : Func} {c : Code} {args : List AV} {τ τ' : List Ob} {r0 : AV} (ids : List Nat) (h0 : ∀ k, k < τ.length → ids[k]? = some k) (hf : P.funcs[f]? = some fn) (hb : fn.body = some c) (hn : args.length ≤ fn.ntmps)
    (h : AWp P c { n := fn.ntmps, m := τ.length, fr := frOf 0 args, ob := τ } (bodyQ P fn (endK ids r0 τ'))) : OC P f args τ r0 τ' := by
  intro ep w ρ B vs hg hw hr R' hR'
  have hs := RS.init (n := fn.ntmps) hw hr (by rw [← hr.length_eq]; exact hn)
  refine calls_body (E0.ok ep w B ρ P hg) rfl hf hb (by simpa using hs) h ?_
  rintro r v s' ρ' B' a' w' ⟨e1, e2, e3⟩ hs' hv
  refine hR' r0 v τ' (pick ρ' ids) B' w' ⟨rfl, rfl⟩ (hs'.rw_.sel e1 e2 (fun k hk => h0 k (by simpa [hw.len] using hk))) ?_
  exact e3 _ _ _ _ _ _ (fun i k hi => pick_at hs'.rw_ e2 hi) hv
/-! ### code with labels that nothing jumps to -/
theorem stepR_scope {b : Frame} {a : Act} {k : List Item} {cs : List Frame} {w : World} {c : Code} : step P (lone (b.atR a (.code (.scope c) :: k)) cs w) = .next (lone (b.atR a (.code c :: .inScope c :: k)) cs w) :=
  step_lone_go (by simp [stepG, stepG.exec, Frame.atR])
theorem stepR_inScope {b : Frame} {a : Act} {k : List Item} {cs : List Frame} {w : World} {c : Code} : step P (lone (b.atR a (.inScope c :: k)) cs w) = .next (lone (b.atR a k) cs w) :=
  step_lone_go (by simp [stepG, stepG.exec, Frame.atR])
theorem wpIn_scope {F : Fence} {n : Nat} {c : Code} {Q : Exit → Act → World → Prop} {a : Act} {w : World} (hg : ∀ l a w, ¬ Q (.goto l) a w) (h : c.wpIn F n P Q a w) : (Code.scope c).wpIn F n P Q a w := by
  intro b k cs hro hb hr
  have h0 : (lone (b.atR a (.code (.scope c) :: k)) cs w).fenced P F := fenced_calm hb hr rfl
  obtain ⟨e, a₁, w₁, hq, harr⟩ := h b (.inScope c :: k) cs hro hb hr
  cases e with
  | normal => exact ⟨.normal, a₁, w₁, hq, .head h0 stepR_scope (StepsIn.trans harr (.one (fenced_calm hb hr rfl) stepR_inScope))⟩
  | exit id =>
    have hx : exitTo id (.inScope c :: k) = exitTo id k := by simp [exitTo]
    exact ⟨.exit id, a₁, w₁, hq, fun k' hk => .head h0 stepR_scope (harr.1 k' (by rw [hx]; exact hk)),
      fun hr' hk => let ⟨k₁, h1, h2⟩ := harr.2 hr' (by rw [hx]; exact hk); ⟨k₁, h1, .head h0 stepR_scope h2⟩⟩
  | goto l => exact absurd hq (hg _ _ _)
  | ret => exact ⟨_, a₁, w₁, hq, .of_steps (.one h0 stepR_scope) harr⟩
  | panic ch => exact ⟨_, a₁, w₁, hq, .of_steps (.one h0 stepR_scope) harr⟩
  | outgrown => exact ⟨_, a₁, w₁, hq, .of_steps (.one h0 stepR_scope) harr⟩
theorem AWp.scope {c : Code} (h : AWp P c s (noGo R)) : AWp P (.scope c) s R := by
  intro E hE ρ B a w hs Q' hQ
  have := h E hE ρ B a w hs (fun e a w => (∀ l, e ≠ .goto l) ∧ Q' e a w) fun e s' ρ' B' a' w' hq hs' => by
    cases e with
    | goto l => exact hq.elim
    | _ => exact ⟨(by rintro l ⟨⟩), hQ _ _ _ _ _ _ hq hs'⟩
  exact wpIn_mono (wpIn_scope (fun l a w hq => hq.1 l rfl) this) fun e a w hq => hq.2
end
end Go.Abs
/- From a row that a call makes to what it answers; nil as an empty slice. No condition. -/
namespace Go.Abs
set_option linter.unusedVariables false
set_option linter.unusedSectionVars false
set_option linter.unusedSimpArgs false
set_option linter.unnecessarySimpa false
section
variable {P : Program} {ops : Array Oper} {E : Env} {s s' : AS} {ρ σ : List Value} {B : Nat → Prop} {a : Act} {w w' : World} {o : Oper} {rest : List Oper} {Q : AS → Prop} {R : Exit → AS → Prop}
/-- a row that is made and handed back, as a slice that is read -/
theorem PC.of_own {f : FuncId} {ys : List AV} {e : TypeId} {sz : Nat} {xs : List AV} (h : OC P f ys [] (.own 0) [.row e sz xs]) (hx : AV.idsOkL (fun _ => false) xs = true := by simp only [push_cast]) : PC P f ys (.sl true sz xs) := by
  refine ⟨by simpa [AV.idsOk] using hx, fun ep w ρ B vs hg hw hr R' hR' => ?_⟩
  refine h ep w ρ B vs hg hw hr R' ?_
  rintro r v τ' ρ' B' w' ⟨rfl, rfl⟩ hw' hv
  have hρ : ρ = [] := by have := hw.len; simpa using this
  subst hρ
  obtain ⟨B2, u, k1, k2, k3, k4, _⟩ := hw'.publish (k := 0) rfl (Nat.zero_le _)
  have hu : u = v := by
    cases hv with
    | own hp _ => rw [k2] at hp; exact Option.some.inj hp
  subst hu
  have hc := k3.cut (n := 0) (by simp) (by intro k o h; simp at h)
  refine hR' _ u [] [] B2 w' ⟨rfl, rfl⟩ (by simpa using hc) (k4.ids (p := fun _ => false) (by intro _ _ h; simp at h) (by simpa [AV.idsOk] using hx))
theorem Le.nilSl (t : Nat) (nw : Bool) (sz : Nat) (h : lk s.fr t = .val (.slice none 0 0)) : Le s { s with fr := (t, .sl nw sz []) :: del s.fr t } := by
  intro E ρ B a w hs
  refine ⟨ρ, B, hs.rw_, hs.m, hs.n, hs.df, hs.jj, ?_⟩
  intro u x hm
  rcases List.mem_cons.1 hm with e | hm
  · have e1 : u = t := congrArg Prod.fst e
    have e2 : x = .sl nw sz [] := congrArg Prod.snd e
    subst e1; subst e2
    have hg := hs.get u
    rw [h] at hg
    refine ⟨?_, ?_⟩
    · rcases lk_mem h with hx | hx
      · cases hx
      · exact (hs.rf u _ hx).1
    · rw [hg.val_eq]; exact .slE _ _ _ _
  · exact hs.rf u x (del_mem hm).1
/-- a slot that holds nil, as an empty slice -/
theorem AWp.nilSl {c : Code} (t : Nat) (nw : Bool) (sz : Nat) {s' : AS} (K : AWp P c s' R) (h : lk s.fr t = .val (.slice none 0 0) := by first | with_reducible rfl | (simp only [push_cast, reduceIte, Nat.reduceEqDiff, Nat.reduceLT, Nat.reduceAdd, Nat.reduceSub, Nat.reduceMul, Nat.reduceLeDiff, Nat.reducePow, Int.reduceLT, Int.reduceToNat, reduceCtorEq, Int.reduceNeg, Int.reduceEq, Nat.reduceBEq, Nat.reduceBNe, Int.reduceBEq, Int.reduceBNe, String.reduceEq]; first | done | rfl | (simp (disch := omega) only [w_nat, w_add, w_addl, w_addr, w_sub, w_subl, w_mul, w_mull, w_mulr, w_u32, w_u16, w_u8, w_u32a, N_zero]; first | done | rfl | (simp only [push_cast, reduceIte, Nat.reduceEqDiff, Nat.reduceLT, Nat.reduceAdd, Nat.reduceSub, Nat.reduceMul, Nat.reduceLeDiff, Nat.reducePow, Int.reduceLT, Int.reduceToNat, reduceCtorEq, Int.reduceNeg, Int.reduceEq, Nat.reduceBEq, Nat.reduceBNe, Int.reduceBEq, Int.reduceBNe, String.reduceEq]; first | done | rfl)))) (hs' : { s with fr := (t, .sl nw sz []) :: del s.fr t } = s' := by
        try simp only [push_cast, reduceIte, Nat.reduceEqDiff, Nat.reduceLT, Nat.reduceAdd, Nat.reduceSub, Nat.reduceMul, Nat.reduceLeDiff, Nat.reducePow, Int.reduceLT, Int.reduceToNat, reduceCtorEq, Int.reduceNeg, Int.reduceEq, Nat.reduceBEq, Nat.reduceBNe, Int.reduceBEq, Int.reduceBNe, String.reduceEq]
        try simp (disch := omega) only [w_nat, w_add, w_addl, w_addr, w_sub, w_subl, w_mul, w_mull, w_mulr, w_u32, w_u16, w_u8, w_u32a, N_zero]
        try simp only [push_cast, reduceIte, Nat.reduceEqDiff, Nat.reduceLT, Nat.reduceAdd, Nat.reduceSub, Nat.reduceMul, Nat.reduceLeDiff, Nat.reducePow, Int.reduceLT, Int.reduceToNat, reduceCtorEq, Int.reduceNeg, Int.reduceEq, Nat.reduceBEq, Nat.reduceBNe, Int.reduceBEq, Int.reduceBNe, String.reduceEq]
        rfl) : AWp P c s R :=
  AWp.weak (Le.nilSl t nw sz h) (hs' ▸ K)
end
end Go.Abs
/- Bytes: slices.Grow, slices.Concat, wire.Join, pad.Bytes. -/
set_option linter.unusedVariables false
set_option linter.unusedSimpArgs false
namespace Go.Proofs.YtmcedkcehcacpaaGreatDoor.C
open Go.Abs
/-- slices of bytes, as elements -/
def rowsA (ls : List (List UInt8)) : List AV := ls.map fun l => .sl false 1 (bys l)
@[push_cast] theorem rowsA_len (l : List (List UInt8)) : (rowsA l).length = l.length := by simp [rowsA]
theorem rowsA_at (l : List (List UInt8)) (i : Nat) (h : i < l.length) : (rowsA l)[i]? = some (.sl false 1 (bys l[i])) := by simp [rowsA, h]
@[push_cast] theorem rowsA_nil : rowsA [] = [] := rfl
@[push_cast] theorem rowsA_cons (a : List UInt8) (l : List (List UInt8)) : rowsA (a :: l) = .sl false 1 (bys a) :: rowsA l := rfl
@[push_cast] theorem rowsA_ids (p : Nat → Bool) (l : List (List UInt8)) : AV.idsOkL p (rowsA l) = true := by
  rw [AV.idsOkL_iff]; intro x hx; simp only [rowsA, List.mem_map] at hx; obtain ⟨b, _, rfl⟩ := hx; simp only [push_cast]
@[push_cast] theorem rowsA_hand (ids : List Nat) (l : List (List UInt8)) : AV.handL ids (rowsA l) = rowsA l := by
  rw [AV.handL_map]; simp only [rowsA, List.map_map]
  refine List.map_congr_left fun x _ => ?_
  simp only [Function.comp, AV.hand, bys_hand]
/-- how many bytes they are -/
def lens (ls : List (List UInt8)) : Nat := (ls.map List.length).sum
theorem lens_take (ls : List (List UInt8)) : ∀ i, lens (ls.take i) ≤ lens ls := by
  unfold lens
  induction ls with
  | nil => intro i; simp
  | cons a ls ih => intro i; cases i with
    | zero => simp
    | succ i => have := ih i; simp only [List.take_succ_cons, List.map_cons, List.sum_cons]; omega
theorem lens_snoc (ls : List (List UInt8)) (a : List UInt8) : lens (ls ++ [a]) = lens ls + a.length := by simp [lens]
theorem lens_flat (ls : List (List UInt8)) : ls.flatten.length = lens ls := by simp [lens, List.length_flatten]
theorem grow_c (n : Nat) (hn : n ≤ 2 ^ 40) : OC Tryz.prog 81 [.val (.slice none 0 0), nat n] [] (.own 0) [.row 5 1 []] := by
  refine OC.of_body [0] (by intro k hk; simp at hk) Tryz.func81 rfl (by rw [Tryz.ntmps81]; simp) ?_
  refine AWp.regionW ?_
  refine AWp.seqK fun K1 hK1 => ?_
  refine AWp.regionW ?_
  refine AWp.condF ?_
  refine AWp.skip ?_
  refine hK1 _ ?_
  refine AWp.seqK fun K2 hK2 => ?_
  refine AWp.regionM fun K3 hK3 => ?_
  refine ARun2.capNilM ?_
  refine ARun2.endm (hK3 _ ?_)
  rw [show IntKind.i64.wrap (0 - 0) = 0 from rfl, Int.sub_zero, w_nat n (by omega)]
  refine AWp.regionW ?_
  refine AWp.condLM (fun c1 => ?_) (fun c1 => ?_)
  · skip
    have h0 : 0 < n := by simpa using c1
    refine AWp.regionN fun K4 hK4 => ?_
    refine ARun2.capNilM ?_
    refine ARun2.frontNilM ?_
    refine ARun2.appendZerosM n h0 hn ?_
    refine ARun2.frontOwnM 0 (Nat.zero_le _) ?_
    refine ARun2.endm (hK4 _ ?_)
    refine hK2 _ ?_
    refine AWp.regionW ?_
    refine AWp.ret ?_
    try simp only [thenQ, blockQ, noGo]
    refine bodyQ.m ?_
    clear hK4 K4 hK3 K3 hK2 K2 hK1 K1
    refine endO.m ?_ ?_
    · first | rfl | simp
    · skip
      first | done | exact Hand.go
  · skip
    refine AWp.skip ?_
    refine hK2 _ ?_
    refine AWp.nilOwn 0 5 1 (by simp only [push_cast, reduceIte, Nat.reduceEqDiff, Nat.reduceLT, Nat.reduceAdd, Nat.reduceSub, Nat.reduceMul, Nat.reduceLeDiff, Nat.reducePow, Int.reduceLT, Int.reduceToNat, reduceCtorEq, Int.reduceNeg, Int.reduceEq, Nat.reduceBEq, Nat.reduceBNe, Int.reduceBEq, Int.reduceBNe, String.reduceEq]) ?_
    simp only [push_cast, reduceIte, Nat.reduceEqDiff, Nat.reduceLT, Nat.reduceAdd, Nat.reduceSub, Nat.reduceMul, Nat.reduceLeDiff, Nat.reducePow, Int.reduceLT, Int.reduceToNat, reduceCtorEq, Int.reduceNeg, Int.reduceEq, Nat.reduceBEq, Nat.reduceBNe, Int.reduceBEq, Int.reduceBNe, String.reduceEq]
    refine AWp.regionW ?_
    refine AWp.ret ?_
    try simp only [thenQ, blockQ, noGo]
    refine bodyQ.m ?_
    clear hK3 K3 hK2 K2 hK1 K1
    refine endO.m ?_ ?_
    · first | rfl | simp
    · skip
      first | done | exact Hand.go
theorem concat_o (ls : List (List UInt8)) (hl : lens ls ≤ 2 ^ 40) (hn : ls.length ≤ 2 ^ 40) : OC Tryz.prog 67 [.sl false 1 (rowsA ls)] [] (.own 0) [.row 5 1 (bys ls.flatten)] := by
  refine OC.of_body [0] (by intro k hk; simp at hk) Tryz.func67 rfl (by rw [Tryz.ntmps67]; simp) ?_
  refine AWp.regionW ?_
  refine AWp.regionW ?_
  refine AWp.seqK fun K1 hK1 => ?_
  refine AWp.regionW ?_
  refine AWp.block ?_
  refine AWp.loopK0 [0, 9, 10] (fun (i : Nat) => [(3, nat (lens (ls.take i))), (11, nat i)]) (fun i => i ≤ ls.length) (fun i => ls.length - i) (0) ?_ (Nat.zero_le _) ?_
  · skip
    refine Le.m 0 ?_ ?_
    · first | with_reducible rfl | (simp only [push_cast, reduceIte, Nat.reduceEqDiff, Nat.reduceLT, Nat.reduceAdd, Nat.reduceSub, Nat.reduceMul, Nat.reduceLeDiff, Nat.reducePow, Int.reduceLT, Int.reduceToNat, reduceCtorEq, Int.reduceNeg, Int.reduceEq, Nat.reduceBEq, Nat.reduceBNe, Int.reduceBEq, Int.reduceBNe, String.reduceEq]; first | done | rfl | (simp (disch := omega) only [w_nat, w_add, w_addl, w_addr, w_sub, w_subl, w_mul, w_mull, w_mulr, w_u32, w_u16, w_u8, w_u32a, N_zero]; first | done | rfl))
    · first | (simp only [push_cast, reduceIte, Nat.reduceEqDiff, Nat.reduceLT, Nat.reduceAdd, Nat.reduceSub, Nat.reduceMul, Nat.reduceLeDiff, Nat.reducePow, Int.reduceLT, Int.reduceToNat, reduceCtorEq, Int.reduceNeg, Int.reduceEq, Nat.reduceBEq, Nat.reduceBNe, Int.reduceBEq, Int.reduceBNe, String.reduceEq]; first | done | rfl | (simp (disch := omega) only [w_nat, w_add, w_addl, w_addr, w_sub, w_subl, w_mul, w_mull, w_mulr, w_u32, w_u16, w_u8, w_u32a, N_zero]; first | done | rfl))
  · intro i hi K2 hK2
    refine AWp.regionW ?_
    refine AWp.seqK fun K3 hK3 => ?_
    refine AWp.condLM (fun c0 => ?_) (fun c0 => ?_)
    · skip
      have hil : i < ls.length := by simpa using c0
      have hlt := lens_take ls (i + 1)
      rw [List.take_succ_eq_append_getElem hil, lens_snoc] at hlt
      refine AWp.skip ?_
      refine hK3 _ ?_
      refine AWp.seqK fun K4 hK4 => ?_
      refine AWp.block ?_
      refine AWp.regionM fun K5 hK5 => ?_
      refine ARun2.indexM (i) (.sl false 1 (bys ls[i])) ?_ ?_
      · exact rowsA_at _ _ hil
      refine ARun2.endm (hK5 _ ?_)
      refine AWp.regionW ?_
      refine AWp.regionW ?_
      refine AWp.condF ?_
      refine AWp.skip ?_
      refine hK4 _ ?_
      refine AWp.regionV ?_
      refine hK2 _ (i + 1) (by omega) (by omega) ?_
      refine Le.m 0 ?_ ?_
      · first | with_reducible rfl | (simp only [push_cast, reduceIte, Nat.reduceEqDiff, Nat.reduceLT, Nat.reduceAdd, Nat.reduceSub, Nat.reduceMul, Nat.reduceLeDiff, Nat.reducePow, Int.reduceLT, Int.reduceToNat, reduceCtorEq, Int.reduceNeg, Int.reduceEq, Nat.reduceBEq, Nat.reduceBNe, Int.reduceBEq, Int.reduceBNe, String.reduceEq]; first | done | rfl | (simp (disch := omega) only [w_nat, w_add, w_addl, w_addr, w_sub, w_subl, w_mul, w_mull, w_mulr, w_u32, w_u16, w_u8, w_u32a, N_zero]; first | done | rfl))
      · simp only [push_cast, reduceIte, Nat.reduceEqDiff, Nat.reduceLT, Nat.reduceAdd, Nat.reduceSub, Nat.reduceMul, Nat.reduceLeDiff, Nat.reducePow, Int.reduceLT, Int.reduceToNat, reduceCtorEq, Int.reduceNeg, Int.reduceEq, Nat.reduceBEq, Nat.reduceBNe, Int.reduceBEq, Int.reduceBNe, String.reduceEq]
        try simp (disch := omega) only [w_nat, w_add, w_addl, w_addr, w_sub, w_subl, w_mul, w_mull, w_mulr, w_u32, w_u16, w_u8, w_u32a, N_zero]
        rw [List.take_succ_eq_append_getElem hil, lens_snoc]
    · skip
      have hil : i = ls.length := by simp at c0; omega
      subst hil
      rw [List.take_length]
      refine AWp.exit ?_
      try simp only [thenQ, blockQ, noGo, reduceIte, Nat.reduceEqDiff]
      refine hK1 _ ?_
      refine AWp.regionM fun K6 hK6 => ?_
      refine ARun2.callOM [] (grow_c (lens ls) hl) ?_
      refine ARun2.endm (hK6 _ ?_)
      refine AWp.seqK fun K7 hK7 => ?_
      refine AWp.regionW ?_
      refine AWp.block ?_
      -- SLOTS THAT TURN AND ARE NOT TOLD: [6]
      refine AWp.loopK [6, 25, 26] (fun (i : Nat) => [(27, nat i)]) (fun i => [.row 5 1 (bys (ls.take i).flatten)]) (fun i => i ≤ ls.length) (fun i => ls.length - i) (0) ?_ (Nat.zero_le _) ?_
      · skip
        refine Le.m 1 ?_ ?_
        · first | with_reducible rfl | (simp only [push_cast, reduceIte, Nat.reduceEqDiff, Nat.reduceLT, Nat.reduceAdd, Nat.reduceSub, Nat.reduceMul, Nat.reduceLeDiff, Nat.reducePow, Int.reduceLT, Int.reduceToNat, reduceCtorEq, Int.reduceNeg, Int.reduceEq, Nat.reduceBEq, Nat.reduceBNe, Int.reduceBEq, Int.reduceBNe, String.reduceEq]; first | done | rfl | (simp (disch := omega) only [w_nat, w_add, w_addl, w_addr, w_sub, w_subl, w_mul, w_mull, w_mulr, w_u32, w_u16, w_u8, w_u32a, N_zero]; first | done | rfl))
        · first | (simp only [push_cast, reduceIte, Nat.reduceEqDiff, Nat.reduceLT, Nat.reduceAdd, Nat.reduceSub, Nat.reduceMul, Nat.reduceLeDiff, Nat.reducePow, Int.reduceLT, Int.reduceToNat, reduceCtorEq, Int.reduceNeg, Int.reduceEq, Nat.reduceBEq, Nat.reduceBNe, Int.reduceBEq, Int.reduceBNe, String.reduceEq]; first | done | rfl | (simp (disch := omega) only [w_nat, w_add, w_addl, w_addr, w_sub, w_subl, w_mul, w_mull, w_mulr, w_u32, w_u16, w_u8, w_u32a, N_zero]; first | done | rfl))
      · intro i hi K8 hK8
        refine AWp.regionW ?_
        refine AWp.seqK fun K9 hK9 => ?_
        refine AWp.condLM (fun c2 => ?_) (fun c2 => ?_)
        · skip
          have hil : i < ls.length := by simpa using c2
          have hlt := lens_take ls (i + 1)
          rw [List.take_succ_eq_append_getElem hil, lens_snoc, ← lens_flat] at hlt
          refine AWp.skip ?_
          refine hK9 _ ?_
          refine AWp.seqK fun K10 hK10 => ?_
          refine AWp.block ?_
          refine AWp.regionM fun K11 hK11 => ?_
          refine ARun2.indexM (i) (.sl false 1 (bys ls[i])) ?_ ?_
          · exact rowsA_at _ _ hil
          refine ARun2.endm (hK11 _ ?_)
          refine AWp.regionN fun K12 hK12 => ?_
          refine ARun2.appendM ?_ ?_ ?_
          · rw [YtmcedkcehcacpaaGreatDoor.Facts.eb31, bys_len, bys_len]; omega
          · rw [bys_len, bys_len]; omega
          refine ARun2.endm (hK12 _ ?_)
          refine hK10 _ ?_
          refine AWp.regionV ?_
          refine hK8 _ (i + 1) (by omega) (by omega) ?_
          refine Le.m 1 ?_ ?_
          · try simp only [push_cast, reduceIte, Nat.reduceEqDiff, Nat.reduceLT, Nat.reduceAdd, Nat.reduceSub, Nat.reduceMul, Nat.reduceLeDiff, Nat.reducePow, Int.reduceLT, Int.reduceToNat, reduceCtorEq, Int.reduceNeg, Int.reduceEq, Nat.reduceBEq, Nat.reduceBNe, Int.reduceBEq, Int.reduceBNe, String.reduceEq]
            try simp (disch := omega) only [w_nat, w_add, w_addl, w_addr, w_sub, w_subl, w_mul, w_mull, w_mulr, w_u32, w_u16, w_u8, w_u32a, N_zero]
            first | done | skip
            rw [List.take_succ_eq_append_getElem hil, List.flatten_append, bys_append]; simp
          · first | (simp only [push_cast, reduceIte, Nat.reduceEqDiff, Nat.reduceLT, Nat.reduceAdd, Nat.reduceSub, Nat.reduceMul, Nat.reduceLeDiff, Nat.reducePow, Int.reduceLT, Int.reduceToNat, reduceCtorEq, Int.reduceNeg, Int.reduceEq, Nat.reduceBEq, Nat.reduceBNe, Int.reduceBEq, Int.reduceBNe, String.reduceEq]; first | done | rfl | (simp (disch := omega) only [w_nat, w_add, w_addl, w_addr, w_sub, w_subl, w_mul, w_mull, w_mulr, w_u32, w_u16, w_u8, w_u32a, N_zero]; first | done | rfl))
        · skip
          have hil : i = ls.length := by simp at c2; omega
          subst hil
          refine AWp.exit ?_
          try simp only [thenQ, blockQ, noGo, reduceIte, Nat.reduceEqDiff]
          refine hK7 _ ?_
          refine AWp.regionW ?_
          refine AWp.ret ?_
          try simp only [thenQ, blockQ, noGo]
          refine bodyQ.m ?_
          clear hK9 K9 hK8 K8 hK7 K7 hK6 K6 hK3 K3 hK2 K2 hK1 K1
          refine endO.m ?_ ?_
          · rw [List.take_length]
          · skip
            first | done | exact Hand.go
theorem wjoin_o (ls : List (List UInt8)) (hl : lens ls ≤ 2 ^ 40) (hn : ls.length ≤ 2 ^ 40) : OC Tryz.prog 54 [.sl false 1 (rowsA ls)] [] (.own 0) [.row 5 1 (bys ls.flatten)] := by
  refine OC.of_body [0] (by intro k hk; simp at hk) Tryz.func54 rfl (by rw [Tryz.ntmps54]; simp) ?_
  refine AWp.regionW ?_
  refine AWp.regionM fun K1 hK1 => ?_
  refine ARun2.callOM [] (concat_o ls hl hn) ?_
  refine ARun2.endm (hK1 _ ?_)
  refine AWp.ret ?_
  try simp only [thenQ, blockQ, noGo]
  refine bodyQ.m ?_
  clear hK1 K1
  refine endO.m ?_ ?_
  · rfl
  · skip
    first | done | exact Hand.go
theorem wjoin_c (ls : List (List UInt8)) (hl : lens ls ≤ 2 ^ 40) (hn : ls.length ≤ 2 ^ 40) : PC Tryz.prog 54 [.sl false 1 (rowsA ls)] (.sl true 1 (bys ls.flatten)) := PC.of_own (wjoin_o ls hl hn)
/-- bytes with their padding -/
def padB (l : List UInt8) : List UInt8 := l ++ List.replicate (gapN l.length) 0
theorem padB_len (l : List UInt8) : (padB l).length = upN l.length := by simp [padB, upN]
theorem padBytes_o (l : List UInt8) (hl : l.length ≤ 2 ^ 39) : OC Tryz.prog 53 [.sl false 1 (bys l)] [] (.own 0) [.row 5 1 (bys (padB l))] := by
  have hg := gapN_le l.length
  have hc := concat_o [l, List.replicate (gapN l.length) 0] (by simp [lens]; omega) (by simp)
  rw [show [l, List.replicate (gapN l.length) 0].flatten = padB l by simp [padB]] at hc
  refine OC.of_body [0] (by intro k hk; simp at hk) Tryz.func53 rfl (by rw [Tryz.ntmps53]; simp) ?_
  refine AWp.regionW ?_
  refine AWp.regionM fun K1 hK1 => ?_
  refine ARun2.callM (pad_gap l.length (by omega)) ?_
  refine ARun2.makeM (gapN l.length) ?_ ?_
  · omega
  refine ARun2.callOM [] (hc) ?_
  refine ARun2.endm (hK1 _ ?_)
  refine AWp.ret ?_
  try simp only [thenQ, blockQ, noGo]
  refine bodyQ.m ?_
  clear hK1 K1
  refine endO.m ?_ ?_
  · rfl
  · skip
    first | done | exact Hand.go
end Go.Proofs.YtmcedkcehcacpaaGreatDoor.C
/- Errors as values; frames read and written: pad.Next, Cursor.Take, tlv. -/
set_option linter.unusedVariables false
set_option linter.unusedSimpArgs false
namespace Go.Proofs.YtmcedkcehcacpaaGreatDoor.C
open Go.Abs
/-- an error: none, a code, a fault -/
inductive Er where
  | ok
  | code (c : Nat)
  | flt (c i : Nat)
  deriving DecidableEq
def Er.isOk : Er → Bool
  | .ok => true
  | _ => false
@[push_cast] theorem isOk_ok : Er.ok.isOk = true := rfl
@[push_cast] theorem isOk_code (c : Nat) : (Er.code c).isOk = false := rfl
@[push_cast] theorem isOk_flt (c i : Nat) : (Er.flt c i).isOk = false := rfl
def erA : Er → AV
  | .ok => .val .nilIface
  | .code c => .ifc 57 (nat c)
  | .flt c i => .ifc 116 (.agg [nat c, nat i])
@[push_cast] theorem erA_ok : erA .ok = .val .nilIface := rfl
@[push_cast] theorem nilIs_er (e : Er) : nilIs .ifc (erA e) = some e.isOk := by cases e <;> rfl
@[push_cast] theorem er_ids (p : Nat → Bool) (e : Er) : (erA e).idsOk p = true := by cases e <;> rfl
@[push_cast] theorem er_hand (ids : List Nat) (e : Er) : (erA e).hand ids = erA e := by cases e <;> rfl
@[push_cast] theorem er_one (e : Er) : (erA e).one = true := by cases e <;> rfl
@[push_cast] theorem er_flat (e : Er) : (erA e).flat = true := by cases e <;> rfl
@[push_cast] theorem er_cells (e : Er) : (erA e).cells = [erA e] := by cases e <;> rfl
@[push_cast] theorem er_fresh (e : Er) : (erA e).fresh = true := by cases e <;> rfl
theorem fnew_c (c i : Nat) : PC Tryz.prog 72 [nat c, nat i] (erA (.flt c i)) := by
  refine PC.of_bodyK (by simp only [push_cast]) Tryz.func72 rfl (by rw [Tryz.ntmps72]; simp) ?_
  refine AWp.regionW ?_
  refine AWp.regionW ?_
  refine AWp.ret ?_
  try simp only [thenQ, blockQ, noGo]
  refine bodyQ.m ?_
  exact Wk.eq rfl
  first | done | exact Wk.go
/-! ### padding -/
def nzIdx (l : List UInt8) : Int := match l.findIdx? (· != 0) with
  | some i => N i
  | none => -1
theorem zero1_c (b : UInt8) : PC Tryz.prog 93 [.val (.int .u8 (N b.toNat))] (bool (b != 0)) := by
  have hb : (b.toNat != 0) = (b != 0) := by
    rw [Bool.eq_iff_iff]
    simp only [bne_iff_ne, ne_eq, ← UInt8.toNat_inj]; rfl
  refine PC.of_bodyW (by simp only [push_cast]) Tryz.func93 rfl (by rw [Tryz.ntmps93]; simp) ?_
  refine AWp.regionW ?_
  refine AWp.regionW ?_
  refine AWp.ret ?_
  try simp only [thenQ, blockQ, noGo]
  refine bodyQ.m ?_
  rw [hb]
  first | done | exact Hand.go
theorem nzIdx_hit {l : List UInt8} {i : Nat} (h : i < l.length) (h0 : ∀ j (hj : j < i), l[j]'(by omega) = 0) (hi : l[i] ≠ 0) : nzIdx l = N i := by
  unfold nzIdx
  rw [show l.findIdx? (· != 0) = some i from List.findIdx?_eq_some_iff_getElem.2 ⟨h, by simpa using hi, fun j hj => by simpa using h0 j hj⟩]
theorem nzIdx_none {l : List UInt8} (h0 : ∀ j (hj : j < l.length), l[j] = 0) : nzIdx l = -1 := by
  unfold nzIdx
  rw [show l.findIdx? (· != 0) = none from List.findIdx?_eq_none_iff.2 fun x hx => by
    obtain ⟨j, hj, rfl⟩ := List.getElem_of_mem hx
    simp [h0 j hj]]
theorem indexFunc_c (l : List UInt8) (hl : l.length ≤ 2 ^ 40) : PC Tryz.prog 95 [.sl false 1 (bys l), .fn (.func 93) [] []] (.val (.int .i64 (nzIdx l))) := by
  refine PC.of_bodyW (by simp only [push_cast]) Tryz.func95 rfl (by rw [Tryz.ntmps95]; simp) ?_
  refine AWp.regionW ?_
  refine AWp.seqK fun K1 hK1 => ?_
  refine AWp.regionW ?_
  refine AWp.block ?_
  refine AWp.loopK0 [0, 1, 7] (fun (i : Nat) => [(8, nat i)]) (fun i => i ≤ l.length ∧ ∀ j (hj : j < l.length), j < i → l[j] = 0) (fun i => l.length - i) (0) ?_ ⟨Nat.zero_le _, fun j _ hj => by omega⟩ ?_
  · skip
    refine Le.m 0 ?_ ?_
    · first | with_reducible rfl | (simp only [push_cast, reduceIte, Nat.reduceEqDiff, Nat.reduceLT, Nat.reduceAdd, Nat.reduceSub, Nat.reduceMul, Nat.reduceLeDiff, Nat.reducePow, Int.reduceLT, Int.reduceToNat, reduceCtorEq, Int.reduceNeg, Int.reduceEq, Nat.reduceBEq, Nat.reduceBNe, Int.reduceBEq, Int.reduceBNe, String.reduceEq]; first | done | rfl | (simp (disch := omega) only [w_nat, w_add, w_addl, w_addr, w_sub, w_subl, w_mul, w_mull, w_mulr, w_u32, w_u16, w_u8, w_u32a, N_zero]; first | done | rfl))
    · first | (simp only [push_cast, reduceIte, Nat.reduceEqDiff, Nat.reduceLT, Nat.reduceAdd, Nat.reduceSub, Nat.reduceMul, Nat.reduceLeDiff, Nat.reducePow, Int.reduceLT, Int.reduceToNat, reduceCtorEq, Int.reduceNeg, Int.reduceEq, Nat.reduceBEq, Nat.reduceBNe, Int.reduceBEq, Int.reduceBNe, String.reduceEq]; first | done | rfl | (simp (disch := omega) only [w_nat, w_add, w_addl, w_addr, w_sub, w_subl, w_mul, w_mull, w_mulr, w_u32, w_u16, w_u8, w_u32a, N_zero]; first | done | rfl))
  · intro i hi K2 hK2
    refine AWp.regionW ?_
    refine AWp.seqK fun K3 hK3 => ?_
    refine AWp.condLM (fun c0 => ?_) (fun c0 => ?_)
    · skip
      have hil : i < l.length := by simpa using c0
      refine AWp.skip ?_
      refine hK3 _ ?_
      refine AWp.seqK fun K4 hK4 => ?_
      refine AWp.block ?_
      refine AWp.regionW ?_
      refine AWp.regionM fun K5 hK5 => ?_
      refine ARun2.indexM (i) (.val (.int .u8 (N l[i].toNat))) ?_ ?_
      · rw [bys_get, List.getElem?_eq_getElem hil]; rfl
      refine ARun2.callVM (zero1_c l[i]) ?_
      refine ARun2.endm (hK5 _ ?_)
      refine AWp.condLM (fun c1 => ?_) (fun c1 => ?_)
      · skip
        have hne : l[i] ≠ 0 := by simpa using c1
        have hz := nzIdx_hit hil (fun j hj => hi.2 j (by omega) hj) hne
        refine AWp.regionW ?_
        refine AWp.ret ?_
        try simp only [thenQ, blockQ, noGo]
        refine bodyQ.m ?_
        clear hK5 K5 hK4 K4 hK3 K3 hK2 K2 hK1 K1
        rw [hz]
        first | done | exact Hand.go
      · skip
        have heq : l[i] = 0 := by simpa using c1
        refine AWp.skip ?_
        refine hK4 _ ?_
        refine AWp.regionV ?_
        refine hK2 _ (i + 1) (⟨hil, fun j hj hji => (Nat.lt_or_ge j i).elim (fun h => hi.2 j hj h) (fun h => by have e : j = i := (by omega); subst e; exact heq)⟩) (by omega) ?_
        refine Le.m 0 ?_ ?_
        · first | with_reducible rfl | (simp only [push_cast, reduceIte, Nat.reduceEqDiff, Nat.reduceLT, Nat.reduceAdd, Nat.reduceSub, Nat.reduceMul, Nat.reduceLeDiff, Nat.reducePow, Int.reduceLT, Int.reduceToNat, reduceCtorEq, Int.reduceNeg, Int.reduceEq, Nat.reduceBEq, Nat.reduceBNe, Int.reduceBEq, Int.reduceBNe, String.reduceEq]; first | done | rfl | (simp (disch := omega) only [w_nat, w_add, w_addl, w_addr, w_sub, w_subl, w_mul, w_mull, w_mulr, w_u32, w_u16, w_u8, w_u32a, N_zero]; first | done | rfl))
        · first | (simp only [push_cast, reduceIte, Nat.reduceEqDiff, Nat.reduceLT, Nat.reduceAdd, Nat.reduceSub, Nat.reduceMul, Nat.reduceLeDiff, Nat.reducePow, Int.reduceLT, Int.reduceToNat, reduceCtorEq, Int.reduceNeg, Int.reduceEq, Nat.reduceBEq, Nat.reduceBNe, Int.reduceBEq, Int.reduceBNe, String.reduceEq]; first | done | rfl | (simp (disch := omega) only [w_nat, w_add, w_addl, w_addr, w_sub, w_subl, w_mul, w_mull, w_mulr, w_u32, w_u16, w_u8, w_u32a, N_zero]; first | done | rfl))
    · skip
      have hil : i = l.length := by have := hi.1; simp at c0; omega
      have hz := nzIdx_none (l := l) fun j hj => hi.2 j hj (by omega)
      refine AWp.exit ?_
      try simp only [thenQ, blockQ, noGo, reduceIte, Nat.reduceEqDiff]
      refine hK1 _ ?_
      refine AWp.regionW ?_
      refine AWp.ret ?_
      try simp only [thenQ, blockQ, noGo]
      refine bodyQ.m ?_
      clear hK3 K3 hK2 K2 hK1 K1
      rw [hz]
      first | done | exact Hand.go
/-- are all of these bytes 0? -/
def zeroB (l : List UInt8) : Bool := l.all (· == 0)
theorem nzIdx_zero (l : List UInt8) : (!decide (0 ≤ nzIdx l)) = zeroB l := by
  unfold nzIdx zeroB
  cases h : l.findIdx? (· != 0) with
  | some i =>
    obtain ⟨h1, h2, _⟩ := List.findIdx?_eq_some_iff_getElem.1 h
    have : l.all (· == 0) = false := by
      rw [List.all_eq_false]; exact ⟨l[i], List.getElem_mem h1, by simpa using h2⟩
    rw [this]
    simp [N]
  | none =>
    have h1 := List.findIdx?_eq_none_iff.1 h
    have : l.all (· == 0) = true := by rw [List.all_eq_true]; intro x hx; have := h1 x hx; simpa using this
    rw [this]; decide
theorem containsFunc_c (l : List UInt8) (hl : l.length ≤ 2 ^ 40) : PC Tryz.prog 92 [.sl false 1 (bys l), .fn (.func 93) [] []] (bool (decide (0 ≤ nzIdx l))) := by
  refine PC.of_bodyW (by simp only [push_cast]) Tryz.func92 rfl (by rw [Tryz.ntmps92]; simp) ?_
  refine AWp.regionW ?_
  refine AWp.regionM fun K1 hK1 => ?_
  refine ARun2.callM (indexFunc_c l hl) ?_
  refine ARun2.endm (hK1 _ ?_)
  refine AWp.ret ?_
  try simp only [thenQ, blockQ, noGo]
  refine bodyQ.m ?_
  clear hK1 K1
  first | done | exact Hand.go
theorem zero_c (l : List UInt8) (hl : l.length ≤ 2 ^ 40) : PC Tryz.prog 89 [.sl false 1 (bys l)] (bool (zeroB l)) := by
  refine PC.of_bodyW (by simp only [push_cast]) Tryz.func89 rfl (by rw [Tryz.ntmps89]; simp) ?_
  refine AWp.regionW ?_
  refine AWp.regionM fun K1 hK1 => ?_
  refine ARun2.callM (containsFunc_c l hl) ?_
  refine ARun2.endm (hK1 _ ?_)
  refine AWp.ret ?_
  try simp only [thenQ, blockQ, noGo]
  refine bodyQ.m ?_
  clear hK1 K1
  rw [nzIdx_zero]
  first | done | exact Hand.go
/-- the end of the padding behind n -/
def nextN (b : List UInt8) (n : Nat) : Option Nat := if n ≤ b.length ∧ upN n ≤ b.length ∧ zeroB ((b.take (upN n)).drop n) = true then some (upN n) else none
theorem next_c (b : List UInt8) (n : Nat) (hl : b.length ≤ 2 ^ 40) (hn : n ≤ 2 ^ 41) : PC Tryz.prog 83 [.sl false 1 (bys b), nat n] (.tup [nat ((nextN b n).getD 0), bool (nextN b n).isSome]) := by
  have hu : upN n ≤ n + 3 := by have := gapN_le n; unfold upN; omega
  have hu2 : n ≤ upN n := by unfold upN; omega
  refine PC.of_bodyW (by simp only [push_cast]) Tryz.func83 rfl (by rw [Tryz.ntmps83]; simp) ?_
  refine AWp.regionW ?_
  refine AWp.seqK fun K1 hK1 => ?_
  refine AWp.regionA fun K2 hK2 => ?_
  refine ARun.segm 3 fun KS hKS => ?_
  refine ARun2.endm (hKS _ ?_); clear hKS KS
  apply ARun.grpM 4 2 false 12 [0, 1, 8]
  · intro g2 KG hKG
    refine ARun2.gom ?_
    exact ARun2.endm (hKG _ Le.grpM)
  refine ARun.segm 2 fun KS hKS => ?_
  refine ARun2.endm (hKS _ ?_); clear hKS KS
  apply ARun.grpM 5 8 false 19 [0, 1, 14]
  · intro g8 KG hKG
    refine ARun2.gom ?_
    refine ARun2.callM (pad_up n (by omega)) ?_
    exact ARun2.endm (hKG _ Le.grpM)
  refine ARun.segm 2 fun KS hKS => ?_
  refine ARun2.endm (hKS _ ?_); clear hKS KS
  apply ARun.grpM 7 15 false 28 [1, 21]
  · intro g15 KG hKG
    have hub : upN n ≤ b.length := by simp at g15; omega
    refine ARun2.gom ?_
    refine ARun2.callM (pad_up n (by omega)) ?_
    refine ARun2.sliceM (n) (upN n) ?_ ?_ ?_
    · omega
    · rw [bys_len]; omega
    refine ARun2.callM (zero_c ((b.take (upN n)).drop n) (by rw [List.length_drop, List.length_take]; omega)) ?_
    exact ARun2.endm (hKG _ Le.grpM)
  refine ARun2.gom ?_
  refine ARun2.endm (hK2 _ ?_)
  refine AWp.condLM (fun c0 => ?_) (fun c0 => ?_)
  · skip
    have hno : nextN b n = none := by
      unfold nextN; rw [if_neg]; rintro ⟨h1, h2, h3⟩; simp [h1, h2, h3] at c0; omega
    refine AWp.regionW ?_
    refine AWp.ret ?_
    try simp only [thenQ, blockQ, noGo]
    refine bodyQ.m ?_
    clear hK2 K2 hK1 K1
    first | rw [hno] | rw [hyes]
    first | done | exact Hand.go
  · skip
    have hyes : nextN b n = some (upN n) := by
      unfold nextN; rw [if_pos]; simp at c0; refine ⟨by omega, by omega, ?_⟩; simp_all
    refine AWp.skip ?_
    refine hK1 _ ?_
    refine AWp.regionM fun K3 hK3 => ?_
    refine ARun2.callM (pad_up n (by omega)) ?_
    refine ARun2.endm (hK3 _ ?_)
    refine AWp.ret ?_
    try simp only [thenQ, blockQ, noGo]
    refine bodyQ.m ?_
    clear hK3 K3 hK2 K2 hK1 K1
    first | rw [hno] | rw [hyes]
    first | done | exact Hand.go
end Go.Proofs.YtmcedkcehcacpaaGreatDoor.C
/- Calls of functions that the model answers itself (reflectlite, as errors.As comes to it). No condition. -/
namespace Go.Abs
open Go.Extern
set_option linter.unusedVariables false
set_option linter.unusedSectionVars false
set_option linter.unusedSimpArgs false
set_option linter.unnecessarySimpa false
/-- function f is answered by e -/
def NatOk (P : Program) (f : FuncId) (e : Array Value → Sem Value) : Prop := ∀ vs w, (callFunc f vs).run P w = ((e vs).run P w).andThen fun v w' => .ok (.value v) w'
section
variable {P : Program} {ops : Array Oper} {E : Env} {s s' : AS} {ρ σ : List Value} {B : Nat → Prop} {a : Act} {w w' : World} {o : Oper} {rest : List Oper} {Q : AS → Prop} {R : Exit → AS → Prop}
theorem run_call_nat {f : FuncId} {e : Array Value → Sem Value} {args : Array Operand} {ts : Array TypeId} (he : NatOk P f e) (ho : o.op = .call { callee := .value (.func f), args := args, argTypes := ts }) {ρe : Operand → Value} (hf : ρe (.func f) = .func (.func f) #[] #[]) :
    (execOp ρe o).run P w = ((e (args.map ρe)).run P w).andThen fun v w' => .ok (.value v) w' := by
  have := he (args.map ρe) w
  simp [execOp, ho, resolve, hf, Deferred.ofValue, invoke, this]
theorem run_inv_nat {g : FuncId} {e : Array Value → Sem Value} {recv : Operand} {name : String} {args : Array Operand} {ts : Array TypeId} {RT : TypeId} {p p' : Value} (he : NatOk P g e)
    (hm : ∀ w, (Go.method (P.types.size + Made.depth) RT p name).run P w = .ok (g, p') w) (ho : o.op = .call { callee := .invoke recv name, args := args, argTypes := ts }) {ρe : Operand → Value} (hr : ρe recv = .iface RT p) :
    (execOp ρe o).run P w = ((e (#[p'] ++ args.map ρe)).run P w).andThen fun v w' => .ok (.value v) w' := by
  have h1 := he (#[p'] ++ args.map ρe) w
  have h2 := hm w
  have h3 : (callMethod (.iface RT p) name (args.map ρe)).run P w = ((e (#[p'] ++ args.map ρe)).run P w).andThen fun v w' => .ok (.value v) w' := by
    have hp : (program : Sem Program).run P w = .ok P w := rfl
    simp only [callMethod, Sem.run_bind, hp, Result.andThen_ok, h2]
    exact h1
  have h4 : (#[ρe recv] ++ args.map ρe)[0]? = some (.iface RT p) := by rw [hr, Array.getElem?_append_left (by simp)]; rfl
  have h5 : (#[ρe recv] ++ args.map ρe).extract 1 (#[ρe recv] ++ args.map ρe).size = args.map ρe := by
    apply Array.ext'; simp
    exact List.take_of_length_le (by simp)
  simp only [execOp, ho, resolve, Sem.run_bind, Sem.run_pure, Result.andThen_ok, invoke, h4, h5]
  exact h3
theorem args_vals {l : List Operand} {vs : List Value} (hs : RS E s ρ B a w) (h : l.map s.ev = vs.map AV.val) : l.map a.eval = vs := by
  have hr := RelL.map_ev hs l
  rw [h] at hr
  generalize l.map a.eval = us at hr
  clear h
  induction vs generalizing us with
  | nil => cases hr; rfl
  | cons v vs ih => cases hr with | cons h1 h2 => rw [h1.val_eq, ih _ h2]
theorem eval_func (f : FuncId) : a.eval (.func f) = .func (.func f) #[] #[] := rfl
theorem AOp.invC {g : FuncId} {e : Array Value → Sem Value} {recv : Operand} {name : String} {args : Array Operand} {ts : Array TypeId} {RT : TypeId} {p p' : Value} {vs : List Value} {v : Value} (he : NatOk P g e) (hm : ∀ w, (Go.method (P.types.size + Made.depth) RT p name).run P w = .ok (g, p') w)
    (hr : ∀ w, (e (p' :: vs).toArray).run P w = .ok v w) (ho : o.op = .call { callee := .invoke recv name, args := args, argTypes := ts }) (hx : s.ev recv = .val (.iface RT p)) (hv : args.toList.map s.ev = vs.map AV.val) (K : ARun P ops rest (s.put o.dst (.val v)) Q) : AOp P ops o rest s Q := by
  refine AOp.pure1 (fun E ρ B a w hs => ⟨v, ?_, .val _⟩) K
  have ha : args.map a.eval = vs.toArray := by apply Array.ext'; simpa using args_vals hs hv
  have hxv := (hx ▸ hs.ev recv : Rel w B E.bs ρ (.val (.iface RT p)) (a.eval recv)).val_eq
  rw [run_inv_nat he hm ho hxv, ha, show #[p'] ++ vs.toArray = (p' :: vs).toArray by simp, hr]; rfl
/-- a Value's cell, by what is known of it -/
theorem AOp.natV {f : FuncId} {e : Array Value → Sem Value} {x : Operand} {ts : Array TypeId} {h fl : Value} {nw : Bool} {y r : AV} (he : NatOk P f e) (ho : o.op = .call { callee := .value (.func f), args := #[x], argTypes := ts }) (hx : s.ev x = .agg [.val h, .ref nw y, .val fl])
    (hr : ∀ (w : World) (B : Nat → Prop) (bs : Nat) (ρ : List Value) (b o : Nat), RelCells w B bs ρ nw b o y.cells → ∃ v, (e #[.agg #[h, .pointer (some ⟨b, o, none⟩), fl]]).run P w = .ok v w ∧ Rel w B bs ρ r v)
    (K : ARun P ops rest (s.put o.dst r) Q) : AOp P ops o rest s Q := by
  refine AOp.pure1 (fun E ρ B a w hs => ?_) K
  have hxr := hs.ev x
  rw [hx] at hxr
  generalize hq : a.eval x = u at hxr
  cases hxr with
  | agg h1 =>
    cases h1 with
    | cons a1 h1 => cases h1 with
      | cons a2 h1 => cases h1 with
        | cons a3 h1 =>
          cases h1
          have e1 := a1.val_eq
          have e3 := a3.val_eq
          subst e1; subst e3
          cases a2 with
          | ref hc hn =>
            obtain ⟨v, k1, k2⟩ := hr w B E.bs ρ _ _ hc
            refine ⟨v, ?_, k2⟩
            rw [run_call_nat he ho (eval_func f), show (#[x] : Array Operand).map a.eval = #[a.eval x] by simp, hq]
            have k1' := congrArg (fun r : Result Value => r.andThen fun v w' => (Result.ok (Next.value v) w' : Result Next)) k1
            exact k1'
/-- ValueOf: what the interface value holds, in a cell of its own -/
theorem AOp.valueOf {f : FuncId} {e : Array Value → Sem Value} {x : Operand} {ts : Array TypeId} {T : TypeId} {h fl : Value} {y : AV} (he : NatOk P f e) (ho : o.op = .call { callee := .value (.func f), args := #[x], argTypes := ts }) (hx : s.ev x = .ifc T y) (hf : y.flat = true) (hne : y.cells ≠ [])
    (hr : ∀ (w : World) (B : Nat → Prop) (bs : Nat) (ρ : List Value) (v : Value), Rel w B bs ρ y v → (e #[.iface T v]).run P w = .ok (.agg #[h, .pointer (some ⟨w.heap.size, 0, none⟩), fl]) (w.alloc (.cells (List.toArray v.cells.toList) T)))
    (K : ARun P ops rest (s.put o.dst (.agg [.val h, .ref true y, .val fl])) Q) : AOp P ops o rest s Q := by
  refine AOp.value (s' := s) (fun E ρ B a w hs => ?_) K
  have hxr := hs.ev x
  rw [hx] at hxr
  generalize hq : a.eval x = u at hxr
  cases hxr with
  | ifc h1 =>
    rename_i v
    have hrun := hr w B E.bs ρ v h1
    obtain ⟨c1, c2⟩ := h1.toCells hf
    have hsame := same_alloc w (.cells (List.toArray v.cells.toList) T)
    refine ⟨.agg #[h, .pointer (some ⟨w.heap.size, 0, none⟩), fl], w.alloc (.cells (List.toArray v.cells.toList) T), ρ, _, ?_, hs.pubNew hsame (Nat.le_refl _) (by simp), .agg (.cons (.val _) (.cons (.ref (RelCells.mk (vs := v.cells.toList) (.inr rfl) (fun _ => hs.rw_.le) (c1.mono (fun _ h => .inl h) (fun b hb => hsame.block b (hs.rw_.blt b hb)) (Nat.le_refl _) (fun _ _ h => h)) c2 ?_) hne) (.cons (.val _) .nil)))⟩
    · rw [run_call_nat he ho (eval_func f), show (#[x] : Array Operand).map a.eval = #[a.eval x] by simp, hq]
      exact congrArg (fun r : Result Value => r.andThen fun v w' => (Result.ok (Next.value v) w' : Result Next)) hrun
    · intro j u hj
      exact block_cell (alloc_get w _) 0 j u (by simpa using hj)
/-- Set -/
theorem AOp.natSet {f : FuncId} {e : Array Value → Sem Value} {x y : Operand} {ts : Array TypeId} {T T' : TypeId} {h1 f1 h2 f2 : Value} {k off : Nat} {nw : Bool} {z z' : AV} {cs : List AV} (he : NatOk P f e) (ho : o.op = .call { callee := .value (.func f), args := #[x, y], argTypes := ts })
    (hx : s.ev x = .agg [.val h1, .ptr k off, .val f1]) (hy : s.ev y = .agg [.val h2, .ref nw z, .val f2]) (hk : s.ob[k]? = some (.box T' cs)) (hz : part' z.cells 0 (tk P T) = some z') (hf : z'.flat = true) (hl : z'.cells.length = tkLen (tk P T)) (hpos : 0 < tkLen (tk P T)) (hle : off + z'.cells.length ≤ cs.length)
    (hr : ∀ (ta b : Addr) (w w' : World) (v : Value), (loadVar T b).run P w = .ok v w → (storeVar T ta v).run P w = .ok () w' → (e #[.agg #[h1, .pointer (some ta), f1], .agg #[h2, .pointer (some b), f2]]).run P w = .ok (.tuple #[]) w')
    (K : ARun P ops rest (({ s with ob := s.ob.set k (.box T' (splice cs off z'.cells)) } : AS).put o.dst (.val (.tuple #[]))) Q) : AOp P ops o rest s Q := by
  refine AOp.value (s' := { s with ob := s.ob.set k (.box T' (splice cs off z'.cells)) }) (fun E ρ B a w hs => ?_) K
  have hxr := hs.ev x
  rw [hx] at hxr
  generalize hq : a.eval x = u at hxr
  have hyr := hs.ev y
  rw [hy] at hyr
  generalize hq2 : a.eval y = u2 at hyr
  cases hxr with
  | agg g1 => cases g1 with
    | cons a1 g1 => cases g1 with
      | cons a2 g1 => cases g1 with
        | cons a3 g1 =>
          cases g1
          have e1 := a1.val_eq
          have e3 := a3.val_eq
          subst e1; subst e3
          cases hyr with
          | agg g2 => cases g2 with
            | cons b1 g2 => cases g2 with
              | cons b2 g2 => cases g2 with
                | cons b3 g2 =>
                  cases g2
                  have d1 := b1.val_eq
                  have d3 := b3.val_eq
                  subst d1; subst d3
                  cases b2 with
                  | ref hc hn =>
                    rename_i bb bo
                    obtain ⟨zs, c1, c2, c3⟩ := hc.get
                    obtain ⟨zv, l1, l2⟩ := run_load_cells (P := P) (T := T) (off := 0) rfl c1 c3 hz
                    obtain ⟨b, vs, fz, r1, r2, r3, r4, r5, r6⟩ := box_cells hs hk (b := 0)
                    obtain ⟨t1, t2⟩ := l2.toCells hf
                    have hi : ∃ i, P.info? T = some i ∧ i.size = z'.cells.length := by
                      rw [hl]
                      cases ht : tk P T with
                      | scal => obtain ⟨d, i, _, hi, hs, _⟩ := tk_scal ht; exact ⟨i, hi, hs⟩
                      | aggr n => obtain ⟨d, i, _, hi, hs, _⟩ := tk_aggr ht; exact ⟨i, hi, hs⟩
                      | bad => rw [ht] at hpos; simp [tkLen] at hpos
                    obtain ⟨i, hi, hsz⟩ := hi
                    have hlen := r4.length_eq
                    have hlc := t1.length_eq
                    have hst := run_storeVar (P := P) (w := w) (t := T) (b := b) (o := off) (T := T') hi (v := zv) rfl (by rw [hsz, hlc]) r2 r3 (by omega) (t1.ones t2)
                    have hw : RS E { s with ob := s.ob.set k (.box T' (splice cs off z'.cells)) } ρ B a (setBlk w b (.cells (vs.take off ++ zv.cells.toList ++ vs.drop (off + zv.cells.toList.length)).toArray T' fz)) := by
                      obtain ⟨p1, p2, p3⟩ := hs.rw_.prv k _ _ b hk rfl r1 rfl
                      have hB : ∀ b', B b' → (setBlk w b (.cells (vs.take off ++ zv.cells.toList ++ vs.drop (off + zv.cells.toList.length)).toArray T' fz)).heap[b']? = w.heap[b']? := fun b' hb' => by
                        rw [setBlk_get _ _ _ _ p2, if_neg (by rintro rfl; exact p1 hb')]
                      refine hs.write (b := b) hk rfl r1 rfl ⟨b, _, fz, r1, by rw [setBlk_get _ _ _ _ p2, if_pos rfl], ?_, (r4.splice t1 off).mono (fun _ h => h) hB (Nat.le_refl _) (fun _ _ h => h), ?_⟩
                      · have : (vs.take off ++ zv.cells.toList ++ vs.drop (off + zv.cells.toList.length)).length = vs.length := by simp only [List.length_append, List.length_take, List.length_drop]; omega
                        rw [this]; exact r3
                      · intro c hc
                        simp only [splice, List.mem_append] at hc
                        rcases hc with (hc | hc) | hc
                        · exact r5 c (List.mem_of_mem_take hc)
                        · exact AV.oc_of (t2 c hc)
                        · exact r5 c (List.mem_of_mem_drop hc)
                    cases a2 with
                    | ptr hp =>
                      rw [r1] at hp
                      simp only [Option.some.injEq, Value.pointer.injEq, Addr.mk.injEq, and_true] at hp
                      subst hp
                      refine ⟨.tuple #[], _, ρ, B, ?_, hw, .val _⟩
                      rw [run_call_nat he ho (eval_func f), show (#[x, y] : Array Operand).map a.eval = #[a.eval x, a.eval y] by simp, hq, hq2]
                      exact congrArg (fun r : Result Value => r.andThen fun v w' => (Result.ok (Next.value v) w' : Result Next)) (hr _ _ _ _ _ l1 hst)
/-- one of a loop's rounds, or two -/
theorem AWp.loop2 {c : Code} (h : ∀ K : AS → Prop, (∀ s', AWp P c s' (thenQ (fun _ => False) R) → K s') → AWp P c s (thenQ K R)) : AWp P (.loop c) s R := by
  refine AWp.loop (α := Nat) (fun n s' => (n = 1 ∧ s' = s) ∨ (n = 0 ∧ AWp P c s' (thenQ (fun _ => False) R))) (fun n => n) 1 (.inl ⟨rfl, rfl⟩) ?_
  rintro n s' (⟨rfl, rfl⟩ | ⟨rfl, hk⟩)
  · refine (h (fun s' => AWp P c s' (thenQ (fun _ => False) R)) fun _ hk => hk).mono ?_
    intro e s2 q
    cases e with
    | normal => exact ⟨0, .inr ⟨rfl, q⟩, Nat.zero_lt_one⟩
    | _ => exact q
  · refine hk.mono ?_
    intro e s2 q
    cases e with
    | normal => exact q.elim
    | _ => exact q
theorem ARun2.invCM {g : FuncId} {e : Array Value → Sem Value} {recv : Operand} {name : String} {args : Array Operand} {ts : Array TypeId} {RT : TypeId} {pp pp' : Value} {p : List Oper × AS} (vs : List Value) (v : Value) (he : NatOk P g e) (hm : ∀ w, (Go.method (P.types.size + Made.depth) RT pp name).run P w = .ok (g, pp') w)
    (hr : ∀ w, (e (pp' :: vs).toArray).run P w = .ok v w) (K : ARun2 P ops p Q) (ho : o.op = .call { callee := .invoke recv name, args := args, argTypes := ts } := by rfl)
    (hg : gd ops s o = some true := by first | with_reducible rfl | (simp only [push_cast, reduceIte, Nat.reduceEqDiff, Nat.reduceLT, Nat.reduceAdd, Nat.reduceSub, Nat.reduceMul, Nat.reduceLeDiff, Nat.reducePow, Int.reduceLT, Int.reduceToNat, reduceCtorEq, Int.reduceNeg, Int.reduceEq, Nat.reduceBEq, Nat.reduceBNe, Int.reduceBEq, Int.reduceBNe, String.reduceEq]; first | done | rfl | (simp (disch := omega) only [w_nat, w_add, w_addl, w_addr, w_sub, w_subl, w_mul, w_mull, w_mulr, w_u32, w_u16, w_u8, w_u32a, N_zero]; first | done | rfl | (simp only [push_cast, reduceIte, Nat.reduceEqDiff, Nat.reduceLT, Nat.reduceAdd, Nat.reduceSub, Nat.reduceMul, Nat.reduceLeDiff, Nat.reducePow, Int.reduceLT, Int.reduceToNat, reduceCtorEq, Int.reduceNeg, Int.reduceEq, Nat.reduceBEq, Nat.reduceBNe, Int.reduceBEq, Int.reduceBNe, String.reduceEq]; first | done | rfl)))) (hx : s.ev recv = .val (.iface RT pp) := by first | with_reducible rfl | (simp only [push_cast, reduceIte, Nat.reduceEqDiff, Nat.reduceLT, Nat.reduceAdd, Nat.reduceSub, Nat.reduceMul, Nat.reduceLeDiff, Nat.reducePow, Int.reduceLT, Int.reduceToNat, reduceCtorEq, Int.reduceNeg, Int.reduceEq, Nat.reduceBEq, Nat.reduceBNe, Int.reduceBEq, Int.reduceBNe, String.reduceEq]; first | done | rfl | (simp (disch := omega) only [w_nat, w_add, w_addl, w_addr, w_sub, w_subl, w_mul, w_mull, w_mulr, w_u32, w_u16, w_u8, w_u32a, N_zero]; first | done | rfl | (simp only [push_cast, reduceIte, Nat.reduceEqDiff, Nat.reduceLT, Nat.reduceAdd, Nat.reduceSub, Nat.reduceMul, Nat.reduceLeDiff, Nat.reducePow, Int.reduceLT, Int.reduceToNat, reduceCtorEq, Int.reduceNeg, Int.reduceEq, Nat.reduceBEq, Nat.reduceBNe, Int.reduceBEq, Int.reduceBNe, String.reduceEq]; first | done | rfl)))) (hv : args.toList.map s.ev = vs.map AV.val := by first | with_reducible rfl | (simp only [push_cast, reduceIte, Nat.reduceEqDiff, Nat.reduceLT, Nat.reduceAdd, Nat.reduceSub, Nat.reduceMul, Nat.reduceLeDiff, Nat.reducePow, Int.reduceLT, Int.reduceToNat, reduceCtorEq, Int.reduceNeg, Int.reduceEq, Nat.reduceBEq, Nat.reduceBNe, Int.reduceBEq, Int.reduceBNe, String.reduceEq]; first | done | rfl | (simp (disch := omega) only [w_nat, w_add, w_addl, w_addr, w_sub, w_subl, w_mul, w_mull, w_mulr, w_u32, w_u16, w_u8, w_u32a, N_zero]; first | done | rfl | (simp only [push_cast, reduceIte, Nat.reduceEqDiff, Nat.reduceLT, Nat.reduceAdd, Nat.reduceSub, Nat.reduceMul, Nat.reduceLeDiff, Nat.reducePow, Int.reduceLT, Int.reduceToNat, reduceCtorEq, Int.reduceNeg, Int.reduceEq, Nat.reduceBEq, Nat.reduceBNe, Int.reduceBEq, Int.reduceBNe, String.reduceEq]; first | done | rfl)))) (h : srun P ops rest (s.put o.dst (.val v)) = p := by
        try simp only [push_cast, reduceIte, Nat.reduceEqDiff, Nat.reduceLT, Nat.reduceAdd, Nat.reduceSub, Nat.reduceMul, Nat.reduceLeDiff, Nat.reducePow, Int.reduceLT, Int.reduceToNat, reduceCtorEq, Int.reduceNeg, Int.reduceEq, Nat.reduceBEq, Nat.reduceBNe, Int.reduceBEq, Int.reduceBNe, String.reduceEq]
        try simp (disch := omega) only [w_nat, w_add, w_addl, w_addr, w_sub, w_subl, w_mul, w_mull, w_mulr, w_u32, w_u16, w_u8, w_u32a, N_zero]
        try simp only [push_cast, reduceIte, Nat.reduceEqDiff, Nat.reduceLT, Nat.reduceAdd, Nat.reduceSub, Nat.reduceMul, Nat.reduceLeDiff, Nat.reducePow, Int.reduceLT, Int.reduceToNat, reduceCtorEq, Int.reduceNeg, Int.reduceEq, Nat.reduceBEq, Nat.reduceBNe, Int.reduceBEq, Int.reduceBNe, String.reduceEq]
        rfl) : ARun2 P ops (o :: rest, s) Q :=
  ARun.exec hg (AOp.invC he hm hr ho hx hv (ARun.srun (h ▸ K)))
theorem ARun2.natVM {f : FuncId} {e : Array Value → Sem Value} {x : Operand} {ts : Array TypeId} {hh fl : Value} {nw : Bool} {y : AV} {p : List Oper × AS} (r : AV) (he : NatOk P f e)
    (hr : ∀ (w : World) (B : Nat → Prop) (bs : Nat) (ρ : List Value) (b o : Nat), RelCells w B bs ρ nw b o y.cells → ∃ v, (e #[.agg #[hh, .pointer (some ⟨b, o, none⟩), fl]]).run P w = .ok v w ∧ Rel w B bs ρ r v) (K : ARun2 P ops p Q)
    (ho : o.op = .call { callee := .value (.func f), args := #[x], argTypes := ts } := by rfl) (hg : gd ops s o = some true := by first | with_reducible rfl | (simp only [push_cast, reduceIte, Nat.reduceEqDiff, Nat.reduceLT, Nat.reduceAdd, Nat.reduceSub, Nat.reduceMul, Nat.reduceLeDiff, Nat.reducePow, Int.reduceLT, Int.reduceToNat, reduceCtorEq, Int.reduceNeg, Int.reduceEq, Nat.reduceBEq, Nat.reduceBNe, Int.reduceBEq, Int.reduceBNe, String.reduceEq]; first | done | rfl | (simp (disch := omega) only [w_nat, w_add, w_addl, w_addr, w_sub, w_subl, w_mul, w_mull, w_mulr, w_u32, w_u16, w_u8, w_u32a, N_zero]; first | done | rfl | (simp only [push_cast, reduceIte, Nat.reduceEqDiff, Nat.reduceLT, Nat.reduceAdd, Nat.reduceSub, Nat.reduceMul, Nat.reduceLeDiff, Nat.reducePow, Int.reduceLT, Int.reduceToNat, reduceCtorEq, Int.reduceNeg, Int.reduceEq, Nat.reduceBEq, Nat.reduceBNe, Int.reduceBEq, Int.reduceBNe, String.reduceEq]; first | done | rfl)))) (hx : s.ev x = .agg [.val hh, .ref nw y, .val fl] := by first | with_reducible rfl | (simp only [push_cast, reduceIte, Nat.reduceEqDiff, Nat.reduceLT, Nat.reduceAdd, Nat.reduceSub, Nat.reduceMul, Nat.reduceLeDiff, Nat.reducePow, Int.reduceLT, Int.reduceToNat, reduceCtorEq, Int.reduceNeg, Int.reduceEq, Nat.reduceBEq, Nat.reduceBNe, Int.reduceBEq, Int.reduceBNe, String.reduceEq]; first | done | rfl | (simp (disch := omega) only [w_nat, w_add, w_addl, w_addr, w_sub, w_subl, w_mul, w_mull, w_mulr, w_u32, w_u16, w_u8, w_u32a, N_zero]; first | done | rfl | (simp only [push_cast, reduceIte, Nat.reduceEqDiff, Nat.reduceLT, Nat.reduceAdd, Nat.reduceSub, Nat.reduceMul, Nat.reduceLeDiff, Nat.reducePow, Int.reduceLT, Int.reduceToNat, reduceCtorEq, Int.reduceNeg, Int.reduceEq, Nat.reduceBEq, Nat.reduceBNe, Int.reduceBEq, Int.reduceBNe, String.reduceEq]; first | done | rfl)))) (h : srun P ops rest (s.put o.dst r) = p := by
        try simp only [push_cast, reduceIte, Nat.reduceEqDiff, Nat.reduceLT, Nat.reduceAdd, Nat.reduceSub, Nat.reduceMul, Nat.reduceLeDiff, Nat.reducePow, Int.reduceLT, Int.reduceToNat, reduceCtorEq, Int.reduceNeg, Int.reduceEq, Nat.reduceBEq, Nat.reduceBNe, Int.reduceBEq, Int.reduceBNe, String.reduceEq]
        try simp (disch := omega) only [w_nat, w_add, w_addl, w_addr, w_sub, w_subl, w_mul, w_mull, w_mulr, w_u32, w_u16, w_u8, w_u32a, N_zero]
        try simp only [push_cast, reduceIte, Nat.reduceEqDiff, Nat.reduceLT, Nat.reduceAdd, Nat.reduceSub, Nat.reduceMul, Nat.reduceLeDiff, Nat.reducePow, Int.reduceLT, Int.reduceToNat, reduceCtorEq, Int.reduceNeg, Int.reduceEq, Nat.reduceBEq, Nat.reduceBNe, Int.reduceBEq, Int.reduceBNe, String.reduceEq]
        rfl) : ARun2 P ops (o :: rest, s) Q :=
  ARun.exec hg (AOp.natV he ho hx hr (ARun.srun (h ▸ K)))
theorem ARun2.valueOfM {f : FuncId} {e : Array Value → Sem Value} {x : Operand} {ts : Array TypeId} {T : TypeId} {hh fl : Value} {y : AV} {p : List Oper × AS} (he : NatOk P f e)
    (hr : ∀ (w : World) (B : Nat → Prop) (bs : Nat) (ρ : List Value) (v : Value), Rel w B bs ρ y v → (e #[.iface T v]).run P w = .ok (.agg #[hh, .pointer (some ⟨w.heap.size, 0, none⟩), fl]) (w.alloc (.cells (List.toArray v.cells.toList) T))) (K : ARun2 P ops p Q)
    (ho : o.op = .call { callee := .value (.func f), args := #[x], argTypes := ts } := by rfl) (hg : gd ops s o = some true := by first | with_reducible rfl | (simp only [push_cast, reduceIte, Nat.reduceEqDiff, Nat.reduceLT, Nat.reduceAdd, Nat.reduceSub, Nat.reduceMul, Nat.reduceLeDiff, Nat.reducePow, Int.reduceLT, Int.reduceToNat, reduceCtorEq, Int.reduceNeg, Int.reduceEq, Nat.reduceBEq, Nat.reduceBNe, Int.reduceBEq, Int.reduceBNe, String.reduceEq]; first | done | rfl | (simp (disch := omega) only [w_nat, w_add, w_addl, w_addr, w_sub, w_subl, w_mul, w_mull, w_mulr, w_u32, w_u16, w_u8, w_u32a, N_zero]; first | done | rfl | (simp only [push_cast, reduceIte, Nat.reduceEqDiff, Nat.reduceLT, Nat.reduceAdd, Nat.reduceSub, Nat.reduceMul, Nat.reduceLeDiff, Nat.reducePow, Int.reduceLT, Int.reduceToNat, reduceCtorEq, Int.reduceNeg, Int.reduceEq, Nat.reduceBEq, Nat.reduceBNe, Int.reduceBEq, Int.reduceBNe, String.reduceEq]; first | done | rfl)))) (hx : s.ev x = .ifc T y := by first | with_reducible rfl | (simp only [push_cast, reduceIte, Nat.reduceEqDiff, Nat.reduceLT, Nat.reduceAdd, Nat.reduceSub, Nat.reduceMul, Nat.reduceLeDiff, Nat.reducePow, Int.reduceLT, Int.reduceToNat, reduceCtorEq, Int.reduceNeg, Int.reduceEq, Nat.reduceBEq, Nat.reduceBNe, Int.reduceBEq, Int.reduceBNe, String.reduceEq]; first | done | rfl | (simp (disch := omega) only [w_nat, w_add, w_addl, w_addr, w_sub, w_subl, w_mul, w_mull, w_mulr, w_u32, w_u16, w_u8, w_u32a, N_zero]; first | done | rfl | (simp only [push_cast, reduceIte, Nat.reduceEqDiff, Nat.reduceLT, Nat.reduceAdd, Nat.reduceSub, Nat.reduceMul, Nat.reduceLeDiff, Nat.reducePow, Int.reduceLT, Int.reduceToNat, reduceCtorEq, Int.reduceNeg, Int.reduceEq, Nat.reduceBEq, Nat.reduceBNe, Int.reduceBEq, Int.reduceBNe, String.reduceEq]; first | done | rfl)))) (hf : y.flat = true := by first | with_reducible rfl | (simp only [push_cast, reduceIte, Nat.reduceEqDiff, Nat.reduceLT, Nat.reduceAdd, Nat.reduceSub, Nat.reduceMul, Nat.reduceLeDiff, Nat.reducePow, Int.reduceLT, Int.reduceToNat, reduceCtorEq, Int.reduceNeg, Int.reduceEq, Nat.reduceBEq, Nat.reduceBNe, Int.reduceBEq, Int.reduceBNe, String.reduceEq]; first | done | rfl | (simp (disch := omega) only [w_nat, w_add, w_addl, w_addr, w_sub, w_subl, w_mul, w_mull, w_mulr, w_u32, w_u16, w_u8, w_u32a, N_zero]; first | done | rfl | (simp only [push_cast, reduceIte, Nat.reduceEqDiff, Nat.reduceLT, Nat.reduceAdd, Nat.reduceSub, Nat.reduceMul, Nat.reduceLeDiff, Nat.reducePow, Int.reduceLT, Int.reduceToNat, reduceCtorEq, Int.reduceNeg, Int.reduceEq, Nat.reduceBEq, Nat.reduceBNe, Int.reduceBEq, Int.reduceBNe, String.reduceEq]; first | done | rfl)))) (hne : y.cells.isEmpty = false := by first | with_reducible rfl | (simp only [push_cast, reduceIte, Nat.reduceEqDiff, Nat.reduceLT, Nat.reduceAdd, Nat.reduceSub, Nat.reduceMul, Nat.reduceLeDiff, Nat.reducePow, Int.reduceLT, Int.reduceToNat, reduceCtorEq, Int.reduceNeg, Int.reduceEq, Nat.reduceBEq, Nat.reduceBNe, Int.reduceBEq, Int.reduceBNe, String.reduceEq]; first | done | rfl | (simp (disch := omega) only [w_nat, w_add, w_addl, w_addr, w_sub, w_subl, w_mul, w_mull, w_mulr, w_u32, w_u16, w_u8, w_u32a, N_zero]; first | done | rfl | (simp only [push_cast, reduceIte, Nat.reduceEqDiff, Nat.reduceLT, Nat.reduceAdd, Nat.reduceSub, Nat.reduceMul, Nat.reduceLeDiff, Nat.reducePow, Int.reduceLT, Int.reduceToNat, reduceCtorEq, Int.reduceNeg, Int.reduceEq, Nat.reduceBEq, Nat.reduceBNe, Int.reduceBEq, Int.reduceBNe, String.reduceEq]; first | done | rfl))))
    (h : srun P ops rest (s.put o.dst (.agg [.val hh, .ref true y, .val fl])) = p := by
        try simp only [push_cast, reduceIte, Nat.reduceEqDiff, Nat.reduceLT, Nat.reduceAdd, Nat.reduceSub, Nat.reduceMul, Nat.reduceLeDiff, Nat.reducePow, Int.reduceLT, Int.reduceToNat, reduceCtorEq, Int.reduceNeg, Int.reduceEq, Nat.reduceBEq, Nat.reduceBNe, Int.reduceBEq, Int.reduceBNe, String.reduceEq]
        try simp (disch := omega) only [w_nat, w_add, w_addl, w_addr, w_sub, w_subl, w_mul, w_mull, w_mulr, w_u32, w_u16, w_u8, w_u32a, N_zero]
        try simp only [push_cast, reduceIte, Nat.reduceEqDiff, Nat.reduceLT, Nat.reduceAdd, Nat.reduceSub, Nat.reduceMul, Nat.reduceLeDiff, Nat.reducePow, Int.reduceLT, Int.reduceToNat, reduceCtorEq, Int.reduceNeg, Int.reduceEq, Nat.reduceBEq, Nat.reduceBNe, Int.reduceBEq, Int.reduceBNe, String.reduceEq]
        rfl) : ARun2 P ops (o :: rest, s) Q :=
  ARun.exec hg (AOp.valueOf he ho hx hf (by intro e; rw [e] at hne; cases hne) hr (ARun.srun (h ▸ K)))
theorem ARun2.natSetM {f : FuncId} {e : Array Value → Sem Value} {x y : Operand} {ts : Array TypeId} {T T' : TypeId} {h1 f1 h2 f2 : Value} {k off : Nat} {nw : Bool} {z z' : AV} {cs : List AV} {p : List Oper × AS} (he : NatOk P f e)
    (hr : ∀ (ta b : Addr) (w w' : World) (v : Value), (loadVar T b).run P w = .ok v w → (storeVar T ta v).run P w = .ok () w' → (e #[.agg #[h1, .pointer (some ta), f1], .agg #[h2, .pointer (some b), f2]]).run P w = .ok (.tuple #[]) w') (K : ARun2 P ops p Q)
    (ho : o.op = .call { callee := .value (.func f), args := #[x, y], argTypes := ts } := by rfl) (hg : gd ops s o = some true := by first | with_reducible rfl | (simp only [push_cast, reduceIte, Nat.reduceEqDiff, Nat.reduceLT, Nat.reduceAdd, Nat.reduceSub, Nat.reduceMul, Nat.reduceLeDiff, Nat.reducePow, Int.reduceLT, Int.reduceToNat, reduceCtorEq, Int.reduceNeg, Int.reduceEq, Nat.reduceBEq, Nat.reduceBNe, Int.reduceBEq, Int.reduceBNe, String.reduceEq]; first | done | rfl | (simp (disch := omega) only [w_nat, w_add, w_addl, w_addr, w_sub, w_subl, w_mul, w_mull, w_mulr, w_u32, w_u16, w_u8, w_u32a, N_zero]; first | done | rfl | (simp only [push_cast, reduceIte, Nat.reduceEqDiff, Nat.reduceLT, Nat.reduceAdd, Nat.reduceSub, Nat.reduceMul, Nat.reduceLeDiff, Nat.reducePow, Int.reduceLT, Int.reduceToNat, reduceCtorEq, Int.reduceNeg, Int.reduceEq, Nat.reduceBEq, Nat.reduceBNe, Int.reduceBEq, Int.reduceBNe, String.reduceEq]; first | done | rfl)))) (hx : s.ev x = .agg [.val h1, .ptr k off, .val f1] := by first | with_reducible rfl | (simp only [push_cast, reduceIte, Nat.reduceEqDiff, Nat.reduceLT, Nat.reduceAdd, Nat.reduceSub, Nat.reduceMul, Nat.reduceLeDiff, Nat.reducePow, Int.reduceLT, Int.reduceToNat, reduceCtorEq, Int.reduceNeg, Int.reduceEq, Nat.reduceBEq, Nat.reduceBNe, Int.reduceBEq, Int.reduceBNe, String.reduceEq]; first | done | rfl | (simp (disch := omega) only [w_nat, w_add, w_addl, w_addr, w_sub, w_subl, w_mul, w_mull, w_mulr, w_u32, w_u16, w_u8, w_u32a, N_zero]; first | done | rfl | (simp only [push_cast, reduceIte, Nat.reduceEqDiff, Nat.reduceLT, Nat.reduceAdd, Nat.reduceSub, Nat.reduceMul, Nat.reduceLeDiff, Nat.reducePow, Int.reduceLT, Int.reduceToNat, reduceCtorEq, Int.reduceNeg, Int.reduceEq, Nat.reduceBEq, Nat.reduceBNe, Int.reduceBEq, Int.reduceBNe, String.reduceEq]; first | done | rfl)))) (hy : s.ev y = .agg [.val h2, .ref nw z, .val f2] := by first | with_reducible rfl | (simp only [push_cast, reduceIte, Nat.reduceEqDiff, Nat.reduceLT, Nat.reduceAdd, Nat.reduceSub, Nat.reduceMul, Nat.reduceLeDiff, Nat.reducePow, Int.reduceLT, Int.reduceToNat, reduceCtorEq, Int.reduceNeg, Int.reduceEq, Nat.reduceBEq, Nat.reduceBNe, Int.reduceBEq, Int.reduceBNe, String.reduceEq]; first | done | rfl | (simp (disch := omega) only [w_nat, w_add, w_addl, w_addr, w_sub, w_subl, w_mul, w_mull, w_mulr, w_u32, w_u16, w_u8, w_u32a, N_zero]; first | done | rfl | (simp only [push_cast, reduceIte, Nat.reduceEqDiff, Nat.reduceLT, Nat.reduceAdd, Nat.reduceSub, Nat.reduceMul, Nat.reduceLeDiff, Nat.reducePow, Int.reduceLT, Int.reduceToNat, reduceCtorEq, Int.reduceNeg, Int.reduceEq, Nat.reduceBEq, Nat.reduceBNe, Int.reduceBEq, Int.reduceBNe, String.reduceEq]; first | done | rfl)))) (hk : s.ob[k]? = some (.box T' cs) := by first | with_reducible rfl | (simp only [push_cast, reduceIte, Nat.reduceEqDiff, Nat.reduceLT, Nat.reduceAdd, Nat.reduceSub, Nat.reduceMul, Nat.reduceLeDiff, Nat.reducePow, Int.reduceLT, Int.reduceToNat, reduceCtorEq, Int.reduceNeg, Int.reduceEq, Nat.reduceBEq, Nat.reduceBNe, Int.reduceBEq, Int.reduceBNe, String.reduceEq]; first | done | rfl | (simp (disch := omega) only [w_nat, w_add, w_addl, w_addr, w_sub, w_subl, w_mul, w_mull, w_mulr, w_u32, w_u16, w_u8, w_u32a, N_zero]; first | done | rfl | (simp only [push_cast, reduceIte, Nat.reduceEqDiff, Nat.reduceLT, Nat.reduceAdd, Nat.reduceSub, Nat.reduceMul, Nat.reduceLeDiff, Nat.reducePow, Int.reduceLT, Int.reduceToNat, reduceCtorEq, Int.reduceNeg, Int.reduceEq, Nat.reduceBEq, Nat.reduceBNe, Int.reduceBEq, Int.reduceBNe, String.reduceEq]; first | done | rfl))))
    (hz : part' z.cells 0 (tk P T) = some z' := by first | with_reducible rfl | (simp only [push_cast, reduceIte, Nat.reduceEqDiff, Nat.reduceLT, Nat.reduceAdd, Nat.reduceSub, Nat.reduceMul, Nat.reduceLeDiff, Nat.reducePow, Int.reduceLT, Int.reduceToNat, reduceCtorEq, Int.reduceNeg, Int.reduceEq, Nat.reduceBEq, Nat.reduceBNe, Int.reduceBEq, Int.reduceBNe, String.reduceEq]; first | done | rfl | (simp (disch := omega) only [w_nat, w_add, w_addl, w_addr, w_sub, w_subl, w_mul, w_mull, w_mulr, w_u32, w_u16, w_u8, w_u32a, N_zero]; first | done | rfl | (simp only [push_cast, reduceIte, Nat.reduceEqDiff, Nat.reduceLT, Nat.reduceAdd, Nat.reduceSub, Nat.reduceMul, Nat.reduceLeDiff, Nat.reducePow, Int.reduceLT, Int.reduceToNat, reduceCtorEq, Int.reduceNeg, Int.reduceEq, Nat.reduceBEq, Nat.reduceBNe, Int.reduceBEq, Int.reduceBNe, String.reduceEq]; first | done | rfl)))) (hf : z'.flat = true := by first | with_reducible rfl | (simp only [push_cast, reduceIte, Nat.reduceEqDiff, Nat.reduceLT, Nat.reduceAdd, Nat.reduceSub, Nat.reduceMul, Nat.reduceLeDiff, Nat.reducePow, Int.reduceLT, Int.reduceToNat, reduceCtorEq, Int.reduceNeg, Int.reduceEq, Nat.reduceBEq, Nat.reduceBNe, Int.reduceBEq, Int.reduceBNe, String.reduceEq]; first | done | rfl | (simp (disch := omega) only [w_nat, w_add, w_addl, w_addr, w_sub, w_subl, w_mul, w_mull, w_mulr, w_u32, w_u16, w_u8, w_u32a, N_zero]; first | done | rfl | (simp only [push_cast, reduceIte, Nat.reduceEqDiff, Nat.reduceLT, Nat.reduceAdd, Nat.reduceSub, Nat.reduceMul, Nat.reduceLeDiff, Nat.reducePow, Int.reduceLT, Int.reduceToNat, reduceCtorEq, Int.reduceNeg, Int.reduceEq, Nat.reduceBEq, Nat.reduceBNe, Int.reduceBEq, Int.reduceBNe, String.reduceEq]; first | done | rfl)))) (hl : (decide (z'.cells.length = tkLen (tk P T)) && decide (0 < tkLen (tk P T)) && decide (off + z'.cells.length ≤ cs.length)) = true := by first | with_reducible rfl | (simp only [push_cast, reduceIte, Nat.reduceEqDiff, Nat.reduceLT, Nat.reduceAdd, Nat.reduceSub, Nat.reduceMul, Nat.reduceLeDiff, Nat.reducePow, Int.reduceLT, Int.reduceToNat, reduceCtorEq, Int.reduceNeg, Int.reduceEq, Nat.reduceBEq, Nat.reduceBNe, Int.reduceBEq, Int.reduceBNe, String.reduceEq]; first | done | rfl | (simp (disch := omega) only [w_nat, w_add, w_addl, w_addr, w_sub, w_subl, w_mul, w_mull, w_mulr, w_u32, w_u16, w_u8, w_u32a, N_zero]; first | done | rfl | (simp only [push_cast, reduceIte, Nat.reduceEqDiff, Nat.reduceLT, Nat.reduceAdd, Nat.reduceSub, Nat.reduceMul, Nat.reduceLeDiff, Nat.reducePow, Int.reduceLT, Int.reduceToNat, reduceCtorEq, Int.reduceNeg, Int.reduceEq, Nat.reduceBEq, Nat.reduceBNe, Int.reduceBEq, Int.reduceBNe, String.reduceEq]; first | done | rfl))))
    (h : srun P ops rest (({ s with ob := s.ob.set k (.box T' (splice cs off z'.cells)) } : AS).put o.dst (.val (.tuple #[]))) = p := by
        try simp only [push_cast, reduceIte, Nat.reduceEqDiff, Nat.reduceLT, Nat.reduceAdd, Nat.reduceSub, Nat.reduceMul, Nat.reduceLeDiff, Nat.reducePow, Int.reduceLT, Int.reduceToNat, reduceCtorEq, Int.reduceNeg, Int.reduceEq, Nat.reduceBEq, Nat.reduceBNe, Int.reduceBEq, Int.reduceBNe, String.reduceEq]
        try simp (disch := omega) only [w_nat, w_add, w_addl, w_addr, w_sub, w_subl, w_mul, w_mull, w_mulr, w_u32, w_u16, w_u8, w_u32a, N_zero]
        try simp only [push_cast, reduceIte, Nat.reduceEqDiff, Nat.reduceLT, Nat.reduceAdd, Nat.reduceSub, Nat.reduceMul, Nat.reduceLeDiff, Nat.reducePow, Int.reduceLT, Int.reduceToNat, reduceCtorEq, Int.reduceNeg, Int.reduceEq, Nat.reduceBEq, Nat.reduceBNe, Int.reduceBEq, Int.reduceBNe, String.reduceEq]
        rfl) : ARun2 P ops (o :: rest, s) Q := by
  simp only [Bool.and_eq_true, decide_eq_true_eq] at hl
  exact ARun.exec hg (AOp.natSet he ho hx hy hk hz hf hl.1.1 hl.1.2 hl.2 hr (ARun.srun (h ▸ K)))
/-! ### methods of a value in an interface -/
theorem AOp.invCall {g : FuncId} {recv : Operand} {name : String} {args : Array Operand} {ts : Array TypeId} {T : TypeId} {y r : AV} {ys : List AV} (ho : o.op = .call { callee := .invoke recv name, args := args, argTypes := ts }) (hx : s.ev recv = .ifc T y)
    (hm : ∀ v w, (Go.method (P.types.size + Made.depth) T v name).run P w = .ok (g, v) w) (hc : callable P g = true) (hp : PC P g ys r) (hsub : SubL (y :: args.toList.map s.ev) ys) (K : ARun P ops rest (s.put o.dst r) Q) : AOp P ops o rest s Q := by
  intro E hE ρ B a w hs Q' hQ
  have hxr := hs.ev recv
  rw [hx] at hxr
  generalize hq : a.eval recv = u at hxr
  cases hxr with
  | ifc h1 =>
    rename_i v
    have he : (execOp a.eval o).run P w = .ok (.enter g (v :: args.toList.map a.eval).toArray) w := by
      have h4 : (#[a.eval recv] ++ args.map a.eval)[0]? = some (.iface T v) := by rw [hq, Array.getElem?_append_left (by simp)]; rfl
      have h5 : (#[a.eval recv] ++ args.map a.eval).extract 1 (#[a.eval recv] ++ args.map a.eval).size = args.map a.eval := by
        apply Array.ext'; simp
        exact List.take_of_length_le (by simp)
      have hp : (program : Sem Program).run P w = .ok P w := rfl
      simp only [execOp, ho, resolve, Sem.run_bind, Sem.run_pure, Result.andThen_ok, invoke, h4, h5, callMethod, hp, hm]
      have := callFunc_run hc (#[v] ++ args.map a.eval) w
      rw [show (v :: args.toList.map a.eval).toArray = #[v] ++ args.map a.eval by apply Array.ext'; simp]
      exact this
    have hrel : RelL w B E.bs ρ (y :: args.toList.map s.ev) (v :: args.toList.map a.eval) := .cons h1 (RelL.map_ev hs _)
    refine owp_enter he ?_
    refine hp.2 E.bs w [] B _ (hE.glb.call hs.rw_ (fun _ h => h) (by intro v hv; simp at hv)) hs.rw_.callee (hsub.rel (Nat.le_refl _) hrel) _ ?_
    rintro r' v' τ' ρ' B' w' ⟨rfl, rfl⟩ hw hv
    have hρ : ρ' = [] := by have := hw.len; simpa using this
    subst hρ
    have hs' := hs.back hw
    refine ⟨v', rfl, K E hE ρ B' _ w' (hs'.put o.dst ?_) Q' hQ⟩
    refine (hv.mono (fun _ h => h) (fun _ _ => rfl) (Nat.le_refl _) (fun _ _ h => h)).ids (p := fun _ => false) ?_ hp.1
    intro _ _ h; simp at h
theorem ARun2.invCallM {g : FuncId} {recv : Operand} {name : String} {args : Array Operand} {ts : Array TypeId} {T : TypeId} {y r : AV} {ys : List AV} {p : List Oper × AS} (hp : PC P g ys r) (hm : ∀ v w, (Go.method (P.types.size + Made.depth) T v name).run P w = .ok (g, v) w) (K : ARun2 P ops p Q)
    (ho : o.op = .call { callee := .invoke recv name, args := args, argTypes := ts } := by rfl) (hg : gd ops s o = some true := by first | with_reducible rfl | (simp only [push_cast, reduceIte, Nat.reduceEqDiff, Nat.reduceLT, Nat.reduceAdd, Nat.reduceSub, Nat.reduceMul, Nat.reduceLeDiff, Nat.reducePow, Int.reduceLT, Int.reduceToNat, reduceCtorEq, Int.reduceNeg, Int.reduceEq, Nat.reduceBEq, Nat.reduceBNe, Int.reduceBEq, Int.reduceBNe, String.reduceEq]; first | done | rfl | (simp (disch := omega) only [w_nat, w_add, w_addl, w_addr, w_sub, w_subl, w_mul, w_mull, w_mulr, w_u32, w_u16, w_u8, w_u32a, N_zero]; first | done | rfl | (simp only [push_cast, reduceIte, Nat.reduceEqDiff, Nat.reduceLT, Nat.reduceAdd, Nat.reduceSub, Nat.reduceMul, Nat.reduceLeDiff, Nat.reducePow, Int.reduceLT, Int.reduceToNat, reduceCtorEq, Int.reduceNeg, Int.reduceEq, Nat.reduceBEq, Nat.reduceBNe, Int.reduceBEq, Int.reduceBNe, String.reduceEq]; first | done | rfl)))) (hx : s.ev recv = .ifc T y := by first | with_reducible rfl | (simp only [push_cast, reduceIte, Nat.reduceEqDiff, Nat.reduceLT, Nat.reduceAdd, Nat.reduceSub, Nat.reduceMul, Nat.reduceLeDiff, Nat.reducePow, Int.reduceLT, Int.reduceToNat, reduceCtorEq, Int.reduceNeg, Int.reduceEq, Nat.reduceBEq, Nat.reduceBNe, Int.reduceBEq, Int.reduceBNe, String.reduceEq]; first | done | rfl | (simp (disch := omega) only [w_nat, w_add, w_addl, w_addr, w_sub, w_subl, w_mul, w_mull, w_mulr, w_u32, w_u16, w_u8, w_u32a, N_zero]; first | done | rfl | (simp only [push_cast, reduceIte, Nat.reduceEqDiff, Nat.reduceLT, Nat.reduceAdd, Nat.reduceSub, Nat.reduceMul, Nat.reduceLeDiff, Nat.reducePow, Int.reduceLT, Int.reduceToNat, reduceCtorEq, Int.reduceNeg, Int.reduceEq, Nat.reduceBEq, Nat.reduceBNe, Int.reduceBEq, Int.reduceBNe, String.reduceEq]; first | done | rfl)))) (hc : callable P g = true := by first | with_reducible rfl | (simp only [push_cast, reduceIte, Nat.reduceEqDiff, Nat.reduceLT, Nat.reduceAdd, Nat.reduceSub, Nat.reduceMul, Nat.reduceLeDiff, Nat.reducePow, Int.reduceLT, Int.reduceToNat, reduceCtorEq, Int.reduceNeg, Int.reduceEq, Nat.reduceBEq, Nat.reduceBNe, Int.reduceBEq, Int.reduceBNe, String.reduceEq]; first | done | rfl | (simp (disch := omega) only [w_nat, w_add, w_addl, w_addr, w_sub, w_subl, w_mul, w_mull, w_mulr, w_u32, w_u16, w_u8, w_u32a, N_zero]; first | done | rfl | (simp only [push_cast, reduceIte, Nat.reduceEqDiff, Nat.reduceLT, Nat.reduceAdd, Nat.reduceSub, Nat.reduceMul, Nat.reduceLeDiff, Nat.reducePow, Int.reduceLT, Int.reduceToNat, reduceCtorEq, Int.reduceNeg, Int.reduceEq, Nat.reduceBEq, Nat.reduceBNe, Int.reduceBEq, Int.reduceBNe, String.reduceEq]; first | done | rfl))))
    (hsub : HandL [] (y :: args.toList.map s.ev) ys := by
      try simp only [push_cast, reduceIte, Nat.reduceEqDiff, Nat.reduceLT, Nat.reduceAdd, Nat.reduceSub, Nat.reduceMul, Nat.reduceLeDiff, Nat.reducePow, Int.reduceLT, Int.reduceToNat, reduceCtorEq, Int.reduceNeg, Int.reduceEq, Nat.reduceBEq, Nat.reduceBNe, Int.reduceBEq, Int.reduceBNe, String.reduceEq]
      try simp (disch := omega) only [w_nat, w_add, w_addl, w_addr, w_sub, w_subl, w_mul, w_mull, w_mulr, w_u32, w_u16, w_u8, w_u32a, N_zero]
      repeat' (first | assumption | exact HandL.nil | exact Hand.nil | exact Hand.any | exact Hand.eq (by first | with_reducible rfl | (simp only [push_cast, reduceIte, Nat.reduceEqDiff, Nat.reduceLT, Nat.reduceAdd, Nat.reduceSub, Nat.reduceMul, Nat.reduceLeDiff, Nat.reducePow, Int.reduceLT, Int.reduceToNat, reduceCtorEq, Int.reduceNeg, Int.reduceEq, Nat.reduceBEq, Nat.reduceBNe, Int.reduceBEq, Int.reduceBNe, String.reduceEq]; first | done | rfl | (simp (disch := omega) only [w_nat, w_add, w_addl, w_addr, w_sub, w_subl, w_mul, w_mull, w_mulr, w_u32, w_u16, w_u8, w_u32a, N_zero]; first | done | rfl | (simp only [push_cast, reduceIte, Nat.reduceEqDiff, Nat.reduceLT, Nat.reduceAdd, Nat.reduceSub, Nat.reduceMul, Nat.reduceLeDiff, Nat.reducePow, Int.reduceLT, Int.reduceToNat, reduceCtorEq, Int.reduceNeg, Int.reduceEq, Nat.reduceBEq, Nat.reduceBNe, Int.reduceBEq, Int.reduceBNe, String.reduceEq]; first | done | rfl)))) (by first | with_reducible rfl | (simp only [push_cast, reduceIte, Nat.reduceEqDiff, Nat.reduceLT, Nat.reduceAdd, Nat.reduceSub, Nat.reduceMul, Nat.reduceLeDiff, Nat.reducePow, Int.reduceLT, Int.reduceToNat, reduceCtorEq, Int.reduceNeg, Int.reduceEq, Nat.reduceBEq, Nat.reduceBNe, Int.reduceBEq, Int.reduceBNe, String.reduceEq]; first | done | rfl | (simp (disch := omega) only [w_nat, w_add, w_addl, w_addr, w_sub, w_subl, w_mul, w_mull, w_mulr, w_u32, w_u16, w_u8, w_u32a, N_zero]; first | done | rfl | (simp only [push_cast, reduceIte, Nat.reduceEqDiff, Nat.reduceLT, Nat.reduceAdd, Nat.reduceSub, Nat.reduceMul, Nat.reduceLeDiff, Nat.reducePow, Int.reduceLT, Int.reduceToNat, reduceCtorEq, Int.reduceNeg, Int.reduceEq, Nat.reduceBEq, Nat.reduceBNe, Int.reduceBEq, Int.reduceBNe, String.reduceEq]; first | done | rfl)))) | exact Hand.keep (by first | with_reducible rfl | (simp only [push_cast, reduceIte, Nat.reduceEqDiff, Nat.reduceLT, Nat.reduceAdd, Nat.reduceSub, Nat.reduceMul, Nat.reduceLeDiff, Nat.reducePow, Int.reduceLT, Int.reduceToNat, reduceCtorEq, Int.reduceNeg, Int.reduceEq, Nat.reduceBEq, Nat.reduceBNe, Int.reduceBEq, Int.reduceBNe, String.reduceEq]; first | done | rfl | (simp (disch := omega) only [w_nat, w_add, w_addl, w_addr, w_sub, w_subl, w_mul, w_mull, w_mulr, w_u32, w_u16, w_u8, w_u32a, N_zero]; first | done | rfl | (simp only [push_cast, reduceIte, Nat.reduceEqDiff, Nat.reduceLT, Nat.reduceAdd, Nat.reduceSub, Nat.reduceMul, Nat.reduceLeDiff, Nat.reducePow, Int.reduceLT, Int.reduceToNat, reduceCtorEq, Int.reduceNeg, Int.reduceEq, Nat.reduceBEq, Nat.reduceBNe, Int.reduceBEq, Int.reduceBNe, String.reduceEq]; first | done | rfl)))) (by with_reducible rfl) | refine HandL.cons ?_ ?_ | refine Hand.agg ?_ | refine Hand.tup ?_ | refine Hand.fn ?_ ?_ | exact HandR.nil | exact HandC.nil | refine HandC.cons ?_ ?_ | refine HandR.cons ?_ ?_ | refine Hand.sl ?_))
    (h : srun P ops rest (s.put o.dst r) = p := by
        try simp only [push_cast, reduceIte, Nat.reduceEqDiff, Nat.reduceLT, Nat.reduceAdd, Nat.reduceSub, Nat.reduceMul, Nat.reduceLeDiff, Nat.reducePow, Int.reduceLT, Int.reduceToNat, reduceCtorEq, Int.reduceNeg, Int.reduceEq, Nat.reduceBEq, Nat.reduceBNe, Int.reduceBEq, Int.reduceBNe, String.reduceEq]
        try simp (disch := omega) only [w_nat, w_add, w_addl, w_addr, w_sub, w_subl, w_mul, w_mull, w_mulr, w_u32, w_u16, w_u8, w_u32a, N_zero]
        try simp only [push_cast, reduceIte, Nat.reduceEqDiff, Nat.reduceLT, Nat.reduceAdd, Nat.reduceSub, Nat.reduceMul, Nat.reduceLeDiff, Nat.reducePow, Int.reduceLT, Int.reduceToNat, reduceCtorEq, Int.reduceNeg, Int.reduceEq, Nat.reduceBEq, Nat.reduceBNe, Int.reduceBEq, Int.reduceBNe, String.reduceEq]
        rfl) : ARun2 P ops (o :: rest, s) Q := ARun.exec hg (AOp.invCall ho hx hm hc hp (SubL.of hsub) (ARun.srun (h ▸ K)))
/-- what is asserted of a value in an interface holds, or not, by its type -/
theorem ARun2.assertM {x : Operand} {xT aT T : TypeId} {y r : AV} {p : List Oper × AS} (F : Value → Value) (hr : ∀ v w, (Instr.typeAssert (.iface T v) xT aT true).run P w = .ok (F v) w) (hF : ∀ (w : World) (B : Nat → Prop) (bs : Nat) (ρ : List Value) (v : Value), Rel w B bs ρ (.ifc T y) (.iface T v) → Rel w B bs ρ r (F v)) (K : ARun2 P ops p Q)
    (ho : o.op = .typeAssert x xT aT true := by rfl) (hg : gd ops s o = some true := by first | with_reducible rfl | (simp only [push_cast, reduceIte, Nat.reduceEqDiff, Nat.reduceLT, Nat.reduceAdd, Nat.reduceSub, Nat.reduceMul, Nat.reduceLeDiff, Nat.reducePow, Int.reduceLT, Int.reduceToNat, reduceCtorEq, Int.reduceNeg, Int.reduceEq, Nat.reduceBEq, Nat.reduceBNe, Int.reduceBEq, Int.reduceBNe, String.reduceEq]; first | done | rfl | (simp (disch := omega) only [w_nat, w_add, w_addl, w_addr, w_sub, w_subl, w_mul, w_mull, w_mulr, w_u32, w_u16, w_u8, w_u32a, N_zero]; first | done | rfl | (simp only [push_cast, reduceIte, Nat.reduceEqDiff, Nat.reduceLT, Nat.reduceAdd, Nat.reduceSub, Nat.reduceMul, Nat.reduceLeDiff, Nat.reducePow, Int.reduceLT, Int.reduceToNat, reduceCtorEq, Int.reduceNeg, Int.reduceEq, Nat.reduceBEq, Nat.reduceBNe, Int.reduceBEq, Int.reduceBNe, String.reduceEq]; first | done | rfl)))) (hx : s.ev x = .ifc T y := by first | with_reducible rfl | (simp only [push_cast, reduceIte, Nat.reduceEqDiff, Nat.reduceLT, Nat.reduceAdd, Nat.reduceSub, Nat.reduceMul, Nat.reduceLeDiff, Nat.reducePow, Int.reduceLT, Int.reduceToNat, reduceCtorEq, Int.reduceNeg, Int.reduceEq, Nat.reduceBEq, Nat.reduceBNe, Int.reduceBEq, Int.reduceBNe, String.reduceEq]; first | done | rfl | (simp (disch := omega) only [w_nat, w_add, w_addl, w_addr, w_sub, w_subl, w_mul, w_mull, w_mulr, w_u32, w_u16, w_u8, w_u32a, N_zero]; first | done | rfl | (simp only [push_cast, reduceIte, Nat.reduceEqDiff, Nat.reduceLT, Nat.reduceAdd, Nat.reduceSub, Nat.reduceMul, Nat.reduceLeDiff, Nat.reducePow, Int.reduceLT, Int.reduceToNat, reduceCtorEq, Int.reduceNeg, Int.reduceEq, Nat.reduceBEq, Nat.reduceBNe, Int.reduceBEq, Int.reduceBNe, String.reduceEq]; first | done | rfl)))) (h : srun P ops rest (s.put o.dst r) = p := by
        try simp only [push_cast, reduceIte, Nat.reduceEqDiff, Nat.reduceLT, Nat.reduceAdd, Nat.reduceSub, Nat.reduceMul, Nat.reduceLeDiff, Nat.reducePow, Int.reduceLT, Int.reduceToNat, reduceCtorEq, Int.reduceNeg, Int.reduceEq, Nat.reduceBEq, Nat.reduceBNe, Int.reduceBEq, Int.reduceBNe, String.reduceEq]
        try simp (disch := omega) only [w_nat, w_add, w_addl, w_addr, w_sub, w_subl, w_mul, w_mull, w_mulr, w_u32, w_u16, w_u8, w_u32a, N_zero]
        try simp only [push_cast, reduceIte, Nat.reduceEqDiff, Nat.reduceLT, Nat.reduceAdd, Nat.reduceSub, Nat.reduceMul, Nat.reduceLeDiff, Nat.reducePow, Int.reduceLT, Int.reduceToNat, reduceCtorEq, Int.reduceNeg, Int.reduceEq, Nat.reduceBEq, Nat.reduceBNe, Int.reduceBEq, Int.reduceBNe, String.reduceEq]
        rfl) : ARun2 P ops (o :: rest, s) Q := by
  refine ARun.exec hg (AOp.pure1 (fun E ρ B a w hs => ?_) (ARun.srun (h ▸ K)))
  have hxr := hs.ev x
  rw [hx] at hxr
  generalize hq : a.eval x = u at hxr
  have hxr' := hxr
  cases hxr with
  | ifc h1 =>
    rename_i v
    refine ⟨F v, ?_, hF _ _ _ _ _ hxr'⟩
    simp only [execOp, ho, hq]
    exact val_run (hr v w)
/-- a package-level variable of one cell, loaded -/
theorem ARun2.gloadM {T : TypeId} {g : Nat} {p : List Oper × AS} (v : Value) (hv : (g, [v]) ∈ glb) (ht : tk P T = .scal) (K : ARun2 P ops p Q) (ho : o.op = .load T (.global g) := by rfl) (hg : gd ops s o = some true := by first | with_reducible rfl | (simp only [push_cast, reduceIte, Nat.reduceEqDiff, Nat.reduceLT, Nat.reduceAdd, Nat.reduceSub, Nat.reduceMul, Nat.reduceLeDiff, Nat.reducePow, Int.reduceLT, Int.reduceToNat, reduceCtorEq, Int.reduceNeg, Int.reduceEq, Nat.reduceBEq, Nat.reduceBNe, Int.reduceBEq, Int.reduceBNe, String.reduceEq]; first | done | rfl | (simp (disch := omega) only [w_nat, w_add, w_addl, w_addr, w_sub, w_subl, w_mul, w_mull, w_mulr, w_u32, w_u16, w_u8, w_u32a, N_zero]; first | done | rfl | (simp only [push_cast, reduceIte, Nat.reduceEqDiff, Nat.reduceLT, Nat.reduceAdd, Nat.reduceSub, Nat.reduceMul, Nat.reduceLeDiff, Nat.reducePow, Int.reduceLT, Int.reduceToNat, reduceCtorEq, Int.reduceNeg, Int.reduceEq, Nat.reduceBEq, Nat.reduceBNe, Int.reduceBEq, Int.reduceBNe, String.reduceEq]; first | done | rfl))))
    (h : srun P ops rest (s.put o.dst (.val v)) = p := by
        try simp only [push_cast, reduceIte, Nat.reduceEqDiff, Nat.reduceLT, Nat.reduceAdd, Nat.reduceSub, Nat.reduceMul, Nat.reduceLeDiff, Nat.reducePow, Int.reduceLT, Int.reduceToNat, reduceCtorEq, Int.reduceNeg, Int.reduceEq, Nat.reduceBEq, Nat.reduceBNe, Int.reduceBEq, Int.reduceBNe, String.reduceEq]
        try simp (disch := omega) only [w_nat, w_add, w_addl, w_addr, w_sub, w_subl, w_mul, w_mull, w_mulr, w_u32, w_u16, w_u8, w_u32a, N_zero]
        try simp only [push_cast, reduceIte, Nat.reduceEqDiff, Nat.reduceLT, Nat.reduceAdd, Nat.reduceSub, Nat.reduceMul, Nat.reduceLeDiff, Nat.reducePow, Int.reduceLT, Int.reduceToNat, reduceCtorEq, Int.reduceNeg, Int.reduceEq, Nat.reduceBEq, Nat.reduceBNe, Int.reduceBEq, Int.reduceBNe, String.reduceEq]
        rfl) : ARun2 P ops (o :: rest, s) Q := by
  refine ARun.exec hg ?_
  intro E hE ρ B a w hs Q' hQ
  obtain ⟨_, h2⟩ := hE.glb.now hs.rw_ _ hv
  have hcell := h2 0 v rfl
  have hl := run_loadVar_scal (P := P) ht hcell
  have hr : (execOp a.eval o).run P w = .ok (.value v) w := by
    simp only [execOp, ho]
    refine val_run ?_
    have e : a.eval (.global g) = .pointer (some ⟨g, 0, none⟩) := rfl
    simpa [Instr.loadAt, Instr.sureAddr, e] using hl
  exact owp_value hr ((ARun.srun (h ▸ K)) E hE ρ B _ w (hs.put o.dst (.val v)) Q' hQ)
/-- a call whose answer hangs on the type of what stands in the interface alone -/
theorem ARun2.natVM1 {f : FuncId} {e : Array Value → Sem Value} {x : Operand} {ts : Array TypeId} {T : TypeId} {y : AV} {v : Value} {p : List Oper × AS} (he : NatOk P f e) (hr : ∀ u w, (e #[.iface T u]).run P w = .ok v w) (K : ARun2 P ops p Q)
    (ho : o.op = .call { callee := .value (.func f), args := #[x], argTypes := ts } := by rfl) (hg : gd ops s o = some true := by first | with_reducible rfl | (simp only [push_cast, reduceIte, Nat.reduceEqDiff, Nat.reduceLT, Nat.reduceAdd, Nat.reduceSub, Nat.reduceMul, Nat.reduceLeDiff, Nat.reducePow, Int.reduceLT, Int.reduceToNat, reduceCtorEq, Int.reduceNeg, Int.reduceEq, Nat.reduceBEq, Nat.reduceBNe, Int.reduceBEq, Int.reduceBNe, String.reduceEq]; first | done | rfl | (simp (disch := omega) only [w_nat, w_add, w_addl, w_addr, w_sub, w_subl, w_mul, w_mull, w_mulr, w_u32, w_u16, w_u8, w_u32a, N_zero]; first | done | rfl | (simp only [push_cast, reduceIte, Nat.reduceEqDiff, Nat.reduceLT, Nat.reduceAdd, Nat.reduceSub, Nat.reduceMul, Nat.reduceLeDiff, Nat.reducePow, Int.reduceLT, Int.reduceToNat, reduceCtorEq, Int.reduceNeg, Int.reduceEq, Nat.reduceBEq, Nat.reduceBNe, Int.reduceBEq, Int.reduceBNe, String.reduceEq]; first | done | rfl)))) (hx : s.ev x = .ifc T y := by first | with_reducible rfl | (simp only [push_cast, reduceIte, Nat.reduceEqDiff, Nat.reduceLT, Nat.reduceAdd, Nat.reduceSub, Nat.reduceMul, Nat.reduceLeDiff, Nat.reducePow, Int.reduceLT, Int.reduceToNat, reduceCtorEq, Int.reduceNeg, Int.reduceEq, Nat.reduceBEq, Nat.reduceBNe, Int.reduceBEq, Int.reduceBNe, String.reduceEq]; first | done | rfl | (simp (disch := omega) only [w_nat, w_add, w_addl, w_addr, w_sub, w_subl, w_mul, w_mull, w_mulr, w_u32, w_u16, w_u8, w_u32a, N_zero]; first | done | rfl | (simp only [push_cast, reduceIte, Nat.reduceEqDiff, Nat.reduceLT, Nat.reduceAdd, Nat.reduceSub, Nat.reduceMul, Nat.reduceLeDiff, Nat.reducePow, Int.reduceLT, Int.reduceToNat, reduceCtorEq, Int.reduceNeg, Int.reduceEq, Nat.reduceBEq, Nat.reduceBNe, Int.reduceBEq, Int.reduceBNe, String.reduceEq]; first | done | rfl)))) (h : srun P ops rest (s.put o.dst (.val v)) = p := by
        try simp only [push_cast, reduceIte, Nat.reduceEqDiff, Nat.reduceLT, Nat.reduceAdd, Nat.reduceSub, Nat.reduceMul, Nat.reduceLeDiff, Nat.reducePow, Int.reduceLT, Int.reduceToNat, reduceCtorEq, Int.reduceNeg, Int.reduceEq, Nat.reduceBEq, Nat.reduceBNe, Int.reduceBEq, Int.reduceBNe, String.reduceEq]
        try simp (disch := omega) only [w_nat, w_add, w_addl, w_addr, w_sub, w_subl, w_mul, w_mull, w_mulr, w_u32, w_u16, w_u8, w_u32a, N_zero]
        try simp only [push_cast, reduceIte, Nat.reduceEqDiff, Nat.reduceLT, Nat.reduceAdd, Nat.reduceSub, Nat.reduceMul, Nat.reduceLeDiff, Nat.reducePow, Int.reduceLT, Int.reduceToNat, reduceCtorEq, Int.reduceNeg, Int.reduceEq, Nat.reduceBEq, Nat.reduceBNe, Int.reduceBEq, Int.reduceBNe, String.reduceEq]
        rfl) : ARun2 P ops (o :: rest, s) Q := by
  refine ARun.exec hg (AOp.pure1 (fun E ρ B a w hs => ⟨v, ?_, .val _⟩) (ARun.srun (h ▸ K)))
  have hxr := hs.ev x
  rw [hx] at hxr
  generalize hq : a.eval x = u at hxr
  cases hxr with
  | ifc h1 =>
    rw [run_call_nat he ho (eval_func f), show (#[x] : Array Operand).map a.eval = #[a.eval x] by simp, hq, hr]; rfl
end
end Go.Abs
/- errors.As at the targets *Code and *Fault, and what package fault makes of it. -/
set_option linter.unusedVariables false
set_option linter.unusedSimpArgs false
namespace Go.Proofs.YtmcedkcehcacpaaGreatDoor.C
open Go.Abs Go.Extern
abbrev HT (t : Nat) : Value := .pointer (some ⟨1, t, none⟩)
abbrev RTY (t : Nat) : Value := .iface 152 (.agg #[HT t])
theorem nat_valueOf : NatOk Tryz.prog 74 (fun args => ReflectliteValue.unpack (args.getD 0 (.tuple #[]))) := fun vs w => run_callFunc_extern (e := fun args => ReflectliteValue.unpack (args.getD 0 (.tuple #[]))) Tryz.func74 (by kernel_rfl) (by kernel_rfl) (by kernel_rfl) (by kernel_rfl) vs w
theorem nat_type : NatOk Tryz.prog 75 (ReflectliteValue.methodAny (ReflectliteValue.valueError "reflectlite.Value.Type" 0) (fun t _ _ _ => ReflectliteType.toType t)) := fun vs w => run_callFunc_extern Tryz.func75 (by kernel_rfl) (by kernel_rfl) (by kernel_rfl) (by kernel_rfl) vs w
theorem nat_isNil : NatOk Tryz.prog 76 (ReflectliteValue.method (ReflectliteValue.valueError "reflectlite.Value.IsNil" 0) ReflectliteValue.isNil) := fun vs w => run_callFunc_extern Tryz.func76 (by kernel_rfl) (by kernel_rfl) (by kernel_rfl) (by kernel_rfl) vs w
theorem nat_kind : NatOk Tryz.prog 110 (ReflectliteType.abiMethod fun t => do pure (.int .u8 (← Rtype.kind t))) := fun vs w => run_callFunc_extern Tryz.func110 (by kernel_rfl) (by kernel_rfl) (by kernel_rfl) (by kernel_rfl) vs w
theorem nat_elem : NatOk Tryz.prog 123 (ReflectliteType.method ReflectliteType.elem) := fun vs w => run_callFunc_extern Tryz.func123 (by kernel_rfl) (by kernel_rfl) (by kernel_rfl) (by kernel_rfl) vs w
theorem nat_implements : NatOk Tryz.prog 124 (ReflectliteType.relation "Implements" ReflectliteType.implements_) := fun vs w => run_callFunc_extern Tryz.func124 (by kernel_rfl) (by kernel_rfl) (by kernel_rfl) (by kernel_rfl) vs w
theorem nat_typeOf : NatOk Tryz.prog 84 ReflectliteType.typeOf := fun vs w => run_callFunc_extern Tryz.func84 (by kernel_rfl) (by kernel_rfl) (by kernel_rfl) (by kernel_rfl) vs w
theorem nat_assignable : NatOk Tryz.prog 121 (ReflectliteType.relation "AssignableTo" ReflectliteType.assignableTo) := fun vs w => run_callFunc_extern Tryz.func121 (by kernel_rfl) (by kernel_rfl) (by kernel_rfl) (by kernel_rfl) vs w
theorem nat_elemV : NatOk Tryz.prog 85 (ReflectliteValue.method (ReflectliteValue.valueError "reflectlite.Value.Elem" 0) ReflectliteValue.elem) := fun vs w => run_callFunc_extern Tryz.func85 (by kernel_rfl) (by kernel_rfl) (by kernel_rfl) (by kernel_rfl) vs w
theorem nat_set : NatOk Tryz.prog 86 ReflectliteValue.set := fun vs w => run_callFunc_extern Tryz.func86 (by kernel_rfl) (by kernel_rfl) (by kernel_rfl) (by kernel_rfl) vs w
theorem m_kind (h : Value) (w : World) : (Go.method (Tryz.prog.types.size + Made.depth) 152 (.agg #[h]) "Kind").run Tryz.prog w = .ok (110, h) w := by kernel_rfl
theorem m_elem (h : Value) (w : World) : (Go.method (Tryz.prog.types.size + Made.depth) 152 (.agg #[h]) "Elem").run Tryz.prog w = .ok (123, .agg #[h]) w := by kernel_rfl
theorem m_implements (h : Value) (w : World) : (Go.method (Tryz.prog.types.size + Made.depth) 152 (.agg #[h]) "Implements").run Tryz.prog w = .ok (124, .agg #[h]) w := by kernel_rfl
theorem m_assignable (h : Value) (w : World) : (Go.method (Tryz.prog.types.size + Made.depth) 152 (.agg #[h]) "AssignableTo").run Tryz.prog w = .ok (121, .agg #[h]) w := by kernel_rfl
theorem rlm (z : Sem Value) (f : TypeId → Addr → Nat → Nat → Sem Value) (v : Value) :
    ReflectliteValue.method z f #[v] = (do match ← ReflectliteValue.parts v with | none => z | some (t, a, fl) => f t a fl (fl % 32)) := rfl
theorem rls (v x : Value) : ReflectliteValue.set #[v, x] = (do
    let (some (dst, a, fl), some (src, b, _)) := (← ReflectliteValue.parts v, ← ReflectliteValue.parts x)
      | unsupported (.noEntry "extern/(internal/reflectlite.Value).Set.zeroValue")
    if fl / ReflectliteValue.flagAddr % 2 == 0 then unsupported (.noEntry "extern/(internal/reflectlite.Value).Set.unaddressable")
    let val ← loadVar src b
    if ← Rtype.directlyAssignable dst src then storeVar dst a val
    else if ← Rtype.implements dst src then
      if (← Rtype.kind src) == 20 then
        match val with
        | .nilIface => unsupported (.noEntry "extern/reflectlite: a nil value of one interface type handed on as a value of another")
        | _ => storeVar dst a val
      else storeVar dst a (.iface src val)
    else panicString ("reflectlite.Set: value of type " ++ (← Rtype.spelt src) ++ " is not assignable to type " ++ (← Rtype.spelt dst))
    pure (.tuple #[])) := rfl
/-! ### at *Code -/
theorem pv_Code (w : World) (B : Nat → Prop) (bs : Nat) (ρ : List Value) (k off : Nat) (v : Value) (h : Rel w B bs ρ (.ptr k off) v) : ((fun args : Array Value => ReflectliteValue.unpack (args.getD 0 (.tuple #[]))) #[.iface 114 v]).run Tryz.prog w = .ok (.agg #[HT 114, .pointer (some ⟨w.heap.size, 0, none⟩), .int .u64 150]) (w.alloc (.cells (List.toArray v.cells.toList) 114)) := by
  cases h; kernel_rfl
theorem ty_Code (a : Addr) (w : World) : (ReflectliteValue.methodAny (ReflectliteValue.valueError "reflectlite.Value.Type" 0) (fun t _ _ _ => ReflectliteType.toType t) #[.agg #[HT 114, .pointer (some a), .int .u64 150]]).run Tryz.prog w = .ok (RTY 114) w := by kernel_rfl
theorem pk_Code (w : World) : ((ReflectliteType.abiMethod fun t => do pure (.int .u8 (← Rtype.kind t))) #[HT 114]).run Tryz.prog w = .ok (.int .u8 22) w := by kernel_rfl
theorem kd_Code (w : World) : ((ReflectliteType.abiMethod fun t => do pure (.int .u8 (← Rtype.kind t))) #[HT 57]).run Tryz.prog w = .ok (.int .u8 2) w := by kernel_rfl
theorem el_Code (w : World) : (ReflectliteType.method ReflectliteType.elem #[.agg #[HT 114]]).run Tryz.prog w = .ok (RTY 57) w := by kernel_rfl
theorem im_Code (w : World) : (ReflectliteType.relation "Implements" ReflectliteType.implements_ #[.agg #[HT 57], RTY 28]).run Tryz.prog w = .ok (.bool true) w := by kernel_rfl
theorem to_Code (v : Value) (w : World) : (ReflectliteType.typeOf #[.iface 57 v]).run Tryz.prog w = .ok (RTY 57) w := by kernel_rfl
theorem as_Code (w : World) : (ReflectliteType.relation "AssignableTo" ReflectliteType.assignableTo #[.agg #[HT 57], RTY 57]).run Tryz.prog w = .ok (.bool true) w := by kernel_rfl
theorem parts_Code (a : Addr) (w : World) : (ReflectliteValue.parts (.agg #[HT 114, .pointer (some a), .int .u64 150])).run Tryz.prog w = .ok (some (114, a, 150)) w := by kernel_rfl
theorem partsA_Code (a : Addr) (w : World) : (ReflectliteValue.parts (.agg #[HT 57, .pointer (some a), .int .u64 386])).run Tryz.prog w = .ok (some (57, a, 386)) w := by kernel_rfl
theorem partsV_Code (a : Addr) (w : World) : (ReflectliteValue.parts (.agg #[HT 57, .pointer (some a), .int .u64 130])).run Tryz.prog w = .ok (some (57, a, 130)) w := by kernel_rfl
theorem direct_Code (w : World) : (Rtype.directlyAssignable 57 57).run Tryz.prog w = .ok true w := by kernel_rfl
theorem elemOf_Code (w : World) : (Rtype.elem? 114).run Tryz.prog w = .ok (some 57) w := by kernel_rfl
theorem mk_Code (p : Addr) (w : World) : (ReflectliteValue.mk 57 p ReflectliteValue.flagAddr).run Tryz.prog w = .ok (.agg #[HT 57, .pointer (some p), .int .u64 386]) w := by kernel_rfl
theorem ty1_Code (y : AV) (nw : Bool) (w : World) (B : Nat → Prop) (bs : Nat) (ρ : List Value) (b o : Nat) (h : RelCells w B bs ρ nw b o y.cells) : ∃ v, (ReflectliteValue.methodAny (ReflectliteValue.valueError "reflectlite.Value.Type" 0) (fun t _ _ _ => ReflectliteType.toType t) #[.agg #[HT 114, .pointer (some ⟨b, o, none⟩), .int .u64 150]]).run Tryz.prog w = .ok v w ∧ Rel w B bs ρ (.val (RTY 114)) v :=
  ⟨_, ty_Code _ w, .val _⟩
theorem nil_Code (k off : Nat) (nw : Bool) (w : World) (B : Nat → Prop) (bs : Nat) (ρ : List Value) (b o : Nat) (h : RelCells w B bs ρ nw b o (AV.ptr k off).cells) : ∃ v, (ReflectliteValue.method (ReflectliteValue.valueError "reflectlite.Value.IsNil" 0) ReflectliteValue.isNil #[.agg #[HT 114, .pointer (some ⟨b, o, none⟩), .int .u64 150]]).run Tryz.prog w = .ok v w ∧ Rel w B bs ρ (.val (.bool false)) v := by
  cases h with
  | cons h1 h2 h3 h4 h5 h6 =>
    cases h5 with
    | ptr hp =>
      refine ⟨.bool false, ?_, .val _⟩
      rw [rlm]
      simp only [Sem.run_bind, parts_Code, Result.andThen]
      simp [ReflectliteValue.isNil, loadVar, isAgg, underlying, Tryz.underlying114, h3, Result.andThen]
theorem ev_Code (k off : Nat) (nw : Bool) (w : World) (B : Nat → Prop) (bs : Nat) (ρ : List Value) (b o : Nat) (h : RelCells w B bs ρ nw b o (AV.ptr k off).cells) : ∃ v, (ReflectliteValue.method (ReflectliteValue.valueError "reflectlite.Value.Elem" 0) ReflectliteValue.elem #[.agg #[HT 114, .pointer (some ⟨b, o, none⟩), .int .u64 150]]).run Tryz.prog w = .ok v w ∧ Rel w B bs ρ (.agg [.val (HT 57), .ptr k off, .val (.int .u64 386)]) v := by
  cases h with
  | cons h1 h2 h3 h4 h5 h6 =>
    cases h5 with
    | ptr hp =>
      refine ⟨_, ?_, .agg (.cons (.val _) (.cons (.ptr hp) (.cons (.val _) .nil)))⟩
      rw [rlm]
      simp only [Sem.run_bind, parts_Code, Result.andThen]
      simp [ReflectliteValue.elem, loadVar, isAgg, underlying, Tryz.underlying114, h3, Result.andThen, elemOf_Code, mk_Code]
theorem set_Code (ta b : Addr) (w w' : World) (v : Value) (h1 : (loadVar 57 b).run Tryz.prog w = .ok v w) (h2 : (storeVar 57 ta v).run Tryz.prog w = .ok () w') :
    (ReflectliteValue.set #[.agg #[HT 57, .pointer (some ta), .int .u64 386], .agg #[HT 57, .pointer (some b), .int .u64 130]]).run Tryz.prog w = .ok (.tuple #[]) w' := by
  rw [rls]
  simp only [Sem.run_bind, partsA_Code, partsV_Code, Result.andThen]
  simp [ReflectliteValue.flagAddr, h1, Result.andThen, direct_Code, h2]
/-! ### at *Fault -/
theorem pv_Fault (w : World) (B : Nat → Prop) (bs : Nat) (ρ : List Value) (k off : Nat) (v : Value) (h : Rel w B bs ρ (.ptr k off) v) : ((fun args : Array Value => ReflectliteValue.unpack (args.getD 0 (.tuple #[]))) #[.iface 117 v]).run Tryz.prog w = .ok (.agg #[HT 117, .pointer (some ⟨w.heap.size, 0, none⟩), .int .u64 150]) (w.alloc (.cells (List.toArray v.cells.toList) 117)) := by
  cases h; kernel_rfl
theorem ty_Fault (a : Addr) (w : World) : (ReflectliteValue.methodAny (ReflectliteValue.valueError "reflectlite.Value.Type" 0) (fun t _ _ _ => ReflectliteType.toType t) #[.agg #[HT 117, .pointer (some a), .int .u64 150]]).run Tryz.prog w = .ok (RTY 117) w := by kernel_rfl
theorem pk_Fault (w : World) : ((ReflectliteType.abiMethod fun t => do pure (.int .u8 (← Rtype.kind t))) #[HT 117]).run Tryz.prog w = .ok (.int .u8 22) w := by kernel_rfl
theorem kd_Fault (w : World) : ((ReflectliteType.abiMethod fun t => do pure (.int .u8 (← Rtype.kind t))) #[HT 116]).run Tryz.prog w = .ok (.int .u8 25) w := by kernel_rfl
theorem el_Fault (w : World) : (ReflectliteType.method ReflectliteType.elem #[.agg #[HT 117]]).run Tryz.prog w = .ok (RTY 116) w := by kernel_rfl
theorem im_Fault (w : World) : (ReflectliteType.relation "Implements" ReflectliteType.implements_ #[.agg #[HT 116], RTY 28]).run Tryz.prog w = .ok (.bool true) w := by kernel_rfl
theorem to_Fault (v : Value) (w : World) : (ReflectliteType.typeOf #[.iface 116 v]).run Tryz.prog w = .ok (RTY 116) w := by kernel_rfl
theorem as_Fault (w : World) : (ReflectliteType.relation "AssignableTo" ReflectliteType.assignableTo #[.agg #[HT 116], RTY 116]).run Tryz.prog w = .ok (.bool true) w := by kernel_rfl
theorem parts_Fault (a : Addr) (w : World) : (ReflectliteValue.parts (.agg #[HT 117, .pointer (some a), .int .u64 150])).run Tryz.prog w = .ok (some (117, a, 150)) w := by kernel_rfl
theorem partsA_Fault (a : Addr) (w : World) : (ReflectliteValue.parts (.agg #[HT 116, .pointer (some a), .int .u64 409])).run Tryz.prog w = .ok (some (116, a, 409)) w := by kernel_rfl
theorem partsV_Fault (a : Addr) (w : World) : (ReflectliteValue.parts (.agg #[HT 116, .pointer (some a), .int .u64 153])).run Tryz.prog w = .ok (some (116, a, 153)) w := by kernel_rfl
theorem direct_Fault (w : World) : (Rtype.directlyAssignable 116 116).run Tryz.prog w = .ok true w := by kernel_rfl
theorem elemOf_Fault (w : World) : (Rtype.elem? 117).run Tryz.prog w = .ok (some 116) w := by kernel_rfl
theorem mk_Fault (p : Addr) (w : World) : (ReflectliteValue.mk 116 p ReflectliteValue.flagAddr).run Tryz.prog w = .ok (.agg #[HT 116, .pointer (some p), .int .u64 409]) w := by kernel_rfl
theorem ty1_Fault (y : AV) (nw : Bool) (w : World) (B : Nat → Prop) (bs : Nat) (ρ : List Value) (b o : Nat) (h : RelCells w B bs ρ nw b o y.cells) : ∃ v, (ReflectliteValue.methodAny (ReflectliteValue.valueError "reflectlite.Value.Type" 0) (fun t _ _ _ => ReflectliteType.toType t) #[.agg #[HT 117, .pointer (some ⟨b, o, none⟩), .int .u64 150]]).run Tryz.prog w = .ok v w ∧ Rel w B bs ρ (.val (RTY 117)) v :=
  ⟨_, ty_Fault _ w, .val _⟩
theorem nil_Fault (k off : Nat) (nw : Bool) (w : World) (B : Nat → Prop) (bs : Nat) (ρ : List Value) (b o : Nat) (h : RelCells w B bs ρ nw b o (AV.ptr k off).cells) : ∃ v, (ReflectliteValue.method (ReflectliteValue.valueError "reflectlite.Value.IsNil" 0) ReflectliteValue.isNil #[.agg #[HT 117, .pointer (some ⟨b, o, none⟩), .int .u64 150]]).run Tryz.prog w = .ok v w ∧ Rel w B bs ρ (.val (.bool false)) v := by
  cases h with
  | cons h1 h2 h3 h4 h5 h6 =>
    cases h5 with
    | ptr hp =>
      refine ⟨.bool false, ?_, .val _⟩
      rw [rlm]
      simp only [Sem.run_bind, parts_Fault, Result.andThen]
      simp [ReflectliteValue.isNil, loadVar, isAgg, underlying, Tryz.underlying117, h3, Result.andThen]
theorem ev_Fault (k off : Nat) (nw : Bool) (w : World) (B : Nat → Prop) (bs : Nat) (ρ : List Value) (b o : Nat) (h : RelCells w B bs ρ nw b o (AV.ptr k off).cells) : ∃ v, (ReflectliteValue.method (ReflectliteValue.valueError "reflectlite.Value.Elem" 0) ReflectliteValue.elem #[.agg #[HT 117, .pointer (some ⟨b, o, none⟩), .int .u64 150]]).run Tryz.prog w = .ok v w ∧ Rel w B bs ρ (.agg [.val (HT 116), .ptr k off, .val (.int .u64 409)]) v := by
  cases h with
  | cons h1 h2 h3 h4 h5 h6 =>
    cases h5 with
    | ptr hp =>
      refine ⟨_, ?_, .agg (.cons (.val _) (.cons (.ptr hp) (.cons (.val _) .nil)))⟩
      rw [rlm]
      simp only [Sem.run_bind, parts_Fault, Result.andThen]
      simp [ReflectliteValue.elem, loadVar, isAgg, underlying, Tryz.underlying117, h3, Result.andThen, elemOf_Fault, mk_Fault]
theorem set_Fault (ta b : Addr) (w w' : World) (v : Value) (h1 : (loadVar 116 b).run Tryz.prog w = .ok v w) (h2 : (storeVar 116 ta v).run Tryz.prog w = .ok () w') :
    (ReflectliteValue.set #[.agg #[HT 116, .pointer (some ta), .int .u64 409], .agg #[HT 116, .pointer (some b), .int .u64 153]]).run Tryz.prog w = .ok (.tuple #[]) w' := by
  rw [rls]
  simp only [Sem.run_bind, partsA_Fault, partsV_Fault, Result.andThen]
  simp [ReflectliteValue.flagAddr, h1, Result.andThen, direct_Fault, h2]
theorem as_mix (w : World) : (ReflectliteType.relation "AssignableTo" ReflectliteType.assignableTo #[.agg #[HT 116], RTY 57]).run Tryz.prog w = .ok (.bool false) w := by kernel_rfl
theorem as_mix2 (w : World) : (ReflectliteType.relation "AssignableTo" ReflectliteType.assignableTo #[.agg #[HT 57], RTY 116]).run Tryz.prog w = .ok (.bool false) w := by kernel_rfl
theorem vv_Code (c : Nat) (w : World) (B : Nat → Prop) (bs : Nat) (ρ : List Value) (v : Value) (h : Rel w B bs ρ (nat c) v) : ((fun args : Array Value => ReflectliteValue.unpack (args.getD 0 (.tuple #[]))) #[.iface 57 v]).run Tryz.prog w = .ok (.agg #[HT 57, .pointer (some ⟨w.heap.size, 0, none⟩), .int .u64 130]) (w.alloc (.cells (List.toArray v.cells.toList) 57)) := by
  cases h; kernel_rfl
theorem vv_Fault (c i : Nat) (w : World) (B : Nat → Prop) (bs : Nat) (ρ : List Value) (v : Value) (h : Rel w B bs ρ (.agg [nat c, nat i]) v) : ((fun args : Array Value => ReflectliteValue.unpack (args.getD 0 (.tuple #[]))) #[.iface 116 v]).run Tryz.prog w = .ok (.agg #[HT 116, .pointer (some ⟨w.heap.size, 0, none⟩), .int .u64 153]) (w.alloc (.cells (List.toArray v.cells.toList) 116)) := by
  cases h with
  | agg h => cases h with
    | cons a h => cases h with
      | cons b h => cases h; cases a; cases b; kernel_rfl
end Go.Proofs.YtmcedkcehcacpaaGreatDoor.C
/- errors.As and package fault. -/
set_option linter.unusedVariables false
set_option linter.unusedSimpArgs false
namespace Go.Proofs.YtmcedkcehcacpaaGreatDoor.C
open Go.Abs Go.Extern Go.Stop
theorem glb_err : (0, [RTY 28]) ∈ glb := by
  unfold glb; repeat (first | exact List.mem_cons_self | apply List.mem_cons_of_mem)
theorem unwrap_c (c i : Nat) : PC Tryz.prog 115 [.agg [nat c, nat i]] (erA (.code c)) := by
  refine PC.of_bodyK (by simp only [push_cast]) Tryz.func115 rfl (by rw [Tryz.ntmps115]; simp) ?_
  refine AWp.regionW ?_
  refine AWp.regionW ?_
  refine AWp.ret ?_
  try simp only [thenQ, blockQ, noGo]
  refine bodyQ.m ?_
  exact Wk.eq rfl
  first | done | exact Wk.go
theorem as2_Code (c x : Nat) : OC Tryz.prog 77 [.ifc 57 (nat c), .ifc 114 (.ptr 0 0), .agg [.val (HT 114), .ref false (.ptr 0 0), .val (.int .u64 150)], .val (RTY 57)] [.box 57 [nat x]] (bool true) [.box 57 [nat c]] := by
  refine OC.of_body [0] (by intro k hk; simp at hk; subst hk; rfl) Tryz.func77 rfl (by rw [Tryz.ntmps77]; simp) ?_
  refine AWp.regionW ?_
  refine AWp.block ?_
  refine AWp.loop2 fun KL hKL => ?_
  refine AWp.block ?_
  refine AWp.seqK fun K1 hK1 => ?_
  refine AWp.regionM fun K2 hK2 => ?_
  refine ARun2.natVM1 nat_typeOf (to_Code) ?_
  refine ARun2.invCM [RTY 57] (.bool true) nat_assignable (m_assignable _) as_Code ?_
  refine ARun2.endm (hK2 _ ?_)
  refine AWp.condT ?_
  refine AWp.regionM fun K3 hK3 => ?_
  refine ARun2.natVM _ nat_elemV (ev_Code 0 0 _) ?_
  refine ARun2.valueOfM nat_valueOf (vv_Code c) ?_
  refine ARun2.natSetM nat_set set_Code ?_
  refine ARun2.endm (hK3 _ ?_)
  refine AWp.regionW ?_
  refine AWp.ret ?_
  try simp only [thenQ, blockQ, noGo]
  refine bodyQ.m ?_
  clear hK3 K3 hK2 K2 hK1 K1 hKL KL
  refine endO.m ?_ ?_
  · rfl
  · skip
    first | done | exact Hand.go
theorem as_Code_hit (c x : Nat) : OC Tryz.prog 61 [.ifc 57 (nat c), .ifc 114 (.ptr 0 0)] [.box 57 [nat x]] (bool true) [.box 57 [nat c]] := by
  refine OC.of_body [0] (by intro k hk; simp at hk; subst hk; rfl) Tryz.func61 rfl (by rw [Tryz.ntmps61]; simp) ?_
  refine AWp.regionW ?_
  refine AWp.seqK fun K1 hK1 => ?_
  refine AWp.regionW ?_
  refine AWp.condF ?_
  refine AWp.skip ?_
  refine hK1 _ ?_
  refine AWp.seqK fun K2 hK2 => ?_
  refine AWp.regionW ?_
  refine AWp.condF ?_
  refine AWp.skip ?_
  refine hK2 _ ?_
  refine AWp.regionM fun K3 hK3 => ?_
  refine ARun2.valueOfM nat_valueOf (pv_Code · · · · 0 0) ?_
  refine ARun2.endm (hK3 _ ?_)
  refine AWp.regionM fun K4 hK4 => ?_
  refine ARun2.natVM _ nat_type (ty1_Code _ _) ?_
  refine ARun2.endm (hK4 _ ?_)
  refine AWp.seqK fun K5 hK5 => ?_
  refine AWp.regionM fun K6 hK6 => ?_
  refine ARun2.invCM [] (.int .u8 22) nat_kind (m_kind _) pk_Code ?_
  refine ARun2.natVM _ nat_isNil (nil_Code 0 0 _) ?_
  refine ARun2.endm (hK6 _ ?_)
  refine AWp.condF ?_
  refine AWp.skip ?_
  refine hK5 _ ?_
  refine AWp.regionM fun K7 hK7 => ?_
  refine ARun2.invCM [] (RTY 57) nat_elem (m_elem _) el_Code ?_
  refine ARun2.endm (hK7 _ ?_)
  refine AWp.seqK fun K8 hK8 => ?_
  refine AWp.regionM fun K9 hK9 => ?_
  refine ARun2.invCM [] (.int .u8 2) nat_kind (m_kind _) kd_Code ?_
  refine ARun2.gloadM (g := 0) (RTY 28) glb_err (by kernel_rfl) ?_
  refine ARun2.invCM [RTY 28] (.bool true) nat_implements (m_implements _) im_Code ?_
  refine ARun2.endm (hK9 _ ?_)
  refine AWp.condF ?_
  refine AWp.skip ?_
  refine hK8 _ ?_
  refine AWp.regionM fun K10 hK10 => ?_
  refine ARun2.callOM [0] (as2_Code c x) ?_
  refine ARun2.endm (hK10 _ ?_)
  refine AWp.ret ?_
  try simp only [thenQ, blockQ, noGo]
  refine bodyQ.m ?_
  clear hK10 K10 hK9 K9 hK8 K8 hK7 K7 hK6 K6 hK5 K5 hK4 K4 hK3 K3 hK2 K2 hK1 K1
  refine endO.m ?_ ?_
  · rfl
  · skip
    first | done | exact Hand.go
theorem as2_Fault (c i x z : Nat) : OC Tryz.prog 77 [.ifc 116 (.agg [nat c, nat i]), .ifc 117 (.ptr 0 0), .agg [.val (HT 117), .ref false (.ptr 0 0), .val (.int .u64 150)], .val (RTY 116)] [.box 116 [nat x, nat z]] (bool true) [.box 116 [nat c, nat i]] := by
  refine OC.of_body [0] (by intro k hk; simp at hk; subst hk; rfl) Tryz.func77 rfl (by rw [Tryz.ntmps77]; simp) ?_
  refine AWp.regionW ?_
  refine AWp.block ?_
  refine AWp.loop2 fun KL hKL => ?_
  refine AWp.block ?_
  refine AWp.seqK fun K1 hK1 => ?_
  refine AWp.regionM fun K2 hK2 => ?_
  refine ARun2.natVM1 nat_typeOf (to_Fault) ?_
  refine ARun2.invCM [RTY 116] (.bool true) nat_assignable (m_assignable _) as_Fault ?_
  refine ARun2.endm (hK2 _ ?_)
  refine AWp.condT ?_
  refine AWp.regionM fun K3 hK3 => ?_
  refine ARun2.natVM _ nat_elemV (ev_Fault 0 0 _) ?_
  refine ARun2.valueOfM nat_valueOf (vv_Fault c i) ?_
  refine ARun2.natSetM nat_set set_Fault ?_
  refine ARun2.endm (hK3 _ ?_)
  refine AWp.regionW ?_
  refine AWp.ret ?_
  try simp only [thenQ, blockQ, noGo]
  refine bodyQ.m ?_
  clear hK3 K3 hK2 K2 hK1 K1 hKL KL
  refine endO.m ?_ ?_
  · rfl
  · skip
    first | done | exact Hand.go
theorem as_Fault_hit (c i x z : Nat) : OC Tryz.prog 61 [.ifc 116 (.agg [nat c, nat i]), .ifc 117 (.ptr 0 0)] [.box 116 [nat x, nat z]] (bool true) [.box 116 [nat c, nat i]] := by
  refine OC.of_body [0] (by intro k hk; simp at hk; subst hk; rfl) Tryz.func61 rfl (by rw [Tryz.ntmps61]; simp) ?_
  refine AWp.regionW ?_
  refine AWp.seqK fun K1 hK1 => ?_
  refine AWp.regionW ?_
  refine AWp.condF ?_
  refine AWp.skip ?_
  refine hK1 _ ?_
  refine AWp.seqK fun K2 hK2 => ?_
  refine AWp.regionW ?_
  refine AWp.condF ?_
  refine AWp.skip ?_
  refine hK2 _ ?_
  refine AWp.regionM fun K3 hK3 => ?_
  refine ARun2.valueOfM nat_valueOf (pv_Fault · · · · 0 0) ?_
  refine ARun2.endm (hK3 _ ?_)
  refine AWp.regionM fun K4 hK4 => ?_
  refine ARun2.natVM _ nat_type (ty1_Fault _ _) ?_
  refine ARun2.endm (hK4 _ ?_)
  refine AWp.seqK fun K5 hK5 => ?_
  refine AWp.regionM fun K6 hK6 => ?_
  refine ARun2.invCM [] (.int .u8 22) nat_kind (m_kind _) pk_Fault ?_
  refine ARun2.natVM _ nat_isNil (nil_Fault 0 0 _) ?_
  refine ARun2.endm (hK6 _ ?_)
  refine AWp.condF ?_
  refine AWp.skip ?_
  refine hK5 _ ?_
  refine AWp.regionM fun K7 hK7 => ?_
  refine ARun2.invCM [] (RTY 116) nat_elem (m_elem _) el_Fault ?_
  refine ARun2.endm (hK7 _ ?_)
  refine AWp.seqK fun K8 hK8 => ?_
  refine AWp.regionM fun K9 hK9 => ?_
  refine ARun2.invCM [] (.int .u8 25) nat_kind (m_kind _) kd_Fault ?_
  refine ARun2.gloadM (g := 0) (RTY 28) glb_err (by kernel_rfl) ?_
  refine ARun2.invCM [RTY 28] (.bool true) nat_implements (m_implements _) im_Fault ?_
  refine ARun2.endm (hK9 _ ?_)
  refine AWp.condF ?_
  refine AWp.skip ?_
  refine hK8 _ ?_
  refine AWp.regionM fun K10 hK10 => ?_
  refine ARun2.callOM [0] (as2_Fault c i x z) ?_
  refine ARun2.endm (hK10 _ ?_)
  refine AWp.ret ?_
  try simp only [thenQ, blockQ, noGo]
  refine bodyQ.m ?_
  clear hK10 K10 hK9 K9 hK8 K8 hK7 K7 hK6 K6 hK5 K5 hK4 K4 hK3 K3 hK2 K2 hK1 K1
  refine endO.m ?_ ?_
  · rfl
  · skip
    first | done | exact Hand.go
theorem no_as_Code (v : Value) (w : World) : (Instr.typeAssert (.iface 57 v) 28 157 true).run Tryz.prog w = .ok (.tuple #[.nilIface, .bool false]) w := run_typeAssert_lacksB Tryz.underlying157 (by kernel_rfl) (by kernel_rfl) v 28 w
theorem no_as_Fault (v : Value) (w : World) : (Instr.typeAssert (.iface 116 v) 28 157 true).run Tryz.prog w = .ok (.tuple #[.nilIface, .bool false]) w := run_typeAssert_lacksB Tryz.underlying157 (by kernel_rfl) (by kernel_rfl) v 28 w
theorem no_un_Code (v : Value) (w : World) : (Instr.typeAssert (.iface 57 v) 28 160 true).run Tryz.prog w = .ok (.tuple #[.nilIface, .bool false]) w := run_typeAssert_lacksB Tryz.underlying160 (by kernel_rfl) (by kernel_rfl) v 28 w
theorem no_uns_Code (v : Value) (w : World) : (Instr.typeAssert (.iface 57 v) 28 162 true).run Tryz.prog w = .ok (.tuple #[.nilIface, .bool false]) w := run_typeAssert_lacksB Tryz.underlying162 (by kernel_rfl) (by kernel_rfl) v 28 w
theorem un_Fault (v : Value) (w : World) : (Instr.typeAssert (.iface 116 v) 28 160 true).run Tryz.prog w = .ok (.tuple #[.iface 116 v, .bool true]) w := run_typeAssert_hasB Tryz.underlying160 (by kernel_rfl) v 28 w
theorem m_unwrap (v : Value) (w : World) : (Go.method (Tryz.prog.types.size + Made.depth) 116 v "Unwrap").run Tryz.prog w = .ok (115, v) w := by kernel_rfl
theorem rel_no {w : World} {B : Nat → Prop} {bs : Nat} {ρ : List Value} : Rel w B bs ρ (.tup [.val .nilIface, .val (.bool false)]) (.tuple #[.nilIface, .bool false]) := .tup (.cons (.val _) (.cons (.val _) .nil))
theorem rel_yes {T : TypeId} {y : AV} {w : World} {B : Nat → Prop} {bs : Nat} {ρ : List Value} {v : Value} (h : Rel w B bs ρ (.ifc T y) (.iface T v)) : Rel w B bs ρ (.tup [.ifc T y, .val (.bool true)]) (.tuple #[.iface T v, .bool true]) := .tup (.cons h (.cons (.val _) .nil))
/-- a code is no fault -/
theorem as2_miss (c x z : Nat) : OC Tryz.prog 77 [.ifc 57 (nat c), .ifc 117 (.ptr 0 0), .agg [.val (HT 117), .ref false (.ptr 0 0), .val (.int .u64 150)], .val (RTY 116)] [.box 116 [nat x, nat z]] (bool false) [.box 116 [nat x, nat z]] := by
  refine OC.of_body [0] (by intro k hk; simp at hk; subst hk; rfl) Tryz.func77 rfl (by rw [Tryz.ntmps77]; simp) ?_
  refine AWp.regionW ?_
  refine AWp.block ?_
  refine AWp.loop2 fun KL hKL => ?_
  refine AWp.block ?_
  refine AWp.seqK fun K1 hK1 => ?_
  refine AWp.regionM fun K2 hK2 => ?_
  refine ARun2.natVM1 nat_typeOf to_Code ?_
  refine ARun2.invCM [RTY 116] (.bool false) nat_assignable (m_assignable _) as_mix2 ?_
  refine ARun2.endm (hK2 _ ?_)
  refine AWp.condF ?_
  refine AWp.skip ?_
  refine hK1 _ ?_
  refine AWp.seqK fun K3 hK3 => ?_
  refine AWp.regionM fun K4 hK4 => ?_
  refine ARun2.assertM _ no_as_Code (fun _ _ _ _ _ _ => rel_no) ?_
  refine ARun2.endm (hK4 _ ?_)
  refine AWp.regionM fun K5 hK5 => ?_
  skip
  refine ARun2.endm (hK5 _ ?_)
  refine AWp.condF ?_
  refine AWp.skip ?_
  refine hK3 _ ?_
  refine AWp.regionW ?_
  refine AWp.block ?_
  refine AWp.regionM fun K6 hK6 => ?_
  refine ARun2.assertM _ no_un_Code (fun _ _ _ _ _ _ => rel_no) ?_
  refine ARun2.endm (hK6 _ ?_)
  refine AWp.condF ?_
  refine AWp.regionM fun K7 hK7 => ?_
  refine ARun2.assertM _ no_uns_Code (fun _ _ _ _ _ _ => rel_no) ?_
  refine ARun2.endm (hK7 _ ?_)
  refine AWp.condF ?_
  refine AWp.regionW ?_
  refine AWp.regionW ?_
  refine AWp.ret ?_
  try simp only [thenQ, blockQ, noGo]
  refine bodyQ.m ?_
  clear hK7 K7 hK6 K6 hK5 K5 hK4 K4 hK3 K3 hK2 K2 hK1 K1 hKL KL
  refine endO.m ?_ ?_
  · rfl
  · skip
    first | done | exact Hand.go
theorem as_miss (c x z : Nat) : OC Tryz.prog 61 [.ifc 57 (nat c), .ifc 117 (.ptr 0 0)] [.box 116 [nat x, nat z]] (bool false) [.box 116 [nat x, nat z]] := by
  refine OC.of_body [0] (by intro k hk; simp at hk; subst hk; rfl) Tryz.func61 rfl (by rw [Tryz.ntmps61]; simp) ?_
  refine AWp.regionW ?_
  refine AWp.seqK fun K1 hK1 => ?_
  refine AWp.regionW ?_
  refine AWp.condF ?_
  refine AWp.skip ?_
  refine hK1 _ ?_
  refine AWp.seqK fun K2 hK2 => ?_
  refine AWp.regionW ?_
  refine AWp.condF ?_
  refine AWp.skip ?_
  refine hK2 _ ?_
  refine AWp.regionM fun K3 hK3 => ?_
  refine ARun2.valueOfM nat_valueOf (pv_Fault · · · · 0 0) ?_
  refine ARun2.endm (hK3 _ ?_)
  refine AWp.regionM fun K4 hK4 => ?_
  refine ARun2.natVM _ nat_type (ty1_Fault _ _) ?_
  refine ARun2.endm (hK4 _ ?_)
  refine AWp.seqK fun K5 hK5 => ?_
  refine AWp.regionM fun K6 hK6 => ?_
  refine ARun2.invCM [] (.int .u8 22) nat_kind (m_kind _) pk_Fault ?_
  refine ARun2.natVM _ nat_isNil (nil_Fault 0 0 _) ?_
  refine ARun2.endm (hK6 _ ?_)
  refine AWp.condF ?_
  refine AWp.skip ?_
  refine hK5 _ ?_
  refine AWp.regionM fun K7 hK7 => ?_
  refine ARun2.invCM [] (RTY 116) nat_elem (m_elem _) el_Fault ?_
  refine ARun2.endm (hK7 _ ?_)
  refine AWp.seqK fun K8 hK8 => ?_
  refine AWp.regionM fun K9 hK9 => ?_
  refine ARun2.invCM [] (.int .u8 25) nat_kind (m_kind _) kd_Fault ?_
  refine ARun2.gloadM (g := 0) (RTY 28) glb_err (by kernel_rfl) ?_
  refine ARun2.invCM [RTY 28] (.bool true) nat_implements (m_implements _) im_Fault ?_
  refine ARun2.endm (hK9 _ ?_)
  refine AWp.condF ?_
  refine AWp.skip ?_
  refine hK8 _ ?_
  refine AWp.regionM fun K10 hK10 => ?_
  refine ARun2.callOM [0] (as2_miss c x z) ?_
  refine ARun2.endm (hK10 _ ?_)
  refine AWp.ret ?_
  try simp only [thenQ, blockQ, noGo]
  refine bodyQ.m ?_
  clear hK10 K10 hK9 K9 hK8 K8 hK7 K7 hK6 K6 hK5 K5 hK4 K4 hK3 K3 hK2 K2 hK1 K1
  refine endO.m ?_ ?_
  · rfl
  · skip
    first | done | exact Hand.go
/-- a fault has a code inside -/
theorem as2_in (c i x : Nat) : OC Tryz.prog 77 [.ifc 116 (.agg [nat c, nat i]), .ifc 114 (.ptr 0 0), .agg [.val (HT 114), .ref false (.ptr 0 0), .val (.int .u64 150)], .val (RTY 57)] [.box 57 [nat x]] (bool true) [.box 57 [nat c]] := by
  refine OC.of_body [0] (by intro k hk; simp at hk; subst hk; rfl) Tryz.func77 rfl (by rw [Tryz.ntmps77]; simp) ?_
  refine AWp.regionW ?_
  refine AWp.block ?_
  refine AWp.loop2 fun KL hKL => ?_
  refine AWp.block ?_
  refine AWp.seqK fun K1 hK1 => ?_
  refine AWp.regionM fun K2 hK2 => ?_
  refine ARun2.natVM1 nat_typeOf to_Fault ?_
  refine ARun2.invCM [RTY 57] (.bool false) nat_assignable (m_assignable _) as_mix ?_
  refine ARun2.endm (hK2 _ ?_)
  refine AWp.condF ?_
  refine AWp.skip ?_
  refine hK1 _ ?_
  refine AWp.seqK fun K3 hK3 => ?_
  refine AWp.regionM fun K4 hK4 => ?_
  refine ARun2.assertM _ no_as_Fault (fun _ _ _ _ _ _ => rel_no) ?_
  refine ARun2.endm (hK4 _ ?_)
  refine AWp.regionM fun K5 hK5 => ?_
  skip
  refine ARun2.endm (hK5 _ ?_)
  refine AWp.condF ?_
  refine AWp.skip ?_
  refine hK3 _ ?_
  refine AWp.regionW ?_
  refine AWp.block ?_
  refine AWp.regionM fun K6 hK6 => ?_
  refine ARun2.assertM _ un_Fault (fun _ _ _ _ _ => rel_yes) ?_
  refine ARun2.endm (hK6 _ ?_)
  refine AWp.condT ?_
  refine AWp.regionW ?_
  refine AWp.regionM fun K7 hK7 => ?_
  refine ARun2.invCallM (unwrap_c c i) m_unwrap ?_
  rw [show erA (.code c) = .ifc 57 (nat c) from rfl]
  refine ARun2.endm (hK7 _ ?_)
  refine AWp.regionW ?_
  refine AWp.condF ?_
  refine AWp.skip ?_
  refine hKL _ ?_
  refine AWp.block ?_
  refine AWp.seqK fun K8 hK8 => ?_
  refine AWp.regionM fun K9 hK9 => ?_
  refine ARun2.natVM1 nat_typeOf to_Code ?_
  refine ARun2.invCM [RTY 57] (.bool true) nat_assignable (m_assignable _) as_Code ?_
  refine ARun2.endm (hK9 _ ?_)
  refine AWp.condT ?_
  refine AWp.regionM fun K10 hK10 => ?_
  refine ARun2.natVM _ nat_elemV (ev_Code 0 0 _) ?_
  refine ARun2.valueOfM nat_valueOf (vv_Code c) ?_
  refine ARun2.natSetM nat_set set_Code ?_
  refine ARun2.endm (hK10 _ ?_)
  refine AWp.regionW ?_
  refine AWp.ret ?_
  try simp only [thenQ, blockQ, noGo]
  refine bodyQ.m ?_
  clear hK10 K10 hK9 K9 hK8 K8 hK7 K7 hK6 K6 hK5 K5 hK4 K4 hK3 K3 hK2 K2 hK1 K1 hKL KL
  refine endO.m ?_ ?_
  · rfl
  · skip
    first | done | exact Hand.go
theorem as_in (c i x : Nat) : OC Tryz.prog 61 [.ifc 116 (.agg [nat c, nat i]), .ifc 114 (.ptr 0 0)] [.box 57 [nat x]] (bool true) [.box 57 [nat c]] := by
  refine OC.of_body [0] (by intro k hk; simp at hk; subst hk; rfl) Tryz.func61 rfl (by rw [Tryz.ntmps61]; simp) ?_
  refine AWp.regionW ?_
  refine AWp.seqK fun K1 hK1 => ?_
  refine AWp.regionW ?_
  refine AWp.condF ?_
  refine AWp.skip ?_
  refine hK1 _ ?_
  refine AWp.seqK fun K2 hK2 => ?_
  refine AWp.regionW ?_
  refine AWp.condF ?_
  refine AWp.skip ?_
  refine hK2 _ ?_
  refine AWp.regionM fun K3 hK3 => ?_
  refine ARun2.valueOfM nat_valueOf (pv_Code · · · · 0 0) ?_
  refine ARun2.endm (hK3 _ ?_)
  refine AWp.regionM fun K4 hK4 => ?_
  refine ARun2.natVM _ nat_type (ty1_Code _ _) ?_
  refine ARun2.endm (hK4 _ ?_)
  refine AWp.seqK fun K5 hK5 => ?_
  refine AWp.regionM fun K6 hK6 => ?_
  refine ARun2.invCM [] (.int .u8 22) nat_kind (m_kind _) pk_Code ?_
  refine ARun2.natVM _ nat_isNil (nil_Code 0 0 _) ?_
  refine ARun2.endm (hK6 _ ?_)
  refine AWp.condF ?_
  refine AWp.skip ?_
  refine hK5 _ ?_
  refine AWp.regionM fun K7 hK7 => ?_
  refine ARun2.invCM [] (RTY 57) nat_elem (m_elem _) el_Code ?_
  refine ARun2.endm (hK7 _ ?_)
  refine AWp.seqK fun K8 hK8 => ?_
  refine AWp.regionM fun K9 hK9 => ?_
  refine ARun2.invCM [] (.int .u8 2) nat_kind (m_kind _) kd_Code ?_
  refine ARun2.gloadM (g := 0) (RTY 28) glb_err (by kernel_rfl) ?_
  refine ARun2.invCM [RTY 28] (.bool true) nat_implements (m_implements _) im_Code ?_
  refine ARun2.endm (hK9 _ ?_)
  refine AWp.condF ?_
  refine AWp.skip ?_
  refine hK8 _ ?_
  refine AWp.regionM fun K10 hK10 => ?_
  refine ARun2.callOM [0] (as2_in c i x) ?_
  refine ARun2.endm (hK10 _ ?_)
  refine AWp.ret ?_
  try simp only [thenQ, blockQ, noGo]
  refine bodyQ.m ?_
  clear hK10 K10 hK9 K9 hK8 K8 hK7 K7 hK6 K6 hK5 K5 hK4 K4 hK3 K3 hK2 K2 hK1 K1
  refine endO.m ?_ ?_
  · rfl
  · skip
    first | done | exact Hand.go
theorem as_none_Code (x : Nat) : OC Tryz.prog 61 [.val .nilIface, .ifc 114 (.ptr 0 0)] [.box 57 [nat x]] (bool false) [.box 57 [nat x]] := by
  refine OC.of_body [0] (by intro k hk; simp at hk; subst hk; rfl) Tryz.func61 rfl (by rw [Tryz.ntmps61]; simp) ?_
  refine AWp.regionW ?_
  refine AWp.seqK fun K1 hK1 => ?_
  refine AWp.regionW ?_
  refine AWp.condT ?_
  refine AWp.regionW ?_
  refine AWp.ret ?_
  try simp only [thenQ, blockQ, noGo]
  refine bodyQ.m ?_
  clear hK1 K1
  refine endO.m ?_ ?_
  · rfl
  · skip
    first | done | exact Hand.go
theorem as_none_Fault (x z : Nat) : OC Tryz.prog 61 [.val .nilIface, .ifc 117 (.ptr 0 0)] [.box 116 [nat x, nat z]] (bool false) [.box 116 [nat x, nat z]] := by
  refine OC.of_body [0] (by intro k hk; simp at hk; subst hk; rfl) Tryz.func61 rfl (by rw [Tryz.ntmps61]; simp) ?_
  refine AWp.regionW ?_
  refine AWp.seqK fun K1 hK1 => ?_
  refine AWp.regionW ?_
  refine AWp.condT ?_
  refine AWp.regionW ?_
  refine AWp.ret ?_
  try simp only [thenQ, blockQ, noGo]
  refine bodyQ.m ?_
  clear hK1 K1
  refine endO.m ?_ ?_
  · rfl
  · skip
    first | done | exact Hand.go
/-- the code of an error, and whether it has one -/
def Er.codeOf : Er → Nat × Bool
  | .ok => (0, false)
  | .code c => (c, true)
  | .flt c _ => (c, true)
def Er.atOf : Er → Nat × Bool
  | .flt _ i => (i, true)
  | _ => (0, false)
theorem code_ok : PC Tryz.prog 38 [.val .nilIface] (.tup [nat 0, bool false]) := by
  refine PC.of_bodyW (by simp only [push_cast]) Tryz.func38 rfl (by rw [Tryz.ntmps38]; simp) ?_
  refine AWp.regionW ?_
  refine AWp.regionW ?_
  refine AWp.regionM fun K1 hK1 => ?_
  refine ARun2.callOM [0] (as_none_Code 0) ?_
  refine ARun2.endm (hK1 _ ?_)
  refine AWp.regionW ?_
  refine AWp.ret ?_
  try simp only [thenQ, blockQ, noGo]
  refine bodyQ.m ?_
  clear hK1 K1
  first | done | exact Hand.go
theorem code_code (c : Nat) : PC Tryz.prog 38 [.ifc 57 (nat c)] (.tup [nat c, bool true]) := by
  refine PC.of_bodyW (by simp only [push_cast]) Tryz.func38 rfl (by rw [Tryz.ntmps38]; simp) ?_
  refine AWp.regionW ?_
  refine AWp.regionW ?_
  refine AWp.regionM fun K1 hK1 => ?_
  refine ARun2.callOM [0] (as_Code_hit c 0) ?_
  refine ARun2.endm (hK1 _ ?_)
  refine AWp.regionW ?_
  refine AWp.ret ?_
  try simp only [thenQ, blockQ, noGo]
  refine bodyQ.m ?_
  clear hK1 K1
  first | done | exact Hand.go
theorem code_flt (c i : Nat) : PC Tryz.prog 38 [.ifc 116 (.agg [nat c, nat i])] (.tup [nat c, bool true]) := by
  refine PC.of_bodyW (by simp only [push_cast]) Tryz.func38 rfl (by rw [Tryz.ntmps38]; simp) ?_
  refine AWp.regionW ?_
  refine AWp.regionW ?_
  refine AWp.regionM fun K1 hK1 => ?_
  refine ARun2.callOM [0] (as_in c i 0) ?_
  refine ARun2.endm (hK1 _ ?_)
  refine AWp.regionW ?_
  refine AWp.ret ?_
  try simp only [thenQ, blockQ, noGo]
  refine bodyQ.m ?_
  clear hK1 K1
  first | done | exact Hand.go
theorem code_c (e : Er) : PC Tryz.prog 38 [erA e] (.tup [nat e.codeOf.1, bool e.codeOf.2]) := by
  cases e with
  | ok => exact code_ok
  | code c => exact code_code c
  | flt c i => exact code_flt c i
theorem at_ok : PC Tryz.prog 39 [.val .nilIface] (.tup [nat 0, bool false]) := by
  refine PC.of_bodyW (by simp only [push_cast]) Tryz.func39 rfl (by rw [Tryz.ntmps39]; simp) ?_
  refine AWp.regionW ?_
  refine AWp.regionW ?_
  refine AWp.regionM fun K1 hK1 => ?_
  refine ARun2.callOM [0] (as_none_Fault 0 0) ?_
  refine ARun2.endm (hK1 _ ?_)
  refine AWp.regionW ?_
  refine AWp.ret ?_
  try simp only [thenQ, blockQ, noGo]
  refine bodyQ.m ?_
  clear hK1 K1
  first | done | exact Hand.go
theorem at_code (c : Nat) : PC Tryz.prog 39 [.ifc 57 (nat c)] (.tup [nat 0, bool false]) := by
  refine PC.of_bodyW (by simp only [push_cast]) Tryz.func39 rfl (by rw [Tryz.ntmps39]; simp) ?_
  refine AWp.regionW ?_
  refine AWp.regionW ?_
  refine AWp.regionM fun K1 hK1 => ?_
  refine ARun2.callOM [0] (as_miss c 0 0) ?_
  refine ARun2.endm (hK1 _ ?_)
  refine AWp.regionW ?_
  refine AWp.ret ?_
  try simp only [thenQ, blockQ, noGo]
  refine bodyQ.m ?_
  clear hK1 K1
  first | done | exact Hand.go
theorem at_flt (c i : Nat) : PC Tryz.prog 39 [.ifc 116 (.agg [nat c, nat i])] (.tup [nat i, bool true]) := by
  refine PC.of_bodyW (by simp only [push_cast]) Tryz.func39 rfl (by rw [Tryz.ntmps39]; simp) ?_
  refine AWp.regionW ?_
  refine AWp.regionW ?_
  refine AWp.regionM fun K1 hK1 => ?_
  refine ARun2.callOM [0] (as_Fault_hit c i 0 0) ?_
  refine ARun2.endm (hK1 _ ?_)
  refine AWp.regionW ?_
  refine AWp.ret ?_
  try simp only [thenQ, blockQ, noGo]
  refine bodyQ.m ?_
  clear hK1 K1
  first | done | exact Hand.go
theorem at_c (e : Er) : PC Tryz.prog 39 [erA e] (.tup [nat e.atOf.1, bool e.atOf.2]) := by
  cases e with
  | ok => exact at_ok
  | code c => exact at_code c
  | flt c i => exact at_flt c i
/-- an error whose offset is moved -/
def Er.shift (n : Nat) : Er → Er
  | .ok => .ok
  | .code c => .flt c n
  | .flt c i => .flt c (i + n)
theorem shift_c (e : Er) (n : Nat) (hn : n ≤ 2 ^ 60) (he : e.atOf.1 ≤ 2 ^ 60) : PC Tryz.prog 57 [erA e, nat n] (erA (e.shift n)) := by
  refine PC.of_bodyK (by simp only [push_cast]) Tryz.func57 rfl (by rw [Tryz.ntmps57]; simp) ?_
  refine AWp.regionW ?_
  refine AWp.regionM fun K1 hK1 => ?_
  refine ARun2.callM (code_c e) ?_
  refine ARun2.endm (hK1 _ ?_)
  refine AWp.seqK fun K2 hK2 => ?_
  refine AWp.regionW ?_
  refine AWp.condLM (fun c0 => ?_) (fun c0 => ?_)
  · skip
    have h0 : e = .ok := by cases e <;> simp [Er.codeOf] at c0 ⊢
    subst h0
    refine AWp.regionW ?_
    refine AWp.ret ?_
    try simp only [thenQ, blockQ, noGo]
    refine bodyQ.m ?_
    clear hK2 K2 hK1 K1
    simp only [Er.shift]
    first | done | exact Wk.go
  · skip
    have h1 : e.shift n = .flt e.codeOf.1 (e.atOf.1 + n) := by cases e <;> simp [Er.codeOf, Er.atOf, Er.shift] at c0 ⊢
    refine AWp.skip ?_
    refine hK2 _ ?_
    refine AWp.regionM fun K3 hK3 => ?_
    refine ARun2.callM (at_c e) ?_
    refine ARun2.endm (hK3 _ ?_)
    refine AWp.regionM fun K4 hK4 => ?_
    refine ARun2.callM (fnew_c e.codeOf.1 (e.atOf.1 + n)) ?_
    refine ARun2.endm (hK4 _ ?_)
    refine AWp.ret ?_
    try simp only [thenQ, blockQ, noGo]
    refine bodyQ.m ?_
    clear hK4 K4 hK3 K3 hK2 K2 hK1 K1
    rw [h1]
    first | done | exact Wk.go
end Go.Proofs.YtmcedkcehcacpaaGreatDoor.C
/- x[:hi:max]; values of interface types compared. No condition. -/
namespace Go.Abs
set_option linter.unusedVariables false
set_option linter.unusedSectionVars false
set_option linter.unusedSimpArgs false
set_option linter.unnecessarySimpa false
section
variable {P : Program} {ops : Array Oper} {E : Env} {s s' : AS} {ρ σ : List Value} {B : Nat → Prop} {a : Act} {w w' : World} {o : Oper} {rest : List Oper} {Q : AS → Prop} {R : Exit → AS → Prop}
theorem sliceHi3_run (hs : RS E s ρ B a w) {T : TypeId} {x hi mx : Operand} {nw : Bool} {sz : Nat} {xs : List AV} {h m : Int} {k2 k3 : IntKind} (ho : o.op = .slice T x none (some hi) (some mx)) (hx : s.ev x = .sl nw sz xs)
    (hh : s.ev hi = .val (.int k2 h)) (hm : s.ev mx = .val (.int k3 m))
    (hz : elSz P T = some sz) (h1 : 0 ≤ h) (h2 : h ≤ m) (h3 : m ≤ xs.length) : ∃ v, (execOp a.eval o).run P w = .ok (.value v) w ∧ Rel w B E.bs ρ (.sl nw sz (xs.take h.toNat)) v := by
  obtain ⟨e, ti, zv, hu, hti, hsz, _⟩ := elSz_spec hz
  have hxr := hs.ev x
  rw [hx] at hxr
  have hcap : ∃ A c, a.eval x = .slice A xs.length c ∧ xs.length ≤ c := by
    generalize a.eval x = u at hxr
    cases hxr with
    | slE => exact ⟨_, _, rfl, Nat.zero_le _⟩
    | sl hr hc => exact ⟨_, _, rfl, hc⟩
  obtain ⟨A, c, hv, hc⟩ := hcap
  rw [hv] at hxr
  have vh := hs.ev hi; rw [hh] at vh; replace vh := vh.val_eq
  have vm := hs.ev mx; rw [hm] at vm; replace vm := vm.val_eq
  have e2 : 0 ≤ m := by omega
  have e3 : m ≤ c := by omega
  have e4 : h ≤ max m 0 := by omega
  have hr := hxr.slice (l := 0) (h := h.toNat) (by omega) (by omega) m.toNat (by omega) (by omega)
  rw [List.drop_zero] at hr
  refine ⟨_, ?_, hr⟩
  simp only [execOp, ho]
  refine val_run ?_
  simp [Instr.sliceAt, run_underlying hu, Instr.slice, hv, Instr.sliceBounds, Instr.sliceBound, asIntOf, vh, vm, h1, e2, e3, e4, run_sizeOf hti, hsz]
theorem ARun2.sliceHi3M {T : TypeId} {x hi mx : Operand} {nw : Bool} {sz : Nat} {xs : List AV} {k2 k3 : IntKind} {p : List Oper × AS} (n : Nat) (hn : n ≤ xs.length) (K : ARun2 P ops p Q) (ho : o.op = .slice T x none (some hi) (some mx) := by rfl) (hg : gd ops s o = some true := by first | with_reducible rfl | (simp only [push_cast, reduceIte, Nat.reduceEqDiff, Nat.reduceLT, Nat.reduceAdd, Nat.reduceSub, Nat.reduceMul, Nat.reduceLeDiff, Nat.reducePow, Int.reduceLT, Int.reduceToNat, reduceCtorEq, Int.reduceNeg, Int.reduceEq, Nat.reduceBEq, Nat.reduceBNe, Int.reduceBEq, Int.reduceBNe, String.reduceEq]; first | done | rfl | (simp (disch := omega) only [w_nat, w_add, w_addl, w_addr, w_sub, w_subl, w_mul, w_mull, w_mulr, w_u32, w_u16, w_u8, w_u32a, N_zero]; first | done | rfl | (simp only [push_cast, reduceIte, Nat.reduceEqDiff, Nat.reduceLT, Nat.reduceAdd, Nat.reduceSub, Nat.reduceMul, Nat.reduceLeDiff, Nat.reducePow, Int.reduceLT, Int.reduceToNat, reduceCtorEq, Int.reduceNeg, Int.reduceEq, Nat.reduceBEq, Nat.reduceBNe, Int.reduceBEq, Int.reduceBNe, String.reduceEq]; first | done | rfl))))
    (hx : s.ev x = .sl nw sz xs := by first | with_reducible rfl | (simp only [push_cast, reduceIte, Nat.reduceEqDiff, Nat.reduceLT, Nat.reduceAdd, Nat.reduceSub, Nat.reduceMul, Nat.reduceLeDiff, Nat.reducePow, Int.reduceLT, Int.reduceToNat, reduceCtorEq, Int.reduceNeg, Int.reduceEq, Nat.reduceBEq, Nat.reduceBNe, Int.reduceBEq, Int.reduceBNe, String.reduceEq]; first | done | rfl | (simp (disch := omega) only [w_nat, w_add, w_addl, w_addr, w_sub, w_subl, w_mul, w_mull, w_mulr, w_u32, w_u16, w_u8, w_u32a, N_zero]; first | done | rfl | (simp only [push_cast, reduceIte, Nat.reduceEqDiff, Nat.reduceLT, Nat.reduceAdd, Nat.reduceSub, Nat.reduceMul, Nat.reduceLeDiff, Nat.reducePow, Int.reduceLT, Int.reduceToNat, reduceCtorEq, Int.reduceNeg, Int.reduceEq, Nat.reduceBEq, Nat.reduceBNe, Int.reduceBEq, Int.reduceBNe, String.reduceEq]; first | done | rfl)))) (hh : s.ev hi = .val (.int k2 (N n)) := by first | with_reducible rfl | (simp only [push_cast, reduceIte, Nat.reduceEqDiff, Nat.reduceLT, Nat.reduceAdd, Nat.reduceSub, Nat.reduceMul, Nat.reduceLeDiff, Nat.reducePow, Int.reduceLT, Int.reduceToNat, reduceCtorEq, Int.reduceNeg, Int.reduceEq, Nat.reduceBEq, Nat.reduceBNe, Int.reduceBEq, Int.reduceBNe, String.reduceEq]; first | done | rfl | (simp (disch := omega) only [w_nat, w_add, w_addl, w_addr, w_sub, w_subl, w_mul, w_mull, w_mulr, w_u32, w_u16, w_u8, w_u32a, N_zero]; first | done | rfl | (simp only [push_cast, reduceIte, Nat.reduceEqDiff, Nat.reduceLT, Nat.reduceAdd, Nat.reduceSub, Nat.reduceMul, Nat.reduceLeDiff, Nat.reducePow, Int.reduceLT, Int.reduceToNat, reduceCtorEq, Int.reduceNeg, Int.reduceEq, Nat.reduceBEq, Nat.reduceBNe, Int.reduceBEq, Int.reduceBNe, String.reduceEq]; first | done | rfl)))) (hm : s.ev mx = .val (.int k3 (N n)) := by first | with_reducible rfl | (simp only [push_cast, reduceIte, Nat.reduceEqDiff, Nat.reduceLT, Nat.reduceAdd, Nat.reduceSub, Nat.reduceMul, Nat.reduceLeDiff, Nat.reducePow, Int.reduceLT, Int.reduceToNat, reduceCtorEq, Int.reduceNeg, Int.reduceEq, Nat.reduceBEq, Nat.reduceBNe, Int.reduceBEq, Int.reduceBNe, String.reduceEq]; first | done | rfl | (simp (disch := omega) only [w_nat, w_add, w_addl, w_addr, w_sub, w_subl, w_mul, w_mull, w_mulr, w_u32, w_u16, w_u8, w_u32a, N_zero]; first | done | rfl | (simp only [push_cast, reduceIte, Nat.reduceEqDiff, Nat.reduceLT, Nat.reduceAdd, Nat.reduceSub, Nat.reduceMul, Nat.reduceLeDiff, Nat.reducePow, Int.reduceLT, Int.reduceToNat, reduceCtorEq, Int.reduceNeg, Int.reduceEq, Nat.reduceBEq, Nat.reduceBNe, Int.reduceBEq, Int.reduceBNe, String.reduceEq]; first | done | rfl)))) (hz : elSz P T = some sz := by first | with_reducible rfl | (simp only [push_cast, reduceIte, Nat.reduceEqDiff, Nat.reduceLT, Nat.reduceAdd, Nat.reduceSub, Nat.reduceMul, Nat.reduceLeDiff, Nat.reducePow, Int.reduceLT, Int.reduceToNat, reduceCtorEq, Int.reduceNeg, Int.reduceEq, Nat.reduceBEq, Nat.reduceBNe, Int.reduceBEq, Int.reduceBNe, String.reduceEq]; first | done | rfl | (simp (disch := omega) only [w_nat, w_add, w_addl, w_addr, w_sub, w_subl, w_mul, w_mull, w_mulr, w_u32, w_u16, w_u8, w_u32a, N_zero]; first | done | rfl | (simp only [push_cast, reduceIte, Nat.reduceEqDiff, Nat.reduceLT, Nat.reduceAdd, Nat.reduceSub, Nat.reduceMul, Nat.reduceLeDiff, Nat.reducePow, Int.reduceLT, Int.reduceToNat, reduceCtorEq, Int.reduceNeg, Int.reduceEq, Nat.reduceBEq, Nat.reduceBNe, Int.reduceBEq, Int.reduceBNe, String.reduceEq]; first | done | rfl))))
    (h : srun P ops rest (s.put o.dst (.sl nw sz (xs.take n))) = p := by
        try simp only [push_cast, reduceIte, Nat.reduceEqDiff, Nat.reduceLT, Nat.reduceAdd, Nat.reduceSub, Nat.reduceMul, Nat.reduceLeDiff, Nat.reducePow, Int.reduceLT, Int.reduceToNat, reduceCtorEq, Int.reduceNeg, Int.reduceEq, Nat.reduceBEq, Nat.reduceBNe, Int.reduceBEq, Int.reduceBNe, String.reduceEq]
        try simp (disch := omega) only [w_nat, w_add, w_addl, w_addr, w_sub, w_subl, w_mul, w_mull, w_mulr, w_u32, w_u16, w_u8, w_u32a, N_zero]
        try simp only [push_cast, reduceIte, Nat.reduceEqDiff, Nat.reduceLT, Nat.reduceAdd, Nat.reduceSub, Nat.reduceMul, Nat.reduceLeDiff, Nat.reducePow, Int.reduceLT, Int.reduceToNat, reduceCtorEq, Int.reduceNeg, Int.reduceEq, Nat.reduceBEq, Nat.reduceBNe, Int.reduceBEq, Int.reduceBNe, String.reduceEq]
        rfl) : ARun2 P ops (o :: rest, s) Q := by
  refine ARun.exec hg (AOp.pure1 (fun E ρ B a w hs => ?_) (ARun.srun (h ▸ K)))
  have := sliceHi3_run hs ho hx hh hm hz (Int.natCast_nonneg n) (Int.le_refl _) (Int.ofNat_le.2 hn)
  rwa [N_toNat] at this
/-! ### an element of a row of the call's own (elements of some cells) -/
@[push_cast] theorem idsOkL_app (p : Nat → Bool) (l m : List AV) : AV.idsOkL p (l ++ m) = (AV.idsOkL p l && AV.idsOkL p m) := by
  rw [Bool.eq_iff_iff, Bool.and_eq_true, AV.idsOkL_iff, AV.idsOkL_iff, AV.idsOkL_iff]
  simp only [List.mem_append]
  exact ⟨fun h => ⟨fun x hx => h x (.inl hx), fun x hx => h x (.inr hx)⟩, fun h x hx => hx.elim (h.1 x) (h.2 x)⟩
theorem rowZ {bs : Nat} {e : TypeId} {sz : Nat} {xs : List AV} {k : Nat} (h : RO w B bs ρ k (.row e sz xs)) (hne : xs ≠ []) : ∃ b cap vs ws fz, ρ[k]? = some (.slice (some ⟨b, 0, none⟩) xs.length cap) ∧ w.heap[b]? = some (.cells (List.toArray (vs ++ ws)) e fz) ∧
    (vs ++ ws).length = cap * sz ∧ xs.length ≤ cap ∧ thaw fz (vs ++ ws).length ∧ RelL w B bs ρ (xs.flatMap AV.cells) vs ∧ (∀ x ∈ xs, x.cells.length = sz ∧ ∀ c ∈ x.cells, c.one = true) := by
  obtain ⟨h0, h⟩ := h
  rcases h with h | ⟨b, cap, vs, ws, fz, h1', h2, h3, h4, h5, h6⟩
  · exact absurd h.1 hne
  · exact ⟨b, cap, vs, ws, fz, h1', h2, h3, h4, h5, h6, h0⟩
theorem flat_set {sz : Nat} {y : AV} : ∀ {xs : List AV} {j : Nat}, j < xs.length → (∀ x ∈ xs, x.cells.length = sz) → y.cells.length = sz → splice (xs.flatMap AV.cells) (j * sz) y.cells = (xs.set j y).flatMap AV.cells
  | [], j, h, _, _ => by simp at h
  | x :: xs, 0, _, hx, hy => by
    have := hx x (by simp)
    simp [splice, hy, ← this]
  | x :: xs, j + 1, h, hx, hy => by
    have hl := hx x (by simp)
    have ih := flat_set (y := y) (xs := xs) (j := j) (by simpa using h) (fun z hz => hx z (by simp [hz])) hy
    simp only [List.set_cons_succ, List.flatMap_cons, ← ih]
    unfold splice
    have e1 : (j + 1) * sz = x.cells.length + j * sz := by rw [hl, Nat.add_mul]; omega
    rw [e1, Nat.add_assoc, List.take_append, List.drop_append]
    simp only [Nat.add_sub_cancel_left]
    rw [List.take_of_length_le (by omega), List.drop_of_length_le (by omega)]
    simp
theorem AOp.indexOwnZ {T : TypeId} {x i : Operand} {k j sz : Nat} {e : TypeId} {xs : List AV} {kk : IntKind} (ho : o.op = .indexAddr T x i) (hx : s.ev x = .own k) (hk : s.ob[k]? = some (.row e sz xs)) (hi : s.ev i = .val (.int kk (N j)))
    (hz : elSz P T = some sz) (hj : j < xs.length) (K : ARun P ops rest (s.put o.dst (.ept k (j * sz))) Q) : AOp P ops o rest s Q := by
  refine AOp.pure1 (fun E ρ B a w hs => ?_) K
  obtain ⟨e', ti, zv, hu, hti, hsz, _⟩ := elSz_spec hz
  obtain ⟨b, cap, vs, ws, fz, r1, r2, r3, r4, r5, r6, _⟩ := rowZ (hs.rw_.obs k _ hk) (by rintro rfl; simp at hj)
  have hxr := hs.ev x
  have hir := hs.ev i
  rw [hx] at hxr
  rw [hi] at hir
  have hv := hir.val_eq
  simp only [execOp, ho, hv]
  generalize a.eval x = u at hxr
  cases hxr with
  | own hp _ =>
    rw [r1] at hp
    have := Option.some.inj hp
    subst this
    refine ⟨_, val_run (v := .pointer (some ⟨b, j * sz, none⟩)) ?_, .ept r1⟩
    have hjj : 0 ≤ N j ∧ N j < (xs.length : Int) := ⟨Int.natCast_nonneg j, by unfold N; omega⟩
    simp only [Instr.indexAt, asIntOf, Sem.run_bind, Sem.run_pure, Result.andThen_ok, run_underlying hu]
    simp only [if_pos hjj, Sem.run_bind, run_sizeOf hti, hsz, Result.andThen_ok, addr_add, Sem.run_pure, N_toNat, Nat.zero_add]
theorem AOp.storeZ {T : TypeId} {x y : Operand} {k j sz : Nat} {e : TypeId} {xs : List AV} (ho : o.op = .store T x y) (hx : s.ev x = .ept k (j * sz)) (hk : s.ob[k]? = some (.row e sz xs)) (ht : tkLen (tk P T) = sz) (h0 : 0 < sz) (hj : j < xs.length) (hf : (s.ev y).flat = true) (hl : (s.ev y).cells.length = sz)
    (K : ARun P ops rest ({ s with ob := s.ob.set k (.row e sz (xs.set j (s.ev y))) }.put o.dst .any) Q) : AOp P ops o rest s Q := by
  refine AOp.unit (s' := { s with ob := s.ob.set k (.row e sz (xs.set j (s.ev y))) }) (fun E ρ B a w hs => ?_) (by rw [ho]; intro c h; cases h) K
  obtain ⟨b, cap, vs, ws, fz, r1, r2, r3, r4, r5, r6, r7⟩ := rowZ (hs.rw_.obs k _ hk) (by rintro rfl; simp at hj)
  have hxr := hs.ev x
  rw [hx] at hxr
  obtain ⟨t1, t2⟩ := (hs.ev y).toCells hf
  have hi : ∃ i, P.info? T = some i ∧ i.size = sz := by
    rw [← ht]
    cases hq : tk P T with
    | scal => obtain ⟨d, i, _, hi, hs, _⟩ := tk_scal hq; exact ⟨i, hi, hs⟩
    | aggr n => obtain ⟨d, i, _, hi, hs, _⟩ := tk_aggr hq; exact ⟨i, hi, hs⟩
    | bad => rw [hq] at ht; simp [tkLen] at ht; omega
  obtain ⟨i, hi, hsz⟩ := hi
  have hul : (a.eval y).cells.toList.length = sz := by rw [← t1.length_eq, hl]
  have hvl : vs.length = xs.length * sz := by rw [← r6.length_eq]; exact flat_len fun y hy => (r7 y hy).1
  have hjs : j * sz + sz ≤ xs.length * sz := by
    have : (j + 1) * sz ≤ xs.length * sz := Nat.mul_le_mul_right _ hj
    rw [Nat.add_mul] at this; omega
  have hst := run_storeVar (P := P) (w := w) (t := T) (b := b) (o := j * sz) (T := e) hi (v := a.eval y) rfl (by rw [hsz, hul]) r2 r5 (by rw [List.length_append, hul, hvl]; omega) (t1.ones t2)
  have hset : (vs ++ ws).take (j * sz) ++ (a.eval y).cells.toList ++ (vs ++ ws).drop (j * sz + (a.eval y).cells.toList.length) = (vs.take (j * sz) ++ (a.eval y).cells.toList ++ vs.drop (j * sz + (a.eval y).cells.toList.length)) ++ ws := by
    rw [List.take_append_of_le_length (by omega), List.drop_append_of_le_length (by omega)]
    simp
  rw [hset] at hst
  generalize hq : vs.take (j * sz) ++ (a.eval y).cells.toList ++ vs.drop (j * sz + (a.eval y).cells.toList.length) = us at hst
  have husl : us.length = vs.length := by rw [← hq]; simp only [List.length_append, List.length_take, List.length_drop]; omega
  have hw : RS E { s with ob := s.ob.set k (.row e sz (xs.set j (s.ev y))) } ρ B a (setBlk w b (.cells (us ++ ws).toArray e fz)) := by
    obtain ⟨p1, p2, p3⟩ := hs.rw_.prv k _ _ b hk rfl r1 rfl
    have hB : ∀ b', B b' → (setBlk w b (.cells (us ++ ws).toArray e fz)).heap[b']? = w.heap[b']? := fun b' hb' => by
      rw [setBlk_get _ _ _ _ p2, if_neg (by rintro rfl; exact p1 hb')]
    refine hs.write (b := b) hk rfl r1 rfl ⟨?_, .inr ⟨b, cap, us, ws, fz, by rw [List.length_set]; exact r1, by rw [setBlk_get _ _ _ _ p2, if_pos rfl], by rw [← r3]; simp [husl], by rw [List.length_set]; exact r4, by simpa [husl] using r5, ?_⟩⟩
    · intro c hc
      rcases List.mem_or_eq_of_mem_set hc with hc | rfl
      · exact r7 c hc
      · exact ⟨hl, t2⟩
    · rw [← flat_set hj (fun z hz => (r7 z hz).1) hl]
      have hsp := r6.splice t1 (j * sz)
      rw [hq] at hsp
      exact hsp.mono (fun _ h => h) hB (Nat.le_refl _) (fun _ _ h => h)
  refine ⟨_, ρ, B, ?_, hw⟩
  simp only [execOp, ho]
  generalize a.eval x = u at hxr
  cases hxr with
  | ept hp =>
    rw [r1] at hp
    simp only [Option.some.injEq, Value.slice.injEq, Addr.mk.injEq, and_true] at hp
    obtain ⟨rfl, _, _⟩ := hp
    simp [Instr.storeAt, Instr.sureAddr, hst]
theorem ARun2.indexZM {T : TypeId} {x i : Operand} {k sz : Nat} {e : TypeId} {xs : List AV} {kk : IntKind} {p : List Oper × AS} (j : Nat) (hj : j < xs.length) (K : ARun2 P ops p Q) (ho : o.op = .indexAddr T x i := by rfl) (hg : gd ops s o = some true := by first | with_reducible rfl | (simp only [push_cast, reduceIte, Nat.reduceEqDiff, Nat.reduceLT, Nat.reduceAdd, Nat.reduceSub, Nat.reduceMul, Nat.reduceLeDiff, Nat.reducePow, Int.reduceLT, Int.reduceToNat, reduceCtorEq, Int.reduceNeg, Int.reduceEq, Nat.reduceBEq, Nat.reduceBNe, Int.reduceBEq, Int.reduceBNe, String.reduceEq]; first | done | rfl | (simp (disch := omega) only [w_nat, w_add, w_addl, w_addr, w_sub, w_subl, w_mul, w_mull, w_mulr, w_u32, w_u16, w_u8, w_u32a, N_zero]; first | done | rfl | (simp only [push_cast, reduceIte, Nat.reduceEqDiff, Nat.reduceLT, Nat.reduceAdd, Nat.reduceSub, Nat.reduceMul, Nat.reduceLeDiff, Nat.reducePow, Int.reduceLT, Int.reduceToNat, reduceCtorEq, Int.reduceNeg, Int.reduceEq, Nat.reduceBEq, Nat.reduceBNe, Int.reduceBEq, Int.reduceBNe, String.reduceEq]; first | done | rfl)))) (hx : s.ev x = .own k := by first | with_reducible rfl | (simp only [push_cast, reduceIte, Nat.reduceEqDiff, Nat.reduceLT, Nat.reduceAdd, Nat.reduceSub, Nat.reduceMul, Nat.reduceLeDiff, Nat.reducePow, Int.reduceLT, Int.reduceToNat, reduceCtorEq, Int.reduceNeg, Int.reduceEq, Nat.reduceBEq, Nat.reduceBNe, Int.reduceBEq, Int.reduceBNe, String.reduceEq]; first | done | rfl | (simp (disch := omega) only [w_nat, w_add, w_addl, w_addr, w_sub, w_subl, w_mul, w_mull, w_mulr, w_u32, w_u16, w_u8, w_u32a, N_zero]; first | done | rfl | (simp only [push_cast, reduceIte, Nat.reduceEqDiff, Nat.reduceLT, Nat.reduceAdd, Nat.reduceSub, Nat.reduceMul, Nat.reduceLeDiff, Nat.reducePow, Int.reduceLT, Int.reduceToNat, reduceCtorEq, Int.reduceNeg, Int.reduceEq, Nat.reduceBEq, Nat.reduceBNe, Int.reduceBEq, Int.reduceBNe, String.reduceEq]; first | done | rfl)))) (hk : s.ob[k]? = some (.row e sz xs) := by rfl)
    (hi : s.ev i = .val (.int kk (N j)) := by first | with_reducible rfl | (simp only [push_cast, reduceIte, Nat.reduceEqDiff, Nat.reduceLT, Nat.reduceAdd, Nat.reduceSub, Nat.reduceMul, Nat.reduceLeDiff, Nat.reducePow, Int.reduceLT, Int.reduceToNat, reduceCtorEq, Int.reduceNeg, Int.reduceEq, Nat.reduceBEq, Nat.reduceBNe, Int.reduceBEq, Int.reduceBNe, String.reduceEq]; first | done | rfl | (simp (disch := omega) only [w_nat, w_add, w_addl, w_addr, w_sub, w_subl, w_mul, w_mull, w_mulr, w_u32, w_u16, w_u8, w_u32a, N_zero]; first | done | rfl | (simp only [push_cast, reduceIte, Nat.reduceEqDiff, Nat.reduceLT, Nat.reduceAdd, Nat.reduceSub, Nat.reduceMul, Nat.reduceLeDiff, Nat.reducePow, Int.reduceLT, Int.reduceToNat, reduceCtorEq, Int.reduceNeg, Int.reduceEq, Nat.reduceBEq, Nat.reduceBNe, Int.reduceBEq, Int.reduceBNe, String.reduceEq]; first | done | rfl)))) (hz : elSz P T = some sz := by first | with_reducible rfl | (simp only [push_cast, reduceIte, Nat.reduceEqDiff, Nat.reduceLT, Nat.reduceAdd, Nat.reduceSub, Nat.reduceMul, Nat.reduceLeDiff, Nat.reducePow, Int.reduceLT, Int.reduceToNat, reduceCtorEq, Int.reduceNeg, Int.reduceEq, Nat.reduceBEq, Nat.reduceBNe, Int.reduceBEq, Int.reduceBNe, String.reduceEq]; first | done | rfl | (simp (disch := omega) only [w_nat, w_add, w_addl, w_addr, w_sub, w_subl, w_mul, w_mull, w_mulr, w_u32, w_u16, w_u8, w_u32a, N_zero]; first | done | rfl | (simp only [push_cast, reduceIte, Nat.reduceEqDiff, Nat.reduceLT, Nat.reduceAdd, Nat.reduceSub, Nat.reduceMul, Nat.reduceLeDiff, Nat.reducePow, Int.reduceLT, Int.reduceToNat, reduceCtorEq, Int.reduceNeg, Int.reduceEq, Nat.reduceBEq, Nat.reduceBNe, Int.reduceBEq, Int.reduceBNe, String.reduceEq]; first | done | rfl)))) (h : srun P ops rest (s.put o.dst (.ept k (j * sz))) = p := by
        try simp only [push_cast, reduceIte, Nat.reduceEqDiff, Nat.reduceLT, Nat.reduceAdd, Nat.reduceSub, Nat.reduceMul, Nat.reduceLeDiff, Nat.reducePow, Int.reduceLT, Int.reduceToNat, reduceCtorEq, Int.reduceNeg, Int.reduceEq, Nat.reduceBEq, Nat.reduceBNe, Int.reduceBEq, Int.reduceBNe, String.reduceEq]
        try simp (disch := omega) only [w_nat, w_add, w_addl, w_addr, w_sub, w_subl, w_mul, w_mull, w_mulr, w_u32, w_u16, w_u8, w_u32a, N_zero]
        try simp only [push_cast, reduceIte, Nat.reduceEqDiff, Nat.reduceLT, Nat.reduceAdd, Nat.reduceSub, Nat.reduceMul, Nat.reduceLeDiff, Nat.reducePow, Int.reduceLT, Int.reduceToNat, reduceCtorEq, Int.reduceNeg, Int.reduceEq, Nat.reduceBEq, Nat.reduceBNe, Int.reduceBEq, Int.reduceBNe, String.reduceEq]
        rfl) : ARun2 P ops (o :: rest, s) Q :=
  ARun.exec hg (AOp.indexOwnZ ho hx hk hi hz hj (ARun.srun (h ▸ K)))
theorem ARun2.storeZM {T : TypeId} {x y : Operand} {k sz : Nat} {e : TypeId} {p : List Oper × AS} (xs : List AV) (j : Nat) (v : AV) (xs' : List AV) (hj : j < xs.length) (hs' : xs.set j v = xs') (K : ARun2 P ops p Q) (ho : o.op = .store T x y := by rfl) (hg : gd ops s o = some true := by first | with_reducible rfl | (simp only [push_cast, reduceIte, Nat.reduceEqDiff, Nat.reduceLT, Nat.reduceAdd, Nat.reduceSub, Nat.reduceMul, Nat.reduceLeDiff, Nat.reducePow, Int.reduceLT, Int.reduceToNat, reduceCtorEq, Int.reduceNeg, Int.reduceEq, Nat.reduceBEq, Nat.reduceBNe, Int.reduceBEq, Int.reduceBNe, String.reduceEq]; first | done | rfl | (simp (disch := omega) only [w_nat, w_add, w_addl, w_addr, w_sub, w_subl, w_mul, w_mull, w_mulr, w_u32, w_u16, w_u8, w_u32a, N_zero]; first | done | rfl | (simp only [push_cast, reduceIte, Nat.reduceEqDiff, Nat.reduceLT, Nat.reduceAdd, Nat.reduceSub, Nat.reduceMul, Nat.reduceLeDiff, Nat.reducePow, Int.reduceLT, Int.reduceToNat, reduceCtorEq, Int.reduceNeg, Int.reduceEq, Nat.reduceBEq, Nat.reduceBNe, Int.reduceBEq, Int.reduceBNe, String.reduceEq]; first | done | rfl)))) (hx : s.ev x = .ept k (j * sz) := by first | with_reducible rfl | (simp only [push_cast, reduceIte, Nat.reduceEqDiff, Nat.reduceLT, Nat.reduceAdd, Nat.reduceSub, Nat.reduceMul, Nat.reduceLeDiff, Nat.reducePow, Int.reduceLT, Int.reduceToNat, reduceCtorEq, Int.reduceNeg, Int.reduceEq, Nat.reduceBEq, Nat.reduceBNe, Int.reduceBEq, Int.reduceBNe, String.reduceEq]; first | done | rfl | (simp (disch := omega) only [w_nat, w_add, w_addl, w_addr, w_sub, w_subl, w_mul, w_mull, w_mulr, w_u32, w_u16, w_u8, w_u32a, N_zero]; first | done | rfl | (simp only [push_cast, reduceIte, Nat.reduceEqDiff, Nat.reduceLT, Nat.reduceAdd, Nat.reduceSub, Nat.reduceMul, Nat.reduceLeDiff, Nat.reducePow, Int.reduceLT, Int.reduceToNat, reduceCtorEq, Int.reduceNeg, Int.reduceEq, Nat.reduceBEq, Nat.reduceBNe, Int.reduceBEq, Int.reduceBNe, String.reduceEq]; first | done | rfl)))) (hk : s.ob[k]? = some (.row e sz xs) := by rfl)
    (hy : s.ev y = v := by first | with_reducible rfl | (simp only [push_cast, reduceIte, Nat.reduceEqDiff, Nat.reduceLT, Nat.reduceAdd, Nat.reduceSub, Nat.reduceMul, Nat.reduceLeDiff, Nat.reducePow, Int.reduceLT, Int.reduceToNat, reduceCtorEq, Int.reduceNeg, Int.reduceEq, Nat.reduceBEq, Nat.reduceBNe, Int.reduceBEq, Int.reduceBNe, String.reduceEq]; first | done | rfl | (simp (disch := omega) only [w_nat, w_add, w_addl, w_addr, w_sub, w_subl, w_mul, w_mull, w_mulr, w_u32, w_u16, w_u8, w_u32a, N_zero]; first | done | rfl | (simp only [push_cast, reduceIte, Nat.reduceEqDiff, Nat.reduceLT, Nat.reduceAdd, Nat.reduceSub, Nat.reduceMul, Nat.reduceLeDiff, Nat.reducePow, Int.reduceLT, Int.reduceToNat, reduceCtorEq, Int.reduceNeg, Int.reduceEq, Nat.reduceBEq, Nat.reduceBNe, Int.reduceBEq, Int.reduceBNe, String.reduceEq]; first | done | rfl)))) (ht : tkLen (tk P T) = sz := by first | with_reducible rfl | (simp only [push_cast, reduceIte, Nat.reduceEqDiff, Nat.reduceLT, Nat.reduceAdd, Nat.reduceSub, Nat.reduceMul, Nat.reduceLeDiff, Nat.reducePow, Int.reduceLT, Int.reduceToNat, reduceCtorEq, Int.reduceNeg, Int.reduceEq, Nat.reduceBEq, Nat.reduceBNe, Int.reduceBEq, Int.reduceBNe, String.reduceEq]; first | done | rfl | (simp (disch := omega) only [w_nat, w_add, w_addl, w_addr, w_sub, w_subl, w_mul, w_mull, w_mulr, w_u32, w_u16, w_u8, w_u32a, N_zero]; first | done | rfl | (simp only [push_cast, reduceIte, Nat.reduceEqDiff, Nat.reduceLT, Nat.reduceAdd, Nat.reduceSub, Nat.reduceMul, Nat.reduceLeDiff, Nat.reducePow, Int.reduceLT, Int.reduceToNat, reduceCtorEq, Int.reduceNeg, Int.reduceEq, Nat.reduceBEq, Nat.reduceBNe, Int.reduceBEq, Int.reduceBNe, String.reduceEq]; first | done | rfl)))) (h0 : decide (0 < sz) = true := by first | rfl | decide) (hf : v.flat = true := by first | with_reducible rfl | (simp only [push_cast, reduceIte, Nat.reduceEqDiff, Nat.reduceLT, Nat.reduceAdd, Nat.reduceSub, Nat.reduceMul, Nat.reduceLeDiff, Nat.reducePow, Int.reduceLT, Int.reduceToNat, reduceCtorEq, Int.reduceNeg, Int.reduceEq, Nat.reduceBEq, Nat.reduceBNe, Int.reduceBEq, Int.reduceBNe, String.reduceEq]; first | done | rfl | (simp (disch := omega) only [w_nat, w_add, w_addl, w_addr, w_sub, w_subl, w_mul, w_mull, w_mulr, w_u32, w_u16, w_u8, w_u32a, N_zero]; first | done | rfl | (simp only [push_cast, reduceIte, Nat.reduceEqDiff, Nat.reduceLT, Nat.reduceAdd, Nat.reduceSub, Nat.reduceMul, Nat.reduceLeDiff, Nat.reducePow, Int.reduceLT, Int.reduceToNat, reduceCtorEq, Int.reduceNeg, Int.reduceEq, Nat.reduceBEq, Nat.reduceBNe, Int.reduceBEq, Int.reduceBNe, String.reduceEq]; first | done | rfl)))) (hl : v.cells.length = sz := by first | with_reducible rfl | (simp only [push_cast, reduceIte, Nat.reduceEqDiff, Nat.reduceLT, Nat.reduceAdd, Nat.reduceSub, Nat.reduceMul, Nat.reduceLeDiff, Nat.reducePow, Int.reduceLT, Int.reduceToNat, reduceCtorEq, Int.reduceNeg, Int.reduceEq, Nat.reduceBEq, Nat.reduceBNe, Int.reduceBEq, Int.reduceBNe, String.reduceEq]; first | done | rfl | (simp (disch := omega) only [w_nat, w_add, w_addl, w_addr, w_sub, w_subl, w_mul, w_mull, w_mulr, w_u32, w_u16, w_u8, w_u32a, N_zero]; first | done | rfl | (simp only [push_cast, reduceIte, Nat.reduceEqDiff, Nat.reduceLT, Nat.reduceAdd, Nat.reduceSub, Nat.reduceMul, Nat.reduceLeDiff, Nat.reducePow, Int.reduceLT, Int.reduceToNat, reduceCtorEq, Int.reduceNeg, Int.reduceEq, Nat.reduceBEq, Nat.reduceBNe, Int.reduceBEq, Int.reduceBNe, String.reduceEq]; first | done | rfl)))) (h : srun P ops rest ({ s with ob := s.ob.set k (.row e sz xs') }.put o.dst .any) = p := by
        try simp only [push_cast, reduceIte, Nat.reduceEqDiff, Nat.reduceLT, Nat.reduceAdd, Nat.reduceSub, Nat.reduceMul, Nat.reduceLeDiff, Nat.reducePow, Int.reduceLT, Int.reduceToNat, reduceCtorEq, Int.reduceNeg, Int.reduceEq, Nat.reduceBEq, Nat.reduceBNe, Int.reduceBEq, Int.reduceBNe, String.reduceEq]
        try simp (disch := omega) only [w_nat, w_add, w_addl, w_addr, w_sub, w_subl, w_mul, w_mull, w_mulr, w_u32, w_u16, w_u8, w_u32a, N_zero]
        try simp only [push_cast, reduceIte, Nat.reduceEqDiff, Nat.reduceLT, Nat.reduceAdd, Nat.reduceSub, Nat.reduceMul, Nat.reduceLeDiff, Nat.reducePow, Int.reduceLT, Int.reduceToNat, reduceCtorEq, Int.reduceNeg, Int.reduceEq, Nat.reduceBEq, Nat.reduceBNe, Int.reduceBEq, Int.reduceBNe, String.reduceEq]
        rfl) : ARun2 P ops (o :: rest, s) Q := by
  subst hy
  exact ARun.exec hg (AOp.storeZ ho hx hk ht (of_decide_eq_true h0) hj hf hl (ARun.srun (by rw [hs', h]; exact K)))
end
end Go.Abs
/- Regions that draw their order and whose tail is free too: every order is walked. No condition. -/
namespace Go.Abs
set_option linter.unusedVariables false
set_option linter.unusedSectionVars false
set_option linter.unusedSimpArgs false
section
variable {P : Program} {ops : Array Oper} {E : Env} {s s' : AS} {o : Oper} {rest : List Oper} {Q : AS → Prop} {R : Exit → AS → Prop} {nds : List (List (Nat × Option Nat))} {vals : List AV} {G : Prop}
attribute [push_cast] Option.toList_some
theorem AAny.zero {listed : Array Bool} (h : Region.ready .any ops listed = []) (q : Q s) : AAny P ops 0 listed Q s := by
  intro E hE ρ B a w hs Q' hQ
  exact ⟨h, hQ _ _ _ _ _ q hs⟩
theorem AAny.step {fuel : Nat} {listed : Array Bool} {l : List Nat} (h : Region.ready .any ops listed = l) (hl : l ≠ []) (k : ∀ j ∈ l, ∃ o, ops[j]? = some o ∧ ARun P ops [o] s (fun s' => AAny P ops fuel (listed.setIfInBounds j true) Q s')) :
    AAny P ops (fuel + 1) listed Q s := by
  intro E hE ρ B a w hs Q' hQ
  refine ⟨fun e => absurd (h.symm.trans e) hl, fun i hi => ?_⟩
  obtain ⟨o, ho, hk⟩ := k i (h ▸ hi)
  have := hk E hE ρ B a w hs (fun e a w => match e with | .normal => wpAnyIn (FR E.rnd) 0 P .any ops Q' fuel (listed.setIfInBounds i true) a w | e => Q' e a w) (fun s' ρ' B' a' w' q hs' => q E hE ρ' B' a' w' hs' Q' hQ)
  unfold wpOpIn
  simp only [ho]
  simp only [lwp] at this
  split
  · rename_i hw; rw [if_pos hw] at this; exact wpIn_mono2 (fun _ _ h => h) (fun e a w he h => by cases e <;> first | exact absurd rfl he | exact h) this
  · rename_i hw; rw [if_neg hw] at this; exact ⟨fun _ _ => trivial, this⟩
/-- the last operation has come up -/
theorem AAny.fin {listed : Array Bool} (q : Q s) (h : Region.ready .any ops listed = [] := by kernel_rfl) : AAny P ops 0 listed Q s := AAny.zero h q
theorem AAny.one {fuel : Nat} {listed : Array Bool} (j : Nat) (k : ARun P ops (ops[j]?).toList s (fun s' => AAny P ops fuel (listed.setIfInBounds j true) Q s')) (ho : (ops[j]?).isSome = true := by kernel_rfl) (h : Region.ready .any ops listed = [j] := by kernel_rfl) :
    AAny P ops (fuel + 1) listed Q s := by
  refine AAny.step h (by simp) fun i hi => ?_
  have : i = j := by simpa using hi
  subst this
  obtain ⟨o, ho⟩ := Option.isSome_iff_exists.1 ho
  exact ⟨o, ho, by rw [ho] at k; exact k⟩
theorem AAny.two {fuel : Nat} {listed : Array Bool} (j1 j2 : Nat) (k1 : ARun P ops (ops[j1]?).toList s (fun s' => AAny P ops fuel (listed.setIfInBounds j1 true) Q s')) (k2 : ARun P ops (ops[j2]?).toList s (fun s' => AAny P ops fuel (listed.setIfInBounds j2 true) Q s'))
    (ho : ((ops[j1]?).isSome && (ops[j2]?).isSome) = true := by kernel_rfl) (h : Region.ready .any ops listed = [j1, j2] := by kernel_rfl) : AAny P ops (fuel + 1) listed Q s := by
  refine AAny.step h (by simp) fun i hi => ?_
  simp only [Bool.and_eq_true] at ho
  obtain ⟨o1, h1⟩ := Option.isSome_iff_exists.1 ho.1
  obtain ⟨o2, h2⟩ := Option.isSome_iff_exists.1 ho.2
  have : i = j1 ∨ i = j2 := by simpa using hi
  rcases this with rfl | rfl
  · exact ⟨o1, h1, by rw [h1] at k1; exact k1⟩
  · exact ⟨o2, h2, by rw [h2] at k2; exact k2⟩
/-- one operation of the tail -/
theorem ARun.opM {l : List Oper} {p : List Oper × AS} (k : ARun2 P ops p Q) (h : Abs.srun P ops l s = p := by
        try simp only [push_cast, reduceIte, Nat.reduceEqDiff, Nat.reduceLT, Nat.reduceAdd, Nat.reduceSub, Nat.reduceMul, Nat.reduceLeDiff, Nat.reducePow, Int.reduceLT, Int.reduceToNat, reduceCtorEq, Int.reduceNeg, Int.reduceEq, Nat.reduceBEq, Nat.reduceBNe, Int.reduceBEq, Int.reduceBNe, String.reduceEq]
        try simp (disch := omega) only [w_nat, w_add, w_addl, w_addr, w_sub, w_subl, w_mul, w_mull, w_mulr, w_u32, w_u16, w_u8, w_u32a, N_zero]
        try simp only [push_cast, reduceIte, Nat.reduceEqDiff, Nat.reduceLT, Nat.reduceAdd, Nat.reduceSub, Nat.reduceMul, Nat.reduceLeDiff, Nat.reducePow, Int.reduceLT, Int.reduceToNat, reduceCtorEq, Int.reduceNeg, Int.reduceEq, Nat.reduceBEq, Nat.reduceBNe, Int.reduceBEq, Int.reduceBNe, String.reduceEq]
        rfl) : ARun P ops l s Q := ARun.srun (h ▸ k)
/-- every operation of the tail waits for one of the tail -/
def drawnT (ops : Array Oper) (n sn : Nat) (nds : List (List (Nat × Option Nat))) : Bool :=
  decide (n < ops.size) && ((List.range n).all fun i => Region.waitsFor .any ops n i || (List.range n).any fun j => decide (i < j) && Region.waitsFor .any ops j i) &&
  ((List.range ops.size).all fun j => decide (j ≤ n) || (List.range j).any fun i => decide (n ≤ i) && Region.waitsFor .any ops j i) && drawnH ops n sn nds
theorem drawnT.tail {n sn : Nat} (h : drawnT ops n sn nds = true) {listed : Array Bool} (inv : HeadInv .any ops n listed) : ∀ (d i : Nat), n - i = d → i < n → listed.getD i true = false → ∀ t, n ≤ t → t ∉ Region.ready .any ops listed := by
  simp only [drawnT, Bool.and_eq_true, decide_eq_true_eq] at h
  obtain ⟨⟨⟨hn, hs⟩, hc⟩, _⟩ := h
  intro d
  induction d using Nat.strongRecOn with
  | _ d ih =>
    intro i hd hi hun t ht hr
    obtain ⟨_, ot, hot, hall⟩ := mem_ready.1 hr
    have htlt : t < ops.size := (Array.getElem?_eq_some_iff.1 hot).1
    by_cases htn : t = n
    · subst htn
      have h1 := List.all_eq_true.1 hs i (List.mem_range.2 hi)
      simp only [Bool.or_eq_true] at h1
      rcases h1 with h1 | h1
      · obtain ⟨oj, hoj, e, he, hb, hon⟩ := Region.waitsFor_spec h1
        have : oj = ot := Option.some.inj (hoj.symm.trans hot)
        subst this
        have h2 := hall e he hb
        rw [hon, getD_both hun] at h2
        cases h2
      · obtain ⟨j, hj, hj2⟩ := List.any_eq_true.1 h1
        simp only [Bool.and_eq_true, decide_eq_true_eq] at hj2
        obtain ⟨oj, hoj, e, he, hb, hon⟩ := Region.waitsFor_spec hj2.2
        have hjlt := List.mem_range.1 hj
        cases hl : listed.getD j false with
        | true =>
          have h2 := inv.closed j oj hoj hl e he hb
          rw [hon, getD_both hun] at h2
          cases h2
        | false =>
          have hjs : j < listed.size := by rw [inv.size]; omega
          exact ih (t - j) (by omega) j rfl (by omega) (getD_in hjs hl) t (Nat.le_refl _) hr
    · have h1 := List.all_eq_true.1 hc t (List.mem_range.2 htlt)
      simp only [Bool.or_eq_true, decide_eq_true_eq] at h1
      rcases h1 with h1 | h1
      · omega
      · obtain ⟨i', hi', h1⟩ := List.any_eq_true.1 h1
        simp only [Bool.and_eq_true, decide_eq_true_eq] at h1
        obtain ⟨o', ho', e, he, hb, hon⟩ := Region.waitsFor_spec h1.2
        have : o' = ot := Option.some.inj (ho'.symm.trans hot)
        subst this
        have h2 := hall e he hb
        have := List.mem_range.1 hi'
        rw [hon, getD_both (inv.tail i' h1.1 (by omega))] at h2
        cases h2
theorem AWp.drT {id : Nat} {n : Nat} (nds : List (List (Nat × Option Nat))) (new : List (Nat × Nat)) (old : List Nat) (vals : List AV) (hm : P.follows .mixedOrders = true) (hB : drawnT ops n s.n nds = true)
    (hk : (drB ops n s.n s.fr new old && noAl ops n none) = true) (hl : vals.length = n) (hp : PSpec P ops s nds vals)
    (k : AAny P ops (ops.size - n) (listed0 n ops.size) (R .normal) { s with fr := (new.map fun p => (p.1, vals.getD p.2 .any)) ++ keepFr s.fr old }) : AWp P (.region id ops true) s R := by
  subst hl
  rw [Bool.and_eq_true] at hk
  have hB' := hB
  simp only [drawnT, Bool.and_eq_true, decide_eq_true_eq] at hB'
  refine AWp.drawnA vals.length nds vals none _ hm (Nat.le_of_lt hB'.1.1.1) hB'.2 (fun listed inv hex j h hj => ?_) (fun i o h => by cases h) (fun i o h1 h2 _ => hp i o h1 h2 ?_) (fun i o ob h => by cases h) (drFr hk.1) (by simpa [oball] using k)
  · obtain ⟨i, hin, hil⟩ := hex
    exact drawnT.tail hB inv _ i rfl hin hil j h hj
  have := List.all_eq_true.1 hk.2 i (List.mem_range.2 h1)
  simp only [h2, Bool.or_eq_true, decide_eq_true_eq, Bool.not_eq_true'] at this
  rcases this with h | h
  · cases h
  · exact h
theorem Dr.finTN {id : Nat} {n : Nat} (f : Nat) (new : List (Nat × Nat)) (old : List Nat) (hG : ∀ vals, PSpec P ops s nds vals → AWp P (.region id ops true) s R → G) (hm : P.follows .mixedOrders = true)
    (k : ∀ K : AS → Prop, (∀ s', R .normal s' → K s') → AAny P ops f (listed0 n (n + f)) K { s with fr := (new.map fun p => (p.1, vals.getD p.2 .any)) ++ keepFr s.fr old })
    (hl : vals.length = n := by rfl) (hf : ops.size = n + f := by kernel_rfl) (hB : drawnT ops n s.n nds = true := by kernel_rfl) (hk : (drB ops n s.n s.fr new old && noAl ops n none) = true := by kernel_rfl) : Dr P ops s nds vals G := by
  intro hp
  refine hG vals hp (AWp.drT nds new old vals hm hB hk hl hp ?_)
  rw [hf, Nat.add_sub_cancel_left]
  exact k _ fun _ h => h
/-! ### the tail as a graph: a node for each set of operations that have come up -/
theorem AAny.weak {fuel : Nat} {listed : Array Bool} (h : Le s s') (k : AAny P ops fuel listed Q s') : AAny P ops fuel listed Q s := by
  intro E hE ρ B a w hs Q' hQ
  obtain ⟨ρ', B', hs'⟩ := h E ρ B a w hs
  exact k E hE ρ' B' a w hs' Q' hQ
def EdL (P : Program) (ops : Array Oper) (f : Nat) (L : Array Bool) (Q : AS → Prop) (x : AS) : List Nat → Prop
  | [] => True
  | j :: r => (∃ y L', L.setIfInBounds j true = L' ∧ ARun P ops (ops[j]?).toList x (fun s' => Le s' y) ∧ AAny P ops f L' Q y) ∧ EdL P ops f L Q x r
theorem EdL.get {f : Nat} {L : Array Bool} {x : AS} : ∀ {l : List Nat}, EdL P ops f L Q x l → ∀ j ∈ l, ∃ y L', L.setIfInBounds j true = L' ∧ ARun P ops (ops[j]?).toList x (fun s' => Le s' y) ∧ AAny P ops f L' Q y
  | [], _, j, h => by cases h
  | i :: r, h, j, hj => by
    rcases List.mem_cons.1 hj with rfl | hj
    · exact h.1
    · exact EdL.get h.2 j hj
theorem AAny.ofL {f : Nat} {L : Array Bool} {x : AS} (l : List Nat) (h : Region.ready .any ops L = l) (hne : l ≠ []) (k : EdL P ops f L Q x l) : AAny P ops (f + 1) L Q x := by
  refine AAny.step h hne fun j hj => ?_
  obtain ⟨y, L', rfl, e, a⟩ := k.get j hj
  obtain ⟨_, o, ho, _⟩ := mem_ready.1 (h.symm ▸ hj)
  rw [ho] at e
  exact ⟨o, ho, e.mono fun s' hle => AAny.weak hle a⟩
section node
variable {f0 : Nat} {L0 : Array Bool} {Q0 : AS → Prop} {x0 x1 s0 s1 xr : AS}
theorem ANode.new {S : AS} (j : Nat) (h0 : x0 = s0) (e : ARun P ops (ops[j]?).toList s0 (fun s' => Le s' S)) (k : ∀ x, x = S → ARun P ops (ops[j]?).toList x0 (fun s' => Le s' x) → AAny P ops f0 L0 Q0 xr) : AAny P ops f0 L0 Q0 xr := k S rfl (h0 ▸ e)
theorem ANode.fin (L : Array Bool) (h0 : x0 = s0) (q : Q0 s0) (k : AAny P ops 0 L Q0 x0 → AAny P ops f0 L0 Q0 xr) (h : Region.ready .any ops L = [] := by kernel_rfl) : AAny P ops f0 L0 Q0 xr := k (h0 ▸ AAny.zero h q)
theorem ANode.up {f : Nat} {x : AS} (L : Array Bool) (l : List Nat) (hne : l ≠ []) (e : EdL P ops f L Q0 x l) (k : AAny P ops (f + 1) L Q0 x → AAny P ops f0 L0 Q0 xr) (h : Region.ready .any ops L = l := by kernel_rfl) : AAny P ops f0 L0 Q0 xr := k (AAny.ofL l h hne e)
end node
/-! ### an empty literal that is a row of the call's own, made in the head -/
theorem ASpec.own {T e : TypeId} {sz : Nat} (hg : gd ops s o = some true) (ho : o.op = .buildSlice T 0 #[]) (hz : elSz P T = some sz) (he : elT P T = some e) : ASpec P ops o s (.own s.ob.length) (.row e sz []) := by
  intro E ρ B a w hs K Q' hK
  rw [if_pos (gd_wanted hg hs)]
  obtain ⟨e', vs, hu, hr, hrel, h1, hvl⟩ := run_buildSlice (s := s) hz (parts := #[]) (len := 0) rfl (fun p hp => by simp at hp) (by simp) hs
  have hee : e' = e := by
    have := elT_spec he
    rw [hu] at this
    simpa using this
  subst hee
  have hsame := same_alloc w (.cells (List.toArray vs) e')
  have hBw : ∀ b, B b → (w.alloc (.cells (List.toArray vs) e')).heap[b]? = w.heap[b]? := fun b hb => hsame.block b (hs.rw_.blt b hb)
  have hn : RS E { s with ob := s.ob ++ [.row e' sz []] } (ρ ++ [.slice (some ⟨w.heap.size, 0, none⟩) 0 0]) B a (w.alloc (.cells (List.toArray vs) e')) := by
    refine hs.new hsame ⟨?_, .inr ⟨w.heap.size, 0, vs, [], (0, 0), ?_, ?_, ?_, ?_, .inl (Nat.le_refl _), ?_⟩⟩ ?_
    · intro x hx'; simp at hx'
    · rw [← hs.rw_.len, List.getElem?_append_right (Nat.le_refl _), Nat.sub_self]; rfl
    · rw [List.append_nil]; exact alloc_get _ _
    · rw [List.append_nil]; exact hvl
    · exact Nat.le_refl _
    · exact hrel.mono (fun _ h => h) hBw (Nat.le_refl _) (fun _ _ h => get_append_some h)
    · intro b hb
      simp only [blk, Option.some.injEq] at hb
      subst hb
      exact ⟨Nat.le_refl _, by simp⟩
  have hrun : (execOp a.eval o).run P w = .ok (.value (.slice (some ⟨w.heap.size, 0, none⟩) 0 0)) (w.alloc (.cells (List.toArray vs) e')) := by
    simp only [execOp, ho]; exact val_run hr
  refine owp_value hrun (hK _ _ _ hn.rj hBw (.own ?_ rfl))
  rw [← hs.rw_.len, List.getElem?_append_right (Nat.le_refl _), Nat.sub_self]; rfl
end
end Go.Abs
/- Frames read and written: Cursor.Take, tlv.read, Split, All, Put, Join. -/
set_option linter.unusedVariables false
set_option linter.unusedSimpArgs false
namespace Go.Proofs.YtmcedkcehcacpaaGreatDoor.C
open Go.Abs
@[push_cast] theorem frmA_hand (ids : List Nat) (b : Bool) (f : Frm) : (frmA b f).hand ids = frmA false f := by simp only [frmA, AV.hand, AV.handL, bys_hand]
theorem take_ok (l : List UInt8) (i n : Nat) (hi : i + n ≤ l.length) (hl : l.length ≤ 2 ^ 40) :
    OC Tryz.prog 82 [.ptr 0 0, nat n] [cur l i] (.tup [.sl true 1 (bys ((l.drop i).take n)), bool true]) [cur l (i + n)] := by
  have e : (l.take (i + n)).drop i = (l.drop i).take n := by rw [List.drop_take]; congr 1; omega
  have hlen : ((l.drop i).take n).length ≤ 2 ^ 40 := by rw [List.length_take, List.length_drop]; omega
  refine OC.of_bodyK [0] (by intro k hk; simp at hk; subst hk; rfl) Tryz.func82 rfl (by rw [Tryz.ntmps82]; simp) ?_
  refine AWp.regionW ?_
  refine AWp.seqK fun K1 hK1 => ?_
  refine AWp.regionA fun K2 hK2 => ?_
  refine ARun.segm 3 fun KS hKS => ?_
  refine ARun2.endm (hKS _ ?_); clear hKS KS
  apply ARun.grpM 2 2 false 11 [0, 1, 9]
  · intro g2 KG hKG
    refine ARun2.gom ?_
    exact ARun2.endm (hKG _ Le.grpM)
  refine ARun.segm 2 fun KS hKS => ?_
  refine ARun2.endm (hKS _ ?_); clear hKS KS
  apply ARun.grpM 4 6 false 17 [0, 1, 13]
  · intro g6 KG hKG
    refine ARun2.gom ?_
    refine ARun2.callOM [0] (left_c l i (by omega) hl) ?_
    exact ARun2.endm (hKG _ Le.grpM)
  refine ARun2.gom ?_
  refine ARun2.endm (hK2 _ ?_)
  refine AWp.condF ?_ (by simp only [push_cast]; simp; omega)
  refine AWp.skip ?_
  refine hK1 _ ?_
  refine AWp.drS [[(0, none)], [(19, some 0)], [(20, some 1)], [(21, some 2)], [(0, none)], [(23, some 4)], [(24, some 5)], [(25, some 6)], [(0, none)], [(27, some 8)], [(28, some 9)], [(29, some 10)], [(1, none)], [(30, some 11), (31, some 12)], [(0, none)], [(33, some 14)], [(34, some 15)], [(35, some 16)], [(1, none)], [(36, some 17), (37, some 18)]] fun G hG => ?_
  refine Dr.sim ?_
  try simp only [List.cons_append, List.nil_append]
  refine Dr.sim ?_
  try simp only [List.cons_append, List.nil_append]
  refine Dr.sim ?_
  try simp only [List.cons_append, List.nil_append]
  refine Dr.sim ?_
  try simp only [List.cons_append, List.nil_append]
  refine Dr.sim ?_
  try simp only [List.cons_append, List.nil_append]
  refine Dr.sim ?_
  try simp only [List.cons_append, List.nil_append]
  refine Dr.sim ?_
  try simp only [List.cons_append, List.nil_append]
  refine Dr.sim ?_
  try simp only [List.cons_append, List.nil_append]
  refine Dr.sim ?_
  try simp only [List.cons_append, List.nil_append]
  refine Dr.sim ?_
  try simp only [List.cons_append, List.nil_append]
  refine Dr.sim ?_
  try simp only [List.cons_append, List.nil_append]
  refine Dr.sim ?_
  try simp only [List.cons_append, List.nil_append]
  refine Dr.sim ?_
  try simp only [List.cons_append, List.nil_append]
  refine Dr.sim ?_
  try simp only [List.cons_append, List.nil_append]
  refine Dr.sim ?_
  try simp only [List.cons_append, List.nil_append]
  refine Dr.sim ?_
  try simp only [List.cons_append, List.nil_append]
  refine Dr.sim ?_
  try simp only [List.cons_append, List.nil_append]
  refine Dr.sim ?_
  try simp only [List.cons_append, List.nil_append]
  refine Dr.sim ?_
  try simp only [List.cons_append, List.nil_append]
  refine Dr.sim ?_
  try simp only [List.cons_append, List.nil_append]
  refine Dr.finM (n := 20) [(22, 3), (26, 7), (32, 13), (38, 19)] [0, 1] hG YtmcedkcehcacpaaGreatDoor.Facts.mixed fun KD hKD => ?_
  refine ARun2.slice3M (i) (i + n) ?_ ?_ ?_
  · omega
  · rw [bys_len]; omega
  rw [e]
  refine ARun2.endm (hKD _ ?_); clear hKD KD hG G
  refine AWp.regionW ?_
  refine AWp.regionM fun K3 hK3 => ?_
  refine ARun2.callM (clone_c ((l.drop i).take n) hlen) ?_
  refine ARun2.endm (hK3 _ ?_)
  refine AWp.ret ?_
  try simp only [thenQ, blockQ, noGo]
  refine bodyQ.m ?_
  clear hK3 K3 hK2 K2 hK1 K1
  refine endK.m ?_ ?_
  · rfl
  · skip
    first | done | exact Ho.go
theorem take_no (l : List UInt8) (i : Nat) (m : Int) (hi : i ≤ l.length) (hl : l.length ≤ 2 ^ 40) (hm : m < 0 ∨ N (l.length - i) < m) :
    OC Tryz.prog 82 [.ptr 0 0, .val (.int .i64 m)] [cur l i] (.tup [.val (.slice none 0 0), bool false]) [cur l i] := by
  refine OC.of_body [0] (by intro k hk; simp at hk; subst hk; rfl) Tryz.func82 rfl (by rw [Tryz.ntmps82]; simp) ?_
  refine AWp.regionW ?_
  refine AWp.seqK fun K1 hK1 => ?_
  refine AWp.regionA fun K2 hK2 => ?_
  refine ARun.segm 3 fun KS hKS => ?_
  refine ARun2.endm (hKS _ ?_); clear hKS KS
  apply ARun.grpM 2 2 false 11 [0, 1, 9]
  · intro g2 KG hKG
    refine ARun2.gom ?_
    exact ARun2.endm (hKG _ Le.grpM)
  refine ARun.segm 2 fun KS hKS => ?_
  refine ARun2.endm (hKS _ ?_); clear hKS KS
  apply ARun.grpM 4 6 false 17 [0, 1, 13]
  · intro g6 KG hKG
    refine ARun2.gom ?_
    refine ARun2.callOM [0] (left_c l i (by omega) hl) ?_
    exact ARun2.endm (hKG _ Le.grpM)
  refine ARun2.gom ?_
  refine ARun2.endm (hK2 _ ?_)
  refine AWp.condT ?_ (by simp only [push_cast]; simp; omega)
  refine AWp.regionW ?_
  refine AWp.ret ?_
  try simp only [thenQ, blockQ, noGo]
  refine bodyQ.m ?_
  clear hK2 K2 hK1 K1
  refine endO.m ?_ ?_
  · rfl
  · skip
    first | done | exact Hand.go
theorem num_hit (k : Nat) (l : List UInt8) (i : Nat) (hk : k = 1 ∨ k = 2 ∨ k = 4) (h : i + k ≤ l.length) (hl : l.length ≤ 2 ^ 40) :
    OC Tryz.prog 64 [.ptr 0 0, nat k] [cur l i] (.tup [u32 (peekN k l i), bool true]) [cur l (i + k)] := by
  have := number_c k l i hk (by omega) hl
  rw [if_pos h, show decide (i + k ≤ l.length) = true from decide_eq_true h] at this
  exact this
theorem num_miss (k : Nat) (l : List UInt8) (i : Nat) (hk : k = 1 ∨ k = 2 ∨ k = 4) (hi : i ≤ l.length) (h : ¬ i + k ≤ l.length) (hl : l.length ≤ 2 ^ 40) :
    OC Tryz.prog 64 [.ptr 0 0, nat k] [cur l i] (.tup [u32 0, bool false]) [cur l i] := by
  have := number_c k l i hk hi hl
  rw [if_neg h, show decide (i + k ≤ l.length) = false from decide_eq_false h, show peekN k l i = 0 by unfold peekN; rw [if_neg h]] at this
  exact this
theorem peek2_lt (l : List UInt8) (i : Nat) : peekN 2 l i < 65536 := by
  unfold peekN
  split
  · have := beN_lt ((l.drop i).take 2)
    have h2 : ((l.drop i).take 2).length ≤ 2 := List.length_take_le _ _
    calc beN ((l.drop i).take 2) < 256 ^ ((l.drop i).take 2).length := this
      _ ≤ 256 ^ 2 := Nat.pow_le_pow_right (by omega) h2
  · omega
def frm0 : Frm := ⟨0, []⟩
/-- a frame read at an offset, and where the next one is -/
def readN (b : List UInt8) (i : Nat) : Frm × Nat × Er :=
  if 4 ≤ b.length - i ∧ 4 ≤ peekN 2 (b.drop i) 2 ∧ peekN 2 (b.drop i) 2 ≤ b.length - i then
    if i + peekN 2 (b.drop i) 2 = b.length then (⟨peekN 2 (b.drop i) 0, ((b.drop i).drop 4).take (peekN 2 (b.drop i) 2 - 4)⟩, i + peekN 2 (b.drop i) 2, .ok)
    else if (nextN b (i + peekN 2 (b.drop i) 2)).isSome = true ∧ (nextN b (i + peekN 2 (b.drop i) 2)).getD 0 ≠ b.length then
      (⟨peekN 2 (b.drop i) 0, ((b.drop i).drop 4).take (peekN 2 (b.drop i) 2 - 4)⟩, (nextN b (i + peekN 2 (b.drop i) 2)).getD 0, .ok)
    else (frm0, 0, .flt 5 (i + peekN 2 (b.drop i) 2))
  else (frm0, 0, .flt 4 i)
@[push_cast] def readA (r : Frm × Nat × Er) : AV := .tup [frmA true r.1, nat r.2.1, erA r.2.2]
theorem read_a (b : List UInt8) (i : Nat) (hi : i ≤ b.length) (hl : b.length ≤ 2 ^ 40) (h2 : b.length - i < 2) : PC Tryz.prog 71 [.sl false 1 (bys b), nat i] (readA (frm0, 0, .flt 4 i)) := by
  have hd : (b.drop i).length = b.length - i := List.length_drop
  refine PC.of_bodyK (by simp only [push_cast]) Tryz.func71 rfl (by rw [Tryz.ntmps71]; simp) ?_
  refine AWp.regionW ?_
  refine AWp.regionM fun K1 hK1 => ?_
  refine ARun2.sliceLoM (i) ?_ ?_
  · rw [bys_len]; omega
  refine ARun2.callOM [] (new_c (b.drop i) (by omega)) ?_
  refine ARun2.endm (hK1 _ ?_)
  refine AWp.regionM fun K2 hK2 => ?_
  refine ARun2.callOM [1] (num_miss 2 (b.drop i) 0 (by omega) (by omega) (by omega) (by omega)) ?_
  refine ARun2.endm (hK2 _ ?_)
  refine AWp.regionM fun K3 hK3 => ?_
  refine ARun2.callOM [1] (num_miss 2 (b.drop i) 0 (by omega) (by omega) (by omega) (by omega)) ?_
  refine ARun2.endm (hK3 _ ?_)
  refine AWp.regionM fun K4 hK4 => ?_
  rw [show IntKind.i64.wrap (IntKind.i64.wrap 0 - 4) = -4 from rfl]
  refine ARun2.callOM [1] (take_no (b.drop i) 0 (-4) (by omega) (by omega) (.inl (by decide))) ?_
  refine ARun2.endm (hK4 _ ?_)
  refine AWp.seqK fun K5 hK5 => ?_
  refine AWp.regionA fun K6 hK6 => ?_
  refine ARun.segm 3 fun KS hKS => ?_
  refine ARun2.endm (hKS _ ?_); clear hKS KS
  apply ARun.grpM 2 2 false 42 [0, 1, 4, 8, 10, 12, 40]
  · intro g2 KG hKG
    refine ARun2.gom ?_
    exact ARun2.endm (hKG _ Le.grpM)
  refine ARun2.gom ?_
  refine ARun2.endm (hK6 _ ?_)
  refine AWp.condT ?_
  refine AWp.regionM fun K7 hK7 => ?_
  refine ARun2.callM (fnew_c 4 i) ?_
  refine ARun2.endm (hK7 _ ?_)
  refine AWp.ret ?_
  try simp only [thenQ, blockQ, noGo]
  refine bodyQ.m ?_
  clear hK7 K7 hK6 K6 hK5 K5 hK4 K4 hK3 K3 hK2 K2 hK1 K1
  simp only [readA, frm0]
  first | done | exact Wk.go
theorem read_b (b : List UInt8) (i : Nat) (hi : i ≤ b.length) (hl : b.length ≤ 2 ^ 40) (h2 : 2 ≤ b.length - i) (h4 : b.length - i < 4) : PC Tryz.prog 71 [.sl false 1 (bys b), nat i] (readA (frm0, 0, .flt 4 i)) := by
  have hd : (b.drop i).length = b.length - i := List.length_drop
  refine PC.of_bodyK (by simp only [push_cast]) Tryz.func71 rfl (by rw [Tryz.ntmps71]; simp) ?_
  refine AWp.regionW ?_
  refine AWp.regionM fun K1 hK1 => ?_
  refine ARun2.sliceLoM (i) ?_ ?_
  · rw [bys_len]; omega
  refine ARun2.callOM [] (new_c (b.drop i) (by omega)) ?_
  refine ARun2.endm (hK1 _ ?_)
  refine AWp.regionM fun K2 hK2 => ?_
  refine ARun2.callOM [1] (num_hit 2 (b.drop i) 0 (by omega) (by omega) (by omega)) ?_
  refine ARun2.endm (hK2 _ ?_)
  refine AWp.regionM fun K3 hK3 => ?_
  refine ARun2.callOM [1] (num_miss 2 (b.drop i) 2 (by omega) (by omega) (by omega) (by omega)) ?_
  refine ARun2.endm (hK3 _ ?_)
  refine AWp.regionM fun K4 hK4 => ?_
  rw [show IntKind.i64.wrap (IntKind.i64.wrap 0 - 4) = -4 from rfl]
  refine ARun2.callOM [1] (take_no (b.drop i) 2 (-4) (by omega) (by omega) (.inl (by decide))) ?_
  refine ARun2.endm (hK4 _ ?_)
  refine AWp.seqK fun K5 hK5 => ?_
  refine AWp.regionA fun K6 hK6 => ?_
  refine ARun.segm 3 fun KS hKS => ?_
  refine ARun2.endm (hKS _ ?_); clear hKS KS
  apply ARun.grpM 2 2 false 42 [0, 1, 4, 8, 10, 12, 40]
  · intro g2 KG hKG
    refine ARun2.gom ?_
    exact ARun2.endm (hKG _ Le.grpM)
  refine ARun2.gom ?_
  refine ARun2.endm (hK6 _ ?_)
  refine AWp.condT ?_
  refine AWp.regionM fun K7 hK7 => ?_
  refine ARun2.callM (fnew_c 4 i) ?_
  refine ARun2.endm (hK7 _ ?_)
  refine AWp.ret ?_
  try simp only [thenQ, blockQ, noGo]
  refine bodyQ.m ?_
  clear hK7 K7 hK6 K6 hK5 K5 hK4 K4 hK3 K3 hK2 K2 hK1 K1
  simp only [readA, frm0]
  first | done | exact Wk.go
theorem read_c1 (b : List UInt8) (i n : Nat) (hi : i ≤ b.length) (hl : b.length ≤ 2 ^ 40) (h4 : 4 ≤ b.length - i) (hn : peekN 2 (b.drop i) 2 = n) (hbad : n < 4 ∨ b.length - i < n) : PC Tryz.prog 71 [.sl false 1 (bys b), nat i] (readA (frm0, 0, .flt 4 i)) := by
  have hnl := peek2_lt (b.drop i) 2
  rw [hn] at hnl
  have hd : (b.drop i).length = b.length - i := List.length_drop
  refine PC.of_bodyK (by simp only [push_cast]) Tryz.func71 rfl (by rw [Tryz.ntmps71]; simp) ?_
  refine AWp.regionW ?_
  refine AWp.regionM fun K1 hK1 => ?_
  refine ARun2.sliceLoM (i) ?_ ?_
  · rw [bys_len]; omega
  refine ARun2.callOM [] (new_c (b.drop i) (by omega)) ?_
  refine ARun2.endm (hK1 _ ?_)
  refine AWp.regionM fun K2 hK2 => ?_
  refine ARun2.callOM [1] (num_hit 2 (b.drop i) 0 (by omega) (by omega) (by omega)) ?_
  refine ARun2.endm (hK2 _ ?_)
  refine AWp.regionM fun K3 hK3 => ?_
  refine ARun2.callOM [1] (hn ▸ num_hit 2 (b.drop i) 2 (by omega) (by omega) (by omega)) ?_
  refine ARun2.endm (hK3 _ ?_)
  refine AWp.regionM fun K4 hK4 => ?_
  rw [w64 (a := N n - 4) (by unfold N; omega) (by unfold N; omega)]
  refine ARun2.callOM [1] (take_no (b.drop i) 4 (N n - 4) (by omega) (by omega) (by unfold N; omega)) ?_
  refine ARun2.endm (hK4 _ ?_)
  refine AWp.seqK fun K5 hK5 => ?_
  refine AWp.regionA fun K6 hK6 => ?_
  refine ARun.segm 3 fun KS hKS => ?_
  refine ARun2.endm (hKS _ ?_); clear hKS KS
  apply ARun.grpM 2 2 false 42 [0, 1, 4, 8, 10, 12, 40]
  · intro g2 KG hKG
    refine ARun2.gom ?_
    exact ARun2.endm (hKG _ Le.grpM)
  refine ARun2.gom ?_
  refine ARun2.endm (hK6 _ ?_)
  refine AWp.condT ?_
  refine AWp.regionM fun K7 hK7 => ?_
  refine ARun2.callM (fnew_c 4 i) ?_
  refine ARun2.endm (hK7 _ ?_)
  refine AWp.ret ?_
  try simp only [thenQ, blockQ, noGo]
  refine bodyQ.m ?_
  clear hK7 K7 hK6 K6 hK5 K5 hK4 K4 hK3 K3 hK2 K2 hK1 K1
  simp only [readA, frm0]
  first | done | exact Wk.go
theorem read_c2 (b : List UInt8) (i n : Nat) (hi : i ≤ b.length) (hl : b.length ≤ 2 ^ 40) (h4 : 4 ≤ b.length - i) (hn : peekN 2 (b.drop i) 2 = n) (hn4 : 4 ≤ n) (hnl : n ≤ b.length - i) : PC Tryz.prog 71 [.sl false 1 (bys b), nat i] (readA (readN b i)) := by
  have hnl2 := peek2_lt (b.drop i) 2
  rw [hn] at hnl2
  have ht := peek2_lt (b.drop i) 0
  have hr : readN b i = if i + n = b.length then (⟨peekN 2 (b.drop i) 0, ((b.drop i).drop 4).take (n - 4)⟩, i + n, .ok)
      else if (nextN b (i + n)).isSome = true ∧ (nextN b (i + n)).getD 0 ≠ b.length then (⟨peekN 2 (b.drop i) 0, ((b.drop i).drop 4).take (n - 4)⟩, (nextN b (i + n)).getD 0, .ok)
      else (frm0, 0, .flt 5 (i + n)) := by
    unfold readN; rw [hn, if_pos ⟨h4, hn4, hnl⟩]
  have hd : (b.drop i).length = b.length - i := List.length_drop
  refine PC.of_bodyK (by simp only [push_cast]) Tryz.func71 rfl (by rw [Tryz.ntmps71]; simp) ?_
  refine AWp.regionW ?_
  refine AWp.regionM fun K1 hK1 => ?_
  refine ARun2.sliceLoM (i) ?_ ?_
  · rw [bys_len]; omega
  refine ARun2.callOM [] (new_c (b.drop i) (by omega)) ?_
  refine ARun2.endm (hK1 _ ?_)
  refine AWp.regionM fun K2 hK2 => ?_
  refine ARun2.callOM [1] (num_hit 2 (b.drop i) 0 (by omega) (by omega) (by omega)) ?_
  refine ARun2.endm (hK2 _ ?_)
  refine AWp.regionM fun K3 hK3 => ?_
  refine ARun2.callOM [1] (hn ▸ num_hit 2 (b.drop i) 2 (by omega) (by omega) (by omega)) ?_
  refine ARun2.endm (hK3 _ ?_)
  refine AWp.regionM fun K4 hK4 => ?_
  try rw [w_subl n 4 hn4 (by omega)]
  refine ARun2.callOM [1] (take_ok (b.drop i) 4 (n - 4) (by omega) (by omega)) ?_
  refine ARun2.endm (hK4 _ ?_)
  refine AWp.seqK fun K5 hK5 => ?_
  refine AWp.regionA fun K6 hK6 => ?_
  refine ARun.segm 3 fun KS hKS => ?_
  refine ARun2.endm (hKS _ ?_); clear hKS KS
  apply ARun.grpM 2 2 false 42 [0, 1, 4, 8, 10, 12, 40]
  · intro g2 KG hKG
    refine ARun2.gom ?_
    exact ARun2.endm (hKG _ Le.grpM)
  refine ARun2.gom ?_
  refine ARun2.endm (hK6 _ ?_)
  refine AWp.condF ?_
  refine AWp.skip ?_
  refine hK5 _ ?_
  refine AWp.regionW ?_
  refine AWp.regionM fun K7 hK7 => ?_
  refine ARun2.callM (next_c b (i + n) hl (by omega)) ?_
  refine ARun2.endm (hK7 _ ?_)
  refine AWp.seqK fun K8 hK8 => ?_
  refine AWp.block ?_
  refine AWp.regionW ?_
  refine AWp.condLM (fun c1 => ?_) (fun c1 => ?_)
  · skip
    have he : i + n = b.length := by simpa using c1
    rw [if_pos he] at hr
    refine AWp.regionV ?_
    refine hK8 _ ?_
    refine AWp.regionW ?_
    refine AWp.ret ?_
    try simp only [thenQ, blockQ, noGo]
    refine bodyQ.m ?_
    clear hK8 K8 hK7 K7 hK6 K6 hK5 K5 hK4 K4 hK3 K3 hK2 K2 hK1 K1
    rw [hr]; simp only [readA, frm0]
    first | done | exact Wk.go
  · skip
    have he : ¬ i + n = b.length := by simpa using c1
    rw [if_neg he] at hr
    refine AWp.regionA fun K9 hK9 => ?_
    refine ARun.segm 3 fun KS hKS => ?_
    refine ARun2.endm (hKS _ ?_); clear hKS KS
    apply ARun.grpM 4 2 false 70 [4, 8, 12, 14, 15, 66]
    · intro g2 KG hKG
      refine ARun2.gom ?_
      exact ARun2.endm (hKG _ Le.grpM)
    refine ARun2.gom ?_
    refine ARun2.endm (hK9 _ ?_)
    refine AWp.condLM (fun c2 => ?_) (fun c2 => ?_)
    · skip
      rw [if_neg (by simp at c2; intro h; rcases c2 with c | c <;> simp_all)] at hr
      refine AWp.regionM fun K10 hK10 => ?_
      refine ARun2.callM (fnew_c 5 (i + n)) ?_
      refine ARun2.endm (hK10 _ ?_)
      refine AWp.ret ?_
      try simp only [thenQ, blockQ, noGo]
      refine bodyQ.m ?_
      clear hK10 K10 hK9 K9 hK8 K8 hK7 K7 hK6 K6 hK5 K5 hK4 K4 hK3 K3 hK2 K2 hK1 K1
      rw [hr]; simp only [readA, frm0]
      first | done | exact Wk.go
    · skip
      rw [if_pos (by simp at c2; exact ⟨by simp_all, by simp_all⟩)] at hr
      refine AWp.skip ?_
      refine hK8 _ ?_
      refine AWp.regionW ?_
      refine AWp.ret ?_
      try simp only [thenQ, blockQ, noGo]
      refine bodyQ.m ?_
      clear hK9 K9 hK8 K8 hK7 K7 hK6 K6 hK5 K5 hK4 K4 hK3 K3 hK2 K2 hK1 K1
      rw [hr]; simp only [readA, frm0]
      first | done | exact Wk.go
theorem read_c (b : List UInt8) (i : Nat) (hi : i ≤ b.length) (hl : b.length ≤ 2 ^ 40) : PC Tryz.prog 71 [.sl false 1 (bys b), nat i] (readA (readN b i)) := by
  by_cases h4 : 4 ≤ b.length - i
  · by_cases hn : 4 ≤ peekN 2 (b.drop i) 2 ∧ peekN 2 (b.drop i) 2 ≤ b.length - i
    · exact read_c2 b i _ hi hl h4 rfl hn.1 hn.2
    · have hr : readN b i = (frm0, 0, .flt 4 i) := by unfold readN; rw [if_neg fun h => hn h.2]
      rw [hr]
      exact read_c1 b i _ hi hl h4 rfl (by omega)
  · have hr : readN b i = (frm0, 0, .flt 4 i) := by unfold readN; rw [if_neg fun h => h4 h.1]
    rw [hr]
    by_cases h2 : b.length - i < 2
    · exact read_a b i hi hl h2
    · exact read_b b i hi hl (by omega) (by omega)
end Go.Proofs.YtmcedkcehcacpaaGreatDoor.C
/- Lists of frames: tlv.Split, tlv.All, tlv.Put, tlv.Join. -/
set_option linter.unusedVariables false
set_option linter.unusedSimpArgs false
namespace Go.Proofs.YtmcedkcehcacpaaGreatDoor.C
open Go.Abs
theorem nextN_le {b : List UInt8} {n : Nat} (h : (nextN b n).isSome = true) : n ≤ (nextN b n).getD 0 ∧ (nextN b n).getD 0 ≤ b.length := by
  unfold nextN at h ⊢
  split at h
  · rename_i hc; rw [if_pos hc]; exact ⟨by simp [upN], hc.2.1⟩
  · simp at h
theorem readN_next {b : List UInt8} {i : Nat} (h : (readN b i).2.2 = .ok) : i + 4 ≤ (readN b i).2.1 ∧ (readN b i).2.1 ≤ b.length := by
  unfold readN at h ⊢
  split at h
  · rename_i hc
    rw [if_pos hc]
    split at h
    · rename_i he; rw [if_pos he]; exact ⟨by show i + 4 ≤ i + _; omega, by show i + _ ≤ _; omega⟩
    · rename_i he
      rw [if_neg he]
      split at h
      · rename_i hs
        rw [if_pos hs]
        have := nextN_le hs.1
        exact ⟨by show i + 4 ≤ Option.getD _ 0; omega, this.2⟩
      · cases h
  · cases h
/-- the frames from an offset on, with their offsets, up to an error -/
def scan (b : List UInt8) : Nat → Nat → List (Nat × Frm) × Er
  | 0, _ => ([], .ok)
  | k + 1, i => if i < b.length then
      match (readN b i).2.2 with
      | .ok => ((i, (readN b i).1) :: (scan b k (readN b i).2.1).1, (scan b k (readN b i).2.1).2)
      | e => ([], e)
    else ([], .ok)
def scanInv (b : List UInt8) (p : List (Nat × Frm)) (k i : Nat) : Prop :=
  i ≤ b.length ∧ b.length - i ≤ k ∧ scan b b.length 0 = (p ++ (scan b k i).1, (scan b k i).2) ∧ p.length ≤ i
theorem scanInv_0 (b : List UInt8) : scanInv b [] b.length 0 := ⟨Nat.zero_le _, by omega, rfl, Nat.zero_le _⟩
theorem scanInv_step {b : List UInt8} {p : List (Nat × Frm)} {k i : Nat} (h : scanInv b p k i) (hi : i < b.length) (he : (readN b i).2.2 = .ok) : scanInv b (p ++ [(i, (readN b i).1)]) (k - 1) (readN b i).2.1 := by
  obtain ⟨h1, h2, h3, h4⟩ := h
  obtain ⟨n1, n2⟩ := readN_next he
  cases k with
  | zero => omega
  | succ k =>
    refine ⟨n2, by simp only [Nat.add_sub_cancel]; omega, ?_, by simp; omega⟩
    rw [h3, scan, if_pos hi, he]
    simp
theorem scanInv_err {b : List UInt8} {p : List (Nat × Frm)} {k i : Nat} (h : scanInv b p k i) (hi : i < b.length) (he : (readN b i).2.2 ≠ .ok) : scan b b.length 0 = (p, (readN b i).2.2) := by
  obtain ⟨h1, h2, h3, h4⟩ := h
  cases k with
  | zero => omega
  | succ k =>
    rw [h3, scan, if_pos hi]
    cases hq : (readN b i).2.2 with
    | ok => exact absurd hq he
    | code c => simp
    | flt c j => simp
theorem scanInv_end {b : List UInt8} {p : List (Nat × Frm)} {k i : Nat} (h : scanInv b p k i) (hi : ¬ i < b.length) : scan b b.length 0 = (p, .ok) := by
  obtain ⟨h1, h2, h3, h4⟩ := h
  rw [h3]
  cases k with
  | zero => simp [scan]
  | succ k => simp [scan, hi]
theorem scan_split {b : List UInt8} {p : List (Nat × Frm)} {k i : Nat} (h : scanInv b p k i) (hi : i < b.length) (he : (readN b i).2.2 = .ok) : ∃ r, (scan b b.length 0).1 = p ++ (i, (readN b i).1) :: r := by
  obtain ⟨h1, h2, h3, h4⟩ := h
  cases k with
  | zero => omega
  | succ k =>
    rw [h3, scan, if_pos hi, he]
    exact ⟨_, rfl⟩
@[push_cast] theorem frmsA_nil (b : Bool) : frmsA b [] = [] := rfl
theorem frmsA_snoc (b : Bool) (l : List Frm) (f : Frm) : frmsA b (l ++ [f]) = frmsA b l ++ [frmA b f] := by simp [frmsA]
/-- the frames of a list of bytes, or its error -/
def splitN (b : List UInt8) : List Frm × Er := if (scan b b.length 0).2 = .ok then ((scan b b.length 0).1.map (·.2), .ok) else ([], (scan b b.length 0).2)
theorem isOk_iff (e : Er) : e.isOk = true ↔ e = .ok := by cases e <;> simp [Er.isOk]
theorem split_c (b : List UInt8) (hl : b.length ≤ 2 ^ 40) : PC Tryz.prog 56 [.sl false 1 (bys b)] (.tup [.sl true 2 (frmsA true (splitN b).1), erA (splitN b).2]) := by
  refine PC.of_bodyK (by simp only [push_cast]) Tryz.func56 rfl (by rw [Tryz.ntmps56]; simp) ?_
  refine AWp.regionW ?_
  refine AWp.regionW ?_
  refine AWp.seqK fun K1 hK1 => ?_
  refine AWp.regionW ?_
  refine AWp.block ?_
  -- SLOTS THAT TURN AND ARE NOT TOLD: [4]
  refine AWp.nilOwn 4 71 2 (by simp only [push_cast, reduceIte, Nat.reduceEqDiff, Nat.reduceLT, Nat.reduceAdd, Nat.reduceSub, Nat.reduceMul, Nat.reduceLeDiff, Nat.reducePow, Int.reduceLT, Int.reduceToNat, reduceCtorEq, Int.reduceNeg, Int.reduceEq, Nat.reduceBEq, Nat.reduceBNe, Int.reduceBEq, Int.reduceBNe, String.reduceEq]) ?_
  simp only [push_cast, reduceIte, Nat.reduceEqDiff, Nat.reduceLT, Nat.reduceAdd, Nat.reduceSub, Nat.reduceMul, Nat.reduceLeDiff, Nat.reducePow, Int.reduceLT, Int.reduceToNat, reduceCtorEq, Int.reduceNeg, Int.reduceEq, Nat.reduceBEq, Nat.reduceBNe, Int.reduceBEq, Int.reduceBNe, String.reduceEq]
  refine AWp.loopK [0, 4] (fun (g : List (Nat × Frm) × Nat × Nat) => [(5, nat g.2.2)]) (fun g => [.row 71 2 (frmsA true (g.1.map (·.2)))]) (fun g => scanInv b g.1 g.2.1 g.2.2) (fun g => b.length - g.2.2) (([], b.length, 0)) ?_ (scanInv_0 b) ?_
  · skip
    refine Le.m 1 ?_ ?_
    · first | with_reducible rfl | (simp only [push_cast, reduceIte, Nat.reduceEqDiff, Nat.reduceLT, Nat.reduceAdd, Nat.reduceSub, Nat.reduceMul, Nat.reduceLeDiff, Nat.reducePow, Int.reduceLT, Int.reduceToNat, reduceCtorEq, Int.reduceNeg, Int.reduceEq, Nat.reduceBEq, Nat.reduceBNe, Int.reduceBEq, Int.reduceBNe, String.reduceEq]; first | done | rfl | (simp (disch := omega) only [w_nat, w_add, w_addl, w_addr, w_sub, w_subl, w_mul, w_mull, w_mulr, w_u32, w_u16, w_u8, w_u32a, N_zero]; first | done | rfl))
    · first | (simp only [push_cast, reduceIte, Nat.reduceEqDiff, Nat.reduceLT, Nat.reduceAdd, Nat.reduceSub, Nat.reduceMul, Nat.reduceLeDiff, Nat.reducePow, Int.reduceLT, Int.reduceToNat, reduceCtorEq, Int.reduceNeg, Int.reduceEq, Nat.reduceBEq, Nat.reduceBNe, Int.reduceBEq, Int.reduceBNe, String.reduceEq]; first | done | rfl | (simp (disch := omega) only [w_nat, w_add, w_addl, w_addr, w_sub, w_subl, w_mul, w_mull, w_mulr, w_u32, w_u16, w_u8, w_u32a, N_zero]; first | done | rfl))
  · intro g hg K2 hK2
    obtain ⟨p, k, i⟩ := g
    dsimp only at hg ⊢
    refine AWp.seqK fun K3 hK3 => ?_
    refine AWp.regionW ?_
    refine AWp.condLM (fun c0 => ?_) (fun c0 => ?_)
    · skip
      have hil : i < b.length := by simpa using c0
      refine AWp.skip ?_
      refine hK3 _ ?_
      refine AWp.block ?_
      refine AWp.regionM fun K4 hK4 => ?_
      refine ARun2.callM (read_c b i (by omega) hl) ?_
      refine ARun2.endm (hK4 _ ?_)
      refine AWp.seqK fun K5 hK5 => ?_
      refine AWp.regionW ?_
      refine AWp.condLM (fun c1 => ?_) (fun c1 => ?_)
      · skip
        have he : (readN b i).2.2 ≠ .ok := by intro h; rw [h] at c1; simp [Er.isOk] at c1
        have hr : splitN b = ([], (readN b i).2.2) := by unfold splitN; rw [scanInv_err hg hil he]; rw [if_neg he]
        refine AWp.regionW ?_
        refine AWp.ret ?_
        try simp only [thenQ, blockQ, noGo]
        refine bodyQ.m ?_
        clear hK5 K5 hK4 K4 hK3 K3 hK2 K2 hK1 K1
        rw [hr]
        first | done | exact Wk.go
      · skip
        have he : (readN b i).2.2 = .ok := by rw [← isOk_iff]; simpa using c1
        have hst := scanInv_step hg hil he
        have hpl := hg.2.2.2
        refine AWp.skip ?_
        refine hK5 _ ?_
        refine AWp.regionM fun K6 hK6 => ?_
        refine ARun2.appendM ?_ ?_ ?_
        · rw [YtmcedkcehcacpaaGreatDoor.Facts.eb68, frmsA_len, List.length_map, List.length_cons, List.length_nil]; omega
        · rw [frmsA_len, List.length_map, List.length_cons, List.length_nil]; omega
        refine ARun2.endm (hK6 _ ?_)
        refine AWp.regionV ?_
        refine hK2 _ ((p ++ [(i, (readN b i).1)], k - 1, (readN b i).2.1)) (hst) (by have := readN_next he; show b.length - (readN b i).2.1 < b.length - i; omega) ?_
        refine Le.m 1 ?_ ?_
        · try simp only [push_cast, reduceIte, Nat.reduceEqDiff, Nat.reduceLT, Nat.reduceAdd, Nat.reduceSub, Nat.reduceMul, Nat.reduceLeDiff, Nat.reducePow, Int.reduceLT, Int.reduceToNat, reduceCtorEq, Int.reduceNeg, Int.reduceEq, Nat.reduceBEq, Nat.reduceBNe, Int.reduceBEq, Int.reduceBNe, String.reduceEq]
          try simp (disch := omega) only [w_nat, w_add, w_addl, w_addr, w_sub, w_subl, w_mul, w_mull, w_mulr, w_u32, w_u16, w_u8, w_u32a, N_zero]
          first | done | skip
          rw [List.map_append, List.map_cons, List.map_nil, frmsA_snoc]; rfl
        · first | (simp only [push_cast, reduceIte, Nat.reduceEqDiff, Nat.reduceLT, Nat.reduceAdd, Nat.reduceSub, Nat.reduceMul, Nat.reduceLeDiff, Nat.reducePow, Int.reduceLT, Int.reduceToNat, reduceCtorEq, Int.reduceNeg, Int.reduceEq, Nat.reduceBEq, Nat.reduceBNe, Int.reduceBEq, Int.reduceBNe, String.reduceEq]; first | done | rfl | (simp (disch := omega) only [w_nat, w_add, w_addl, w_addr, w_sub, w_subl, w_mul, w_mull, w_mulr, w_u32, w_u16, w_u8, w_u32a, N_zero]; first | done | rfl))
    · skip
      have hil : ¬ i < b.length := by simpa using c0
      have hr : splitN b = (p.map (·.2), .ok) := by unfold splitN; rw [scanInv_end hg hil]; rw [if_pos rfl]
      refine AWp.exit ?_
      try simp only [thenQ, blockQ, noGo, reduceIte, Nat.reduceEqDiff]
      refine hK1 _ ?_
      refine AWp.pubD 0 ?_
      refine AWp.regionW ?_
      refine AWp.ret ?_
      try simp only [thenQ, blockQ, noGo]
      refine bodyQ.m ?_
      clear hK3 K3 hK2 K2 hK1 K1
      rw [hr]
      first | done | exact Wk.go
def ysOf (l : List (Nat × Frm)) : List (List AV) := l.map fun p => [nat p.1, frmA true p.2]
theorem all_iter (d : List UInt8) (hl : d.length ≤ 2 ^ 40) : IterC Tryz.prog 73 [.ref false (.agg [.sl false 1 (bys d)])] (ysOf (scan d d.length 0).1) := by
  refine IterC.of_body Tryz.func73 rfl (by rw [Tryz.ntmps73]; simp) fun lb => ?_
  refine AWp.scope ?_
  refine AWp.seq (AWp.label ?_)
  refine AWp.regionW ?_
  refine AWp.block ?_
  refine AWp.loopKT [0, 1] (fun (g : List (Nat × Frm) × Nat × Nat) => [(3, nat g.2.2)]) (fun g => []) (fun g => ysOf g.1) (fun g => scanInv d g.1 g.2.1 g.2.2) (fun g => d.length - g.2.2) (([], d.length, 0)) ?_ (scanInv_0 d) ?_
  · skip
    refine Le.m 0 ?_ ?_ ?_
    · first | with_reducible rfl | (simp only [push_cast, reduceIte, Nat.reduceEqDiff, Nat.reduceLT, Nat.reduceAdd, Nat.reduceSub, Nat.reduceMul, Nat.reduceLeDiff, Nat.reducePow, Int.reduceLT, Int.reduceToNat, reduceCtorEq, Int.reduceNeg, Int.reduceEq, Nat.reduceBEq, Nat.reduceBNe, Int.reduceBEq, Int.reduceBNe, String.reduceEq]; first | done | rfl | (simp (disch := omega) only [w_nat, w_add, w_addl, w_addr, w_sub, w_subl, w_mul, w_mull, w_mulr, w_u32, w_u16, w_u8, w_u32a, N_zero]; first | done | rfl))
    · first | (simp only [push_cast, reduceIte, Nat.reduceEqDiff, Nat.reduceLT, Nat.reduceAdd, Nat.reduceSub, Nat.reduceMul, Nat.reduceLeDiff, Nat.reducePow, Int.reduceLT, Int.reduceToNat, reduceCtorEq, Int.reduceNeg, Int.reduceEq, Nat.reduceBEq, Nat.reduceBNe, Int.reduceBEq, Int.reduceBNe, String.reduceEq]; first | done | rfl | (simp (disch := omega) only [w_nat, w_add, w_addl, w_addr, w_sub, w_subl, w_mul, w_mull, w_mulr, w_u32, w_u16, w_u8, w_u32a, N_zero]; first | done | rfl))
    · exact ⟨rfl, rfl, rfl, rfl, rfl, rfl⟩
  · intro g hg K1 hK1
    obtain ⟨p, k, i⟩ := g
    dsimp only at hg ⊢
    refine AWp.seqK fun K2 hK2 => ?_
    refine AWp.regionW ?_
    refine AWp.condLM (fun c0 => ?_) (fun c0 => ?_)
    · skip
      have hil : i < d.length := by simpa using c0
      refine AWp.skip ?_
      refine hK2 _ ?_
      refine AWp.block ?_
      refine AWp.regionM fun K3 hK3 => ?_
      refine ARun2.callM (read_c d i (by omega) hl) ?_
      refine ARun2.endm (hK3 _ ?_)
      refine AWp.seqK fun K4 hK4 => ?_
      refine AWp.block ?_
      refine AWp.regionW ?_
      refine AWp.condLM (fun c1 => ?_) (fun c1 => ?_)
      · skip
        have he : (readN d i).2.2 ≠ .ok := by intro h; rw [h] at c1; simp [Er.isOk] at c1
        have hr := scanInv_err hg hil he
        refine AWp.exit ?_
        try simp only [thenQ, blockQ, noGo, reduceIte, Nat.reduceEqDiff]
        try simp only [noGo]
        try simp only [thenQ, blockQ, noGo]
        refine bodyQ.n ?_
        clear hK4 K4 hK3 K3 hK2 K2 hK1 K1
        exact ⟨fun _ => (by show ysOf p = _; rw [hr]), fun h => (by cases h)⟩
      · skip
        have he : (readN d i).2.2 = .ok := by rw [← isOk_iff]; simpa using c1
        have hst := scanInv_step hg hil he
        obtain ⟨r, hsp⟩ := scan_split hg hil he
        have hsp2 : ysOf (scan d d.length 0).1 = ysOf p ++ [nat i, frmA true (readN d i).1] :: ysOf r := by rw [hsp]; simp [ysOf]
        refine AWp.regionM fun K5 hK5 => ?_
        refine ARun2.yieldM (ysOf r) (hsp2) fun b => ?_
        refine ARun2.endm (hK5 _ ?_)
        refine AWp.condLM (fun c2 => ?_) (fun c2 => ?_)
        · skip
          have hb : b = false := by simpa using c2
          subst hb
          refine AWp.exit ?_
          try simp only [thenQ, blockQ, noGo, reduceIte, Nat.reduceEqDiff]
          try simp only [noGo]
          try simp only [thenQ, blockQ, noGo]
          refine bodyQ.n ?_
          clear hK5 K5 hK4 K4 hK3 K3 hK2 K2 hK1 K1
          exact ⟨fun h => (by cases h), fun _ => ⟨ysOf r, hsp2.trans (by simp [AS.lit, frmA])⟩⟩
        · skip
          have hb : b = true := by simpa using c2
          subst hb
          refine AWp.skip ?_
          refine hK4 _ ?_
          refine AWp.regionV ?_
          refine hK1 _ ((p ++ [(i, (readN d i).1)], k - 1, (readN d i).2.1)) (hst) (by have := readN_next he; show d.length - (readN d i).2.1 < d.length - i; omega) ?_
          refine Le.m 0 ?_ ?_ ?_
          · first | with_reducible rfl | (simp only [push_cast, reduceIte, Nat.reduceEqDiff, Nat.reduceLT, Nat.reduceAdd, Nat.reduceSub, Nat.reduceMul, Nat.reduceLeDiff, Nat.reducePow, Int.reduceLT, Int.reduceToNat, reduceCtorEq, Int.reduceNeg, Int.reduceEq, Nat.reduceBEq, Nat.reduceBNe, Int.reduceBEq, Int.reduceBNe, String.reduceEq]; first | done | rfl | (simp (disch := omega) only [w_nat, w_add, w_addl, w_addr, w_sub, w_subl, w_mul, w_mull, w_mulr, w_u32, w_u16, w_u8, w_u32a, N_zero]; first | done | rfl))
          · first | (simp only [push_cast, reduceIte, Nat.reduceEqDiff, Nat.reduceLT, Nat.reduceAdd, Nat.reduceSub, Nat.reduceMul, Nat.reduceLeDiff, Nat.reducePow, Int.reduceLT, Int.reduceToNat, reduceCtorEq, Int.reduceNeg, Int.reduceEq, Nat.reduceBEq, Nat.reduceBNe, Int.reduceBEq, Int.reduceBNe, String.reduceEq]; first | done | rfl | (simp (disch := omega) only [w_nat, w_add, w_addl, w_addr, w_sub, w_subl, w_mul, w_mull, w_mulr, w_u32, w_u16, w_u8, w_u32a, N_zero]; first | done | rfl))
          · refine ⟨rfl, rfl, rfl, rfl, ?_, rfl⟩
            show ysOf (p ++ [(i, (readN d i).1)]) = ysOf p ++ [_]
            simp [ysOf, frmA]
    · skip
      have hil : ¬ i < d.length := by simpa using c0
      have hr := scanInv_end hg hil
      refine AWp.exit ?_
      try simp only [thenQ, blockQ, noGo, reduceIte, Nat.reduceEqDiff]
      try simp only [noGo]
      try simp only [thenQ, blockQ, noGo]
      refine bodyQ.n ?_
      clear hK2 K2 hK1 K1
      exact ⟨fun _ => (by show ysOf p = _; rw [hr]), fun h => (by cases h)⟩
end Go.Proofs.YtmcedkcehcacpaaGreatDoor.C
